/-
  HopOrders: walked.
-/
import Derived.Test.YtmbgcjfmfkddpaaHal2
import Derived.Test.YtmbgcjfmfkddpaaBfa
namespace Go.Proofs.Ytmbgcjfmfkddpaa
set_option linter.unusedVariables false
set_option linter.unusedSimpArgs false
open Go Go.RowKit

theorem opE_openE {s : Sec} {at_ : Int} {e out : Ent} (h : opE s at_ e = some out) : openE s.blind s.mix at_ e.x e.box = some (out.x, out.box) := by
  unfold opE at h
  cases ho : openE s.blind s.mix at_ e.x e.box with
  | none => rw [ho] at h; cases h
  | some q => rw [ho] at h; cases h; rfl
set_option maxRecDepth 100000 in
set_option maxHeartbeats 8000000 in
theorem HopOrders_any (seed : List UInt8) (n from_ : Int) (order : List Int) (vo : Value) (w : World) (h32 : seed.length = 32) (hn : inI n) (hf : in64 from_) (ho : SlR intR w.heap.size w vo order) :
    Calls Try.prog 4 #[.agg (keyA seed), .int .i64 n, .int .u64 from_, vo] w fun e w' => e = .returned (.bool true) ∧ Below w.heap.size w w' := by
  obtain ⟨ao, co, rfl, hco, hco'⟩ := ho.form
  have HOO := Lib.hid ho; clear ho
  have HK := Lib.hid h32; clear h32
  obtain ⟨n0, n1⟩ := hn
  have hk0 := Lib.hid (Blk.new w (keyA seed) 47)
  have hb0 := Lib.hid (show Below w.heap.size w (w.alloc (.cells (keyA seed) 47)) by go_grown)
  have HRR := Lib.hid fun (u : World) => LChain_any seed 1 u HK.out (by unfold inI; decide)
  unfold RetC at HRR
  by_cases hg : (0 ≤ n ∧ n ≤ 10) ∧ order.length ≤ 20
  · obtain ⟨⟨g0, g1⟩, g2⟩ := hg
    obtain ⟨N, rfl⟩ : ∃ N : Nat, n = N := ⟨n.toNat, by omega⟩
    have d1 : ¬ (N : Int) < 0 := by omega
    have d2 : ¬ (10 : Int) < (N : Int) := by omega
    have d3 : ¬ (20 : Int) < (order.length : Int) := by omega
    have hLS := length_keysSL seed 3 4 (1 : Int).toNat
    have hSO := keysSL_ok seed 3 4 (1 : Int).toNat
    have hPO : ∀ p ∈ keysP seed 3 4 (1 : Int).toNat, p.ok := chainN_ok _ _ _
    rw [show keysP seed 3 4 (1 : Int).toNat = chainL (keysSL seed 3 4 (1 : Int).toNat) (keysDL seed 3 4 (1 : Int).toNat) from rfl] at hPO HRR
    generalize keysDL seed 3 4 (1 : Int).toNat = dd at *
    generalize keysSL seed 3 4 (1 : Int).toNat = ss at *
    have hLS : ss.length = 1 := hLS
    have hLP : (chainL ss dd).length = 1 := by rw [length_chainL]; exact hLS
    obtain ⟨s0, hs0⟩ : ∃ s, ss[0]? = some s := ⟨_, List.getElem?_eq_getElem (by omega)⟩
    obtain ⟨p0, hp0⟩ : ∃ p, (chainL ss dd)[0]? = some p := ⟨_, List.getElem?_eq_getElem (by omega)⟩
    have hs0o := hSO s0 (List.mem_of_getElem? hs0)
    have hp0o := hPO p0 (List.mem_of_getElem? hp0)
    have hG := made_good (ss := ss) (dd := dd) (H := 1) (from_ := from_) N
    obtain ⟨hF, hR, -⟩ := good_run hG (by decide) hs0 hSO (by omega) p0 order 3
    have HMD := Lib.hid fun (w' : World) (v : Value) (h : SeesP w' v (chainL ss dd)) => Made19_any (chainL ss dd) N from_ v w' h hPO (by omega) (by omega) (by omega) hf
    rw [Int.toNat_natCast] at HMD
    have HGK := Lib.hid fun (e : Ent) (he : e ∈ madeL (chainL ss dd) from_ N) => (show e.ok ∧ e.box.length ≤ 20000000000000 from ⟨⟨Int.le_of_lt ((hG e he).ok hSO).1, Int.lt_trans ((hG e he).ok hSO).2 (by decide)⟩, Nat.le_trans ((hG e he).len (by omega)) (by decide)⟩)
    have HOP := Lib.hid fun (k : Nat) (e : Ent) (he : (madeL (chainL ss dd) from_ N)[k]? = some e) => (show ∃ out, opE s0 0 e = some out ∧ (opened s0 0 (madeL (chainL ss dd) from_ N))[k]? = some out from by
      obtain ⟨out, h1, -⟩ := (hG e (List.mem_of_getElem? he)).open (show (0 : Nat) < 1 by decide) hs0 hSO (by omega)
      exact ⟨out, h1, opened_get he h1⟩)
    have HML := Lib.hid (length_madeL (chainL ss dd) from_ N)
    clear hG
    generalize madeL (chainL ss dd) from_ N = M at *
    have HRU := Lib.hid fun (u : World) (v : Value) (h : Ext w u) (hv : SlR entR 0 u v M) => HRun_any s0 p0 ((0 : Nat) : Int) M order 3 w.heap.size v _ u hs0o hp0o (by decide) (hv.mono (Nat.zero_le _)) (HOO.out.ext h) (fun e he => HGK.out e he) (by have := HML.out; omega) (by omega)
    unfold RetH at HRU
    rw [hF, hR] at HRU
    have HOA := Lib.hid fun (e out : Ent) (he : e ∈ M) (h : opE s0 0 e = some out) (u : World) (v : Value) (hv : SeesB u v e.box) => (show Calls Try.prog 11 #[.agg s0.cells.toArray, .int .i64 0, .agg #[.int .u64 e.x, v]] u (RetOE (some (out.x, out.box)) u) from by
      have := HOpen_any s0.blind s0.mix s0.inner 0 e.x e.box v u hs0o.1 hs0o.2.1 (HGK.out e he).1 hv (HGK.out e he).2
      rwa [opE_openE h] at this)
    unfold RetOE at HOA
    simp only [Option.getD_some, Option.isSome_some] at HOA
    have HRO := Lib.hid fun (u : World) (h : Ext w u) => RightOrderr_any order w.heap.size _ u (HOO.out.ext h) (by omega)
    have HGN := Lib.hid fun n e => orderL_get_no (L := opened s0 0 M) (order := order) (n := n) (e := e)
    have HGY := Lib.hid fun n k e => orderL_get (L := opened s0 0 M) (order := order) (n := n) (k := k) (e := e)
    have HOL := Lib.hid (show (orderL (opened s0 0 M) order).length = N by rw [length_orderL, length_opened]; exact HML.out)
    have HLL := Lib.hid (show (opened s0 0 M).length = N by rw [length_opened]; exact HML.out)
    generalize hPr : (runL s0 p0 ((0 : Nat) : Int) M order 3).p = PR at *
    obtain ⟨pc, ps⟩ := PR
    have HLS := Lib.hid hLS; have HLP := Lib.hid hLP; have HS0 := Lib.hid hs0; have HP0 := Lib.hid hp0
    clear hPr hF hR hs0o hp0o hLS hLP hs0 hp0 hSO hPO
    generalize chainL ss dd = ps_ at *
    generalize hO : orderL (opened s0 0 M) order = O at *
    clear hO
    have HIS := Lib.hid (show (Try.prog.info? 24).map (·.size) = some s0.cells.length from info_sec)
    have HIP := Lib.hid (show (Try.prog.info? 28).map (·.size) = some p0.cells.length from info_pub)
    go_enter Try.func4, Try.ntmps4
    go_wp2_with (first
      | (go_at_call 5; refine (alive19_any _).mono ?_; rintro e w1 ⟨rfl, hb1⟩; have hkey1 := hk0.out.below hb1; have e1 : Ext w w1 := Ext.tr hb0.out hb1)
      | (refine wpList_load_row rfl 47 _ rfl w.heap.size rfl _ (keyA seed) (0, 0) _ hkey1 under_key rfl (by rw [keyA_size, HK.out]; exact info_key) ?_)
      | (go_at_call 14; refine (HRR.out _).mono ?_; rintro e w2 ⟨v2, u2, rfl, hok2, hb2⟩
         have hbel2 : Ext w w2 := Ext.tr e1 hb2
         have HS2 := Lib.hid (show SeesS w2 v2 ss from sees_of_owns (hok2 (by decide)).1)
         have HP2 := Lib.hid (show SeesP w2 u2 ps_ from sees_of_owns (hok2 (by decide)).2)
         clear hok2)
      | (go_at_call 15; refine (HMD.out _ _ HP2.out).mono ?_; rintro e w3 ⟨v3, rfl, hown3, hb3⟩
         obtain ⟨a3, c3, rfl, -, -⟩ := hown3.sl.form
         have hbel3 : Ext w w3 := Ext.tr hbel2 hb3))
    rw [HML.out]
    obtain ⟨bS, oS, cS, rfl, -, -, -⟩ := seesS_open HS2.out (by rw [HLS.out]; decide)
    obtain ⟨bP, oP, cP, rfl, -, -, -⟩ := seesP_open HP2.out (by rw [HLP.out]; decide)
    have HSR := Lib.hid (show w2.rangeAt bS oS s0.cells from by have := seesS_at HS2.out (by rw [HLS.out]; decide) 0 s0 HS0.out; simpa using this)
    have HPR := Lib.hid (show w2.rangeAt bP oP p0.cells from by have := seesP_at HP2.out (by rw [HLP.out]; decide) 0 p0 HP0.out; simpa using this)
    rw [HLS.out, HLP.out]
    have HMV := Lib.hid (show SlR entR 0 w3 (.slice a3 N c3) M from by have h := hown3.sl; rw [HML.out] at h; exact h)
    have HX3 := Lib.hid hbel3; have HX23 := Lib.hid (show Ext w2 w3 from hb3)
    clear hown3 hb3 hbel3 HMD HRR
    have hst := stabE w3
    have hk6 : HoldT (fun u => Ext w3 u) w w3.drew := HoldT.drew hst ⟨Ext.refl _, HX3.out⟩
    try change Code.wp _ _ _ (Act.mk _ _) _
    haveI hne_ : Nonempty (InC (fun u => Ext w3 u)) := ⟨⟨_, (hk6).1⟩⟩
    refine wp_region_tr (C := fun w_ => ∃ e_ : InC (fun u => Ext w3 u), w_ = e_.u) (.step [0, 1, 2, 3, 4, 5, 6, 7] (.alt 8 (.step [9, 10, 11] (.alt 12 (.step [] (.alt 13 (.fin [14]) .nil)) .nil)) (.alt 12 (.step [] (.alt 8 (.step [9, 10, 11] (.alt 13 (.fin [14]) .nil)) .nil)) .nil))) (by kernel_rfl) (by kernel_rfl) (fun _ _ _ _ hd_ h_ => ⟨hd_.symm.trans h_.1, h_.2⟩) ⟨⟨World.drew _, (hk6).1⟩, rfl⟩ ?_
    have hk_ := hk6
    repeat' (first
      | ((with_reducible refine wpTr_fin ?_)
         simp only [pickOps, List.flatMap_cons, List.flatMap_nil, List.drop_succ_cons, List.drop_zero, List.take_succ_cons, List.take_zero, List.cons_append, List.nil_append, List.append_nil]
         repeat (first | (first | (refine wpQuiet_load_mid rfl 24 (.tmp 54) rfl bS oS rfl s0.cells _ (fun w_ hw_ => by obtain ⟨e_, rfl⟩ := hw_; exact range_below HSR.out (Ext.tr HX23.out e_.has)) Try.underlying24 rfl HIS.out ?_; simp only [Act.put, List.setIfInBounds_toArray, List.set_cons_succ, List.set_cons_zero]) | (refine wpQuiet_load_mid rfl 28 (.tmp 57) rfl bP oP rfl p0.cells _ (fun w_ hw_ => by obtain ⟨e_, rfl⟩ := hw_; exact range_below HPR.out (Ext.tr HX23.out e_.has)) Try.underlying28 rfl HIP.out ?_; simp only [Act.put, List.setIfInBounds_toArray, List.set_cons_succ, List.set_cons_zero])) | go_big_quiet_step (exact rfl))
         refine wpQuiet_nil ?_)
      | ((with_reducible refine wpTr_step ?_); simp only [pickOps, List.flatMap_cons, List.flatMap_nil, List.drop_succ_cons, List.drop_zero, List.take_succ_cons, List.take_zero, List.cons_append, List.nil_append, List.append_nil]; repeat (first | (first | (refine wpQuiet_load_mid rfl 24 (.tmp 54) rfl bS oS rfl s0.cells _ (fun w_ hw_ => by obtain ⟨e_, rfl⟩ := hw_; exact range_below HSR.out (Ext.tr HX23.out e_.has)) Try.underlying24 rfl HIS.out ?_; simp only [Act.put, List.setIfInBounds_toArray, List.set_cons_succ, List.set_cons_zero]) | (refine wpQuiet_load_mid rfl 28 (.tmp 57) rfl bP oP rfl p0.cells _ (fun w_ hw_ => by obtain ⟨e_, rfl⟩ := hw_; exact range_below HPR.out (Ext.tr HX23.out e_.has)) Try.underlying28 rfl HIP.out ?_; simp only [Act.put, List.setIfInBounds_toArray, List.set_cons_succ, List.set_cons_zero])) | go_big_quiet_step (exact rfl))
         refine wpQuiet_nil ?_)
      | (with_reducible refine wpTr_one ?_)
      | (with_reducible refine wpTr_alt ?_ ?_)
      | (simp only [pickOps, List.flatMap_cons, List.flatMap_nil, List.drop_succ_cons, List.drop_zero, List.take_succ_cons, List.take_zero, List.cons_append, List.nil_append, List.append_nil]
         go_wp2_with (first
      | (go_at_call 7; refine (HRU.out _ _ hk_.up (HMV.out.ext hk_.has)).mono ?_; rintro r_ x5 ⟨vE, vB, rfl, hE5, hB5, e5⟩; obtain ⟨aE, cE, rfl, -, -⟩ := hE5.form; obtain ⟨aB, cB, rfl, -, -⟩ := hB5.form; have hk5 := HoldT.step hst hk_ e5; have e5' : Ext _ x5 := e5)
      | (refine wpList_allocB rfl _ rfl PasZ run_allocPas2 ?_; intro x6 g hG hg6 e6; have hg0 := Nat.le_trans (Below.size hk_.has) hg6; have hk6 := HoldT.step hst hk_ e6; have e6' : Ext _ x6 := e6)
      | (refine wpList_store_row rfl 34 (.tmp 14) _ rfl g #[.slice aE O.length cE, .int .u64 pc, .int .u64 ps] _ _ rfl rfl (exBl hG) rfl info_pas (one_pas2 _ _ _ _ _) ?_; intro x7 hg7 hs7 hR7
         have hwg : w.heap.size ≤ g := Nat.le_trans (Below.size HX3.out) hg0
         have hbel7 : Ext w3 x7 := ext_row hk_.has hg7 hg0
         have hk7 : HoldT (fun u => Ext w3 u) w x7 := ⟨hbel7, ext_row hk_.up hg7 hwg⟩
         have hE7 := (hE5.ext (w := x5)).grownT hg7 (RowT.blk (exBl hG)) (by decide) (by decide) (fun _ _ => Nat.zero_le _)
         clear hs7))
         refine phPost_hold (by first | with_reducible assumption | exact HoldT.alloc hstab (by with_reducible assumption) _ | exact HoldT.alloc hstab (HoldT.alloc hstab (by with_reducible assumption) _) _) ?_
         intro hk_))
    all_goals (
      rw [HOL.out] at hR7 hE7 ⊢
      have hup7 : Ext w x7 := hk_.up
      have HR7 := Lib.hid hR7; have HE7 := Lib.hid hE7.sl; have HX7 := Lib.hid hup7; have HX37 := Lib.hid hbel7
      have hq7 : x7.cell? ⟨g, 0, none⟩ = some (.slice aE N cE) := by rw [hR7.cell]; rfl
      clear hE7 hE5 hB5 hR7
      by_cases hle : order.length = N
      · have hq3 : ((order.length : Int) == (N : Int)) = true := by rw [hle]; exact beq_self_eq_true _
        by_cases hpm : permOk order
        · have HPF := Lib.hid (decide_eq_true hpm)
          have HLE := Lib.hid (show order.length = (opened s0 0 M).length ∧ permOk order from ⟨hle.trans HLL.out.symm, hpm⟩)
          have HPR2 := Lib.hid hpm.1
          have HLN := Lib.hid hle
          clear hpm hle
          go_wp2_with (go_at_call 16; refine (HRO.out _ hup7).mono ?_; rintro r_ xq ⟨rfl, hbq⟩; rw [HPF.out]; have hq : Ext x7 xq := hbq)
          clear hq7 hq3
          go_loopw [17, 18, 19, 20] (fun iv _ _ _ wr => ∃ n : Nat, iv = .int .i64 n ∧ n ≤ N ∧ Ext w wr ∧ Ext x7 wr) (fun iv _ _ _ _ => N - (intOf iv).toNat)
          case atStart => exact ⟨0, rfl, Nat.zero_le _, Ext.tr hup7 hq, hq⟩
          case round =>
            obtain ⟨n, rfl, hnN, hX, hX2⟩ := hrel
            have HX := Lib.hid hX; have HX2 := Lib.hid hX2
            clear hX hX2
            by_cases hlt : n < N
            · skip
              obtain ⟨x, hxo⟩ : ∃ x, order[n]? = some x := ⟨_, List.getElem?_eq_getElem (by rw [HLN.out]; exact hlt)⟩
              have hxr := HPR2.out x (List.mem_of_getElem? hxo)
              obtain ⟨kx, rfl⟩ : ∃ k : Nat, x = k := ⟨x.toNat, by omega⟩
              have hkl : kx < N := by have := HLN.out; omega
              obtain ⟨eK, heK⟩ : ∃ e, M[kx]? = some e := ⟨_, List.getElem?_eq_getElem (by rw [HML.out]; exact hkl)⟩
              obtain ⟨out, ho1, ho2⟩ := HOP.out kx eK heK
              have HON := Lib.hid (HGY.out n kx out HLE.out hxo ho2)
              obtain ⟨bo, oo, co', e0, -, -⟩ := HOO.out.open (by have := HLN.out; omega)
              obtain ⟨rfl, rfl⟩ : ao = some ⟨bo, oo, none⟩ ∧ co = co' := by injection e0 with e1 _ e3; exact ⟨e1, e3⟩
              clear e0
              have hcx := slI_at (HOO.out.ext HX.out) n kx hxo
              have hdo : n < order.length := by rw [HLN.out]; exact hlt
              clear hxo hxr
              go_wp2_with fail
              clear hcx
              obtain ⟨b3, o3, c3', e0, -, -⟩ := HMV.out.open (by rw [HML.out]; omega)
              obtain ⟨rfl, rfl⟩ : a3 = some ⟨b3, o3, none⟩ ∧ c3 = c3' := by injection e0 with e1 _ e3; exact ⟨e1, e3⟩
              clear e0
              obtain ⟨bE, oE, cE', e0, -, -⟩ := HE7.out.open (by rw [HOL.out]; omega)
              obtain ⟨rfl, rfl⟩ : aE = some ⟨bE, oE, none⟩ ∧ cE = cE' := by injection e0 with e1 _ e3; exact ⟨e1, e3⟩
              clear e0
              obtain ⟨vK, hrK, hvK⟩ := slE_at HMV.out kx eK heK
              obtain ⟨aK, cK, rfl, -, -⟩ := sees_form hvK
              obtain ⟨vO, hrO, hvO⟩ := slE_at HE7.out n out HON.out
              obtain ⟨aO, cO, rfl, -, -⟩ := sees_form hvO
              have HRK := Lib.hid (range_below hrK (Ext.tr HX37.out HX2.out)); have HRO2 := Lib.hid (range_below hrO HX2.out)
              have HVK := Lib.hid (hvK.below (Ext.tr HX37.out HX2.out) (by decide)); have HVO := Lib.hid (hvO.below HX2.out (by decide))
              have HPA := Lib.hid fun (u : World) (v : Value) (hv : SeesB u v eK.box) => HOA.out eK out (List.mem_of_getElem? heK) ho1 u v hv
              clear hrK hvK hrO hvO heK ho1 ho2
              have hdn : decide (N ≤ kx) = false := decide_eq_false (by omega)
              generalize wr = wa at *
              have hstR := stabE wa
              have hk16 : HoldT (fun u => Ext wa u) w wa.drew := HoldT.drew hstR ⟨Ext.refl _, HX.out⟩
              have hq3 : ∀ e_ : InC (fun u => Ext wa u), e_.u.cell? ⟨b3, o3 + kx * 2, none⟩ = some (.int .u64 eK.x) := fun e_ => by have := range_below HRK.out e_.has 0 _ rfl; rwa [Nat.add_zero] at this
              have hq4 : ∀ e_ : InC (fun u => Ext wa u), e_.u.cell? ⟨b3, o3 + kx * 2 + 1, none⟩ = some (.slice aK eK.box.length cK) := fun e_ => range_below HRK.out e_.has 1 _ rfl
              try change Code.wp _ _ _ (Act.mk _ _) _
              haveI hne_ : Nonempty (InC (fun u => Ext wa u)) := ⟨⟨_, (hk16).1⟩⟩
              refine wp_region_tr (C := fun w_ => ∃ e_ : InC (fun u => Ext wa u), w_ = e_.u) (.step [0, 1, 2, 3, 4, 5, 6] (.alt 7 (.step [8, 9, 10] (.alt 11 (.step [] (.alt 12 (.fin [13]) .nil)) .nil)) (.alt 11 (.step [] (.alt 7 (.step [8, 9, 10] (.alt 12 (.fin [13]) .nil)) .nil)) .nil))) (by kernel_rfl) (by kernel_rfl) (fun _ _ _ _ hd_ h_ => ⟨hd_.symm.trans h_.1, h_.2⟩) ⟨⟨World.drew _, (hk16).1⟩, rfl⟩ ?_
              have hk_ := hk16
              repeat' (first
                | ((with_reducible refine wpTr_fin ?_)
                   simp only [pickOps, List.flatMap_cons, List.flatMap_nil, List.drop_succ_cons, List.drop_zero, List.take_succ_cons, List.take_zero, List.cons_append, List.nil_append, List.append_nil]
                   repeat (first | ((refine wpQuiet_load_mid rfl 24 (.tmp 95) rfl bS oS rfl s0.cells _ (fun w_ hw_ => by obtain ⟨e_, rfl⟩ := hw_; exact range_below HSR.out (Ext.tr (Ext.tr HX23.out (Ext.tr HX37.out HX2.out)) e_.has)) Try.underlying24 rfl HIS.out ?_; simp only [Act.put, List.setIfInBounds_toArray, List.set_cons_succ, List.set_cons_zero])) | go_big_quiet_step (exact rfl))
                   refine wpQuiet_nil ?_)
                | ((with_reducible refine wpTr_step ?_); simp only [pickOps, List.flatMap_cons, List.flatMap_nil, List.drop_succ_cons, List.drop_zero, List.take_succ_cons, List.take_zero, List.cons_append, List.nil_append, List.append_nil]; repeat (first | ((refine wpQuiet_load_mid rfl 24 (.tmp 95) rfl bS oS rfl s0.cells _ (fun w_ hw_ => by obtain ⟨e_, rfl⟩ := hw_; exact range_below HSR.out (Ext.tr (Ext.tr HX23.out (Ext.tr HX37.out HX2.out)) e_.has)) Try.underlying24 rfl HIS.out ?_; simp only [Act.put, List.setIfInBounds_toArray, List.set_cons_succ, List.set_cons_zero])) | go_big_quiet_step (exact rfl))
                   refine wpQuiet_nil ?_)
                | (with_reducible refine wpTr_one ?_)
                | (with_reducible refine wpTr_alt ?_ ?_)
                | (simp only [pickOps, List.flatMap_cons, List.flatMap_nil, List.drop_succ_cons, List.drop_zero, List.take_succ_cons, List.take_zero, List.cons_append, List.nil_append, List.append_nil]
                   go_wp2_with (first
                | (go_at_call 11; refine (HPA.out _ _ (HVK.out.below hk_.has (by decide))).mono ?_; rintro r_ y5 ⟨v5, rfl, how5, e5⟩; obtain ⟨a5, c5, rfl, -, -⟩ := owns_form how5; have hk5 := HoldT.step hstR hk_ e5; have e5' : Ext _ y5 := e5)
                | (refine wpList_allocB rfl _ rfl _ run_allocEnt ?_; intro y6 ga hGa hga6 e6; have hga0 := Nat.le_trans (Below.size hk_.has) hga6; have hk6 := HoldT.step hstR hk_ e6; have e6' : Ext _ y6 := e6)
                | (refine wpList_store_row rfl 41 (.tmp 19) _ rfl ga #[.int .u64 out.x, .slice a5 out.box.length c5] _ _ rfl rfl (exBl hGa) rfl info_entry (one_ent _ _ _ _) ?_; intro y7 hga7 hsa7 hRa7
                   have hbelA : Ext wa y7 := ext_row hk_.has hga7 hga0
                   have hwga : w.heap.size ≤ ga := Nat.le_trans (Below.size HX.out) hga0
                   have hkA : HoldT (fun u => Ext wa u) w y7 := ⟨hbelA, ext_row hk_.up hga7 hwga⟩
                   have hBA := own_grown (exO how5) hga7 (RowT.blk (exBl hGa)) (by decide)
                   clear hsa7))
                   refine phPost_hold (by first | with_reducible assumption | exact HoldT.alloc hstab (by with_reducible assumption) _ | exact HoldT.alloc hstab (HoldT.alloc hstab (by with_reducible assumption) _) _) ?_
                   intro hk_))
              all_goals (
                have hupA : Ext w y7 := hk_.up
                have HBA := Lib.hid (sees_of_owns hBA)
                have HRA := Lib.hid hRa7
                have hG7 := HR7.out.below (Ext.tr HX2.out hbelA)
                have HG7 := Lib.hid hG7
                have HRO7 := Lib.hid (range_below HRO2.out hbelA); have HVO7 := Lib.hid (HVO.out.below hbelA (by decide))
                clear hBA how5 hq3 hq4 hRa7 hG7
                go_wp2_with fail
                have hdn2 : decide (N ≤ n) = false := decide_eq_false (by omega)
                have hst := stabE y7
                have hk17 : HoldT (fun u => Ext y7 u) w y7.drew := HoldT.drew hst ⟨Ext.refl _, hupA⟩
                try change Code.wp _ _ _ (Act.mk _ _) _
                refine wp_region_runR Ext 12 116 (HoldT (fun u => Ext y7 u) _) [[], [(0, 104)], [(1, 105)], [(2, 106)], [(2, 106)], [(4, 108), (2, 106)], [(2, 106)], [(5, 109), (6, 110), (2, 106)], [(7, 111), (2, 106)], [(3, 107), (8, 112), (2, 106)], [(9, 113), (2, 106)], [(2, 106), (10, 114)]] [(0, 104), (1, 105), (2, 106), (3, 107), (4, 108), (5, 109), (6, 110), (7, 111), (8, 112), (9, 113), (10, 114), (11, 115)] (by kernel_rfl) (by kernel_rfl) (by first | rfl | simp) (hk17) ?_
                simp only [List.take_succ_cons, List.take_zero, List.drop_succ_cons, List.drop_zero]
                refine sp_op (Ph.eq _) (fun u hu => by
                  refine spArg_nil ?_
                  have k1 : u.cell? ⟨g, 0, none⟩ = some (.slice (some ⟨bE, oE, none⟩) N cE) := by rw [(HG7.out.below hu.has).cell]; rfl
                  go_wp2_with (fail)
                  exact ⟨rfl, hu, Ext.refl _, slot_eq rfl⟩) ?_
                refine sp_op (Ph.eq _) (fun u hu => by
                  refine spArg_eq 0 rfl rfl ?_
                  refine spArg_nil ?_
                  simp only [Act.put, List.setIfInBounds_toArray, List.set_cons_succ, List.set_cons_zero]
                  have k1 : u.cell? ⟨g, 0, none⟩ = some (.slice (some ⟨bE, oE, none⟩) N cE) := by rw [(HG7.out.below hu.has).cell]; rfl
                  go_wp2_with (fail)
                  exact ⟨rfl, hu, Ext.refl _, slot_eq rfl⟩) ?_
                refine sp_op (Ph.eq _) (fun u hu => by
                  refine spArg_eq 0 rfl rfl ?_
                  refine spArg_nil ?_
                  simp only [Act.put, List.setIfInBounds_toArray, List.set_cons_succ, List.set_cons_zero]
                  have k1 : u.cell? ⟨g, 0, none⟩ = some (.slice (some ⟨bE, oE, none⟩) N cE) := by rw [(HG7.out.below hu.has).cell]; rfl
                  go_wp2_with (fail)
                  exact ⟨rfl, hu, Ext.refl _, slot_eq rfl⟩) ?_
                refine sp_op (Ph.eq (.agg #[.int .u64 out.x, .slice a5 out.box.length c5])) (fun u hu => by
                  refine spArg_eq 0 rfl rfl ?_
                  refine spArg_nil ?_
                  simp only [Act.put, List.setIfInBounds_toArray, List.set_cons_succ, List.set_cons_zero]
                  have k1 : u.cell? ⟨g, 0, none⟩ = some (.slice (some ⟨bE, oE, none⟩) N cE) := by rw [(HG7.out.below hu.has).cell]; rfl
                  go_wp2_with ((refine wpList_load_rowG rfl 41 _ rfl ga rfl _ _ (0, 0) _ (HRA.out.below hu.has) Try.underlying41 rfl info_entry ?_))
                  exact ⟨rfl, hu, Ext.refl _, slot_eq rfl⟩) ?_
                refine sp_op (Ph.eq _) (fun u hu => by
                  refine spArg_eq 1 rfl rfl ?_
                  refine spArg_nil ?_
                  simp only [Act.put, List.setIfInBounds_toArray, List.set_cons_succ, List.set_cons_zero]
                  have k1 : u.cell? ⟨g, 0, none⟩ = some (.slice (some ⟨bE, oE, none⟩) N cE) := by rw [(HG7.out.below hu.has).cell]; rfl
                  go_wp2_with (fail)
                  exact ⟨rfl, hu, Ext.refl _, slot_eq rfl⟩) ?_
                refine sp_op (Ph.eq _) (fun u hu => by
                  refine spArg_eq 0 rfl rfl ?_
                  refine spArg_eq 2 rfl rfl ?_
                  refine spArg_nil ?_
                  simp only [Act.put, List.setIfInBounds_toArray, List.set_cons_succ, List.set_cons_zero]
                  have k1 : u.cell? ⟨g, 0, none⟩ = some (.slice (some ⟨bE, oE, none⟩) N cE) := by rw [(HG7.out.below hu.has).cell]; rfl
                  go_wp2_with (fail)
                  exact ⟨rfl, hu, Ext.refl _, slot_eq rfl⟩) ?_
                refine sp_op (Ph.eq _) (fun u hu => by
                  refine spArg_eq 3 rfl rfl ?_
                  refine spArg_nil ?_
                  simp only [Act.put, List.setIfInBounds_toArray, List.set_cons_succ, List.set_cons_zero]
                  have k1 : u.cell? ⟨g, 0, none⟩ = some (.slice (some ⟨bE, oE, none⟩) N cE) := by rw [(HG7.out.below hu.has).cell]; rfl
                  go_wp2_with (fail)
                  exact ⟨rfl, hu, Ext.refl _, slot_eq rfl⟩) ?_
                refine sp_op (Ph.eq _) (fun u hu => by
                  refine spArg_eq 1 rfl rfl ?_
                  refine spArg_eq 0 rfl rfl ?_
                  refine spArg_eq 4 rfl rfl ?_
                  refine spArg_nil ?_
                  simp only [Act.put, List.setIfInBounds_toArray, List.set_cons_succ, List.set_cons_zero]
                  have k1 : u.cell? ⟨g, 0, none⟩ = some (.slice (some ⟨bE, oE, none⟩) N cE) := by rw [(HG7.out.below hu.has).cell]; rfl
                  go_wp2_with (fail)
                  exact ⟨rfl, hu, Ext.refl _, slot_eq rfl⟩) ?_
                refine sp_op (Ph.eq (.agg #[.int .u64 out.x, .slice aO out.box.length cO])) (fun u hu => by
                  refine spArg_eq 0 rfl rfl ?_
                  refine spArg_eq 5 rfl rfl ?_
                  refine spArg_nil ?_
                  simp only [Act.put, List.setIfInBounds_toArray, List.set_cons_succ, List.set_cons_zero]
                  have k1 : u.cell? ⟨g, 0, none⟩ = some (.slice (some ⟨bE, oE, none⟩) N cE) := by rw [(HG7.out.below hu.has).cell]; rfl
                  go_wp2_with ((refine wpList_load_midG rfl 41 _ rfl bE (oE + n * 2) rfl _ _ (range_below HRO7.out hu.has) Try.underlying41 rfl info_entry ?_))
                  exact ⟨rfl, hu, Ext.refl _, slot_eq rfl⟩) ?_
                refine sp_op (Ph.eq _) (fun u hu => by
                  refine spArg_eq 5 rfl rfl ?_
                  refine spArg_eq 0 rfl rfl ?_
                  refine spArg_eq 6 rfl rfl ?_
                  refine spArg_nil ?_
                  simp only [Act.put, List.setIfInBounds_toArray, List.set_cons_succ, List.set_cons_zero]
                  have k1 : u.cell? ⟨g, 0, none⟩ = some (.slice (some ⟨bE, oE, none⟩) N cE) := by rw [(HG7.out.below hu.has).cell]; rfl
                  go_wp2_with ((go_at_call 13; refine (SameEnt_any out _ _ _ (HBA.out.below hu.has (by decide)) (HVO7.out.below hu.has (by decide))).mono ?_; rintro e_ x_ ⟨rfl, hb_⟩))
                  exact ⟨rfl, HoldT.step hst hu hb_, hb_, slot_eq rfl⟩) ?_
                refine sp_op (Ph.eq _) (fun u hu => by
                  refine spArg_eq 0 rfl rfl ?_
                  refine spArg_eq 7 rfl rfl ?_
                  refine spArg_nil ?_
                  simp only [Act.put, List.setIfInBounds_toArray, List.set_cons_succ, List.set_cons_zero]
                  have k1 : u.cell? ⟨g, 0, none⟩ = some (.slice (some ⟨bE, oE, none⟩) N cE) := by rw [(HG7.out.below hu.has).cell]; rfl
                  go_wp2_with (fail)
                  exact ⟨rfl, hu, Ext.refl _, slot_eq rfl⟩) ?_
                refine sp_op (Ph.eq _) (fun u hu => by
                  refine spArg_eq 8 rfl rfl ?_
                  refine spArg_eq 0 rfl rfl ?_
                  refine spArg_nil ?_
                  simp only [Act.put, List.setIfInBounds_toArray, List.set_cons_succ, List.set_cons_zero]
                  have k1 : u.cell? ⟨g, 0, none⟩ = some (.slice (some ⟨bE, oE, none⟩) N cE) := by rw [(HG7.out.below hu.has).cell]; rfl
                  go_wp2_with (fail)
                  exact ⟨rfl, hu, Ext.refl _, slot_eq rfl⟩) ?_
                refine sp_end ?_
                intro u hu
                refine spArg_eq 11 rfl rfl ?_
                refine spArg_eq 10 rfl rfl ?_
                refine spArg_eq 9 rfl rfl ?_
                refine spArg_eq 8 rfl rfl ?_
                refine spArg_eq 7 rfl rfl ?_
                refine spArg_eq 6 rfl rfl ?_
                refine spArg_eq 5 rfl rfl ?_
                refine spArg_eq 4 rfl rfl ?_
                refine spArg_eq 3 rfl rfl ?_
                refine spArg_eq 2 rfl rfl ?_
                refine spArg_eq 1 rfl rfl ?_
                refine spArg_eq 0 rfl rfl ?_
                refine spArg_nil ?_
                simp only [Act.put, List.setIfInBounds_toArray, List.set_cons_succ, List.set_cons_zero]
                go_wp2_with fail
                go_roundw
                case rel => exact ⟨n + 1, rfl, by omega, hu.up, Ext.tr (Ext.tr HX2.out hbelA) hu.has⟩
                case measure => (simp [intOf] <;> omega))
            · obtain rfl : N = n := by omega
              go_wp2_with fail
              go_ret
              exact ⟨rfl, HX.out⟩
        · have HPF := Lib.hid (decide_eq_false hpm)
          have HLE := Lib.hid (show ¬ (order.length = (opened s0 0 M).length ∧ permOk order) from fun h => hpm h.2)
          clear hpm hle
          go_wp2_with (go_at_call 16; refine (HRO.out _ hup7).mono ?_; rintro r_ xq ⟨rfl, hbq⟩; rw [HPF.out]; have hq : Ext x7 xq := hbq)
          clear hq7 hq3
          go_loopw [17, 18, 19, 20] (fun iv _ _ _ wr => ∃ n : Nat, iv = .int .i64 n ∧ n ≤ N ∧ Ext w wr ∧ Ext x7 wr) (fun iv _ _ _ _ => N - (intOf iv).toNat)
          case atStart => exact ⟨0, rfl, Nat.zero_le _, Ext.tr hup7 hq, hq⟩
          case round =>
            obtain ⟨n, rfl, hnN, hX, hX2⟩ := hrel
            have HX := Lib.hid hX; have HX2 := Lib.hid hX2
            clear hX hX2
            by_cases hlt : n < N
            · skip
              obtain ⟨eK, heK⟩ : ∃ e, M[n]? = some e := ⟨_, List.getElem?_eq_getElem (by rw [HML.out]; exact hlt)⟩
              obtain ⟨out, ho1, ho2⟩ := HOP.out n eK heK
              have HON := Lib.hid (HGN.out n out HLE.out ho2)
              go_wp2_with fail
              obtain ⟨b3, o3, c3', e0, -, -⟩ := HMV.out.open (by rw [HML.out]; omega)
              obtain ⟨rfl, rfl⟩ : a3 = some ⟨b3, o3, none⟩ ∧ c3 = c3' := by injection e0 with e1 _ e3; exact ⟨e1, e3⟩
              clear e0
              obtain ⟨bE, oE, cE', e0, -, -⟩ := HE7.out.open (by rw [HOL.out]; omega)
              obtain ⟨rfl, rfl⟩ : aE = some ⟨bE, oE, none⟩ ∧ cE = cE' := by injection e0 with e1 _ e3; exact ⟨e1, e3⟩
              clear e0
              obtain ⟨vK, hrK, hvK⟩ := slE_at HMV.out n eK heK
              obtain ⟨aK, cK, rfl, -, -⟩ := sees_form hvK
              obtain ⟨vO, hrO, hvO⟩ := slE_at HE7.out n out HON.out
              obtain ⟨aO, cO, rfl, -, -⟩ := sees_form hvO
              have HRK := Lib.hid (range_below hrK (Ext.tr HX37.out HX2.out)); have HRO2 := Lib.hid (range_below hrO HX2.out)
              have HVK := Lib.hid (hvK.below (Ext.tr HX37.out HX2.out) (by decide)); have HVO := Lib.hid (hvO.below HX2.out (by decide))
              have HPA := Lib.hid fun (u : World) (v : Value) (hv : SeesB u v eK.box) => HOA.out eK out (List.mem_of_getElem? heK) ho1 u v hv
              clear hrK hvK hrO hvO heK ho1 ho2
              have hdn : decide (N ≤ n) = false := decide_eq_false (by omega)
              generalize wr = wa at *
              have hstR := stabE wa
              have hk16 : HoldT (fun u => Ext wa u) w wa.drew := HoldT.drew hstR ⟨Ext.refl _, HX.out⟩
              have hq3 : ∀ e_ : InC (fun u => Ext wa u), e_.u.cell? ⟨b3, o3 + n * 2, none⟩ = some (.int .u64 eK.x) := fun e_ => by have := range_below HRK.out e_.has 0 _ rfl; rwa [Nat.add_zero] at this
              have hq4 : ∀ e_ : InC (fun u => Ext wa u), e_.u.cell? ⟨b3, o3 + n * 2 + 1, none⟩ = some (.slice aK eK.box.length cK) := fun e_ => range_below HRK.out e_.has 1 _ rfl
              try change Code.wp _ _ _ (Act.mk _ _) _
              haveI hne_ : Nonempty (InC (fun u => Ext wa u)) := ⟨⟨_, (hk16).1⟩⟩
              refine wp_region_tr (C := fun w_ => ∃ e_ : InC (fun u => Ext wa u), w_ = e_.u) (.step [0, 1, 2, 3, 4, 5, 6] (.alt 7 (.step [8, 9, 10] (.alt 11 (.step [] (.alt 12 (.fin [13]) .nil)) .nil)) (.alt 11 (.step [] (.alt 7 (.step [8, 9, 10] (.alt 12 (.fin [13]) .nil)) .nil)) .nil))) (by kernel_rfl) (by kernel_rfl) (fun _ _ _ _ hd_ h_ => ⟨hd_.symm.trans h_.1, h_.2⟩) ⟨⟨World.drew _, (hk16).1⟩, rfl⟩ ?_
              have hk_ := hk16
              repeat' (first
                | ((with_reducible refine wpTr_fin ?_)
                   simp only [pickOps, List.flatMap_cons, List.flatMap_nil, List.drop_succ_cons, List.drop_zero, List.take_succ_cons, List.take_zero, List.cons_append, List.nil_append, List.append_nil]
                   repeat (first | ((refine wpQuiet_load_mid rfl 24 (.tmp 95) rfl bS oS rfl s0.cells _ (fun w_ hw_ => by obtain ⟨e_, rfl⟩ := hw_; exact range_below HSR.out (Ext.tr (Ext.tr HX23.out (Ext.tr HX37.out HX2.out)) e_.has)) Try.underlying24 rfl HIS.out ?_; simp only [Act.put, List.setIfInBounds_toArray, List.set_cons_succ, List.set_cons_zero])) | go_big_quiet_step (exact rfl))
                   refine wpQuiet_nil ?_)
                | ((with_reducible refine wpTr_step ?_); simp only [pickOps, List.flatMap_cons, List.flatMap_nil, List.drop_succ_cons, List.drop_zero, List.take_succ_cons, List.take_zero, List.cons_append, List.nil_append, List.append_nil]; repeat (first | ((refine wpQuiet_load_mid rfl 24 (.tmp 95) rfl bS oS rfl s0.cells _ (fun w_ hw_ => by obtain ⟨e_, rfl⟩ := hw_; exact range_below HSR.out (Ext.tr (Ext.tr HX23.out (Ext.tr HX37.out HX2.out)) e_.has)) Try.underlying24 rfl HIS.out ?_; simp only [Act.put, List.setIfInBounds_toArray, List.set_cons_succ, List.set_cons_zero])) | go_big_quiet_step (exact rfl))
                   refine wpQuiet_nil ?_)
                | (with_reducible refine wpTr_one ?_)
                | (with_reducible refine wpTr_alt ?_ ?_)
                | (simp only [pickOps, List.flatMap_cons, List.flatMap_nil, List.drop_succ_cons, List.drop_zero, List.take_succ_cons, List.take_zero, List.cons_append, List.nil_append, List.append_nil]
                   go_wp2_with (first
                | (go_at_call 11; refine (HPA.out _ _ (HVK.out.below hk_.has (by decide))).mono ?_; rintro r_ y5 ⟨v5, rfl, how5, e5⟩; obtain ⟨a5, c5, rfl, -, -⟩ := owns_form how5; have hk5 := HoldT.step hstR hk_ e5; have e5' : Ext _ y5 := e5)
                | (refine wpList_allocB rfl _ rfl _ run_allocEnt ?_; intro y6 ga hGa hga6 e6; have hga0 := Nat.le_trans (Below.size hk_.has) hga6; have hk6 := HoldT.step hstR hk_ e6; have e6' : Ext _ y6 := e6)
                | (refine wpList_store_row rfl 41 (.tmp 19) _ rfl ga #[.int .u64 out.x, .slice a5 out.box.length c5] _ _ rfl rfl (exBl hGa) rfl info_entry (one_ent _ _ _ _) ?_; intro y7 hga7 hsa7 hRa7
                   have hbelA : Ext wa y7 := ext_row hk_.has hga7 hga0
                   have hwga : w.heap.size ≤ ga := Nat.le_trans (Below.size HX.out) hga0
                   have hkA : HoldT (fun u => Ext wa u) w y7 := ⟨hbelA, ext_row hk_.up hga7 hwga⟩
                   have hBA := own_grown (exO how5) hga7 (RowT.blk (exBl hGa)) (by decide)
                   clear hsa7))
                   refine phPost_hold (by first | with_reducible assumption | exact HoldT.alloc hstab (by with_reducible assumption) _ | exact HoldT.alloc hstab (HoldT.alloc hstab (by with_reducible assumption) _) _) ?_
                   intro hk_))
              all_goals (
                have hupA : Ext w y7 := hk_.up
                have HBA := Lib.hid (sees_of_owns hBA)
                have HRA := Lib.hid hRa7
                have hG7 := HR7.out.below (Ext.tr HX2.out hbelA)
                have HG7 := Lib.hid hG7
                have HRO7 := Lib.hid (range_below HRO2.out hbelA); have HVO7 := Lib.hid (HVO.out.below hbelA (by decide))
                clear hBA how5 hq3 hq4 hRa7 hG7
                go_wp2_with fail
                have hdn2 : decide (N ≤ n) = false := decide_eq_false (by omega)
                have hst := stabE y7
                have hk17 : HoldT (fun u => Ext y7 u) w y7.drew := HoldT.drew hst ⟨Ext.refl _, hupA⟩
                try change Code.wp _ _ _ (Act.mk _ _) _
                refine wp_region_runR Ext 12 116 (HoldT (fun u => Ext y7 u) _) [[], [(0, 104)], [(1, 105)], [(2, 106)], [(2, 106)], [(4, 108), (2, 106)], [(2, 106)], [(5, 109), (6, 110), (2, 106)], [(7, 111), (2, 106)], [(3, 107), (8, 112), (2, 106)], [(9, 113), (2, 106)], [(2, 106), (10, 114)]] [(0, 104), (1, 105), (2, 106), (3, 107), (4, 108), (5, 109), (6, 110), (7, 111), (8, 112), (9, 113), (10, 114), (11, 115)] (by kernel_rfl) (by kernel_rfl) (by first | rfl | simp) (hk17) ?_
                simp only [List.take_succ_cons, List.take_zero, List.drop_succ_cons, List.drop_zero]
                refine sp_op (Ph.eq _) (fun u hu => by
                  refine spArg_nil ?_
                  have k1 : u.cell? ⟨g, 0, none⟩ = some (.slice (some ⟨bE, oE, none⟩) N cE) := by rw [(HG7.out.below hu.has).cell]; rfl
                  go_wp2_with (fail)
                  exact ⟨rfl, hu, Ext.refl _, slot_eq rfl⟩) ?_
                refine sp_op (Ph.eq _) (fun u hu => by
                  refine spArg_eq 0 rfl rfl ?_
                  refine spArg_nil ?_
                  simp only [Act.put, List.setIfInBounds_toArray, List.set_cons_succ, List.set_cons_zero]
                  have k1 : u.cell? ⟨g, 0, none⟩ = some (.slice (some ⟨bE, oE, none⟩) N cE) := by rw [(HG7.out.below hu.has).cell]; rfl
                  go_wp2_with (fail)
                  exact ⟨rfl, hu, Ext.refl _, slot_eq rfl⟩) ?_
                refine sp_op (Ph.eq _) (fun u hu => by
                  refine spArg_eq 0 rfl rfl ?_
                  refine spArg_nil ?_
                  simp only [Act.put, List.setIfInBounds_toArray, List.set_cons_succ, List.set_cons_zero]
                  have k1 : u.cell? ⟨g, 0, none⟩ = some (.slice (some ⟨bE, oE, none⟩) N cE) := by rw [(HG7.out.below hu.has).cell]; rfl
                  go_wp2_with (fail)
                  exact ⟨rfl, hu, Ext.refl _, slot_eq rfl⟩) ?_
                refine sp_op (Ph.eq (.agg #[.int .u64 out.x, .slice a5 out.box.length c5])) (fun u hu => by
                  refine spArg_eq 0 rfl rfl ?_
                  refine spArg_nil ?_
                  simp only [Act.put, List.setIfInBounds_toArray, List.set_cons_succ, List.set_cons_zero]
                  have k1 : u.cell? ⟨g, 0, none⟩ = some (.slice (some ⟨bE, oE, none⟩) N cE) := by rw [(HG7.out.below hu.has).cell]; rfl
                  go_wp2_with ((refine wpList_load_rowG rfl 41 _ rfl ga rfl _ _ (0, 0) _ (HRA.out.below hu.has) Try.underlying41 rfl info_entry ?_))
                  exact ⟨rfl, hu, Ext.refl _, slot_eq rfl⟩) ?_
                refine sp_op (Ph.eq _) (fun u hu => by
                  refine spArg_eq 1 rfl rfl ?_
                  refine spArg_nil ?_
                  simp only [Act.put, List.setIfInBounds_toArray, List.set_cons_succ, List.set_cons_zero]
                  have k1 : u.cell? ⟨g, 0, none⟩ = some (.slice (some ⟨bE, oE, none⟩) N cE) := by rw [(HG7.out.below hu.has).cell]; rfl
                  go_wp2_with (fail)
                  exact ⟨rfl, hu, Ext.refl _, slot_eq rfl⟩) ?_
                refine sp_op (Ph.eq _) (fun u hu => by
                  refine spArg_eq 0 rfl rfl ?_
                  refine spArg_eq 2 rfl rfl ?_
                  refine spArg_nil ?_
                  simp only [Act.put, List.setIfInBounds_toArray, List.set_cons_succ, List.set_cons_zero]
                  have k1 : u.cell? ⟨g, 0, none⟩ = some (.slice (some ⟨bE, oE, none⟩) N cE) := by rw [(HG7.out.below hu.has).cell]; rfl
                  go_wp2_with (fail)
                  exact ⟨rfl, hu, Ext.refl _, slot_eq rfl⟩) ?_
                refine sp_op (Ph.eq _) (fun u hu => by
                  refine spArg_eq 3 rfl rfl ?_
                  refine spArg_nil ?_
                  simp only [Act.put, List.setIfInBounds_toArray, List.set_cons_succ, List.set_cons_zero]
                  have k1 : u.cell? ⟨g, 0, none⟩ = some (.slice (some ⟨bE, oE, none⟩) N cE) := by rw [(HG7.out.below hu.has).cell]; rfl
                  go_wp2_with (fail)
                  exact ⟨rfl, hu, Ext.refl _, slot_eq rfl⟩) ?_
                refine sp_op (Ph.eq _) (fun u hu => by
                  refine spArg_eq 1 rfl rfl ?_
                  refine spArg_eq 0 rfl rfl ?_
                  refine spArg_eq 4 rfl rfl ?_
                  refine spArg_nil ?_
                  simp only [Act.put, List.setIfInBounds_toArray, List.set_cons_succ, List.set_cons_zero]
                  have k1 : u.cell? ⟨g, 0, none⟩ = some (.slice (some ⟨bE, oE, none⟩) N cE) := by rw [(HG7.out.below hu.has).cell]; rfl
                  go_wp2_with (fail)
                  exact ⟨rfl, hu, Ext.refl _, slot_eq rfl⟩) ?_
                refine sp_op (Ph.eq (.agg #[.int .u64 out.x, .slice aO out.box.length cO])) (fun u hu => by
                  refine spArg_eq 0 rfl rfl ?_
                  refine spArg_eq 5 rfl rfl ?_
                  refine spArg_nil ?_
                  simp only [Act.put, List.setIfInBounds_toArray, List.set_cons_succ, List.set_cons_zero]
                  have k1 : u.cell? ⟨g, 0, none⟩ = some (.slice (some ⟨bE, oE, none⟩) N cE) := by rw [(HG7.out.below hu.has).cell]; rfl
                  go_wp2_with ((refine wpList_load_midG rfl 41 _ rfl bE (oE + n * 2) rfl _ _ (range_below HRO7.out hu.has) Try.underlying41 rfl info_entry ?_))
                  exact ⟨rfl, hu, Ext.refl _, slot_eq rfl⟩) ?_
                refine sp_op (Ph.eq _) (fun u hu => by
                  refine spArg_eq 5 rfl rfl ?_
                  refine spArg_eq 0 rfl rfl ?_
                  refine spArg_eq 6 rfl rfl ?_
                  refine spArg_nil ?_
                  simp only [Act.put, List.setIfInBounds_toArray, List.set_cons_succ, List.set_cons_zero]
                  have k1 : u.cell? ⟨g, 0, none⟩ = some (.slice (some ⟨bE, oE, none⟩) N cE) := by rw [(HG7.out.below hu.has).cell]; rfl
                  go_wp2_with ((go_at_call 13; refine (SameEnt_any out _ _ _ (HBA.out.below hu.has (by decide)) (HVO7.out.below hu.has (by decide))).mono ?_; rintro e_ x_ ⟨rfl, hb_⟩))
                  exact ⟨rfl, HoldT.step hst hu hb_, hb_, slot_eq rfl⟩) ?_
                refine sp_op (Ph.eq _) (fun u hu => by
                  refine spArg_eq 0 rfl rfl ?_
                  refine spArg_eq 7 rfl rfl ?_
                  refine spArg_nil ?_
                  simp only [Act.put, List.setIfInBounds_toArray, List.set_cons_succ, List.set_cons_zero]
                  have k1 : u.cell? ⟨g, 0, none⟩ = some (.slice (some ⟨bE, oE, none⟩) N cE) := by rw [(HG7.out.below hu.has).cell]; rfl
                  go_wp2_with (fail)
                  exact ⟨rfl, hu, Ext.refl _, slot_eq rfl⟩) ?_
                refine sp_op (Ph.eq _) (fun u hu => by
                  refine spArg_eq 8 rfl rfl ?_
                  refine spArg_eq 0 rfl rfl ?_
                  refine spArg_nil ?_
                  simp only [Act.put, List.setIfInBounds_toArray, List.set_cons_succ, List.set_cons_zero]
                  have k1 : u.cell? ⟨g, 0, none⟩ = some (.slice (some ⟨bE, oE, none⟩) N cE) := by rw [(HG7.out.below hu.has).cell]; rfl
                  go_wp2_with (fail)
                  exact ⟨rfl, hu, Ext.refl _, slot_eq rfl⟩) ?_
                refine sp_end ?_
                intro u hu
                refine spArg_eq 11 rfl rfl ?_
                refine spArg_eq 10 rfl rfl ?_
                refine spArg_eq 9 rfl rfl ?_
                refine spArg_eq 8 rfl rfl ?_
                refine spArg_eq 7 rfl rfl ?_
                refine spArg_eq 6 rfl rfl ?_
                refine spArg_eq 5 rfl rfl ?_
                refine spArg_eq 4 rfl rfl ?_
                refine spArg_eq 3 rfl rfl ?_
                refine spArg_eq 2 rfl rfl ?_
                refine spArg_eq 1 rfl rfl ?_
                refine spArg_eq 0 rfl rfl ?_
                refine spArg_nil ?_
                simp only [Act.put, List.setIfInBounds_toArray, List.set_cons_succ, List.set_cons_zero]
                go_wp2_with fail
                go_roundw
                case rel => exact ⟨n + 1, rfl, by omega, hu.up, Ext.tr (Ext.tr HX2.out hbelA) hu.has⟩
                case measure => (simp [intOf] <;> omega))
            · obtain rfl : N = n := by omega
              go_wp2_with fail
              go_ret
              exact ⟨rfl, HX.out⟩
      · have hq3 : ((order.length : Int) == (N : Int)) = false := by rw [beq_eq_false_iff_ne]; omega
        have HLE := Lib.hid (show ¬ (order.length = (opened s0 0 M).length ∧ permOk order) from fun h => hle (h.1.trans HLL.out))
        clear hle
        go_wp2_with fail
        clear hq7 hq3
        have hq : Ext x7 x7 := Ext.refl _
        go_loopw [17, 18, 19, 20] (fun iv _ _ _ wr => ∃ n : Nat, iv = .int .i64 n ∧ n ≤ N ∧ Ext w wr ∧ Ext x7 wr) (fun iv _ _ _ _ => N - (intOf iv).toNat)
        case atStart => exact ⟨0, rfl, Nat.zero_le _, Ext.tr hup7 hq, hq⟩
        case round =>
          obtain ⟨n, rfl, hnN, hX, hX2⟩ := hrel
          have HX := Lib.hid hX; have HX2 := Lib.hid hX2
          clear hX hX2
          by_cases hlt : n < N
          · skip
            obtain ⟨eK, heK⟩ : ∃ e, M[n]? = some e := ⟨_, List.getElem?_eq_getElem (by rw [HML.out]; exact hlt)⟩
            obtain ⟨out, ho1, ho2⟩ := HOP.out n eK heK
            have HON := Lib.hid (HGN.out n out HLE.out ho2)
            go_wp2_with fail
            obtain ⟨b3, o3, c3', e0, -, -⟩ := HMV.out.open (by rw [HML.out]; omega)
            obtain ⟨rfl, rfl⟩ : a3 = some ⟨b3, o3, none⟩ ∧ c3 = c3' := by injection e0 with e1 _ e3; exact ⟨e1, e3⟩
            clear e0
            obtain ⟨bE, oE, cE', e0, -, -⟩ := HE7.out.open (by rw [HOL.out]; omega)
            obtain ⟨rfl, rfl⟩ : aE = some ⟨bE, oE, none⟩ ∧ cE = cE' := by injection e0 with e1 _ e3; exact ⟨e1, e3⟩
            clear e0
            obtain ⟨vK, hrK, hvK⟩ := slE_at HMV.out n eK heK
            obtain ⟨aK, cK, rfl, -, -⟩ := sees_form hvK
            obtain ⟨vO, hrO, hvO⟩ := slE_at HE7.out n out HON.out
            obtain ⟨aO, cO, rfl, -, -⟩ := sees_form hvO
            have HRK := Lib.hid (range_below hrK (Ext.tr HX37.out HX2.out)); have HRO2 := Lib.hid (range_below hrO HX2.out)
            have HVK := Lib.hid (hvK.below (Ext.tr HX37.out HX2.out) (by decide)); have HVO := Lib.hid (hvO.below HX2.out (by decide))
            have HPA := Lib.hid fun (u : World) (v : Value) (hv : SeesB u v eK.box) => HOA.out eK out (List.mem_of_getElem? heK) ho1 u v hv
            clear hrK hvK hrO hvO heK ho1 ho2
            have hdn : decide (N ≤ n) = false := decide_eq_false (by omega)
            generalize wr = wa at *
            have hstR := stabE wa
            have hk16 : HoldT (fun u => Ext wa u) w wa.drew := HoldT.drew hstR ⟨Ext.refl _, HX.out⟩
            have hq3 : ∀ e_ : InC (fun u => Ext wa u), e_.u.cell? ⟨b3, o3 + n * 2, none⟩ = some (.int .u64 eK.x) := fun e_ => by have := range_below HRK.out e_.has 0 _ rfl; rwa [Nat.add_zero] at this
            have hq4 : ∀ e_ : InC (fun u => Ext wa u), e_.u.cell? ⟨b3, o3 + n * 2 + 1, none⟩ = some (.slice aK eK.box.length cK) := fun e_ => range_below HRK.out e_.has 1 _ rfl
            try change Code.wp _ _ _ (Act.mk _ _) _
            haveI hne_ : Nonempty (InC (fun u => Ext wa u)) := ⟨⟨_, (hk16).1⟩⟩
            refine wp_region_tr (C := fun w_ => ∃ e_ : InC (fun u => Ext wa u), w_ = e_.u) (.step [0, 1, 2, 3, 4, 5, 6] (.alt 7 (.step [8, 9, 10] (.alt 11 (.step [] (.alt 12 (.fin [13]) .nil)) .nil)) (.alt 11 (.step [] (.alt 7 (.step [8, 9, 10] (.alt 12 (.fin [13]) .nil)) .nil)) .nil))) (by kernel_rfl) (by kernel_rfl) (fun _ _ _ _ hd_ h_ => ⟨hd_.symm.trans h_.1, h_.2⟩) ⟨⟨World.drew _, (hk16).1⟩, rfl⟩ ?_
            have hk_ := hk16
            repeat' (first
              | ((with_reducible refine wpTr_fin ?_)
                 simp only [pickOps, List.flatMap_cons, List.flatMap_nil, List.drop_succ_cons, List.drop_zero, List.take_succ_cons, List.take_zero, List.cons_append, List.nil_append, List.append_nil]
                 repeat (first | ((refine wpQuiet_load_mid rfl 24 (.tmp 95) rfl bS oS rfl s0.cells _ (fun w_ hw_ => by obtain ⟨e_, rfl⟩ := hw_; exact range_below HSR.out (Ext.tr (Ext.tr HX23.out (Ext.tr HX37.out HX2.out)) e_.has)) Try.underlying24 rfl HIS.out ?_; simp only [Act.put, List.setIfInBounds_toArray, List.set_cons_succ, List.set_cons_zero])) | go_big_quiet_step (exact rfl))
                 refine wpQuiet_nil ?_)
              | ((with_reducible refine wpTr_step ?_); simp only [pickOps, List.flatMap_cons, List.flatMap_nil, List.drop_succ_cons, List.drop_zero, List.take_succ_cons, List.take_zero, List.cons_append, List.nil_append, List.append_nil]; repeat (first | ((refine wpQuiet_load_mid rfl 24 (.tmp 95) rfl bS oS rfl s0.cells _ (fun w_ hw_ => by obtain ⟨e_, rfl⟩ := hw_; exact range_below HSR.out (Ext.tr (Ext.tr HX23.out (Ext.tr HX37.out HX2.out)) e_.has)) Try.underlying24 rfl HIS.out ?_; simp only [Act.put, List.setIfInBounds_toArray, List.set_cons_succ, List.set_cons_zero])) | go_big_quiet_step (exact rfl))
                 refine wpQuiet_nil ?_)
              | (with_reducible refine wpTr_one ?_)
              | (with_reducible refine wpTr_alt ?_ ?_)
              | (simp only [pickOps, List.flatMap_cons, List.flatMap_nil, List.drop_succ_cons, List.drop_zero, List.take_succ_cons, List.take_zero, List.cons_append, List.nil_append, List.append_nil]
                 go_wp2_with (first
              | (go_at_call 11; refine (HPA.out _ _ (HVK.out.below hk_.has (by decide))).mono ?_; rintro r_ y5 ⟨v5, rfl, how5, e5⟩; obtain ⟨a5, c5, rfl, -, -⟩ := owns_form how5; have hk5 := HoldT.step hstR hk_ e5; have e5' : Ext _ y5 := e5)
              | (refine wpList_allocB rfl _ rfl _ run_allocEnt ?_; intro y6 ga hGa hga6 e6; have hga0 := Nat.le_trans (Below.size hk_.has) hga6; have hk6 := HoldT.step hstR hk_ e6; have e6' : Ext _ y6 := e6)
              | (refine wpList_store_row rfl 41 (.tmp 19) _ rfl ga #[.int .u64 out.x, .slice a5 out.box.length c5] _ _ rfl rfl (exBl hGa) rfl info_entry (one_ent _ _ _ _) ?_; intro y7 hga7 hsa7 hRa7
                 have hbelA : Ext wa y7 := ext_row hk_.has hga7 hga0
                 have hwga : w.heap.size ≤ ga := Nat.le_trans (Below.size HX.out) hga0
                 have hkA : HoldT (fun u => Ext wa u) w y7 := ⟨hbelA, ext_row hk_.up hga7 hwga⟩
                 have hBA := own_grown (exO how5) hga7 (RowT.blk (exBl hGa)) (by decide)
                 clear hsa7))
                 refine phPost_hold (by first | with_reducible assumption | exact HoldT.alloc hstab (by with_reducible assumption) _ | exact HoldT.alloc hstab (HoldT.alloc hstab (by with_reducible assumption) _) _) ?_
                 intro hk_))
            all_goals (
              have hupA : Ext w y7 := hk_.up
              have HBA := Lib.hid (sees_of_owns hBA)
              have HRA := Lib.hid hRa7
              have hG7 := HR7.out.below (Ext.tr HX2.out hbelA)
              have HG7 := Lib.hid hG7
              have HRO7 := Lib.hid (range_below HRO2.out hbelA); have HVO7 := Lib.hid (HVO.out.below hbelA (by decide))
              clear hBA how5 hq3 hq4 hRa7 hG7
              go_wp2_with fail
              have hdn2 : decide (N ≤ n) = false := decide_eq_false (by omega)
              have hst := stabE y7
              have hk17 : HoldT (fun u => Ext y7 u) w y7.drew := HoldT.drew hst ⟨Ext.refl _, hupA⟩
              try change Code.wp _ _ _ (Act.mk _ _) _
              refine wp_region_runR Ext 12 116 (HoldT (fun u => Ext y7 u) _) [[], [(0, 104)], [(1, 105)], [(2, 106)], [(2, 106)], [(4, 108), (2, 106)], [(2, 106)], [(5, 109), (6, 110), (2, 106)], [(7, 111), (2, 106)], [(3, 107), (8, 112), (2, 106)], [(9, 113), (2, 106)], [(2, 106), (10, 114)]] [(0, 104), (1, 105), (2, 106), (3, 107), (4, 108), (5, 109), (6, 110), (7, 111), (8, 112), (9, 113), (10, 114), (11, 115)] (by kernel_rfl) (by kernel_rfl) (by first | rfl | simp) (hk17) ?_
              simp only [List.take_succ_cons, List.take_zero, List.drop_succ_cons, List.drop_zero]
              refine sp_op (Ph.eq _) (fun u hu => by
                refine spArg_nil ?_
                have k1 : u.cell? ⟨g, 0, none⟩ = some (.slice (some ⟨bE, oE, none⟩) N cE) := by rw [(HG7.out.below hu.has).cell]; rfl
                go_wp2_with (fail)
                exact ⟨rfl, hu, Ext.refl _, slot_eq rfl⟩) ?_
              refine sp_op (Ph.eq _) (fun u hu => by
                refine spArg_eq 0 rfl rfl ?_
                refine spArg_nil ?_
                simp only [Act.put, List.setIfInBounds_toArray, List.set_cons_succ, List.set_cons_zero]
                have k1 : u.cell? ⟨g, 0, none⟩ = some (.slice (some ⟨bE, oE, none⟩) N cE) := by rw [(HG7.out.below hu.has).cell]; rfl
                go_wp2_with (fail)
                exact ⟨rfl, hu, Ext.refl _, slot_eq rfl⟩) ?_
              refine sp_op (Ph.eq _) (fun u hu => by
                refine spArg_eq 0 rfl rfl ?_
                refine spArg_nil ?_
                simp only [Act.put, List.setIfInBounds_toArray, List.set_cons_succ, List.set_cons_zero]
                have k1 : u.cell? ⟨g, 0, none⟩ = some (.slice (some ⟨bE, oE, none⟩) N cE) := by rw [(HG7.out.below hu.has).cell]; rfl
                go_wp2_with (fail)
                exact ⟨rfl, hu, Ext.refl _, slot_eq rfl⟩) ?_
              refine sp_op (Ph.eq (.agg #[.int .u64 out.x, .slice a5 out.box.length c5])) (fun u hu => by
                refine spArg_eq 0 rfl rfl ?_
                refine spArg_nil ?_
                simp only [Act.put, List.setIfInBounds_toArray, List.set_cons_succ, List.set_cons_zero]
                have k1 : u.cell? ⟨g, 0, none⟩ = some (.slice (some ⟨bE, oE, none⟩) N cE) := by rw [(HG7.out.below hu.has).cell]; rfl
                go_wp2_with ((refine wpList_load_rowG rfl 41 _ rfl ga rfl _ _ (0, 0) _ (HRA.out.below hu.has) Try.underlying41 rfl info_entry ?_))
                exact ⟨rfl, hu, Ext.refl _, slot_eq rfl⟩) ?_
              refine sp_op (Ph.eq _) (fun u hu => by
                refine spArg_eq 1 rfl rfl ?_
                refine spArg_nil ?_
                simp only [Act.put, List.setIfInBounds_toArray, List.set_cons_succ, List.set_cons_zero]
                have k1 : u.cell? ⟨g, 0, none⟩ = some (.slice (some ⟨bE, oE, none⟩) N cE) := by rw [(HG7.out.below hu.has).cell]; rfl
                go_wp2_with (fail)
                exact ⟨rfl, hu, Ext.refl _, slot_eq rfl⟩) ?_
              refine sp_op (Ph.eq _) (fun u hu => by
                refine spArg_eq 0 rfl rfl ?_
                refine spArg_eq 2 rfl rfl ?_
                refine spArg_nil ?_
                simp only [Act.put, List.setIfInBounds_toArray, List.set_cons_succ, List.set_cons_zero]
                have k1 : u.cell? ⟨g, 0, none⟩ = some (.slice (some ⟨bE, oE, none⟩) N cE) := by rw [(HG7.out.below hu.has).cell]; rfl
                go_wp2_with (fail)
                exact ⟨rfl, hu, Ext.refl _, slot_eq rfl⟩) ?_
              refine sp_op (Ph.eq _) (fun u hu => by
                refine spArg_eq 3 rfl rfl ?_
                refine spArg_nil ?_
                simp only [Act.put, List.setIfInBounds_toArray, List.set_cons_succ, List.set_cons_zero]
                have k1 : u.cell? ⟨g, 0, none⟩ = some (.slice (some ⟨bE, oE, none⟩) N cE) := by rw [(HG7.out.below hu.has).cell]; rfl
                go_wp2_with (fail)
                exact ⟨rfl, hu, Ext.refl _, slot_eq rfl⟩) ?_
              refine sp_op (Ph.eq _) (fun u hu => by
                refine spArg_eq 1 rfl rfl ?_
                refine spArg_eq 0 rfl rfl ?_
                refine spArg_eq 4 rfl rfl ?_
                refine spArg_nil ?_
                simp only [Act.put, List.setIfInBounds_toArray, List.set_cons_succ, List.set_cons_zero]
                have k1 : u.cell? ⟨g, 0, none⟩ = some (.slice (some ⟨bE, oE, none⟩) N cE) := by rw [(HG7.out.below hu.has).cell]; rfl
                go_wp2_with (fail)
                exact ⟨rfl, hu, Ext.refl _, slot_eq rfl⟩) ?_
              refine sp_op (Ph.eq (.agg #[.int .u64 out.x, .slice aO out.box.length cO])) (fun u hu => by
                refine spArg_eq 0 rfl rfl ?_
                refine spArg_eq 5 rfl rfl ?_
                refine spArg_nil ?_
                simp only [Act.put, List.setIfInBounds_toArray, List.set_cons_succ, List.set_cons_zero]
                have k1 : u.cell? ⟨g, 0, none⟩ = some (.slice (some ⟨bE, oE, none⟩) N cE) := by rw [(HG7.out.below hu.has).cell]; rfl
                go_wp2_with ((refine wpList_load_midG rfl 41 _ rfl bE (oE + n * 2) rfl _ _ (range_below HRO7.out hu.has) Try.underlying41 rfl info_entry ?_))
                exact ⟨rfl, hu, Ext.refl _, slot_eq rfl⟩) ?_
              refine sp_op (Ph.eq _) (fun u hu => by
                refine spArg_eq 5 rfl rfl ?_
                refine spArg_eq 0 rfl rfl ?_
                refine spArg_eq 6 rfl rfl ?_
                refine spArg_nil ?_
                simp only [Act.put, List.setIfInBounds_toArray, List.set_cons_succ, List.set_cons_zero]
                have k1 : u.cell? ⟨g, 0, none⟩ = some (.slice (some ⟨bE, oE, none⟩) N cE) := by rw [(HG7.out.below hu.has).cell]; rfl
                go_wp2_with ((go_at_call 13; refine (SameEnt_any out _ _ _ (HBA.out.below hu.has (by decide)) (HVO7.out.below hu.has (by decide))).mono ?_; rintro e_ x_ ⟨rfl, hb_⟩))
                exact ⟨rfl, HoldT.step hst hu hb_, hb_, slot_eq rfl⟩) ?_
              refine sp_op (Ph.eq _) (fun u hu => by
                refine spArg_eq 0 rfl rfl ?_
                refine spArg_eq 7 rfl rfl ?_
                refine spArg_nil ?_
                simp only [Act.put, List.setIfInBounds_toArray, List.set_cons_succ, List.set_cons_zero]
                have k1 : u.cell? ⟨g, 0, none⟩ = some (.slice (some ⟨bE, oE, none⟩) N cE) := by rw [(HG7.out.below hu.has).cell]; rfl
                go_wp2_with (fail)
                exact ⟨rfl, hu, Ext.refl _, slot_eq rfl⟩) ?_
              refine sp_op (Ph.eq _) (fun u hu => by
                refine spArg_eq 8 rfl rfl ?_
                refine spArg_eq 0 rfl rfl ?_
                refine spArg_nil ?_
                simp only [Act.put, List.setIfInBounds_toArray, List.set_cons_succ, List.set_cons_zero]
                have k1 : u.cell? ⟨g, 0, none⟩ = some (.slice (some ⟨bE, oE, none⟩) N cE) := by rw [(HG7.out.below hu.has).cell]; rfl
                go_wp2_with (fail)
                exact ⟨rfl, hu, Ext.refl _, slot_eq rfl⟩) ?_
              refine sp_end ?_
              intro u hu
              refine spArg_eq 11 rfl rfl ?_
              refine spArg_eq 10 rfl rfl ?_
              refine spArg_eq 9 rfl rfl ?_
              refine spArg_eq 8 rfl rfl ?_
              refine spArg_eq 7 rfl rfl ?_
              refine spArg_eq 6 rfl rfl ?_
              refine spArg_eq 5 rfl rfl ?_
              refine spArg_eq 4 rfl rfl ?_
              refine spArg_eq 3 rfl rfl ?_
              refine spArg_eq 2 rfl rfl ?_
              refine spArg_eq 1 rfl rfl ?_
              refine spArg_eq 0 rfl rfl ?_
              refine spArg_nil ?_
              simp only [Act.put, List.setIfInBounds_toArray, List.set_cons_succ, List.set_cons_zero]
              go_wp2_with fail
              go_roundw
              case rel => exact ⟨n + 1, rfl, by omega, hu.up, Ext.tr (Ext.tr HX2.out hbelA) hu.has⟩
              case measure => (simp [intOf] <;> omega))
          · obtain rfl : N = n := by omega
            go_wp2_with fail
            go_ret
            exact ⟨rfl, HX.out⟩)
  · have HG := Lib.hid hg; clear hg
    go_enter Try.func4, Try.ntmps4
    go_wp2_with (first
      | (go_at_call 5; refine (alive19_any _).mono ?_; rintro e w1 ⟨rfl, hb1⟩; have hkey1 := hk0.out.below hb1; have e1 : Ext w w1 := Ext.tr hb0.out hb1)
      | (refine wpList_load_row rfl 47 _ rfl w.heap.size rfl _ (keyA seed) (0, 0) _ hkey1 under_key rfl (by rw [keyA_size, HK.out]; exact info_key) ?_)
      | (go_at_call 14; refine (HRR.out _).mono ?_; rintro e w2 ⟨v2, u2, rfl, hok2, hb2⟩; have hbel2 : Ext w w2 := Ext.tr e1 hb2))
    all_goals (first | (exfalso; have := HG.out; omega) | (go_ret; exact ⟨rfl, hbel2⟩))
end Go.Proofs.Ytmbgcjfmfkddpaa
