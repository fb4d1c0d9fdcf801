/-
  HopFails: walked.
-/
import Derived.Test.YtmbgcjfmfkddpaaGreatHfl
import Derived.Test.YtmbgcjfmfkddpaaGreatBu2
namespace Go.Proofs.YtmbgcjfmfkddpaaGreat
set_option linter.unusedVariables false
set_option linter.unusedSimpArgs false
open Go Go.RowKit

theorem SameInts2_any (p : List Int) (B : Nat) (v1 v2 : Value) (w : World) (hp : SlR intR B w v1 p) (hq : SlR intR B w v2 p) (hl : p.length ≤ 1000000000) :
    Calls Tryz.prog 12 #[v1, v2] w fun e w' => e = .returned (.bool true) ∧ Below w.heap.size w w' := by
  refine (SameIntsr_any p p B v1 v2 w hp hq hl hl).mono ?_
  rintro e w' ⟨rfl, h⟩
  exact ⟨by rw [decide_eq_true rfl], h⟩
theorem run_buildPrf0 (w : World) : (Instr.build 43 #[]).run Tryz.prog w = .ok (.agg #[.int .u64 0, .int .u64 0]) w := by simp [go_sem] <;> rfl
theorem wpList_build0G {P : Program} {ops : Array Oper} {rest : List Oper} {o : Oper} {a : Act} {w : World} {Q : Exit → Act → World → Prop} (hgd : Region.wanted o (yielded ops a.tmps) = true) (ty : TypeId) (ho : o.op = .build ty #[])
    (r : Value) (hrun : (Instr.build ty #[]).run P w = .ok r w) (h : wpList P ops Q rest (a.put o.dst r) w) : wpList P ops Q (o :: rest) a w := by
  unfold wpList
  rw [if_pos hgd]
  refine .inl ?_
  unfold Oper.wp
  simp only [execOp, ho, List.map_toArray, List.map_nil, Sem.run_bind, hrun, Result.andThen_ok, Sem.run_pure]
  exact h
theorem conv1h (a : Int) (W : World) : (convert 34 34 (.slice (some ⟨W.heap.size, 0, none⟩) 1 1)).run Tryz.prog (W.alloc (.cells #[.int .u8 a] 5)) = .ok (.slice (some ⟨W.heap.size, 0, none⟩) 1 1) (W.alloc (.cells #[.int .u8 a] 5 (1, 2))) :=
  Lib.run_convert_bytes_const W 34 5 #[.int .u8 a] 1 1 u_bytes u_byte
theorem pas_prf {u : World} {g : Nat} {a : Option Addr} {n c : Nat} {x y : Int} {t : TypeId} (h : Blk u g #[.slice a n c, .int .u64 x, .int .u64 y] t) : u.rangeAt g 1 [.int .u64 x, .int .u64 y] := fun j v hj => by
  rcases j with _ | _ | j
  · cases hj; rw [h.cell]; rfl
  · cases hj; rw [h.cell]; rfl
  · simp at hj
set_option maxRecDepth 100000 in
set_option maxHeartbeats 8000000 in
theorem HopFails_any (seed : List UInt8) (n from_ : Int) (ruin : List Bool) (vr : Value) (w : World) (h32 : seed.length = 32) (hn : inI n) (hf : in64 from_) (hr : SlR boolR w.heap.size w vr ruin) :
    Calls Tryz.prog 3 #[.agg (keyA seed), .int .i64 n, .int .u64 from_, vr] w fun e w' => e = .returned (.bool true) ∧ Below w.heap.size w w' := by
  obtain ⟨ar, cr, rfl, hcr, hcr'⟩ := hr.form
  have HRU0 := Lib.hid hr; clear hr
  have HK := Lib.hid h32; clear h32
  obtain ⟨n0, n1⟩ := hn
  have hk0 := Lib.hid (Blk.new w (keyA seed) 23)
  have hb0 := Lib.hid (show Below w.heap.size w (w.alloc (.cells (keyA seed) 23)) by go_grown)
  have HRR := Lib.hid fun (u : World) => LChain_any seed 2 u HK.out (by unfold inI; decide)
  unfold RetC at HRR
  by_cases hg : 0 ≤ n ∧ n ≤ 8
  · obtain ⟨g0, g1⟩ := hg
    obtain ⟨N, rfl⟩ : ∃ N : Nat, n = N := ⟨n.toNat, by omega⟩
    have d1 : ¬ (N : Int) < 0 := by omega
    have d2 : ¬ (8 : Int) < (N : Int) := by omega
    have hLS := length_keysSL seed 3 4 (2 : Int).toNat
    have hSO := keysSL_ok seed 3 4 (2 : Int).toNat
    have hPO : ∀ p ∈ keysP seed 3 4 (2 : Int).toNat, p.ok := chainN_ok _ _ _
    rw [show keysP seed 3 4 (2 : Int).toNat = chainL (keysSL seed 3 4 (2 : Int).toNat) (keysDL seed 3 4 (2 : Int).toNat) from rfl] at hPO HRR
    generalize keysDL seed 3 4 (2 : Int).toNat = dd at *
    generalize keysSL seed 3 4 (2 : Int).toNat = ss at *
    have hLS : ss.length = 2 := hLS
    have hLP : (chainL ss dd).length = 2 := by rw [length_chainL]; exact hLS
    obtain ⟨s0, hs0⟩ : ∃ s, ss[0]? = some s := ⟨_, List.getElem?_eq_getElem (by omega)⟩
    obtain ⟨p0, hp0⟩ : ∃ p, (chainL ss dd)[0]? = some p := ⟨_, List.getElem?_eq_getElem (by omega)⟩
    have hs0o := hSO s0 (List.mem_of_getElem? hs0)
    have hp0o := hPO p0 (List.mem_of_getElem? hp0)
    have HMD := Lib.hid fun (w' : World) (v : Value) (h : SeesP w' v (chainL ss dd)) => Made19_any (chainL ss dd) N from_ v w' h hPO (by omega) (by omega) (by omega) hf
    rw [Int.toNat_natCast, ← mixL_zero (chainL ss dd) from_ ruin N] at HMD
    have HGK := Lib.hid fun (e : Ent) (he : Good ss dd 0 0 e) => (show e.ok ∧ e.box.length ≤ 20000000000000 from ⟨⟨Int.le_of_lt (he.ok hSO).1, Int.lt_trans (he.ok hSO).2 (by decide)⟩, Nat.le_trans (he.len (by omega)) (by decide)⟩)
    have HMO := Lib.hid fun (i : Nat) (h : ruin[i]? ≠ some true) => (show (opE s0 0 (mixE (chainL ss dd) from_ ruin i)).isNone = false from by
      unfold mixE; rw [if_neg h]
      obtain ⟨out, h1, -⟩ := (made_good0 ss dd from_ i).open (show (0 : Nat) < 1 by decide) hs0 hSO (by omega)
      rw [show opE s0 0 (madeE (chainL ss dd) from_ i) = some out from h1]; rfl)
    have HWS := Lib.hid fun (i : Nat) (h : i < N) => wantL_succ (s := s0) (ps := chainL ss dd) (from_ := from_) (ruin := ruin) h
    have HMS := Lib.hid fun (i : Nat) (h : i < N) => mixL_set (chainL ss dd) from_ ruin h
    have HMN := Lib.hid fun (i : Nat) (h : ruin[i]? ≠ some true) => mixL_same (chainL ss dd) from_ (n := N) h
    have HMR := Lib.hid fun (i : Nat) (h : ruin[i]? = some true) => (show mixE (chainL ss dd) from_ ruin i = ⟨timesP 37 (madeX from_ i), boxL (chainL ss dd) (madeX from_ i) [120] 0⟩ from by unfold mixE; rw [if_pos h]; rfl)
    have HLM := Lib.hid fun (i : Nat) => length_mixL (chainL ss dd) from_ ruin N i
    have HLW := Lib.hid fun (i : Nat) => length_wantL s0 (chainL ss dd) from_ ruin N i
    have HSP := Lib.hid fun (i : Nat) (u : World) (vp v : Value) (h : SeesP u vp (chainL ss dd)) (hv : SeesB u v [120]) => Spoil_any (chainL ss dd) (madeX from_ i) 0 [120] vp v u h hPO (madeX_in _ _) hv (by decide) (by omega) (by decide)
    have HOP := Lib.hid fun (i : Nat) (u : World) (v : Value) (hv : SeesB u v (mixE (chainL ss dd) from_ ruin i).box) => (show Calls Tryz.prog 10 #[.agg s0.cells.toArray, .int .i64 0, .agg #[.int .u64 (mixE (chainL ss dd) from_ ruin i).x, v]] u _ from
      OpenHop_any s0.blind s0.mix s0.inner 0 (mixE (chainL ss dd) from_ ruin i).x (mixE (chainL ss dd) from_ ruin i).box v u hs0o.1 hs0o.2.1 (HGK.out _ (mix_good ss dd from_ ruin i)).1 hv (HGK.out _ (mix_good ss dd from_ ruin i)).2)
    unfold RetOE at HOP
    have HRU := Lib.hid fun (u : World) (v : Value) (hv : SlR entR 0 u v (mixL (chainL ss dd) from_ ruin N N)) => HRun_any s0 p0 0 (mixL (chainL ss dd) from_ ruin N N) [] 1 0 v (.slice none 0 0) u hs0o hp0o (by decide) hv (SlR.nil _ _) (fun e he => HGK.out e (mixL_good e he)) (by rw [length_mixL]; omega) (by decide)
    unfold RetH at HRU
    rw [← wantL_full] at HRU
    have HRE := Lib.hid (show (wantL s0 (chainL ss dd) from_ ruin N N = [] → (runL s0 p0 0 (mixL (chainL ss dd) from_ ruin N N) [] 1).es.length = N) ∧ (wantL s0 (chainL ss dd) from_ ruin N N ≠ [] → runL s0 p0 0 (mixL (chainL ss dd) from_ ruin N N) [] 1 = ⟨[], ⟨0, 0⟩⟩) from by
      rw [wantL_full]
      constructor
      · intro h; unfold runL; rw [if_pos h]
        show (orderL _ _).length = N
        rw [length_orderL, length_opened, length_mixL]
      · intro h; unfold runL; rw [if_neg h])
    have HLS := Lib.hid hLS; have HLP := Lib.hid hLP; have HS0 := Lib.hid hs0; have HP0 := Lib.hid hp0
    have HEN := Lib.hid fun (i : Nat) => openE_some (s := s0) (at_ := 0) (e := mixE (chainL ss dd) from_ ruin i)
    clear hs0o hp0o hLS hLP hs0 hp0 hSO hPO
    generalize runL s0 p0 0 (mixL (chainL ss dd) from_ ruin N N) [] 1 = RUN at *
    have HIS := Lib.hid (show (Tryz.prog.info? 41).map (·.size) = some s0.cells.length from info_sec)
    have HIP := Lib.hid (show (Tryz.prog.info? 49).map (·.size) = some p0.cells.length from info_pub)
    go_enter Tryz.func3, Tryz.ntmps3
    go_wp2_with (first
      | (go_at_call 6; refine (alive19_any _).mono ?_; rintro e w1 ⟨rfl, hb1⟩; have hkey1 := hk0.out.below hb1; have e1 : Ext w w1 := Ext.tr hb0.out hb1)
      | (refine wpList_load_row rfl 23 _ rfl w.heap.size rfl _ (keyA seed) (0, 0) _ hkey1 under_key rfl (by rw [keyA_size, HK.out]; exact info_key) ?_)
      | (go_at_call 7; refine (HRR.out _).mono ?_; rintro e w2 ⟨v2, u2, rfl, hok2, hb2⟩
         have hbel2 : Ext w w2 := Ext.tr e1 hb2
         have HS2 := Lib.hid (show SeesS w2 v2 ss from sees_of_owns (hok2 (by decide)).1)
         have HP2 := Lib.hid (show SeesP w2 u2 (chainL ss dd) from sees_of_owns (hok2 (by decide)).2)
         clear hok2)
      | (go_at_call 8; refine (HMD.out _ _ HP2.out).mono ?_; rintro e w3 ⟨v3, rfl, hown3, hb3⟩
         obtain ⟨a3, c3, rfl, -, -⟩ := hown3.sl.form
         have hbel3 : Ext w w3 := Ext.tr hbel2 hb3))
    rw [HLM.out]
    obtain ⟨bS, oS, cS, rfl, -, -, -⟩ := seesS_open HS2.out (by rw [HLS.out]; decide)
    obtain ⟨bP, oP, cP, rfl, -, -, -⟩ := seesP_open HP2.out (by rw [HLP.out]; decide)
    have HSR := Lib.hid (show w2.rangeAt bS oS s0.cells from by have := seesS_at HS2.out (by rw [HLS.out]; decide) 0 s0 HS0.out; simpa using this)
    have HPR := Lib.hid (show w2.rangeAt bP oP p0.cells from by have := seesP_at HP2.out (by rw [HLP.out]; decide) 0 p0 HP0.out; simpa using this)
    have HPV := Lib.hid (show SeesP w2 (.slice (some ⟨bP, oP, none⟩) 2 cP) (chainL ss dd) from by have h := HP2.out; rw [HLP.out] at h; exact h)
    rw [HLS.out, HLP.out]
    have HMV := Lib.hid (show OwR entR 0 w2.heap.size w3 (.slice a3 N c3) (mixL (chainL ss dd) from_ ruin N 0) from by have h := hown3; rw [HLM.out] at h; exact h)
    have HX2 := Lib.hid hbel2; have HX23 := Lib.hid (show Ext w2 w3 from hb3)
    clear hown3 hb3 hbel3 HMD HRR HP2
    generalize chainL ss dd = ps at *
    go_loopw [14, 15, 16, 17] (fun vw iv _ _ wr => ∃ i : Nat, iv = .int .i64 i ∧ i ≤ N ∧ OwR entR 0 w2.heap.size wr (.slice a3 N c3) (mixL ps from_ ruin N i) ∧ OwR intR 0 w2.heap.size wr vw (wantL s0 ps from_ ruin N i) ∧ Ext w2 wr) (fun _ iv _ _ _ => N - (intOf iv).toNat)
    case atStart => exact ⟨0, rfl, Nat.zero_le _, HMV.out, OwR.nil _ _ _, HX23.out⟩
    case round =>
      clear HMV HX23
      obtain ⟨i, rfl, hiN, hM, hW, hX⟩ := hrel
      obtain ⟨aw, cw, rfl, -, -⟩ := hW.form
      have HM := Lib.hid hM; have HW := Lib.hid hW; have HX := Lib.hid hX
      clear hM hW hX
      by_cases hlt : i < N
      · have HLWI := Lib.hid (HLW.out i)
        have HWSI := Lib.hid (HWS.out i hlt)
        by_cases hri : ruin[i]? = some true
        · have HMSI := HMS.out i hlt
          have hmr := HMR.out i hri
          have hen := (HEN.out i).2
          have hop := HOP.out i
          have hsp := HSP.out i
          have hw := HWSI.out
          rw [hen] at hw
          have hil : i < ruin.length := (List.getElem?_eq_some_iff.1 hri).1
          obtain ⟨br, or_, cr', e0, -, -⟩ := HRU0.out.open (by omega)
          obtain ⟨rfl, rfl⟩ : ar = some ⟨br, or_, none⟩ ∧ cr = cr' := by injection e0 with e1 _ e3; exact ⟨e1, e3⟩
          clear e0
          have hcb := slBo_at (HRU0.out.ext (Ext.tr HX2.out HX.out)) i true hri
          have hgi : (mixL ps from_ ruin N (i + 1))[i]? = some (mixE ps from_ ruin i) := by rw [mixL_get hlt, if_pos (by omega)]
          have HX0 := Lib.hid (show IntKind.u64.wrap (from_ + (i : Int) * 977) = madeX from_ i from rfl)
          generalize mixE ps from_ ruin i = me at *
          obtain ⟨X0, BX⟩ := me
          obtain ⟨hx0, hbx⟩ : X0 = timesP 37 (madeX from_ i) ∧ BX = boxL ps (madeX from_ i) [120] 0 := by injection hmr with h1 h2; exact ⟨h1, h2⟩
          rw [← hx0, ← hbx] at hsp
          unfold RetE at hsp
          obtain ⟨g1, hg1e, cur1, ⟨hblk1, hcs1⟩, hg1⟩ := own_blk20 HM.out (by rw [HLM.out]; omega)
          subst hg1e
          rw [HLM.out] at hcs1
          have HOPI := Lib.hid hop; have HSPI := Lib.hid hsp; have HWI := Lib.hid hw; have HMSJ := Lib.hid HMSI; have HGI := Lib.hid hgi
          clear hop hsp hw HMSI hmr hen hri hx0 hbx hgi
          generalize madeX from_ i = MX at *
          simp only at HOPI HWI
          generalize openE s0.blind s0.mix 0 X0 BX = op at *
          generalize (op.getD (0, [])).1 = X at *
          generalize (op.getD (0, [])).2 = BY at *
          generalize op.isSome = K at *
          have hdN : decide (N ≤ i) = false := decide_eq_false (by omega)
          have hcv := fun W : World => conv1h 120 W
          go_wp2_with (first
            | (go_at_call 9; rw [HX0.out]; refine (HSPI.out _ _ _ (HPV.out.below (Ext.tr HX.out (Ext.alloc _ _)) (by decide)) (seesB_row (l := [120]) (heap_alloc_new _ _) (by decide))).mono ?_; rintro e w4 ⟨v4, rfl, hown4, hb4⟩; obtain ⟨a4, c4, rfl, -, -⟩ := owns_form hown4; have e34 : Ext wr w4 := Ext.tr (Ext.alloc _ _) hb4; have hblk4 := hblk1.below e34; have hO4 := HM.out.ext e34; have hW4 := HW.out.ext e34)
            | (refine wpList_store_in rfl 36 _ _ rfl g1 (i * 2) #[.int .u64 X0, .slice a4 BX.length c4] cur1 _ _ rfl rfl hblk4 (by have h9 : N * 2 ≤ cur1.size := hcs1; show i * 2 + 2 ≤ cur1.size; omega) info_entry (one_ent _ _ _ _) rfl ?_; intro w5 hg5 hz5 hb5
               have hO5 := entry_put hO4 hblk4 (by rw [HLM.out]; exact hlt) hg5 hb5 (slB_own (owns_grownE hown4 hg5 (RowT.blk hblk4)))
               rw [HMSJ.out] at hO5
               have hW5 := hW4.grownT hg5 (RowT.blk hblk4) (by decide) (by decide) (fun _ _ => Nat.zero_le _)
               clear hz5
               have e25 : Ext w2 w5 := ext_rowK (Ext.tr HX.out e34) hg5 hg1))
          have HO5 := Lib.hid hO5; have HW5 := Lib.hid hW5; have HE25 := Lib.hid e25
          clear hcv hcb hO4 hW4 hb5 hg5 hblk4 e34 hown4 hb4 hO5 hW5 hcs1 hblk1 HM HW HSPI HX0 e25
          obtain ⟨vK, hrK, hvK⟩ := slE_at HO5.out.sl i _ HGI.out
          obtain ⟨aK, cK, rfl, -, -⟩ := sees_form hvK
          rw [Nat.zero_add] at hrK
          have HRK := Lib.hid hrK; have HVK := Lib.hid hvK
          clear hrK hvK
          have hstR := stabE w5
          have hk12 : HoldT (fun u => Ext w5 u) w2 w5.drew := HoldT.drew hstR ⟨Ext.refl _, HE25.out⟩
          have hq3 : ∀ e_ : InC (fun u => Ext w5 u), e_.u.cell? ⟨g1, i * 2, none⟩ = some (.int .u64 X0) := fun e_ => by have := range_below HRK.out e_.has 0 _ rfl; rwa [Nat.add_zero] at this
          have hq4 : ∀ e_ : InC (fun u => Ext w5 u), e_.u.cell? ⟨g1, i * 2 + 1, none⟩ = some (.slice aK BX.length cK) := fun e_ => range_below HRK.out e_.has 1 _ rfl
          try change Code.wp _ _ _ (Act.mk _ _) _
          haveI hne_ : Nonempty (InC (fun u => Ext w5 u)) := ⟨⟨_, (hk12).1⟩⟩
          refine wp_region_tr (C := fun w_ => ∃ e_ : InC (fun u => Ext w5 u), w_ = e_.u) (.step [0, 1, 2, 3, 4, 5, 6] (.alt 7 (.step [8, 9, 10] (.alt 11 (.step [] (.alt 12 (.fin [13]) .nil)) .nil)) (.alt 11 (.step [] (.alt 7 (.step [8, 9, 10] (.alt 12 (.fin [13]) .nil)) .nil)) .nil))) (by kernel_rfl) (by kernel_rfl) (fun _ _ _ _ hd_ h_ => ⟨hd_.symm.trans h_.1, h_.2⟩) ⟨⟨World.drew _, (hk12).1⟩, rfl⟩ ?_
          have hk_ := hk12
          repeat' (first
            | ((with_reducible refine wpTr_fin ?_)
               simp only [pickOps, List.flatMap_cons, List.flatMap_nil, List.drop_succ_cons, List.drop_zero, List.take_succ_cons, List.take_zero, List.cons_append, List.nil_append, List.append_nil]
               repeat (first | ((refine wpQuiet_load_mid rfl 41 (.tmp 75) rfl bS oS rfl s0.cells _ (fun w_ hw_ => by obtain ⟨e_, rfl⟩ := hw_; exact range_below HSR.out (Ext.tr HE25.out e_.has)) Tryz.underlying41 rfl HIS.out ?_; simp only [Act.put, List.setIfInBounds_toArray, List.set_cons_succ, List.set_cons_zero])) | go_big_quiet_step (exact rfl))
               refine wpQuiet_nil ?_)
            | ((with_reducible refine wpTr_step ?_); simp only [pickOps, List.flatMap_cons, List.flatMap_nil, List.drop_succ_cons, List.drop_zero, List.take_succ_cons, List.take_zero, List.cons_append, List.nil_append, List.append_nil]; repeat (first | ((refine wpQuiet_load_mid rfl 41 (.tmp 75) rfl bS oS rfl s0.cells _ (fun w_ hw_ => by obtain ⟨e_, rfl⟩ := hw_; exact range_below HSR.out (Ext.tr HE25.out e_.has)) Tryz.underlying41 rfl HIS.out ?_; simp only [Act.put, List.setIfInBounds_toArray, List.set_cons_succ, List.set_cons_zero])) | go_big_quiet_step (exact rfl))
               refine wpQuiet_nil ?_)
            | (with_reducible refine wpTr_one ?_)
            | (with_reducible refine wpTr_alt ?_ ?_)
            | (simp only [pickOps, List.flatMap_cons, List.flatMap_nil, List.drop_succ_cons, List.drop_zero, List.take_succ_cons, List.take_zero, List.cons_append, List.nil_append, List.append_nil]
               go_wp2_with (first
            | (go_at_call 10; refine (HOPI.out _ _ (HVK.out.below hk_.has (by decide))).mono ?_; rintro r_ y5 ⟨v5, rfl, how5, e5⟩; obtain ⟨a5, c5, rfl, -, -⟩ := owns_form how5; have hk5 := HoldT.step hstR hk_ e5; have e5' : Ext _ y5 := e5)
            | (refine wpList_allocB rfl _ rfl _ run_allocEnt ?_; intro y6 ga hGa hga6 e6; have hga0 := Nat.le_trans (Below.size hk_.has) hga6; have hk6 := HoldT.step hstR hk_ e6; have e6' : Ext _ y6 := e6)
            | (refine wpList_store_row rfl 36 (.tmp 16) _ rfl ga #[.int .u64 X, .slice a5 BY.length c5] _ _ rfl rfl (exBl hGa) rfl info_entry (one_ent _ _ _ _) ?_; intro y7 hga7 hsa7 hRa7
               have hbelA : Ext w5 y7 := ext_row hk_.has hga7 hga0
               have hwga : w2.heap.size ≤ ga := Nat.le_trans (Below.size HE25.out) hga0
               have hkA : HoldT (fun u => Ext w5 u) w2 y7 := ⟨hbelA, ext_row hk_.up hga7 hwga⟩
               clear hsa7))
               refine phPost_hold (by first | with_reducible assumption | exact HoldT.alloc hstab (by with_reducible assumption) _ | exact HoldT.alloc hstab (HoldT.alloc hstab (by with_reducible assumption) _) _) ?_
               intro hk_))
          all_goals (
            have HA := Lib.hid hbelA
            have HUA := Lib.hid hk_.up
            have HO7 := Lib.hid (HO5.out.ext hbelA); have HW7 := Lib.hid (HW5.out.ext hbelA)
            clear how5 hq3 hq4 hRa7
            cases K with
            | true =>
              have hw := HWI.out
              rw [Bool.not_true, if_neg (by decide), List.append_nil] at hw
              have HWJ := Lib.hid hw
              clear hw
              go_wp2_with fail
              go_roundw
              case rel => exact ⟨i + 1, rfl, by omega, HO7.out, by rw [HWJ.out]; exact HW7.out, HUA.out⟩
              case measure => (simp [intOf] <;> omega)
            | false =>
              have hw := HWI.out
              rw [Bool.not_false, if_pos rfl] at hw
              have HWJ := Lib.hid hw
              clear hw
              generalize wantL s0 ps from_ ruin N i = WI at *
              go_wp2_with (at_builtin; refine appI (W := w2) (B := 0) rfl _ _ rfl (Nat.zero_le _) _ WI rfl (HW7.out.ext (Ext.alloc _ _)) (.slice (some ⟨y7.heap.size, 0, none⟩) 1 1) [(i : Int)] rfl (SlR.lit1 (R := intR) (y := (i : Int)) (c := [.int .i64 i]) rfl) (by have := HLWI.out; simp only [List.length_cons, List.length_nil]; omega) (Ext.tr HUA.out (Ext.alloc _ _)) ?_; intro v8 w8 hW8 hg8 hb8; have hrow8 := (HW7.out.ext (Ext.alloc y7 (.cells #[.int .i64 (i : Int)] intR.ty))).row; have hO8 := (HO7.out.ext (Ext.alloc _ _)).grownT hg8 hrow8 (by decide) (by decide) (fun _ _ => Nat.zero_le _))
              go_roundw
              case rel => exact ⟨i + 1, rfl, by omega, hO8, by rw [HWJ.out]; exact hW8, hb8⟩
              case measure => (simp [intOf] <;> omega))
        · have HMNI := Lib.hid (HMN.out i hri)
          have hw := HWSI.out
          rw [HMO.out i hri, if_neg (by decide), List.append_nil] at hw
          have HWI := Lib.hid hw
          clear hw
          by_cases hil : i < ruin.length
          · obtain ⟨br, or_, cr', e0, -, -⟩ := HRU0.out.open (by omega)
            obtain ⟨rfl, rfl⟩ : ar = some ⟨br, or_, none⟩ ∧ cr = cr' := by injection e0 with e1 _ e3; exact ⟨e1, e3⟩
            clear e0
            have hrf : ruin[i]? = some false := by
              cases hb : ruin[i]? with
              | none => have := List.getElem?_eq_none_iff.1 hb; omega
              | some b => cases b with
                | true => exact absurd hb hri
                | false => rfl
            have hcb := slBo_at (HRU0.out.ext (Ext.tr HX2.out HX.out)) i false hrf
            clear hri hrf
            go_wp2_with fail
            clear hcb
            go_roundw
            case rel => exact ⟨i + 1, rfl, by omega, by rw [HMNI.out]; exact HM.out, by rw [HWI.out]; exact HW.out, HX.out⟩
            case measure => (simp [intOf] <;> omega)
          · clear hri
            go_wp2_with fail
            go_roundw
            case rel => exact ⟨i + 1, rfl, by omega, by rw [HMNI.out]; exact HM.out, by rw [HWI.out]; exact HW.out, HX.out⟩
            case measure => (simp [intOf] <;> omega)
      · obtain rfl : N = i := by omega
        have HLWN := Lib.hid (HLW.out N)
        clear HWS HMS HMN HMR HMO HOP HSP HEN
        generalize mixL ps from_ ruin N N = F at *
        generalize wantL s0 ps from_ ruin N N = WN at *
        go_wp2_with fail
        have hstR := stabE wr
        have hk15 : HoldT (fun u => Ext wr u) w2 wr.drew := HoldT.drew hstR ⟨Ext.refl _, HX.out⟩
        try change Code.wp _ _ _ (Act.mk _ _) _
        haveI hne_ : Nonempty (InC (fun u => Ext wr u)) := ⟨⟨_, (hk15).1⟩⟩
        refine wp_region_tr (C := fun w_ => ∃ e_ : InC (fun u => Ext wr u), w_ = e_.u) (.step [0, 1, 2, 3, 4, 5, 6] (.alt 7 (.step [8, 9, 10] (.alt 11 (.step [] (.alt 12 (.fin [13]) .nil)) .nil)) (.alt 11 (.step [] (.alt 7 (.step [8, 9, 10] (.alt 12 (.fin [13]) .nil)) .nil)) .nil))) (by kernel_rfl) (by kernel_rfl) (fun _ _ _ _ hd_ h_ => ⟨hd_.symm.trans h_.1, h_.2⟩) ⟨⟨World.drew _, (hk15).1⟩, rfl⟩ ?_
        have hk_ := hk15
        repeat' (first
          | ((with_reducible refine wpTr_fin ?_)
             simp only [pickOps, List.flatMap_cons, List.flatMap_nil, List.drop_succ_cons, List.drop_zero, List.take_succ_cons, List.take_zero, List.cons_append, List.nil_append, List.append_nil]
             repeat (first | (first | (refine wpQuiet_load_mid rfl 41 (.tmp 92) rfl bS oS rfl s0.cells _ (fun w_ hw_ => by obtain ⟨e_, rfl⟩ := hw_; exact range_below HSR.out (Ext.tr HX.out e_.has)) Tryz.underlying41 rfl HIS.out ?_; simp only [Act.put, List.setIfInBounds_toArray, List.set_cons_succ, List.set_cons_zero]) | (refine wpQuiet_load_mid rfl 49 (.tmp 95) rfl bP oP rfl p0.cells _ (fun w_ hw_ => by obtain ⟨e_, rfl⟩ := hw_; exact range_below HPR.out (Ext.tr HX.out e_.has)) Tryz.underlying49 rfl HIP.out ?_; simp only [Act.put, List.setIfInBounds_toArray, List.set_cons_succ, List.set_cons_zero])) | go_big_quiet_step (exact rfl))
             refine wpQuiet_nil ?_)
          | ((with_reducible refine wpTr_step ?_); simp only [pickOps, List.flatMap_cons, List.flatMap_nil, List.drop_succ_cons, List.drop_zero, List.take_succ_cons, List.take_zero, List.cons_append, List.nil_append, List.append_nil]; repeat (first | (first | (refine wpQuiet_load_mid rfl 41 (.tmp 92) rfl bS oS rfl s0.cells _ (fun w_ hw_ => by obtain ⟨e_, rfl⟩ := hw_; exact range_below HSR.out (Ext.tr HX.out e_.has)) Tryz.underlying41 rfl HIS.out ?_; simp only [Act.put, List.setIfInBounds_toArray, List.set_cons_succ, List.set_cons_zero]) | (refine wpQuiet_load_mid rfl 49 (.tmp 95) rfl bP oP rfl p0.cells _ (fun w_ hw_ => by obtain ⟨e_, rfl⟩ := hw_; exact range_below HPR.out (Ext.tr HX.out e_.has)) Tryz.underlying49 rfl HIP.out ?_; simp only [Act.put, List.setIfInBounds_toArray, List.set_cons_succ, List.set_cons_zero])) | go_big_quiet_step (exact rfl))
             refine wpQuiet_nil ?_)
          | (with_reducible refine wpTr_one ?_)
          | (with_reducible refine wpTr_alt ?_ ?_)
          | (simp only [pickOps, List.flatMap_cons, List.flatMap_nil, List.drop_succ_cons, List.drop_zero, List.take_succ_cons, List.take_zero, List.cons_append, List.nil_append, List.append_nil]
             go_wp2_with (first
          | (go_at_call 11; refine (HRU.out _ _ (HM.out.sl.ext hk_.has)).mono ?_; rintro r_ x5 ⟨vE, vB, rfl, hE5, hB5, e5⟩; obtain ⟨aE, cE, rfl, -, -⟩ := hE5.form; obtain ⟨aB, cB, rfl, -, -⟩ := hB5.form; have hk5 := HoldT.step hstR hk_ e5; have e5' : Ext _ x5 := e5)
          | (refine wpList_allocB rfl _ rfl PasZ run_allocPas2 ?_; intro x6 g hG hg6 e6; have hg0 := Nat.le_trans (Below.size hk_.has) hg6; have hk6 := HoldT.step hstR hk_ e6; have e6' : Ext _ x6 := e6)
          | (refine wpList_store_row rfl 45 (.tmp 18) _ rfl g #[.slice aE RUN.es.length cE, .int .u64 RUN.p.c, .int .u64 RUN.p.s] _ _ rfl rfl (exBl hG) rfl info_pas (one_pas2 _ _ _ _ _) ?_; intro x7 hg7 hs7 hR7
             have hwg : w2.heap.size ≤ g := Nat.le_trans (Below.size HX.out) hg0
             have hbel7 : Ext wr x7 := ext_row hk_.has hg7 hg0
             have hk7 : HoldT (fun u => Ext wr u) w2 x7 := ⟨hbel7, ext_row hk_.up hg7 hwg⟩
             have hB7 := (hB5.ext (w := x5)).grownT hg7 (RowT.blk (exBl hG)) (by decide) (by decide) (fun _ _ => Nat.zero_le _)
             clear hs7))
             refine phPost_hold (by first | with_reducible assumption | exact HoldT.alloc hstab (by with_reducible assumption) _ | exact HoldT.alloc hstab (HoldT.alloc hstab (by with_reducible assumption) _) _) ?_
             intro hk_))
        all_goals (
          have HUP := Lib.hid (Ext.tr HX2.out hk_.up)
          have HB7 := Lib.hid hB7.sl; have HW7 := Lib.hid (HW.out.sl.ext hbel7); have HR7 := Lib.hid hR7
          clear hB7 hB5 hE5
          by_cases hwn : WN = []
          · have hrl := HRE.out.1 hwn
            subst hwn
            have HRL := Lib.hid hrl
            have hq7 : x7.cell? ⟨g, 0, none⟩ = some (.slice aE N cE) := by rw [hR7.cell, ← hrl]; rfl
            clear hR7 hrl
            go_wp2_with (go_at_call 12; refine (SameInts2_any [] 0 _ _ _ HB7.out HW7.out (by simp)).mono ?_; rintro r_ x8 ⟨rfl, hb8⟩; have e8 : Ext x7 x8 := hb8; have hq8 := (Below.cell e8 (World.block_lt_of_cell? _ _ hq7)).trans hq7; clear hq7)
            go_ret
            exact ⟨rfl, Ext.tr HUP.out e8⟩
          · have hre := HRE.out.2 hwn
            subst hre
            have hpos := List.length_pos_iff.2 hwn
            have hz1 : ((WN.length : Int) == 0) = false := by rw [beq_eq_false_iff_ne]; omega
            have hz2 : (0 : Int) < (WN.length : Int) := by omega
            clear hR7 hwn HRE HRU
            go_wp2_with (first
              | (go_at_call 12; refine (SameInts2_any WN 0 _ _ _ HB7.out HW7.out (by have := HLWN.out; omega)).mono ?_; rintro r_ x8 ⟨rfl, hb8⟩; have e8 : Ext x7 x8 := hb8; have hR8 := HR7.out.below e8; have hq8 : x8.cell? ⟨g, 0, none⟩ = some (.slice aE 0 cE) := (by rw [hR8.cell]; rfl))
              | (refine wpList_load_midG rfl 43 (.tmp 126) rfl g 1 rfl _ _ (pas_prf hR8) Tryz.underlying43 rfl info_proof ?_)
              | (refine wpList_build0G rfl 43 rfl _ (run_buildPrf0 _) ?_)
              | (refine wpList_eqP rfl _ _ rfl _ _ _ _ rfl rfl ?_))
            go_ret
            exact ⟨by simp, Ext.tr HUP.out e8⟩)
  · have HG := Lib.hid hg; clear hg
    go_enter Tryz.func3, Tryz.ntmps3
    go_wp2_with (first
      | (go_at_call 6; refine (alive19_any _).mono ?_; rintro e w1 ⟨rfl, hb1⟩; have hkey1 := hk0.out.below hb1; have e1 : Ext w w1 := Ext.tr hb0.out hb1)
      | (refine wpList_load_row rfl 23 _ rfl w.heap.size rfl _ (keyA seed) (0, 0) _ hkey1 under_key rfl (by rw [keyA_size, HK.out]; exact info_key) ?_)
      | (go_at_call 7; refine (HRR.out _).mono ?_; rintro e w2 ⟨v2, u2, rfl, hok2, hb2⟩; have hbel2 : Ext w w2 := Ext.tr e1 hb2))
    all_goals (first | (exfalso; have := HG.out; omega) | (go_ret; exact ⟨rfl, hbel2⟩))
end Go.Proofs.YtmbgcjfmfkddpaaGreat
