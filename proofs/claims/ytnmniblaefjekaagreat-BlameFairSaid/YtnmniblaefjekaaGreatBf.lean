/-
  BlameFair: walked.
-/
import Derived.Test.YtnmniblaefjekaaGreatMade
import Derived.Test.YtnmniblaefjekaaGreatHop3
import Derived.Test.YtnmniblaefjekaaGreatHon
import Derived.Test.YtnmniblaefjekaaGreatBl8
namespace Go.Proofs.YtnmniblaefjekaaGreat
set_option linter.unusedVariables false
set_option linter.unusedSimpArgs false
open Go Go.RowKit

theorem made_good {ss : List Sec} {dd : List (List Int)} {H : Nat} {from_ : Int} : ∀ n, ∀ e ∈ madeL (chainL ss dd) from_ n, Good ss dd H 0 e
  | 0, e, h => by cases h
  | n + 1, e, h => by
    rw [madeL] at h
    rcases List.mem_append.1 h with h | h
    · exact made_good n e h
    · rw [List.mem_singleton] at h; subst h
      exact ⟨madeX from_ n, put64 n, -1, madeX_in _ _, by rw [length_put64]; decide, fun j _ => by omega, rfl⟩
theorem answerL_ok {s : Sec} {p : Pub} {j : Nat} {e : Ent} {a b : Int} (hj : j ≤ 1000) (he : e.ok) : (answerL s p j e a b).ok :=
  ⟨⟨by show (-9223372036854775808 : Int) ≤ (j : Int); omega, by show (j : Int) ≤ 9223372036854775807; omega⟩, he, in64_P (timesP_pos _ _), equalP_ok _ _ _ _ _ _, equalP_ok _ _ _ _ _ _⟩
theorem run_allocPas (w : World) : (Instr.alloc 70 true (.tuple #[])).run Tryz.prog w = .ok (.pointer (some ⟨w.heap.size, 0, none⟩)) (w.alloc (.cells PasZ 70)) := by simp [go_sem]
theorem one_pas (a : Option Addr) (n c : Nat) (x y : Int) : ∀ v ∈ (#[Value.slice a n c, .int .u64 x, .int .u64 y] : Array Value).toList, v.oneCell' = true := by
  intro v hv; simp at hv; rcases hv with rfl | rfl | rfl <;> rfl
set_option maxRecDepth 100000 in
set_option maxHeartbeats 8000000 in
theorem BlameFair_any (seed : List UInt8) (k n place at_ from_ : Int) (order : List Int) (a b : Int) (vo : Value) (w : World) (h32 : seed.length = 32) (hk : inI k) (hn : inI n) (hpl : inI place) (hat : inI at_) (hf : in64 from_) (ha : in64 a) (hb : in64 b)
    (ho : SlR intR w.heap.size w vo order) :
    Calls Tryz.prog 8 #[.agg (keyA seed), .int .i64 k, .int .i64 n, .int .i64 place, .int .i64 at_, .int .u64 from_, vo, .int .u64 a, .int .u64 b] w fun e w' => e = .returned (.bool true) ∧ Below w.heap.size w w' := by
  obtain ⟨ao, co, rfl, hol1, hol2⟩ := ho.form
  have hol := Nat.le_trans hol1 hol2
  clear hol1 hol2
  have HK := Lib.hid h32; clear h32
  have HKI := Lib.hid hk
  obtain ⟨k0, k1⟩ := hk
  obtain ⟨n0, n1⟩ := hn
  obtain ⟨p0, p1⟩ := hpl
  obtain ⟨t0, t1⟩ := hat
  have HO := Lib.hid ho; clear ho
  have hk0 := Lib.hid (Blk.new w (keyA seed) 23)
  have hb0 := Lib.hid (show Below w.heap.size w (w.alloc (.cells (keyA seed) 23)) by go_grown)
  by_cases hr : 1 ≤ k ∧ k ≤ 6
  · have HD := Lib.hid (decide_eq_true hr)
    by_cases hg : (1 ≤ n ∧ n ≤ 6) ∧ (0 ≤ place ∧ place < k) ∧ (0 ≤ at_ ∧ at_ < n)
    · obtain ⟨⟨g1, g2⟩, ⟨g3, g4⟩, g5, g6⟩ := hg
      obtain ⟨K, rfl⟩ : ∃ K : Nat, k = K := ⟨k.toNat, by omega⟩
      obtain ⟨N, rfl⟩ : ∃ N : Nat, n = N := ⟨n.toNat, by omega⟩
      obtain ⟨PL, rfl⟩ : ∃ P : Nat, place = P := ⟨place.toNat, by omega⟩
      obtain ⟨A, rfl⟩ : ∃ A : Nat, at_ = A := ⟨at_.toNat, by omega⟩
      have hd1 : ¬ (N : Int) < 1 := by omega
      have hd2 : ¬ (6 : Int) < (N : Int) := by omega
      have hd3 : decide ((PL : Int) < 0) = false := decide_eq_false (by omega)
      have hd4 : decide (K ≤ PL) = false := decide_eq_false (by omega)
      have hd5 : decide ((A : Int) < 0) = false := decide_eq_false (by omega)
      have hd6 : decide (N ≤ A) = false := decide_eq_false (by omega)
      have hLS := length_keysSL seed 3 4 (K : Int).toNat
      have hSO := keysSL_ok seed 3 4 (K : Int).toNat
      have hPO : ∀ p ∈ keysP seed 3 4 (K : Int).toNat, p.ok := chainN_ok _ _ _
      have hRR := fun (u : World) => LChain_any seed K u HK.out HKI.out
      unfold RetC at hRR
      rw [show keysP seed 3 4 (K : Int).toNat = chainL (keysSL seed 3 4 (K : Int).toNat) (keysDL seed 3 4 (K : Int).toNat) from rfl] at hPO hRR
      generalize keysDL seed 3 4 (K : Int).toNat = dd at *
      generalize keysSL seed 3 4 (K : Int).toNat = ss at *
      rw [Int.toNat_natCast] at hLS
      have hLP : (chainL ss dd).length = K := by rw [length_chainL]; exact hLS
      have HRR := Lib.hid hRR; have HLS := Lib.hid hLS; have HLP := Lib.hid hLP; have HSO := Lib.hid hSO; have HPO := Lib.hid hPO
      have HPU := Lib.hid fun i s p (h1 : ss[i]? = some s) (h2 : (chainL ss dd)[i]? = some p) => pubOf_chain hSO h1 h2
      have HLV := Lib.hid fun (O : Nat → List Int) (i : Nat) (hi : i ≤ K) => lev_good (draw := from_) (O := O) hSO (show ss.length ≤ 1000 by omega) (show K ≤ ss.length by omega) (made_good (ss := ss) (dd := dd) (H := K) (from_ := from_) N) i hi
      have HGR := Lib.hid fun (i : Nat) (es : List Ent) (s : Sec) (h : ∀ e ∈ es, Good ss dd K i e) (hi : i < K) (hs : ss[i]? = some s) (p : Pub) (od : List Int) => good_run h hi hs hSO (show ss.length ≤ 1000 by omega) p od from_
      have HGK := Lib.hid fun (i : Nat) (e : Ent) (h : Good ss dd K i e) => (show e.ok ∧ e.box.length ≤ 20000000000000 from ⟨⟨Int.le_of_lt (h.ok hSO).1, Int.lt_trans (h.ok hSO).2 (by decide)⟩, Nat.le_trans (h.len (show ss.length ≤ 1000 by omega)) (by decide)⟩)
      have HOPN := Lib.hid fun (i : Nat) (e : Ent) (s : Sec) (h : Good ss dd K i e) (hi : i < K) (hs : ss[i]? = some s) => h.open hi hs hSO (show ss.length ≤ 1000 by omega)
      have HMD := Lib.hid fun (w' : World) (v : Value) (h : SeesP w' v (chainL ss dd)) => Made19_any (chainL ss dd) N from_ v w' h hPO (by omega) (by omega) (by omega) hf
      clear hRR hLS hLP hSO hPO
      generalize hPS : chainL ss dd = ps at *
      clear hPS
      have hPLK : PL < K := by omega
      obtain ⟨sP, hsP⟩ : ∃ s, ss[PL]? = some s := ⟨_, List.getElem?_eq_getElem (by rw [HLS.out]; exact hPLK)⟩
      obtain ⟨pP, hpP⟩ : ∃ p, ps[PL]? = some p := ⟨_, List.getElem?_eq_getElem (by rw [HLP.out]; exact hPLK)⟩
      have HSP := Lib.hid hsP; have HPP := Lib.hid hpP
      clear hsP hpP
      go_enter Tryz.func8, Tryz.ntmps8
      go_wp2_with (first
        | (go_at_call 20; refine (alive20_any _).mono ?_; rintro e w1 ⟨rfl, hb1⟩; have hkey1 := hk0.out.below hb1; have hbel1 := hb0.out.trans (hb1.mono hb0.out.size))
        | (refine wpList_load_row rfl 23 _ rfl w.heap.size rfl _ (keyA seed) (0, 0) _ hkey1 under_key rfl (by rw [keyA_size, HK.out]; exact info_key) ?_)
        | (go_at_call 10; refine (HRR.out _).mono ?_; rintro e w2 ⟨v2, u2, rfl, hok2, hb2⟩; rw [HD.out]; have hbel2 : Ext w w2 := hbel1.trans (hb2.mono hbel1.size)
           have HS2 := Lib.hid (show SeesS w2 v2 ss from sees_of_owns (hok2 hr).1)
           have HP2 := Lib.hid (show SeesP w2 u2 ps from sees_of_owns (hok2 hr).2)
           clear hok2)
        | (go_at_call 26; refine (HMD.out _ _ HP2.out).mono ?_; rintro e w3 ⟨v3, rfl, hown3, hb3⟩
           have hbel3 : Ext w w3 := Ext.tr hbel2 hb3))
      rw [Int.toNat_natCast] at hown3
      obtain ⟨bS, oS, cS, rfl, -, -, -⟩ := seesS_open HS2.out (by rw [HLS.out]; omega)
      obtain ⟨bP, oP, cP, rfl, -, -, -⟩ := seesP_open HP2.out (by rw [HLP.out]; omega)
      have HSA := Lib.hid fun i s (h : ss[i]? = some s) => seesS_at HS2.out (by rw [HLS.out]; omega) i s h
      have HPA := Lib.hid fun i p (h : ps[i]? = some p) => seesP_at HP2.out (by rw [HLP.out]; omega) i p h
      have HB3 : Hid (Ext w2 w3) := Lib.hid hb3
      have HBL3 := Lib.hid hbel3
      have HOW3 := Lib.hid hown3
      clear hown3 hb3 hbel3 HMD HRR
      rw [HLS.out, HLP.out]
      go_loopw [23, 24, 25, 26] (fun lv i _ _ wr => ∃ (m Bm : Nat), i = .int .i64 m ∧ m ≤ PL ∧ SlR entR Bm wr lv (levN ss ps from_ (fun _ => []) (madeL ps from_ N) m) ∧ Ext w2 wr) (fun _ i _ _ _ => PL - (intOf i).toNat)
      case atStart => exact ⟨0, _, rfl, Nat.zero_le _, HOW3.out.sl, HB3.out⟩
      case round =>
        obtain ⟨m, Bm, rfl, hm, hlv, hX⟩ := hrel
        have HX := Lib.hid hX
        obtain ⟨aL, cL, rfl, -, -⟩ := hlv.form
        have HL := Lib.hid hlv
        clear hX hlv
        obtain ⟨hl1, hl2⟩ := HLV.out (fun _ => []) m (by omega)
        rw [length_madeL] at hl1
        by_cases hlt : m < PL
        · obtain ⟨s, hs⟩ : ∃ s, ss[m]? = some s := ⟨_, List.getElem?_eq_getElem (by rw [HLS.out]; omega)⟩
          obtain ⟨p, hp⟩ : ∃ p, ps[m]? = some p := ⟨_, List.getElem?_eq_getElem (by rw [HLP.out]; omega)⟩
          have HSU := Lib.hid (levN_succ (draw := from_) (O := fun _ => []) (l0 := madeL ps from_ N) hs hp)
          have HHO := Lib.hid fun (w' : World) (h : Ext wr w') => Hopr_any s p m _ [] from_ Bm _ (.slice none 0 0) w' (HSO.out s (List.mem_of_getElem? hs)) (HPO.out p (List.mem_of_getElem? hp)) hf (HL.out.ext h) (SlR.nil Bm _) (fun e he => HGK.out m e (hl2 e he)) (by rw [hl1]; omega) (Nat.zero_le _)
          have HRS := Lib.hid (HSA.out m s hs); have HRP := Lib.hid (HPA.out m p hp)
          unfold RetH at HHO
          have HLL := Lib.hid hl1
          clear hs hp hl1 hl2
          generalize levN ss ps from_ (fun _ => []) (madeL ps from_ N) m = LM at *
          generalize runL s p m LM [] from_ = RUN at *
          generalize failsL s m LM = FL at *
          have hdS : decide (K ≤ m) = false := decide_eq_false (by omega)
          go_wp2_with fail
          have hstab := stabE wr
          have hkH : HoldT (fun u => Ext wr u) w wr.drew := HoldT.drew hstab ⟨Ext.refl _, Ext.tr hbel2 HX.out⟩
          try change Code.wp _ _ _ (Act.mk _ _) _
          haveI hne_ : Nonempty (InC (fun u => Ext wr u)) := ⟨⟨_, (hkH).1⟩⟩
          refine wp_region_tr (C := fun w_ => ∃ e_ : InC (fun u => Ext wr u), w_ = e_.u) (.step [0, 1, 2, 3, 4, 5, 6, 7, 8, 9, 10] (.alt 11 (.step [12, 13, 14] (.alt 15 (.step [] (.alt 16 (.fin [17]) .nil)) .nil)) (.alt 15 (.step [] (.alt 11 (.step [12, 13, 14] (.alt 16 (.fin [17]) .nil)) .nil)) .nil))) (by kernel_rfl) (by kernel_rfl) (fun _ _ _ _ hd_ h_ => ⟨hd_.symm.trans h_.1, h_.2⟩) ⟨⟨World.drew _, (hkH).1⟩, rfl⟩ ?_
          have hk_ := hkH
          repeat' (first
            | ((with_reducible refine wpTr_fin ?_)
               simp only [pickOps, List.flatMap_cons, List.flatMap_nil, List.drop_succ_cons, List.drop_zero, List.take_succ_cons, List.take_zero, List.cons_append, List.nil_append, List.append_nil]
               repeat (first | (first | (refine wpQuiet_load_mid rfl 54 (.tmp 83) rfl bS (oS + m * 3) rfl s.cells _ (fun w_ hw_ => by obtain ⟨e_, rfl⟩ := hw_; exact range_below HRS.out (Ext.tr HX.out e_.has)) Tryz.underlying54 rfl info_sec ?_; simp only [Act.put, List.setIfInBounds_toArray, List.set_cons_succ, List.set_cons_zero]) | (refine wpQuiet_load_mid rfl 60 (.tmp 87) rfl bP (oP + m * 10) rfl p.cells _ (fun w_ hw_ => by obtain ⟨e_, rfl⟩ := hw_; exact range_below HRP.out (Ext.tr HX.out e_.has)) Tryz.underlying60 rfl info_pub ?_; simp only [Act.put, List.setIfInBounds_toArray, List.set_cons_succ, List.set_cons_zero])) | go_big_quiet_step (exact rfl))
               refine wpQuiet_nil ?_)
            | ((with_reducible refine wpTr_step ?_); simp only [pickOps, List.flatMap_cons, List.flatMap_nil, List.drop_succ_cons, List.drop_zero, List.take_succ_cons, List.take_zero, List.cons_append, List.nil_append, List.append_nil]; repeat (first | (first | (refine wpQuiet_load_mid rfl 54 (.tmp 83) rfl bS (oS + m * 3) rfl s.cells _ (fun w_ hw_ => by obtain ⟨e_, rfl⟩ := hw_; exact range_below HRS.out (Ext.tr HX.out e_.has)) Tryz.underlying54 rfl info_sec ?_; simp only [Act.put, List.setIfInBounds_toArray, List.set_cons_succ, List.set_cons_zero]) | (refine wpQuiet_load_mid rfl 60 (.tmp 87) rfl bP (oP + m * 10) rfl p.cells _ (fun w_ hw_ => by obtain ⟨e_, rfl⟩ := hw_; exact range_below HRP.out (Ext.tr HX.out e_.has)) Tryz.underlying60 rfl info_pub ?_; simp only [Act.put, List.setIfInBounds_toArray, List.set_cons_succ, List.set_cons_zero])) | go_big_quiet_step (exact rfl))
               refine wpQuiet_nil ?_)
            | (with_reducible refine wpTr_one ?_)
            | (with_reducible refine wpTr_alt ?_ ?_)
            | (simp only [pickOps, List.flatMap_cons, List.flatMap_nil, List.drop_succ_cons, List.drop_zero, List.take_succ_cons, List.take_zero, List.cons_append, List.nil_append, List.append_nil]
               go_wp2_with (first
            | (go_at_call 27; refine (HHO.out _ hk_.has).mono ?_; rintro r_ x5 ⟨vE, vB, rfl, hE5, hB5, e5⟩; obtain ⟨aE, cE, rfl, -, -⟩ := hE5.form; have hk5 := HoldT.step hstab hk_ e5; have e5' : Ext _ x5 := e5)
            | (refine wpList_allocB rfl _ rfl PasZ run_allocPas ?_; intro x6 g hG hg6 e6; have hg0 := Nat.le_trans (Below.size hk_.has) hg6; have hk6 := HoldT.step hstab hk_ e6; have e6' : Ext _ x6 := e6)
            | (refine wpList_store_row rfl 70 (.tmp 25) _ rfl g #[.slice aE RUN.es.length cE, .int .u64 RUN.p.c, .int .u64 RUN.p.s] _ _ rfl rfl (exBl hG) rfl info_pas (one_pas _ _ _ _ _) ?_; intro x7 hg7 hs7 hR7
               have hwg : w.heap.size ≤ g := Nat.le_trans (Below.size (Ext.tr hbel2 HX.out)) hg0
               have hbel7 : Ext wr x7 := ext_row hk_.has hg7 hg0
               have hk7 : HoldT (fun u => Ext wr u) w x7 := ⟨hbel7, ext_row hk_.up hg7 hwg⟩
               have hO7 := (hE5.ext (w := x5)).grownT hg7 (RowT.blk (exBl hG)) (by decide) (by decide) (fun _ _ => Nat.zero_le _)
               clear hs7))
               refine phPost_hold (by first | with_reducible assumption | exact HoldT.alloc hstab (by with_reducible assumption) _ | exact HoldT.alloc hstab (HoldT.alloc hstab (by with_reducible assumption) _) _) ?_
               intro hk_))
          all_goals (
            have hq7 : x7.cell? ⟨g, 0, none⟩ = some (.slice aE RUN.es.length cE) := by rw [hR7.cell]; rfl
            go_wp2_with fail
            go_roundw
            case rel => exact ⟨m + 1, _, rfl, by omega, by rw [HSU.out]; exact hO7.sl, Ext.tr HX.out hbel7⟩
            case measure => (simp [intOf] <;> omega))
        · obtain rfl : m = PL := by omega
          have hRUN := HGR.out m _ sP hl2 hPLK HSP.out pP order
          obtain ⟨-, hes, hgo⟩ := hRUN
          have HHO := Lib.hid fun (w' : World) (h : Ext wr w') => Hopr_any sP pP m _ order from_ (max Bm w.heap.size) _ _ w' (HSO.out sP (List.mem_of_getElem? HSP.out)) (HPO.out pP (List.mem_of_getElem? HPP.out)) hf ((HL.out.ext h).mono (Nat.le_max_left _ _)) ((HO.out.ext (Ext.tr (Ext.tr hbel2 HX.out) h)).mono (Nat.le_max_right _ _)) (fun e he => HGK.out m e (hl2 e he)) (by rw [hl1]; omega) hol
          have HRS := Lib.hid (HSA.out m sP HSP.out); have HRP := Lib.hid (HPA.out m pP HPP.out)
          have hpub := HPU.out m sP pP HSP.out HPP.out
          have hsok := HSO.out sP (List.mem_of_getElem? HSP.out)
          have hpok := HPO.out pP (List.mem_of_getElem? HPP.out)
          unfold RetH at HHO
          have HLL := Lib.hid hl1
          have HGG := Lib.hid fun e he => HGK.out m e (hl2 e he)
          have hAop := fun (j : Nat) (hj : j < N) => (show ∃ e0 out, (levN ss ps from_ (fun _ => []) (madeL ps from_ N) m)[j]? = some e0 ∧ opE sP m e0 = some out ∧ out.ok by
            have hjl : j < (levN ss ps from_ (fun _ => []) (madeL ps from_ N) m).length := by rw [hl1]; exact hj
            have hge := List.getElem?_eq_getElem hjl
            have hmem := List.mem_of_getElem? hge
            obtain ⟨out, ho, -⟩ := HOPN.out m _ sP (hl2 _ hmem) hPLK HSP.out
            exact ⟨_, out, hge, ho, (opE_ok ho).1⟩)
          clear hl1 hl2 hgo
          generalize levN ss ps from_ (fun _ => []) (madeL ps from_ N) m = LM at *
          have HGN := Lib.hid fun e => orderL_get_no (L := opened sP m LM) (order := order) (n := A) (e := e)
          have HGY := Lib.hid fun k e => orderL_get (L := opened sP m LM) (order := order) (n := A) (k := k) (e := e)
          have hlo : (opened sP m LM).length = N := by rw [length_opened]; exact HLL.out
          rw [← hes] at HGN HGY
          rw [hlo] at HGN HGY
          clear hes hlo
          generalize runL sP pP m LM order from_ = RUN at *
          generalize failsL sP m LM = FL at *
          have hRO := Lib.hid fun (w' : World) (h : Ext w w') => RightOrderr_any order w.heap.size _ w' (HO.out.ext h) hol
          by_cases hop : order.length = N
          · have hq1 : (order.length == N) = true := by rw [hop]; exact beq_self_eq_true _
            have hq2 : ((order.length : Int) == (N : Int)) = true := by rw [hop]; exact beq_self_eq_true _
            have hq3 : ((order.length : Int) = (N : Int)) = True := by rw [hop]; exact eq_self _
            have hq4 : (order.length = N) = True := by rw [hop]; exact eq_self _
            by_cases hpm : permOk order
            · have HPF := Lib.hid (decide_eq_true hpm)
              obtain ⟨x, hxo⟩ : ∃ x, order[A]? = some x := ⟨_, List.getElem?_eq_getElem (by omega)⟩
              have hxr := hpm.1 x (List.mem_of_getElem? hxo)
              obtain ⟨J, rfl⟩ : ∃ k : Nat, x = k := ⟨x.toNat, by omega⟩
              have hJN : J < N := by omega
              obtain ⟨e0, out, he0, hopn, hok⟩ := hAop J hJN
              have hout := HGY.out J out ⟨hop, hpm⟩ hxo (opened_get he0 hopn)
              obtain ⟨bo, oo, co', e1, -, -⟩ := HO.out.open (by omega)
              obtain ⟨rfl, rfl⟩ : ao = some ⟨bo, oo, none⟩ ∧ co = co' := by injection e1 with e1 _ e3; exact ⟨e1, e3⟩
              clear e1 hxr hpm
              have hdo : A < order.length := by omega
              have HXO := Lib.hid hxo
              have HE0 := Lib.hid he0; have HOPN0 := Lib.hid hopn; have HOU := Lib.hid hout; have HOK := Lib.hid hok
              clear hop hxo he0 hopn hout hok hAop
              go_wp2_with fail
              have hstab := stabE wr
              have hkH : HoldT (fun u => Ext wr u) w wr.drew := HoldT.drew hstab ⟨Ext.refl _, Ext.tr hbel2 HX.out⟩
              try change Code.wp _ _ _ (Act.mk _ _) _
              haveI hne_ : Nonempty (InC (fun u => Ext wr u)) := ⟨⟨_, (hkH).1⟩⟩
              refine wp_region_tr (C := fun w_ => ∃ e_ : InC (fun u => Ext wr u), w_ = e_.u) (.step [0, 1, 2, 3, 4, 5, 6, 7, 8, 9, 10, 11] (.alt 12 (.step [13, 14, 15] (.alt 16 (.step [] (.alt 17 (.fin [18]) .nil)) .nil)) (.alt 16 (.step [] (.alt 12 (.step [13, 14, 15] (.alt 17 (.fin [18]) .nil)) .nil)) .nil))) (by kernel_rfl) (by kernel_rfl) (fun _ _ _ _ hd_ h_ => ⟨hd_.symm.trans h_.1, h_.2⟩) ⟨⟨World.drew _, (hkH).1⟩, rfl⟩ ?_
              have hk_ := hkH
              repeat' (first
                | ((with_reducible refine wpTr_fin ?_)
                   simp only [pickOps, List.flatMap_cons, List.flatMap_nil, List.drop_succ_cons, List.drop_zero, List.take_succ_cons, List.take_zero, List.cons_append, List.nil_append, List.append_nil]
                   repeat (first | (first | (refine wpQuiet_load_mid rfl 54 (.tmp 100) rfl bS (oS + m * 3) rfl sP.cells _ (fun w_ hw_ => by obtain ⟨e_, rfl⟩ := hw_; exact range_below HRS.out (Ext.tr HX.out e_.has)) Tryz.underlying54 rfl info_sec ?_; simp only [Act.put, List.setIfInBounds_toArray, List.set_cons_succ, List.set_cons_zero]) | (refine wpQuiet_load_mid rfl 60 (.tmp 104) rfl bP (oP + m * 10) rfl pP.cells _ (fun w_ hw_ => by obtain ⟨e_, rfl⟩ := hw_; exact range_below HRP.out (Ext.tr HX.out e_.has)) Tryz.underlying60 rfl info_pub ?_; simp only [Act.put, List.setIfInBounds_toArray, List.set_cons_succ, List.set_cons_zero])) | go_big_quiet_step (exact rfl))
                   refine wpQuiet_nil ?_)
                | ((with_reducible refine wpTr_step ?_); simp only [pickOps, List.flatMap_cons, List.flatMap_nil, List.drop_succ_cons, List.drop_zero, List.take_succ_cons, List.take_zero, List.cons_append, List.nil_append, List.append_nil]; repeat (first | (first | (refine wpQuiet_load_mid rfl 54 (.tmp 100) rfl bS (oS + m * 3) rfl sP.cells _ (fun w_ hw_ => by obtain ⟨e_, rfl⟩ := hw_; exact range_below HRS.out (Ext.tr HX.out e_.has)) Tryz.underlying54 rfl info_sec ?_; simp only [Act.put, List.setIfInBounds_toArray, List.set_cons_succ, List.set_cons_zero]) | (refine wpQuiet_load_mid rfl 60 (.tmp 104) rfl bP (oP + m * 10) rfl pP.cells _ (fun w_ hw_ => by obtain ⟨e_, rfl⟩ := hw_; exact range_below HRP.out (Ext.tr HX.out e_.has)) Tryz.underlying60 rfl info_pub ?_; simp only [Act.put, List.setIfInBounds_toArray, List.set_cons_succ, List.set_cons_zero])) | go_big_quiet_step (exact rfl))
                   refine wpQuiet_nil ?_)
                | (with_reducible refine wpTr_one ?_)
                | (with_reducible refine wpTr_alt ?_ ?_)
                | (simp only [pickOps, List.flatMap_cons, List.flatMap_nil, List.drop_succ_cons, List.drop_zero, List.take_succ_cons, List.take_zero, List.cons_append, List.nil_append, List.append_nil]
                   go_wp2_with (first
                | (go_at_call 27; refine (HHO.out _ hk_.has).mono ?_; rintro r_ x5 ⟨vE, vB, rfl, hE5, hB5, e5⟩; obtain ⟨aE, cE, rfl, -, -⟩ := hE5.form; have hk5 := HoldT.step hstab hk_ e5; have e5' : Ext _ x5 := e5)
                | (refine wpList_allocB rfl _ rfl PasZ run_allocPas ?_; intro x6 g hG hg6 e6; have hg0 := Nat.le_trans (Below.size hk_.has) hg6; have hk6 := HoldT.step hstab hk_ e6; have e6' : Ext _ x6 := e6)
                | (refine wpList_store_row rfl 70 (.tmp 27) _ rfl g #[.slice aE RUN.es.length cE, .int .u64 RUN.p.c, .int .u64 RUN.p.s] _ _ rfl rfl (exBl hG) rfl info_pas (one_pas _ _ _ _ _) ?_; intro x7 hg7 hs7 hR7
                   have hwg : w.heap.size ≤ g := Nat.le_trans (Below.size (Ext.tr hbel2 HX.out)) hg0
                   have hbel7 : Ext wr x7 := ext_row hk_.has hg7 hg0
                   have hk7 : HoldT (fun u => Ext wr u) w x7 := ⟨hbel7, ext_row hk_.up hg7 hwg⟩
                   have hO7 := (hE5.ext (w := x5)).grownT hg7 (RowT.blk (exBl hG)) (by decide) (by decide) (fun _ _ => Nat.zero_le _)
                   clear hs7))
                   refine phPost_hold (by first | with_reducible assumption | exact HoldT.alloc hstab (by with_reducible assumption) _ | exact HoldT.alloc hstab (HoldT.alloc hstab (by with_reducible assumption) _) _) ?_
                   intro hk_))
              all_goals (
                have hq7 : x7.cell? ⟨g, 0, none⟩ = some (.slice aE RUN.es.length cE) := by rw [hR7.cell]; rfl
                go_wp2_with (go_at_call 24; refine (hRO.out _ (Ext.tr (Ext.tr hbel2 HX.out) hbel7)).mono ?_; rintro r_ xq ⟨rfl, hbq⟩; rw [HPF.out]; have hHQ : Ext x7 xq := hbq; have hcx := slI_at (HO.out.ext (Ext.tr (Ext.tr (Ext.tr hbel2 HX.out) hbel7) hHQ)) A J HXO.out)
                clear hq7 hcx
                have hXW : Ext wr xq := Ext.tr hbel7 hHQ
                have h2W : Ext w2 xq := Ext.tr HX.out hXW
                have hWW : Ext w xq := Ext.tr hbel2 h2W
                have HRg := Lib.hid (hR7.below hHQ)
                have HOW := Lib.hid (hO7.sl.ext hHQ)
                have hgW := HRg.out.lt
                have hst := stabE xq
                have hk15 : HoldT (fun u => Ext xq u) w (xq).drew := HoldT.drew hst ⟨Ext.refl _, hWW⟩
                obtain ⟨bL, oL, cL', e1, -, -⟩ := HL.out.open (by rw [HLL.out]; omega)
                obtain ⟨rfl, rfl⟩ : aL = some ⟨bL, oL, none⟩ ∧ cL = cL' := by injection e1 with e1 _ e3; exact ⟨e1, e3⟩
                clear e1
                obtain ⟨v0, hr0, hv0⟩ := slE_atR HL.out J e0 HE0.out
                obtain ⟨a0, c0, rfl, -, -⟩ := hv0.form
                have HR0 := Lib.hid hr0; have HV0 := Lib.hid hv0
                have hge0 := HGG.out e0 (List.mem_of_getElem? HE0.out)
                have HAN := Lib.hid fun (w' : World) (h : Ext wr w') => BAnswer_any sP pP J e0 a b _ w' hsok hpok hge0.1 ha hb (hv0.ext h).bytes hge0.2
                have HALO := Lib.hid (answerL_ok (s := sP) (p := pP) (j := J) (e := e0) (a := a) (b := b) (by omega) hge0.1)
                have HALE := Lib.hid (show (answerL sP pP J e0 a b).e = e0 from rfl)
                have HPS := Lib.hid (decide_eq_true (honest_passed hpub hsok HE0.out HOPN0.out ha hb))
                have HFD := Lib.hid (decide_eq_false (not_failed (s := sP) (p := pP) (frm := (J : Int)) (a := a) (b := b) HOPN0.out))
                have HPZ := Lib.hid (show pP.cells.toArray.size = 10 by rw [List.size_toArray, pP.length_cells])
                clear hr0 hv0
                generalize answerL sP pP J e0 a b = AL at *
                have hdJ : decide (N ≤ J) = false := decide_eq_false (by omega)
                have hdA : decide (N ≤ A) = false := decide_eq_false (by omega)
                rw [HLL.out]
                try change Code.wp _ _ _ (Act.mk _ _) _
                refine wp_region_runR Ext 17 169 (HoldT (fun u => Ext xq u) _) [[], [], [(0, 126), (1, 127)], [(2, 128)], [], [], [(4, 130), (5, 131)], [(6, 132)], [], [], [], [(9, 135), (10, 136)], [(11, 137)], [], [], [(3, 129), (7, 133), (8, 134), (12, 138), (13, 139), (14, 140)], []] [(0, 126), (1, 127), (2, 128), (3, 129), (4, 130), (5, 131), (6, 132), (7, 133), (8, 134), (9, 135), (10, 136), (11, 137), (12, 138), (13, 139), (14, 140), (15, 141), (16, 29)] (by kernel_rfl) (by kernel_rfl) (by first | rfl | simp) (hk15) ?_
                simp only [List.take_succ_cons, List.take_zero, List.drop_succ_cons, List.drop_zero]
                refine sp_op (Ph.eq _) (fun u hu => by
                  refine spArg_nil ?_
                  go_wp2_with (fail)
                  exact ⟨rfl, hu, Ext.refl _, slot_eq rfl⟩) ?_
                refine sp_op (Ph.eq _) (fun u hu => by
                  refine spArg_nil ?_
                  go_wp2_with (fail)
                  exact ⟨rfl, hu, Ext.refl _, slot_eq rfl⟩) ?_
                refine sp_op (Ph.eq _) (fun u hu => by
                  refine spArg_eq 1 rfl rfl ?_
                  refine spArg_eq 0 rfl rfl ?_
                  refine spArg_nil ?_
                  simp only [Act.put, List.setIfInBounds_toArray, List.set_cons_succ, List.set_cons_zero]
                  go_wp2_with (fail)
                  exact ⟨rfl, hu, Ext.refl _, slot_eq rfl⟩) ?_
                refine sp_op (Ph.eq _) (fun u hu => by
                  refine spArg_eq 0 rfl rfl ?_
                  refine spArg_nil ?_
                  simp only [Act.put, List.setIfInBounds_toArray, List.set_cons_succ, List.set_cons_zero]
                  go_wp2_with ((refine wpList_load_midG rfl 54 _ rfl (bS) (oS + m * 3) rfl _ _ (range_below HRS.out (Ext.tr h2W hu.has)) Tryz.underlying54 rfl (info_sec) ?_))
                  exact ⟨rfl, hu, Ext.refl _, slot_eq rfl⟩) ?_
                refine sp_op (Ph.eq _) (fun u hu => by
                  refine spArg_nil ?_
                  go_wp2_with (fail)
                  exact ⟨rfl, hu, Ext.refl _, slot_eq rfl⟩) ?_
                refine sp_op (Ph.eq _) (fun u hu => by
                  refine spArg_nil ?_
                  go_wp2_with (fail)
                  exact ⟨rfl, hu, Ext.refl _, slot_eq rfl⟩) ?_
                refine sp_op (Ph.eq _) (fun u hu => by
                  refine spArg_eq 1 rfl rfl ?_
                  refine spArg_eq 0 rfl rfl ?_
                  refine spArg_nil ?_
                  simp only [Act.put, List.setIfInBounds_toArray, List.set_cons_succ, List.set_cons_zero]
                  go_wp2_with (fail)
                  exact ⟨rfl, hu, Ext.refl _, slot_eq rfl⟩) ?_
                refine sp_op (Ph.eq _) (fun u hu => by
                  refine spArg_eq 0 rfl rfl ?_
                  refine spArg_nil ?_
                  simp only [Act.put, List.setIfInBounds_toArray, List.set_cons_succ, List.set_cons_zero]
                  go_wp2_with ((refine wpList_load_midG rfl 60 _ rfl (bP) (oP + m * 10) rfl _ _ (range_below HRP.out (Ext.tr h2W hu.has)) Tryz.underlying60 rfl (info_pub) ?_))
                  exact ⟨rfl, hu, Ext.refl _, slot_eq rfl⟩) ?_
                refine sp_op (Ph.eq _) (fun u hu => by
                  refine spArg_nil ?_
                  go_wp2_with (fail)
                  exact ⟨rfl, hu, Ext.refl _, slot_eq rfl⟩) ?_
                refine sp_op (Ph.eq _) (fun u hu => by
                  refine spArg_nil ?_
                  go_wp2_with (fail)
                  exact ⟨rfl, hu, Ext.refl _, slot_eq rfl⟩) ?_
                refine sp_op (Ph.eq _) (fun u hu => by
                  refine spArg_nil ?_
                  go_wp2_with (fail)
                  exact ⟨rfl, hu, Ext.refl _, slot_eq rfl⟩) ?_
                refine sp_op (Ph.eq _) (fun u hu => by
                  refine spArg_eq 1 rfl rfl ?_
                  refine spArg_eq 0 rfl rfl ?_
                  refine spArg_nil ?_
                  simp only [Act.put, List.setIfInBounds_toArray, List.set_cons_succ, List.set_cons_zero]
                  go_wp2_with (fail)
                  exact ⟨rfl, hu, Ext.refl _, slot_eq rfl⟩) ?_
                refine sp_op (Ph.eq _) (fun u hu => by
                  refine spArg_eq 0 rfl rfl ?_
                  refine spArg_nil ?_
                  simp only [Act.put, List.setIfInBounds_toArray, List.set_cons_succ, List.set_cons_zero]
                  go_wp2_with ((refine wpList_load_midG rfl 32 _ rfl (bL) (oL + J * 2) rfl _ _ (range_below HR0.out (Ext.tr hXW hu.has)) Tryz.underlying32 rfl (info_entry) ?_))
                  exact ⟨rfl, hu, Ext.refl _, slot_eq rfl⟩) ?_
                refine sp_op (Ph.eq _) (fun u hu => by
                  refine spArg_nil ?_
                  go_wp2_with (fail)
                  exact ⟨rfl, hu, Ext.refl _, slot_eq rfl⟩) ?_
                refine sp_op (Ph.eq _) (fun u hu => by
                  refine spArg_nil ?_
                  go_wp2_with (fail)
                  exact ⟨rfl, hu, Ext.refl _, slot_eq rfl⟩) ?_
                refine sp_op (Ph.map (fun v => .agg (stpC AL v)) (Ph.ownB w.heap.size AL.e.box)) (fun u hu => by
                  refine spArg_eq 11 rfl rfl ?_
                  refine spArg_eq 7 rfl rfl ?_
                  refine spArg_eq 6 rfl rfl ?_
                  refine spArg_eq 2 rfl rfl ?_
                  refine spArg_eq 1 rfl rfl ?_
                  refine spArg_eq 0 rfl rfl ?_
                  refine spArg_nil ?_
                  simp only [Act.put, List.setIfInBounds_toArray, List.set_cons_succ, List.set_cons_zero]
                  go_wp2_with ((go_at_call 23; refine (HAN.out _ (Ext.tr hXW hu.has)).mono ?_; rintro r_ x_ ⟨v_, rfl, how_, hb_⟩))
                  exact ⟨rfl, HoldT.step hst hu hb_, hb_, slot_of rfl ⟨v_, rfl, owns_mono how_ hu.up.size⟩⟩) ?_
                refine sp_op (Ph.blk (xq).heap.size StpZ 57) (fun u hu => by
                  refine spArg_nil ?_
                  go_wp2_with ((refine wpList_allocB rfl _ rfl StpZ run_allocStp ?_; intro x_ B_ hh_ hB_ e_))
                  exact ⟨rfl, HoldT.step hst hu e_, e_, slot_of rfl ⟨B_, rfl, Nat.le_trans (Below.size hu.has) hB_, hh_⟩⟩) ?_
                refine sp_end ?_
                intro u hu
                refine spArg_eq 16 rfl rfl ?_
                refine spArg_eq 15 rfl rfl ?_
                refine spArg_eq 14 rfl rfl ?_
                refine spArg_eq 13 rfl rfl ?_
                refine spArg_eq 12 rfl rfl ?_
                refine spArg_eq 11 rfl rfl ?_
                refine spArg_eq 10 rfl rfl ?_
                refine spArg_eq 9 rfl rfl ?_
                refine spArg_eq 8 rfl rfl ?_
                refine spArg_eq 7 rfl rfl ?_
                refine spArg_eq 6 rfl rfl ?_
                refine spArg_eq 5 rfl rfl ?_
                refine spArg_eq 4 rfl rfl ?_
                refine spArg_eq 3 rfl rfl ?_
                refine spArg_eq 2 rfl rfl ?_
                refine spArg_in (φ := Ph.map (fun v => .agg (stpC AL v)) (Ph.ownB w.heap.size AL.e.box)) 1 rfl rfl ?_; intro v15 h15
                obtain ⟨v15, rfl, h15'⟩ := h15
                obtain ⟨a15, c15, rfl, -, -⟩ := owns_form h15'
                refine spArg_in (φ := Ph.blk (xq).heap.size StpZ 57) 0 rfl rfl ?_; intro v16 h16
                obtain ⟨g29, rfl, hg29, hG29⟩ := h16
                refine spArg_nil ?_
                simp only [Act.put, List.setIfInBounds_toArray, List.set_cons_succ, List.set_cons_zero]
                have h15o : OwnB u w.heap.size (.slice a15 AL.e.box.length c15) AL.e.box := h15'
                clear h15'
                go_wp2_with (refine wpList_store_row rfl 57 (.tmp 29) _ rfl g29 (stpC AL (.slice a15 AL.e.box.length c15)) _ _ rfl rfl hG29 rfl info_stp (one_stp _ _ _ _ _ _ _ _ _ _) ?_; intro x9 hg9 hs9 hR9)
                have hX9 : Ext xq x9 := ext_row hu.has hg9 hg29
                have hRg9 := Lib.hid (HRg.out.below hX9)
                have HR9 := Lib.hid hR9
                have HO9 := Lib.hid (sees_of_owns (own_grown h15o hg9 (RowT.blk hG29) (by decide)))
                have hW9 : Ext w x9 := Ext.tr hWW hX9
                have h29 : Ext w2 x9 := Ext.tr h2W hX9
                have hr9 : Ext wr x9 := Ext.tr hXW hX9
                clear hs9 hg9 hR9 hu hst
                obtain ⟨bE, oE, cE', e1, -, -⟩ := HOW.out.open (by have := (List.getElem?_eq_some_iff.1 HOU.out).1; omega)
                obtain ⟨rfl, rfl⟩ : aE = some ⟨bE, oE, none⟩ ∧ cE = cE' := by injection e1 with e1 _ e3; exact ⟨e1, e3⟩
                clear e1
                obtain ⟨vO, hrO, hvO⟩ := slE_atR HOW.out A out HOU.out
                obtain ⟨aO, cO, rfl, -, -⟩ := hvO.form
                have HRO := Lib.hid hrO
                have hAL := (List.getElem?_eq_some_iff.1 HOU.out).1
                have hdE : decide (RUN.es.length ≤ A) = false := decide_eq_false (by omega)
                have hALb : AL.e.box.length ≤ 20000000000000 := by rw [HALE.out]; exact hge0.2
                have HPA := Lib.hid fun (w' : World) (h : Ext x9 w') => Passed_any pP m LM out AL (max Bm 0) _ _ _ w' hpok HOK.out HALO.out ((HL.out.ext (Ext.tr hr9 h)).mono (Nat.le_max_left _ _)) (hvO.ext (Ext.tr hX9 h)).bytes (HO9.out.below h (by decide)) hALb (by rw [HLL.out]; omega)
                have HFA := Lib.hid fun (w' : World) (h : Ext x9 w') => Failed_any pP m e0 AL _ _ w' hpok hge0.1 HALO.out (HV0.out.ext (Ext.tr hr9 h)).bytes (HO9.out.below h (by decide)) hge0.2
                rw [HPS.out] at HPA
                rw [HFD.out] at HFA
                rw [HLL.out] at HPA
                clear hrO hvO HPS HFD
                have hst := stabE x9
                have hk16 : HoldT (fun u => Ext x9 u) w x9.drew := HoldT.drew hst ⟨Ext.refl _, hW9⟩
                try change Code.wp _ _ _ (Act.mk _ _) _
                refine wp_region_runR Ext 28 169 (HoldT (fun u => Ext x9 u) _) [[], [], [(0, 142), (1, 143)], [(2, 144)], [], [], [], [(6, 148)], [], [(7, 149), (8, 150)], [(9, 151)], [], [(3, 145), (4, 146), (5, 147), (10, 152), (11, 153)], [(12, 154)], [(13, 155)], [(13, 155)], [(14, 156), (15, 157), (13, 155)], [(16, 158), (13, 155)], [(13, 155)], [(13, 155)], [(13, 155)], [(19, 161), (20, 162), (13, 155)], [(21, 163), (13, 155)], [(13, 155)], [(17, 159), (18, 160), (22, 164), (23, 165), (13, 155)], [(24, 166), (13, 155)], [(13, 155), (25, 167)], [(26, 168)]] [(0, 142), (1, 143), (2, 144), (3, 145), (4, 146), (5, 147), (6, 148), (7, 149), (8, 150), (9, 151), (10, 152), (11, 153), (12, 154), (13, 155), (14, 156), (15, 157), (16, 158), (17, 159), (18, 160), (19, 161), (20, 162), (21, 163), (22, 164), (23, 165), (24, 166), (25, 167), (26, 168), (27, 18)] (by kernel_rfl) (by kernel_rfl) (by first | rfl | simp) (hk16) ?_
                simp only [List.take_succ_cons, List.take_zero, List.drop_succ_cons, List.drop_zero]
                refine sp_op (Ph.eq _) (fun u hu => by
                  refine spArg_nil ?_
                  have k0 : u.cell? ⟨g, 0, none⟩ = some (.slice (some ⟨bE, oE, none⟩) RUN.es.length cE) := by rw [(hRg9.out.below hu.has).cell]; rfl
                  go_wp2_with (fail)
                  exact ⟨rfl, hu, Ext.refl _, slot_eq rfl⟩) ?_
                refine sp_op (Ph.eq _) (fun u hu => by
                  refine spArg_nil ?_
                  have k0 : u.cell? ⟨g, 0, none⟩ = some (.slice (some ⟨bE, oE, none⟩) RUN.es.length cE) := by rw [(hRg9.out.below hu.has).cell]; rfl
                  go_wp2_with (fail)
                  exact ⟨rfl, hu, Ext.refl _, slot_eq rfl⟩) ?_
                refine sp_op (Ph.eq _) (fun u hu => by
                  refine spArg_eq 1 rfl rfl ?_
                  refine spArg_eq 0 rfl rfl ?_
                  refine spArg_nil ?_
                  simp only [Act.put, List.setIfInBounds_toArray, List.set_cons_succ, List.set_cons_zero]
                  have k0 : u.cell? ⟨g, 0, none⟩ = some (.slice (some ⟨bE, oE, none⟩) RUN.es.length cE) := by rw [(hRg9.out.below hu.has).cell]; rfl
                  go_wp2_with (fail)
                  exact ⟨rfl, hu, Ext.refl _, slot_eq rfl⟩) ?_
                refine sp_op (Ph.eq _) (fun u hu => by
                  refine spArg_eq 0 rfl rfl ?_
                  refine spArg_nil ?_
                  simp only [Act.put, List.setIfInBounds_toArray, List.set_cons_succ, List.set_cons_zero]
                  have k0 : u.cell? ⟨g, 0, none⟩ = some (.slice (some ⟨bE, oE, none⟩) RUN.es.length cE) := by rw [(hRg9.out.below hu.has).cell]; rfl
                  go_wp2_with ((refine wpList_load_midG rfl 60 _ rfl (bP) (oP + m * 10) rfl _ _ (range_below HRP.out (Ext.tr h29 hu.has)) Tryz.underlying60 rfl (info_pub) ?_))
                  exact ⟨rfl, hu, Ext.refl _, slot_eq rfl⟩) ?_
                refine sp_op (Ph.eq _) (fun u hu => by
                  refine spArg_nil ?_
                  have k0 : u.cell? ⟨g, 0, none⟩ = some (.slice (some ⟨bE, oE, none⟩) RUN.es.length cE) := by rw [(hRg9.out.below hu.has).cell]; rfl
                  go_wp2_with (fail)
                  exact ⟨rfl, hu, Ext.refl _, slot_eq rfl⟩) ?_
                refine sp_op (Ph.eq _) (fun u hu => by
                  refine spArg_nil ?_
                  have k0 : u.cell? ⟨g, 0, none⟩ = some (.slice (some ⟨bE, oE, none⟩) RUN.es.length cE) := by rw [(hRg9.out.below hu.has).cell]; rfl
                  go_wp2_with (fail)
                  exact ⟨rfl, hu, Ext.refl _, slot_eq rfl⟩) ?_
                refine sp_op (Ph.eq _) (fun u hu => by
                  refine spArg_nil ?_
                  have k0 : u.cell? ⟨g, 0, none⟩ = some (.slice (some ⟨bE, oE, none⟩) RUN.es.length cE) := by rw [(hRg9.out.below hu.has).cell]; rfl
                  go_wp2_with (fail)
                  exact ⟨rfl, hu, Ext.refl _, slot_eq rfl⟩) ?_
                refine sp_op (Ph.eq _) (fun u hu => by
                  refine spArg_eq 0 rfl rfl ?_
                  refine spArg_nil ?_
                  simp only [Act.put, List.setIfInBounds_toArray, List.set_cons_succ, List.set_cons_zero]
                  have k0 : u.cell? ⟨g, 0, none⟩ = some (.slice (some ⟨bE, oE, none⟩) RUN.es.length cE) := by rw [(hRg9.out.below hu.has).cell]; rfl
                  go_wp2_with (fail)
                  exact ⟨rfl, hu, Ext.refl _, slot_eq rfl⟩) ?_
                refine sp_op (Ph.eq _) (fun u hu => by
                  refine spArg_nil ?_
                  have k0 : u.cell? ⟨g, 0, none⟩ = some (.slice (some ⟨bE, oE, none⟩) RUN.es.length cE) := by rw [(hRg9.out.below hu.has).cell]; rfl
                  go_wp2_with (fail)
                  exact ⟨rfl, hu, Ext.refl _, slot_eq rfl⟩) ?_
                refine sp_op (Ph.eq _) (fun u hu => by
                  refine spArg_eq 1 rfl rfl ?_
                  refine spArg_eq 0 rfl rfl ?_
                  refine spArg_nil ?_
                  simp only [Act.put, List.setIfInBounds_toArray, List.set_cons_succ, List.set_cons_zero]
                  have k0 : u.cell? ⟨g, 0, none⟩ = some (.slice (some ⟨bE, oE, none⟩) RUN.es.length cE) := by rw [(hRg9.out.below hu.has).cell]; rfl
                  go_wp2_with (fail)
                  exact ⟨rfl, hu, Ext.refl _, slot_eq rfl⟩) ?_
                refine sp_op (Ph.eq _) (fun u hu => by
                  refine spArg_eq 0 rfl rfl ?_
                  refine spArg_nil ?_
                  simp only [Act.put, List.setIfInBounds_toArray, List.set_cons_succ, List.set_cons_zero]
                  have k0 : u.cell? ⟨g, 0, none⟩ = some (.slice (some ⟨bE, oE, none⟩) RUN.es.length cE) := by rw [(hRg9.out.below hu.has).cell]; rfl
                  go_wp2_with ((refine wpList_load_midG rfl 32 _ rfl (bE) (oE + A * 2) rfl _ _ (range_below HRO.out (Ext.tr hX9 hu.has)) Tryz.underlying32 rfl (info_entry) ?_))
                  exact ⟨rfl, hu, Ext.refl _, slot_eq rfl⟩) ?_
                refine sp_op (Ph.eq _) (fun u hu => by
                  refine spArg_nil ?_
                  have k0 : u.cell? ⟨g, 0, none⟩ = some (.slice (some ⟨bE, oE, none⟩) RUN.es.length cE) := by rw [(hRg9.out.below hu.has).cell]; rfl
                  go_wp2_with ((refine wpList_load_rowG rfl 57 _ rfl (g29) rfl _ _ (0, 0) _ (HR9.out.below hu.has) Tryz.underlying57 rfl (info_stp) ?_))
                  exact ⟨rfl, hu, Ext.refl _, slot_eq rfl⟩) ?_
                refine sp_op (Ph.eq _) (fun u hu => by
                  refine spArg_eq 8 rfl rfl ?_
                  refine spArg_eq 7 rfl rfl ?_
                  refine spArg_eq 6 rfl rfl ?_
                  refine spArg_eq 1 rfl rfl ?_
                  refine spArg_eq 0 rfl rfl ?_
                  refine spArg_nil ?_
                  simp only [Act.put, List.setIfInBounds_toArray, List.set_cons_succ, List.set_cons_zero]
                  have k0 : u.cell? ⟨g, 0, none⟩ = some (.slice (some ⟨bE, oE, none⟩) RUN.es.length cE) := by rw [(hRg9.out.below hu.has).cell]; rfl
                  go_wp2_with ((go_at_call 28; refine (HPA.out _ hu.has).mono ?_; rintro e_ x_ ⟨rfl, hb_⟩))
                  exact ⟨rfl, HoldT.step hst hu hb_, hb_, slot_eq rfl⟩) ?_
                refine sp_op (Ph.eq _) (fun u hu => by
                  refine spArg_eq 0 rfl rfl ?_
                  refine spArg_nil ?_
                  simp only [Act.put, List.setIfInBounds_toArray, List.set_cons_succ, List.set_cons_zero]
                  have k0 : u.cell? ⟨g, 0, none⟩ = some (.slice (some ⟨bE, oE, none⟩) RUN.es.length cE) := by rw [(hRg9.out.below hu.has).cell]; rfl
                  go_wp2_with (fail)
                  exact ⟨rfl, hu, Ext.refl _, slot_eq rfl⟩) ?_
                refine sp_op (Ph.eq _) (fun u hu => by
                  refine spArg_eq 0 rfl rfl ?_
                  refine spArg_nil ?_
                  simp only [Act.put, List.setIfInBounds_toArray, List.set_cons_succ, List.set_cons_zero]
                  have k0 : u.cell? ⟨g, 0, none⟩ = some (.slice (some ⟨bE, oE, none⟩) RUN.es.length cE) := by rw [(hRg9.out.below hu.has).cell]; rfl
                  go_wp2_with (fail)
                  exact ⟨rfl, hu, Ext.refl _, slot_eq rfl⟩) ?_
                refine sp_op (Ph.eq _) (fun u hu => by
                  refine spArg_eq 1 rfl rfl ?_
                  refine spArg_nil ?_
                  simp only [Act.put, List.setIfInBounds_toArray, List.set_cons_succ, List.set_cons_zero]
                  have k0 : u.cell? ⟨g, 0, none⟩ = some (.slice (some ⟨bE, oE, none⟩) RUN.es.length cE) := by rw [(hRg9.out.below hu.has).cell]; rfl
                  go_wp2_with (fail)
                  exact ⟨rfl, hu, Ext.refl _, slot_eq rfl⟩) ?_
                refine sp_op (Ph.eq _) (fun u hu => by
                  refine spArg_eq 1 rfl rfl ?_
                  refine spArg_eq 0 rfl rfl ?_
                  refine spArg_eq 2 rfl rfl ?_
                  refine spArg_nil ?_
                  simp only [Act.put, List.setIfInBounds_toArray, List.set_cons_succ, List.set_cons_zero]
                  have k0 : u.cell? ⟨g, 0, none⟩ = some (.slice (some ⟨bE, oE, none⟩) RUN.es.length cE) := by rw [(hRg9.out.below hu.has).cell]; rfl
                  go_wp2_with (fail)
                  exact ⟨rfl, hu, Ext.refl _, slot_eq rfl⟩) ?_
                refine sp_op (Ph.eq _) (fun u hu => by
                  refine spArg_eq 0 rfl rfl ?_
                  refine spArg_eq 3 rfl rfl ?_
                  refine spArg_nil ?_
                  simp only [Act.put, List.setIfInBounds_toArray, List.set_cons_succ, List.set_cons_zero]
                  have k0 : u.cell? ⟨g, 0, none⟩ = some (.slice (some ⟨bE, oE, none⟩) RUN.es.length cE) := by rw [(hRg9.out.below hu.has).cell]; rfl
                  go_wp2_with ((refine wpList_load_midG rfl 60 _ rfl (bP) (oP + m * 10) rfl _ _ (range_below HRP.out (Ext.tr h29 hu.has)) Tryz.underlying60 rfl (info_pub) ?_))
                  exact ⟨rfl, hu, Ext.refl _, slot_eq rfl⟩) ?_
                refine sp_op (Ph.eq _) (fun u hu => by
                  refine spArg_eq 4 rfl rfl ?_
                  refine spArg_nil ?_
                  simp only [Act.put, List.setIfInBounds_toArray, List.set_cons_succ, List.set_cons_zero]
                  have k0 : u.cell? ⟨g, 0, none⟩ = some (.slice (some ⟨bE, oE, none⟩) RUN.es.length cE) := by rw [(hRg9.out.below hu.has).cell]; rfl
                  go_wp2_with (fail)
                  exact ⟨rfl, hu, Ext.refl _, slot_eq rfl⟩) ?_
                refine sp_op (Ph.eq _) (fun u hu => by
                  refine spArg_eq 5 rfl rfl ?_
                  refine spArg_nil ?_
                  simp only [Act.put, List.setIfInBounds_toArray, List.set_cons_succ, List.set_cons_zero]
                  have k0 : u.cell? ⟨g, 0, none⟩ = some (.slice (some ⟨bE, oE, none⟩) RUN.es.length cE) := by rw [(hRg9.out.below hu.has).cell]; rfl
                  go_wp2_with (fail)
                  exact ⟨rfl, hu, Ext.refl _, slot_eq rfl⟩) ?_
                refine sp_op (Ph.eq _) (fun u hu => by
                  refine spArg_eq 6 rfl rfl ?_
                  refine spArg_nil ?_
                  simp only [Act.put, List.setIfInBounds_toArray, List.set_cons_succ, List.set_cons_zero]
                  have k0 : u.cell? ⟨g, 0, none⟩ = some (.slice (some ⟨bE, oE, none⟩) RUN.es.length cE) := by rw [(hRg9.out.below hu.has).cell]; rfl
                  go_wp2_with (fail)
                  exact ⟨rfl, hu, Ext.refl _, slot_eq rfl⟩) ?_
                refine sp_op (Ph.eq _) (fun u hu => by
                  refine spArg_eq 1 rfl rfl ?_
                  refine spArg_eq 0 rfl rfl ?_
                  refine spArg_eq 7 rfl rfl ?_
                  refine spArg_nil ?_
                  simp only [Act.put, List.setIfInBounds_toArray, List.set_cons_succ, List.set_cons_zero]
                  have k0 : u.cell? ⟨g, 0, none⟩ = some (.slice (some ⟨bE, oE, none⟩) RUN.es.length cE) := by rw [(hRg9.out.below hu.has).cell]; rfl
                  go_wp2_with (fail)
                  exact ⟨rfl, hu, Ext.refl _, slot_eq rfl⟩) ?_
                refine sp_op (Ph.eq _) (fun u hu => by
                  refine spArg_eq 0 rfl rfl ?_
                  refine spArg_eq 8 rfl rfl ?_
                  refine spArg_nil ?_
                  simp only [Act.put, List.setIfInBounds_toArray, List.set_cons_succ, List.set_cons_zero]
                  have k0 : u.cell? ⟨g, 0, none⟩ = some (.slice (some ⟨bE, oE, none⟩) RUN.es.length cE) := by rw [(hRg9.out.below hu.has).cell]; rfl
                  go_wp2_with ((refine wpList_load_midG rfl 32 _ rfl (bL) (oL + J * 2) rfl _ _ (range_below HR0.out (Ext.tr hr9 hu.has)) Tryz.underlying32 rfl (info_entry) ?_))
                  exact ⟨rfl, hu, Ext.refl _, slot_eq rfl⟩) ?_
                refine sp_op (Ph.eq _) (fun u hu => by
                  refine spArg_eq 9 rfl rfl ?_
                  refine spArg_nil ?_
                  simp only [Act.put, List.setIfInBounds_toArray, List.set_cons_succ, List.set_cons_zero]
                  have k0 : u.cell? ⟨g, 0, none⟩ = some (.slice (some ⟨bE, oE, none⟩) RUN.es.length cE) := by rw [(hRg9.out.below hu.has).cell]; rfl
                  go_wp2_with ((refine wpList_load_rowG rfl 57 _ rfl (g29) rfl _ _ (0, 0) _ (HR9.out.below hu.has) Tryz.underlying57 rfl (info_stp) ?_))
                  exact ⟨rfl, hu, Ext.refl _, slot_eq rfl⟩) ?_
                refine sp_op (Ph.eq _) (fun u hu => by
                  refine spArg_eq 6 rfl rfl ?_
                  refine spArg_eq 5 rfl rfl ?_
                  refine spArg_eq 1 rfl rfl ?_
                  refine spArg_eq 0 rfl rfl ?_
                  refine spArg_eq 10 rfl rfl ?_
                  refine spArg_nil ?_
                  simp only [Act.put, List.setIfInBounds_toArray, List.set_cons_succ, List.set_cons_zero]
                  have k0 : u.cell? ⟨g, 0, none⟩ = some (.slice (some ⟨bE, oE, none⟩) RUN.es.length cE) := by rw [(hRg9.out.below hu.has).cell]; rfl
                  go_wp2_with ((go_at_call 29; refine (HFA.out _ hu.has).mono ?_; rintro e_ x_ ⟨rfl, hb_⟩))
                  exact ⟨rfl, HoldT.step hst hu hb_, hb_, slot_eq rfl⟩) ?_
                refine sp_op (Ph.eq _) (fun u hu => by
                  refine spArg_eq 0 rfl rfl ?_
                  refine spArg_eq 11 rfl rfl ?_
                  refine spArg_nil ?_
                  simp only [Act.put, List.setIfInBounds_toArray, List.set_cons_succ, List.set_cons_zero]
                  have k0 : u.cell? ⟨g, 0, none⟩ = some (.slice (some ⟨bE, oE, none⟩) RUN.es.length cE) := by rw [(hRg9.out.below hu.has).cell]; rfl
                  go_wp2_with (fail)
                  exact ⟨rfl, hu, Ext.refl _, slot_eq rfl⟩) ?_
                refine sp_op (Ph.eq _) (fun u hu => by
                  refine spArg_eq 12 rfl rfl ?_
                  refine spArg_eq 0 rfl rfl ?_
                  refine spArg_nil ?_
                  simp only [Act.put, List.setIfInBounds_toArray, List.set_cons_succ, List.set_cons_zero]
                  have k0 : u.cell? ⟨g, 0, none⟩ = some (.slice (some ⟨bE, oE, none⟩) RUN.es.length cE) := by rw [(hRg9.out.below hu.has).cell]; rfl
                  go_wp2_with (fail)
                  exact ⟨rfl, hu, Ext.refl _, slot_eq rfl⟩) ?_
                refine sp_op (Ph.eq _) (fun u hu => by
                  refine spArg_eq 0 rfl rfl ?_
                  refine spArg_nil ?_
                  simp only [Act.put, List.setIfInBounds_toArray, List.set_cons_succ, List.set_cons_zero]
                  have k0 : u.cell? ⟨g, 0, none⟩ = some (.slice (some ⟨bE, oE, none⟩) RUN.es.length cE) := by rw [(hRg9.out.below hu.has).cell]; rfl
                  go_wp2_with (fail)
                  exact ⟨rfl, hu, Ext.refl _, slot_eq rfl⟩) ?_
                refine sp_end ?_
                intro u hu
                refine spArg_eq 27 rfl rfl ?_
                refine spArg_eq 26 rfl rfl ?_
                refine spArg_eq 25 rfl rfl ?_
                refine spArg_eq 24 rfl rfl ?_
                refine spArg_eq 23 rfl rfl ?_
                refine spArg_eq 22 rfl rfl ?_
                refine spArg_eq 21 rfl rfl ?_
                refine spArg_eq 20 rfl rfl ?_
                refine spArg_eq 19 rfl rfl ?_
                refine spArg_eq 18 rfl rfl ?_
                refine spArg_eq 17 rfl rfl ?_
                refine spArg_eq 16 rfl rfl ?_
                refine spArg_eq 15 rfl rfl ?_
                refine spArg_eq 14 rfl rfl ?_
                refine spArg_eq 13 rfl rfl ?_
                refine spArg_eq 12 rfl rfl ?_
                refine spArg_eq 11 rfl rfl ?_
                refine spArg_eq 10 rfl rfl ?_
                refine spArg_eq 9 rfl rfl ?_
                refine spArg_eq 8 rfl rfl ?_
                refine spArg_eq 7 rfl rfl ?_
                refine spArg_eq 6 rfl rfl ?_
                refine spArg_eq 5 rfl rfl ?_
                refine spArg_eq 4 rfl rfl ?_
                refine spArg_eq 3 rfl rfl ?_
                refine spArg_eq 2 rfl rfl ?_
                refine spArg_eq 1 rfl rfl ?_
                refine spArg_eq 0 rfl rfl ?_
                refine spArg_nil ?_
                simp only [Act.put, List.setIfInBounds_toArray, List.set_cons_succ, List.set_cons_zero]
                go_wp2_with fail
                go_ret
                exact ⟨rfl, hu.up⟩)
            · have HPF := Lib.hid (decide_eq_false hpm)
              obtain ⟨e0, out, he0, hopn, hok⟩ := hAop A (by omega)
              have hout := HGN.out out (fun h => hpm h.2) (opened_get he0 hopn)
              have HE0 := Lib.hid he0; have HOPN0 := Lib.hid hopn; have HOU := Lib.hid hout; have HOK := Lib.hid hok
              clear hpm hop he0 hopn hout hok hAop
              go_wp2_with fail
              have hstab := stabE wr
              have hkH : HoldT (fun u => Ext wr u) w wr.drew := HoldT.drew hstab ⟨Ext.refl _, Ext.tr hbel2 HX.out⟩
              try change Code.wp _ _ _ (Act.mk _ _) _
              haveI hne_ : Nonempty (InC (fun u => Ext wr u)) := ⟨⟨_, (hkH).1⟩⟩
              refine wp_region_tr (C := fun w_ => ∃ e_ : InC (fun u => Ext wr u), w_ = e_.u) (.step [0, 1, 2, 3, 4, 5, 6, 7, 8, 9, 10, 11] (.alt 12 (.step [13, 14, 15] (.alt 16 (.step [] (.alt 17 (.fin [18]) .nil)) .nil)) (.alt 16 (.step [] (.alt 12 (.step [13, 14, 15] (.alt 17 (.fin [18]) .nil)) .nil)) .nil))) (by kernel_rfl) (by kernel_rfl) (fun _ _ _ _ hd_ h_ => ⟨hd_.symm.trans h_.1, h_.2⟩) ⟨⟨World.drew _, (hkH).1⟩, rfl⟩ ?_
              have hk_ := hkH
              repeat' (first
                | ((with_reducible refine wpTr_fin ?_)
                   simp only [pickOps, List.flatMap_cons, List.flatMap_nil, List.drop_succ_cons, List.drop_zero, List.take_succ_cons, List.take_zero, List.cons_append, List.nil_append, List.append_nil]
                   repeat (first | (first | (refine wpQuiet_load_mid rfl 54 (.tmp 100) rfl bS (oS + m * 3) rfl sP.cells _ (fun w_ hw_ => by obtain ⟨e_, rfl⟩ := hw_; exact range_below HRS.out (Ext.tr HX.out e_.has)) Tryz.underlying54 rfl info_sec ?_; simp only [Act.put, List.setIfInBounds_toArray, List.set_cons_succ, List.set_cons_zero]) | (refine wpQuiet_load_mid rfl 60 (.tmp 104) rfl bP (oP + m * 10) rfl pP.cells _ (fun w_ hw_ => by obtain ⟨e_, rfl⟩ := hw_; exact range_below HRP.out (Ext.tr HX.out e_.has)) Tryz.underlying60 rfl info_pub ?_; simp only [Act.put, List.setIfInBounds_toArray, List.set_cons_succ, List.set_cons_zero])) | go_big_quiet_step (exact rfl))
                   refine wpQuiet_nil ?_)
                | ((with_reducible refine wpTr_step ?_); simp only [pickOps, List.flatMap_cons, List.flatMap_nil, List.drop_succ_cons, List.drop_zero, List.take_succ_cons, List.take_zero, List.cons_append, List.nil_append, List.append_nil]; repeat (first | (first | (refine wpQuiet_load_mid rfl 54 (.tmp 100) rfl bS (oS + m * 3) rfl sP.cells _ (fun w_ hw_ => by obtain ⟨e_, rfl⟩ := hw_; exact range_below HRS.out (Ext.tr HX.out e_.has)) Tryz.underlying54 rfl info_sec ?_; simp only [Act.put, List.setIfInBounds_toArray, List.set_cons_succ, List.set_cons_zero]) | (refine wpQuiet_load_mid rfl 60 (.tmp 104) rfl bP (oP + m * 10) rfl pP.cells _ (fun w_ hw_ => by obtain ⟨e_, rfl⟩ := hw_; exact range_below HRP.out (Ext.tr HX.out e_.has)) Tryz.underlying60 rfl info_pub ?_; simp only [Act.put, List.setIfInBounds_toArray, List.set_cons_succ, List.set_cons_zero])) | go_big_quiet_step (exact rfl))
                   refine wpQuiet_nil ?_)
                | (with_reducible refine wpTr_one ?_)
                | (with_reducible refine wpTr_alt ?_ ?_)
                | (simp only [pickOps, List.flatMap_cons, List.flatMap_nil, List.drop_succ_cons, List.drop_zero, List.take_succ_cons, List.take_zero, List.cons_append, List.nil_append, List.append_nil]
                   go_wp2_with (first
                | (go_at_call 27; refine (HHO.out _ hk_.has).mono ?_; rintro r_ x5 ⟨vE, vB, rfl, hE5, hB5, e5⟩; obtain ⟨aE, cE, rfl, -, -⟩ := hE5.form; have hk5 := HoldT.step hstab hk_ e5; have e5' : Ext _ x5 := e5)
                | (refine wpList_allocB rfl _ rfl PasZ run_allocPas ?_; intro x6 g hG hg6 e6; have hg0 := Nat.le_trans (Below.size hk_.has) hg6; have hk6 := HoldT.step hstab hk_ e6; have e6' : Ext _ x6 := e6)
                | (refine wpList_store_row rfl 70 (.tmp 27) _ rfl g #[.slice aE RUN.es.length cE, .int .u64 RUN.p.c, .int .u64 RUN.p.s] _ _ rfl rfl (exBl hG) rfl info_pas (one_pas _ _ _ _ _) ?_; intro x7 hg7 hs7 hR7
                   have hwg : w.heap.size ≤ g := Nat.le_trans (Below.size (Ext.tr hbel2 HX.out)) hg0
                   have hbel7 : Ext wr x7 := ext_row hk_.has hg7 hg0
                   have hk7 : HoldT (fun u => Ext wr u) w x7 := ⟨hbel7, ext_row hk_.up hg7 hwg⟩
                   have hO7 := (hE5.ext (w := x5)).grownT hg7 (RowT.blk (exBl hG)) (by decide) (by decide) (fun _ _ => Nat.zero_le _)
                   clear hs7))
                   refine phPost_hold (by first | with_reducible assumption | exact HoldT.alloc hstab (by with_reducible assumption) _ | exact HoldT.alloc hstab (HoldT.alloc hstab (by with_reducible assumption) _) _) ?_
                   intro hk_))
              all_goals (
                have hq7 : x7.cell? ⟨g, 0, none⟩ = some (.slice aE RUN.es.length cE) := by rw [hR7.cell]; rfl
                go_wp2_with (go_at_call 24; refine (hRO.out _ (Ext.tr (Ext.tr hbel2 HX.out) hbel7)).mono ?_; rintro r_ xq ⟨rfl, hbq⟩; rw [HPF.out]; have hHQ : Ext x7 xq := hbq)
                clear hq7
                have hXW : Ext wr xq := Ext.tr hbel7 hHQ
                have h2W : Ext w2 xq := Ext.tr HX.out hXW
                have hWW : Ext w xq := Ext.tr hbel2 h2W
                have HRg := Lib.hid (hR7.below hHQ)
                have HOW := Lib.hid (hO7.sl.ext hHQ)
                have hgW := HRg.out.lt
                have hst := stabE xq
                have hk15 : HoldT (fun u => Ext xq u) w (xq).drew := HoldT.drew hst ⟨Ext.refl _, hWW⟩
                obtain ⟨bL, oL, cL', e1, -, -⟩ := HL.out.open (by rw [HLL.out]; omega)
                obtain ⟨rfl, rfl⟩ : aL = some ⟨bL, oL, none⟩ ∧ cL = cL' := by injection e1 with e1 _ e3; exact ⟨e1, e3⟩
                clear e1
                obtain ⟨v0, hr0, hv0⟩ := slE_atR HL.out A e0 HE0.out
                obtain ⟨a0, c0, rfl, -, -⟩ := hv0.form
                have HR0 := Lib.hid hr0; have HV0 := Lib.hid hv0
                have hge0 := HGG.out e0 (List.mem_of_getElem? HE0.out)
                have HAN := Lib.hid fun (w' : World) (h : Ext wr w') => BAnswer_any sP pP A e0 a b _ w' hsok hpok hge0.1 ha hb (hv0.ext h).bytes hge0.2
                have HALO := Lib.hid (answerL_ok (s := sP) (p := pP) (j := A) (e := e0) (a := a) (b := b) (by omega) hge0.1)
                have HALE := Lib.hid (show (answerL sP pP A e0 a b).e = e0 from rfl)
                have HPS := Lib.hid (decide_eq_true (honest_passed hpub hsok HE0.out HOPN0.out ha hb))
                have HFD := Lib.hid (decide_eq_false (not_failed (s := sP) (p := pP) (frm := (A : Int)) (a := a) (b := b) HOPN0.out))
                have HPZ := Lib.hid (show pP.cells.toArray.size = 10 by rw [List.size_toArray, pP.length_cells])
                clear hr0 hv0
                generalize answerL sP pP A e0 a b = AL at *
                have hdJ : decide (N ≤ A) = false := decide_eq_false (by omega)
                have hdA : decide (N ≤ A) = false := decide_eq_false (by omega)
                rw [HLL.out]
                try change Code.wp _ _ _ (Act.mk _ _) _
                refine wp_region_runR Ext 17 169 (HoldT (fun u => Ext xq u) _) [[], [], [(0, 126), (1, 127)], [(2, 128)], [], [], [(4, 130), (5, 131)], [(6, 132)], [], [], [], [(9, 135), (10, 136)], [(11, 137)], [], [], [(3, 129), (7, 133), (8, 134), (12, 138), (13, 139), (14, 140)], []] [(0, 126), (1, 127), (2, 128), (3, 129), (4, 130), (5, 131), (6, 132), (7, 133), (8, 134), (9, 135), (10, 136), (11, 137), (12, 138), (13, 139), (14, 140), (15, 141), (16, 29)] (by kernel_rfl) (by kernel_rfl) (by first | rfl | simp) (hk15) ?_
                simp only [List.take_succ_cons, List.take_zero, List.drop_succ_cons, List.drop_zero]
                refine sp_op (Ph.eq _) (fun u hu => by
                  refine spArg_nil ?_
                  go_wp2_with (fail)
                  exact ⟨rfl, hu, Ext.refl _, slot_eq rfl⟩) ?_
                refine sp_op (Ph.eq _) (fun u hu => by
                  refine spArg_nil ?_
                  go_wp2_with (fail)
                  exact ⟨rfl, hu, Ext.refl _, slot_eq rfl⟩) ?_
                refine sp_op (Ph.eq _) (fun u hu => by
                  refine spArg_eq 1 rfl rfl ?_
                  refine spArg_eq 0 rfl rfl ?_
                  refine spArg_nil ?_
                  simp only [Act.put, List.setIfInBounds_toArray, List.set_cons_succ, List.set_cons_zero]
                  go_wp2_with (fail)
                  exact ⟨rfl, hu, Ext.refl _, slot_eq rfl⟩) ?_
                refine sp_op (Ph.eq _) (fun u hu => by
                  refine spArg_eq 0 rfl rfl ?_
                  refine spArg_nil ?_
                  simp only [Act.put, List.setIfInBounds_toArray, List.set_cons_succ, List.set_cons_zero]
                  go_wp2_with ((refine wpList_load_midG rfl 54 _ rfl (bS) (oS + m * 3) rfl _ _ (range_below HRS.out (Ext.tr h2W hu.has)) Tryz.underlying54 rfl (info_sec) ?_))
                  exact ⟨rfl, hu, Ext.refl _, slot_eq rfl⟩) ?_
                refine sp_op (Ph.eq _) (fun u hu => by
                  refine spArg_nil ?_
                  go_wp2_with (fail)
                  exact ⟨rfl, hu, Ext.refl _, slot_eq rfl⟩) ?_
                refine sp_op (Ph.eq _) (fun u hu => by
                  refine spArg_nil ?_
                  go_wp2_with (fail)
                  exact ⟨rfl, hu, Ext.refl _, slot_eq rfl⟩) ?_
                refine sp_op (Ph.eq _) (fun u hu => by
                  refine spArg_eq 1 rfl rfl ?_
                  refine spArg_eq 0 rfl rfl ?_
                  refine spArg_nil ?_
                  simp only [Act.put, List.setIfInBounds_toArray, List.set_cons_succ, List.set_cons_zero]
                  go_wp2_with (fail)
                  exact ⟨rfl, hu, Ext.refl _, slot_eq rfl⟩) ?_
                refine sp_op (Ph.eq _) (fun u hu => by
                  refine spArg_eq 0 rfl rfl ?_
                  refine spArg_nil ?_
                  simp only [Act.put, List.setIfInBounds_toArray, List.set_cons_succ, List.set_cons_zero]
                  go_wp2_with ((refine wpList_load_midG rfl 60 _ rfl (bP) (oP + m * 10) rfl _ _ (range_below HRP.out (Ext.tr h2W hu.has)) Tryz.underlying60 rfl (info_pub) ?_))
                  exact ⟨rfl, hu, Ext.refl _, slot_eq rfl⟩) ?_
                refine sp_op (Ph.eq _) (fun u hu => by
                  refine spArg_nil ?_
                  go_wp2_with (fail)
                  exact ⟨rfl, hu, Ext.refl _, slot_eq rfl⟩) ?_
                refine sp_op (Ph.eq _) (fun u hu => by
                  refine spArg_nil ?_
                  go_wp2_with (fail)
                  exact ⟨rfl, hu, Ext.refl _, slot_eq rfl⟩) ?_
                refine sp_op (Ph.eq _) (fun u hu => by
                  refine spArg_nil ?_
                  go_wp2_with (fail)
                  exact ⟨rfl, hu, Ext.refl _, slot_eq rfl⟩) ?_
                refine sp_op (Ph.eq _) (fun u hu => by
                  refine spArg_eq 1 rfl rfl ?_
                  refine spArg_eq 0 rfl rfl ?_
                  refine spArg_nil ?_
                  simp only [Act.put, List.setIfInBounds_toArray, List.set_cons_succ, List.set_cons_zero]
                  go_wp2_with (fail)
                  exact ⟨rfl, hu, Ext.refl _, slot_eq rfl⟩) ?_
                refine sp_op (Ph.eq _) (fun u hu => by
                  refine spArg_eq 0 rfl rfl ?_
                  refine spArg_nil ?_
                  simp only [Act.put, List.setIfInBounds_toArray, List.set_cons_succ, List.set_cons_zero]
                  go_wp2_with ((refine wpList_load_midG rfl 32 _ rfl (bL) (oL + A * 2) rfl _ _ (range_below HR0.out (Ext.tr hXW hu.has)) Tryz.underlying32 rfl (info_entry) ?_))
                  exact ⟨rfl, hu, Ext.refl _, slot_eq rfl⟩) ?_
                refine sp_op (Ph.eq _) (fun u hu => by
                  refine spArg_nil ?_
                  go_wp2_with (fail)
                  exact ⟨rfl, hu, Ext.refl _, slot_eq rfl⟩) ?_
                refine sp_op (Ph.eq _) (fun u hu => by
                  refine spArg_nil ?_
                  go_wp2_with (fail)
                  exact ⟨rfl, hu, Ext.refl _, slot_eq rfl⟩) ?_
                refine sp_op (Ph.map (fun v => .agg (stpC AL v)) (Ph.ownB w.heap.size AL.e.box)) (fun u hu => by
                  refine spArg_eq 11 rfl rfl ?_
                  refine spArg_eq 7 rfl rfl ?_
                  refine spArg_eq 6 rfl rfl ?_
                  refine spArg_eq 2 rfl rfl ?_
                  refine spArg_eq 1 rfl rfl ?_
                  refine spArg_eq 0 rfl rfl ?_
                  refine spArg_nil ?_
                  simp only [Act.put, List.setIfInBounds_toArray, List.set_cons_succ, List.set_cons_zero]
                  go_wp2_with ((go_at_call 23; refine (HAN.out _ (Ext.tr hXW hu.has)).mono ?_; rintro r_ x_ ⟨v_, rfl, how_, hb_⟩))
                  exact ⟨rfl, HoldT.step hst hu hb_, hb_, slot_of rfl ⟨v_, rfl, owns_mono how_ hu.up.size⟩⟩) ?_
                refine sp_op (Ph.blk (xq).heap.size StpZ 57) (fun u hu => by
                  refine spArg_nil ?_
                  go_wp2_with ((refine wpList_allocB rfl _ rfl StpZ run_allocStp ?_; intro x_ B_ hh_ hB_ e_))
                  exact ⟨rfl, HoldT.step hst hu e_, e_, slot_of rfl ⟨B_, rfl, Nat.le_trans (Below.size hu.has) hB_, hh_⟩⟩) ?_
                refine sp_end ?_
                intro u hu
                refine spArg_eq 16 rfl rfl ?_
                refine spArg_eq 15 rfl rfl ?_
                refine spArg_eq 14 rfl rfl ?_
                refine spArg_eq 13 rfl rfl ?_
                refine spArg_eq 12 rfl rfl ?_
                refine spArg_eq 11 rfl rfl ?_
                refine spArg_eq 10 rfl rfl ?_
                refine spArg_eq 9 rfl rfl ?_
                refine spArg_eq 8 rfl rfl ?_
                refine spArg_eq 7 rfl rfl ?_
                refine spArg_eq 6 rfl rfl ?_
                refine spArg_eq 5 rfl rfl ?_
                refine spArg_eq 4 rfl rfl ?_
                refine spArg_eq 3 rfl rfl ?_
                refine spArg_eq 2 rfl rfl ?_
                refine spArg_in (φ := Ph.map (fun v => .agg (stpC AL v)) (Ph.ownB w.heap.size AL.e.box)) 1 rfl rfl ?_; intro v15 h15
                obtain ⟨v15, rfl, h15'⟩ := h15
                obtain ⟨a15, c15, rfl, -, -⟩ := owns_form h15'
                refine spArg_in (φ := Ph.blk (xq).heap.size StpZ 57) 0 rfl rfl ?_; intro v16 h16
                obtain ⟨g29, rfl, hg29, hG29⟩ := h16
                refine spArg_nil ?_
                simp only [Act.put, List.setIfInBounds_toArray, List.set_cons_succ, List.set_cons_zero]
                have h15o : OwnB u w.heap.size (.slice a15 AL.e.box.length c15) AL.e.box := h15'
                clear h15'
                go_wp2_with (refine wpList_store_row rfl 57 (.tmp 29) _ rfl g29 (stpC AL (.slice a15 AL.e.box.length c15)) _ _ rfl rfl hG29 rfl info_stp (one_stp _ _ _ _ _ _ _ _ _ _) ?_; intro x9 hg9 hs9 hR9)
                have hX9 : Ext xq x9 := ext_row hu.has hg9 hg29
                have hRg9 := Lib.hid (HRg.out.below hX9)
                have HR9 := Lib.hid hR9
                have HO9 := Lib.hid (sees_of_owns (own_grown h15o hg9 (RowT.blk hG29) (by decide)))
                have hW9 : Ext w x9 := Ext.tr hWW hX9
                have h29 : Ext w2 x9 := Ext.tr h2W hX9
                have hr9 : Ext wr x9 := Ext.tr hXW hX9
                clear hs9 hg9 hR9 hu hst
                obtain ⟨bE, oE, cE', e1, -, -⟩ := HOW.out.open (by have := (List.getElem?_eq_some_iff.1 HOU.out).1; omega)
                obtain ⟨rfl, rfl⟩ : aE = some ⟨bE, oE, none⟩ ∧ cE = cE' := by injection e1 with e1 _ e3; exact ⟨e1, e3⟩
                clear e1
                obtain ⟨vO, hrO, hvO⟩ := slE_atR HOW.out A out HOU.out
                obtain ⟨aO, cO, rfl, -, -⟩ := hvO.form
                have HRO := Lib.hid hrO
                have hAL := (List.getElem?_eq_some_iff.1 HOU.out).1
                have hdE : decide (RUN.es.length ≤ A) = false := decide_eq_false (by omega)
                have hALb : AL.e.box.length ≤ 20000000000000 := by rw [HALE.out]; exact hge0.2
                have HPA := Lib.hid fun (w' : World) (h : Ext x9 w') => Passed_any pP m LM out AL (max Bm 0) _ _ _ w' hpok HOK.out HALO.out ((HL.out.ext (Ext.tr hr9 h)).mono (Nat.le_max_left _ _)) (hvO.ext (Ext.tr hX9 h)).bytes (HO9.out.below h (by decide)) hALb (by rw [HLL.out]; omega)
                have HFA := Lib.hid fun (w' : World) (h : Ext x9 w') => Failed_any pP m e0 AL _ _ w' hpok hge0.1 HALO.out (HV0.out.ext (Ext.tr hr9 h)).bytes (HO9.out.below h (by decide)) hge0.2
                rw [HPS.out] at HPA
                rw [HFD.out] at HFA
                rw [HLL.out] at HPA
                clear hrO hvO HPS HFD
                have hst := stabE x9
                have hk16 : HoldT (fun u => Ext x9 u) w x9.drew := HoldT.drew hst ⟨Ext.refl _, hW9⟩
                try change Code.wp _ _ _ (Act.mk _ _) _
                refine wp_region_runR Ext 28 169 (HoldT (fun u => Ext x9 u) _) [[], [], [(0, 142), (1, 143)], [(2, 144)], [], [], [], [(6, 148)], [], [(7, 149), (8, 150)], [(9, 151)], [], [(3, 145), (4, 146), (5, 147), (10, 152), (11, 153)], [(12, 154)], [(13, 155)], [(13, 155)], [(14, 156), (15, 157), (13, 155)], [(16, 158), (13, 155)], [(13, 155)], [(13, 155)], [(13, 155)], [(19, 161), (20, 162), (13, 155)], [(21, 163), (13, 155)], [(13, 155)], [(17, 159), (18, 160), (22, 164), (23, 165), (13, 155)], [(24, 166), (13, 155)], [(13, 155), (25, 167)], [(26, 168)]] [(0, 142), (1, 143), (2, 144), (3, 145), (4, 146), (5, 147), (6, 148), (7, 149), (8, 150), (9, 151), (10, 152), (11, 153), (12, 154), (13, 155), (14, 156), (15, 157), (16, 158), (17, 159), (18, 160), (19, 161), (20, 162), (21, 163), (22, 164), (23, 165), (24, 166), (25, 167), (26, 168), (27, 18)] (by kernel_rfl) (by kernel_rfl) (by first | rfl | simp) (hk16) ?_
                simp only [List.take_succ_cons, List.take_zero, List.drop_succ_cons, List.drop_zero]
                refine sp_op (Ph.eq _) (fun u hu => by
                  refine spArg_nil ?_
                  have k0 : u.cell? ⟨g, 0, none⟩ = some (.slice (some ⟨bE, oE, none⟩) RUN.es.length cE) := by rw [(hRg9.out.below hu.has).cell]; rfl
                  go_wp2_with (fail)
                  exact ⟨rfl, hu, Ext.refl _, slot_eq rfl⟩) ?_
                refine sp_op (Ph.eq _) (fun u hu => by
                  refine spArg_nil ?_
                  have k0 : u.cell? ⟨g, 0, none⟩ = some (.slice (some ⟨bE, oE, none⟩) RUN.es.length cE) := by rw [(hRg9.out.below hu.has).cell]; rfl
                  go_wp2_with (fail)
                  exact ⟨rfl, hu, Ext.refl _, slot_eq rfl⟩) ?_
                refine sp_op (Ph.eq _) (fun u hu => by
                  refine spArg_eq 1 rfl rfl ?_
                  refine spArg_eq 0 rfl rfl ?_
                  refine spArg_nil ?_
                  simp only [Act.put, List.setIfInBounds_toArray, List.set_cons_succ, List.set_cons_zero]
                  have k0 : u.cell? ⟨g, 0, none⟩ = some (.slice (some ⟨bE, oE, none⟩) RUN.es.length cE) := by rw [(hRg9.out.below hu.has).cell]; rfl
                  go_wp2_with (fail)
                  exact ⟨rfl, hu, Ext.refl _, slot_eq rfl⟩) ?_
                refine sp_op (Ph.eq _) (fun u hu => by
                  refine spArg_eq 0 rfl rfl ?_
                  refine spArg_nil ?_
                  simp only [Act.put, List.setIfInBounds_toArray, List.set_cons_succ, List.set_cons_zero]
                  have k0 : u.cell? ⟨g, 0, none⟩ = some (.slice (some ⟨bE, oE, none⟩) RUN.es.length cE) := by rw [(hRg9.out.below hu.has).cell]; rfl
                  go_wp2_with ((refine wpList_load_midG rfl 60 _ rfl (bP) (oP + m * 10) rfl _ _ (range_below HRP.out (Ext.tr h29 hu.has)) Tryz.underlying60 rfl (info_pub) ?_))
                  exact ⟨rfl, hu, Ext.refl _, slot_eq rfl⟩) ?_
                refine sp_op (Ph.eq _) (fun u hu => by
                  refine spArg_nil ?_
                  have k0 : u.cell? ⟨g, 0, none⟩ = some (.slice (some ⟨bE, oE, none⟩) RUN.es.length cE) := by rw [(hRg9.out.below hu.has).cell]; rfl
                  go_wp2_with (fail)
                  exact ⟨rfl, hu, Ext.refl _, slot_eq rfl⟩) ?_
                refine sp_op (Ph.eq _) (fun u hu => by
                  refine spArg_nil ?_
                  have k0 : u.cell? ⟨g, 0, none⟩ = some (.slice (some ⟨bE, oE, none⟩) RUN.es.length cE) := by rw [(hRg9.out.below hu.has).cell]; rfl
                  go_wp2_with (fail)
                  exact ⟨rfl, hu, Ext.refl _, slot_eq rfl⟩) ?_
                refine sp_op (Ph.eq _) (fun u hu => by
                  refine spArg_nil ?_
                  have k0 : u.cell? ⟨g, 0, none⟩ = some (.slice (some ⟨bE, oE, none⟩) RUN.es.length cE) := by rw [(hRg9.out.below hu.has).cell]; rfl
                  go_wp2_with (fail)
                  exact ⟨rfl, hu, Ext.refl _, slot_eq rfl⟩) ?_
                refine sp_op (Ph.eq _) (fun u hu => by
                  refine spArg_eq 0 rfl rfl ?_
                  refine spArg_nil ?_
                  simp only [Act.put, List.setIfInBounds_toArray, List.set_cons_succ, List.set_cons_zero]
                  have k0 : u.cell? ⟨g, 0, none⟩ = some (.slice (some ⟨bE, oE, none⟩) RUN.es.length cE) := by rw [(hRg9.out.below hu.has).cell]; rfl
                  go_wp2_with (fail)
                  exact ⟨rfl, hu, Ext.refl _, slot_eq rfl⟩) ?_
                refine sp_op (Ph.eq _) (fun u hu => by
                  refine spArg_nil ?_
                  have k0 : u.cell? ⟨g, 0, none⟩ = some (.slice (some ⟨bE, oE, none⟩) RUN.es.length cE) := by rw [(hRg9.out.below hu.has).cell]; rfl
                  go_wp2_with (fail)
                  exact ⟨rfl, hu, Ext.refl _, slot_eq rfl⟩) ?_
                refine sp_op (Ph.eq _) (fun u hu => by
                  refine spArg_eq 1 rfl rfl ?_
                  refine spArg_eq 0 rfl rfl ?_
                  refine spArg_nil ?_
                  simp only [Act.put, List.setIfInBounds_toArray, List.set_cons_succ, List.set_cons_zero]
                  have k0 : u.cell? ⟨g, 0, none⟩ = some (.slice (some ⟨bE, oE, none⟩) RUN.es.length cE) := by rw [(hRg9.out.below hu.has).cell]; rfl
                  go_wp2_with (fail)
                  exact ⟨rfl, hu, Ext.refl _, slot_eq rfl⟩) ?_
                refine sp_op (Ph.eq _) (fun u hu => by
                  refine spArg_eq 0 rfl rfl ?_
                  refine spArg_nil ?_
                  simp only [Act.put, List.setIfInBounds_toArray, List.set_cons_succ, List.set_cons_zero]
                  have k0 : u.cell? ⟨g, 0, none⟩ = some (.slice (some ⟨bE, oE, none⟩) RUN.es.length cE) := by rw [(hRg9.out.below hu.has).cell]; rfl
                  go_wp2_with ((refine wpList_load_midG rfl 32 _ rfl (bE) (oE + A * 2) rfl _ _ (range_below HRO.out (Ext.tr hX9 hu.has)) Tryz.underlying32 rfl (info_entry) ?_))
                  exact ⟨rfl, hu, Ext.refl _, slot_eq rfl⟩) ?_
                refine sp_op (Ph.eq _) (fun u hu => by
                  refine spArg_nil ?_
                  have k0 : u.cell? ⟨g, 0, none⟩ = some (.slice (some ⟨bE, oE, none⟩) RUN.es.length cE) := by rw [(hRg9.out.below hu.has).cell]; rfl
                  go_wp2_with ((refine wpList_load_rowG rfl 57 _ rfl (g29) rfl _ _ (0, 0) _ (HR9.out.below hu.has) Tryz.underlying57 rfl (info_stp) ?_))
                  exact ⟨rfl, hu, Ext.refl _, slot_eq rfl⟩) ?_
                refine sp_op (Ph.eq _) (fun u hu => by
                  refine spArg_eq 8 rfl rfl ?_
                  refine spArg_eq 7 rfl rfl ?_
                  refine spArg_eq 6 rfl rfl ?_
                  refine spArg_eq 1 rfl rfl ?_
                  refine spArg_eq 0 rfl rfl ?_
                  refine spArg_nil ?_
                  simp only [Act.put, List.setIfInBounds_toArray, List.set_cons_succ, List.set_cons_zero]
                  have k0 : u.cell? ⟨g, 0, none⟩ = some (.slice (some ⟨bE, oE, none⟩) RUN.es.length cE) := by rw [(hRg9.out.below hu.has).cell]; rfl
                  go_wp2_with ((go_at_call 28; refine (HPA.out _ hu.has).mono ?_; rintro e_ x_ ⟨rfl, hb_⟩))
                  exact ⟨rfl, HoldT.step hst hu hb_, hb_, slot_eq rfl⟩) ?_
                refine sp_op (Ph.eq _) (fun u hu => by
                  refine spArg_eq 0 rfl rfl ?_
                  refine spArg_nil ?_
                  simp only [Act.put, List.setIfInBounds_toArray, List.set_cons_succ, List.set_cons_zero]
                  have k0 : u.cell? ⟨g, 0, none⟩ = some (.slice (some ⟨bE, oE, none⟩) RUN.es.length cE) := by rw [(hRg9.out.below hu.has).cell]; rfl
                  go_wp2_with (fail)
                  exact ⟨rfl, hu, Ext.refl _, slot_eq rfl⟩) ?_
                refine sp_op (Ph.eq _) (fun u hu => by
                  refine spArg_eq 0 rfl rfl ?_
                  refine spArg_nil ?_
                  simp only [Act.put, List.setIfInBounds_toArray, List.set_cons_succ, List.set_cons_zero]
                  have k0 : u.cell? ⟨g, 0, none⟩ = some (.slice (some ⟨bE, oE, none⟩) RUN.es.length cE) := by rw [(hRg9.out.below hu.has).cell]; rfl
                  go_wp2_with (fail)
                  exact ⟨rfl, hu, Ext.refl _, slot_eq rfl⟩) ?_
                refine sp_op (Ph.eq _) (fun u hu => by
                  refine spArg_eq 1 rfl rfl ?_
                  refine spArg_nil ?_
                  simp only [Act.put, List.setIfInBounds_toArray, List.set_cons_succ, List.set_cons_zero]
                  have k0 : u.cell? ⟨g, 0, none⟩ = some (.slice (some ⟨bE, oE, none⟩) RUN.es.length cE) := by rw [(hRg9.out.below hu.has).cell]; rfl
                  go_wp2_with (fail)
                  exact ⟨rfl, hu, Ext.refl _, slot_eq rfl⟩) ?_
                refine sp_op (Ph.eq _) (fun u hu => by
                  refine spArg_eq 1 rfl rfl ?_
                  refine spArg_eq 0 rfl rfl ?_
                  refine spArg_eq 2 rfl rfl ?_
                  refine spArg_nil ?_
                  simp only [Act.put, List.setIfInBounds_toArray, List.set_cons_succ, List.set_cons_zero]
                  have k0 : u.cell? ⟨g, 0, none⟩ = some (.slice (some ⟨bE, oE, none⟩) RUN.es.length cE) := by rw [(hRg9.out.below hu.has).cell]; rfl
                  go_wp2_with (fail)
                  exact ⟨rfl, hu, Ext.refl _, slot_eq rfl⟩) ?_
                refine sp_op (Ph.eq _) (fun u hu => by
                  refine spArg_eq 0 rfl rfl ?_
                  refine spArg_eq 3 rfl rfl ?_
                  refine spArg_nil ?_
                  simp only [Act.put, List.setIfInBounds_toArray, List.set_cons_succ, List.set_cons_zero]
                  have k0 : u.cell? ⟨g, 0, none⟩ = some (.slice (some ⟨bE, oE, none⟩) RUN.es.length cE) := by rw [(hRg9.out.below hu.has).cell]; rfl
                  go_wp2_with ((refine wpList_load_midG rfl 60 _ rfl (bP) (oP + m * 10) rfl _ _ (range_below HRP.out (Ext.tr h29 hu.has)) Tryz.underlying60 rfl (info_pub) ?_))
                  exact ⟨rfl, hu, Ext.refl _, slot_eq rfl⟩) ?_
                refine sp_op (Ph.eq _) (fun u hu => by
                  refine spArg_eq 4 rfl rfl ?_
                  refine spArg_nil ?_
                  simp only [Act.put, List.setIfInBounds_toArray, List.set_cons_succ, List.set_cons_zero]
                  have k0 : u.cell? ⟨g, 0, none⟩ = some (.slice (some ⟨bE, oE, none⟩) RUN.es.length cE) := by rw [(hRg9.out.below hu.has).cell]; rfl
                  go_wp2_with (fail)
                  exact ⟨rfl, hu, Ext.refl _, slot_eq rfl⟩) ?_
                refine sp_op (Ph.eq _) (fun u hu => by
                  refine spArg_eq 5 rfl rfl ?_
                  refine spArg_nil ?_
                  simp only [Act.put, List.setIfInBounds_toArray, List.set_cons_succ, List.set_cons_zero]
                  have k0 : u.cell? ⟨g, 0, none⟩ = some (.slice (some ⟨bE, oE, none⟩) RUN.es.length cE) := by rw [(hRg9.out.below hu.has).cell]; rfl
                  go_wp2_with (fail)
                  exact ⟨rfl, hu, Ext.refl _, slot_eq rfl⟩) ?_
                refine sp_op (Ph.eq _) (fun u hu => by
                  refine spArg_eq 6 rfl rfl ?_
                  refine spArg_nil ?_
                  simp only [Act.put, List.setIfInBounds_toArray, List.set_cons_succ, List.set_cons_zero]
                  have k0 : u.cell? ⟨g, 0, none⟩ = some (.slice (some ⟨bE, oE, none⟩) RUN.es.length cE) := by rw [(hRg9.out.below hu.has).cell]; rfl
                  go_wp2_with (fail)
                  exact ⟨rfl, hu, Ext.refl _, slot_eq rfl⟩) ?_
                refine sp_op (Ph.eq _) (fun u hu => by
                  refine spArg_eq 1 rfl rfl ?_
                  refine spArg_eq 0 rfl rfl ?_
                  refine spArg_eq 7 rfl rfl ?_
                  refine spArg_nil ?_
                  simp only [Act.put, List.setIfInBounds_toArray, List.set_cons_succ, List.set_cons_zero]
                  have k0 : u.cell? ⟨g, 0, none⟩ = some (.slice (some ⟨bE, oE, none⟩) RUN.es.length cE) := by rw [(hRg9.out.below hu.has).cell]; rfl
                  go_wp2_with (fail)
                  exact ⟨rfl, hu, Ext.refl _, slot_eq rfl⟩) ?_
                refine sp_op (Ph.eq _) (fun u hu => by
                  refine spArg_eq 0 rfl rfl ?_
                  refine spArg_eq 8 rfl rfl ?_
                  refine spArg_nil ?_
                  simp only [Act.put, List.setIfInBounds_toArray, List.set_cons_succ, List.set_cons_zero]
                  have k0 : u.cell? ⟨g, 0, none⟩ = some (.slice (some ⟨bE, oE, none⟩) RUN.es.length cE) := by rw [(hRg9.out.below hu.has).cell]; rfl
                  go_wp2_with ((refine wpList_load_midG rfl 32 _ rfl (bL) (oL + A * 2) rfl _ _ (range_below HR0.out (Ext.tr hr9 hu.has)) Tryz.underlying32 rfl (info_entry) ?_))
                  exact ⟨rfl, hu, Ext.refl _, slot_eq rfl⟩) ?_
                refine sp_op (Ph.eq _) (fun u hu => by
                  refine spArg_eq 9 rfl rfl ?_
                  refine spArg_nil ?_
                  simp only [Act.put, List.setIfInBounds_toArray, List.set_cons_succ, List.set_cons_zero]
                  have k0 : u.cell? ⟨g, 0, none⟩ = some (.slice (some ⟨bE, oE, none⟩) RUN.es.length cE) := by rw [(hRg9.out.below hu.has).cell]; rfl
                  go_wp2_with ((refine wpList_load_rowG rfl 57 _ rfl (g29) rfl _ _ (0, 0) _ (HR9.out.below hu.has) Tryz.underlying57 rfl (info_stp) ?_))
                  exact ⟨rfl, hu, Ext.refl _, slot_eq rfl⟩) ?_
                refine sp_op (Ph.eq _) (fun u hu => by
                  refine spArg_eq 6 rfl rfl ?_
                  refine spArg_eq 5 rfl rfl ?_
                  refine spArg_eq 1 rfl rfl ?_
                  refine spArg_eq 0 rfl rfl ?_
                  refine spArg_eq 10 rfl rfl ?_
                  refine spArg_nil ?_
                  simp only [Act.put, List.setIfInBounds_toArray, List.set_cons_succ, List.set_cons_zero]
                  have k0 : u.cell? ⟨g, 0, none⟩ = some (.slice (some ⟨bE, oE, none⟩) RUN.es.length cE) := by rw [(hRg9.out.below hu.has).cell]; rfl
                  go_wp2_with ((go_at_call 29; refine (HFA.out _ hu.has).mono ?_; rintro e_ x_ ⟨rfl, hb_⟩))
                  exact ⟨rfl, HoldT.step hst hu hb_, hb_, slot_eq rfl⟩) ?_
                refine sp_op (Ph.eq _) (fun u hu => by
                  refine spArg_eq 0 rfl rfl ?_
                  refine spArg_eq 11 rfl rfl ?_
                  refine spArg_nil ?_
                  simp only [Act.put, List.setIfInBounds_toArray, List.set_cons_succ, List.set_cons_zero]
                  have k0 : u.cell? ⟨g, 0, none⟩ = some (.slice (some ⟨bE, oE, none⟩) RUN.es.length cE) := by rw [(hRg9.out.below hu.has).cell]; rfl
                  go_wp2_with (fail)
                  exact ⟨rfl, hu, Ext.refl _, slot_eq rfl⟩) ?_
                refine sp_op (Ph.eq _) (fun u hu => by
                  refine spArg_eq 12 rfl rfl ?_
                  refine spArg_eq 0 rfl rfl ?_
                  refine spArg_nil ?_
                  simp only [Act.put, List.setIfInBounds_toArray, List.set_cons_succ, List.set_cons_zero]
                  have k0 : u.cell? ⟨g, 0, none⟩ = some (.slice (some ⟨bE, oE, none⟩) RUN.es.length cE) := by rw [(hRg9.out.below hu.has).cell]; rfl
                  go_wp2_with (fail)
                  exact ⟨rfl, hu, Ext.refl _, slot_eq rfl⟩) ?_
                refine sp_op (Ph.eq _) (fun u hu => by
                  refine spArg_eq 0 rfl rfl ?_
                  refine spArg_nil ?_
                  simp only [Act.put, List.setIfInBounds_toArray, List.set_cons_succ, List.set_cons_zero]
                  have k0 : u.cell? ⟨g, 0, none⟩ = some (.slice (some ⟨bE, oE, none⟩) RUN.es.length cE) := by rw [(hRg9.out.below hu.has).cell]; rfl
                  go_wp2_with (fail)
                  exact ⟨rfl, hu, Ext.refl _, slot_eq rfl⟩) ?_
                refine sp_end ?_
                intro u hu
                refine spArg_eq 27 rfl rfl ?_
                refine spArg_eq 26 rfl rfl ?_
                refine spArg_eq 25 rfl rfl ?_
                refine spArg_eq 24 rfl rfl ?_
                refine spArg_eq 23 rfl rfl ?_
                refine spArg_eq 22 rfl rfl ?_
                refine spArg_eq 21 rfl rfl ?_
                refine spArg_eq 20 rfl rfl ?_
                refine spArg_eq 19 rfl rfl ?_
                refine spArg_eq 18 rfl rfl ?_
                refine spArg_eq 17 rfl rfl ?_
                refine spArg_eq 16 rfl rfl ?_
                refine spArg_eq 15 rfl rfl ?_
                refine spArg_eq 14 rfl rfl ?_
                refine spArg_eq 13 rfl rfl ?_
                refine spArg_eq 12 rfl rfl ?_
                refine spArg_eq 11 rfl rfl ?_
                refine spArg_eq 10 rfl rfl ?_
                refine spArg_eq 9 rfl rfl ?_
                refine spArg_eq 8 rfl rfl ?_
                refine spArg_eq 7 rfl rfl ?_
                refine spArg_eq 6 rfl rfl ?_
                refine spArg_eq 5 rfl rfl ?_
                refine spArg_eq 4 rfl rfl ?_
                refine spArg_eq 3 rfl rfl ?_
                refine spArg_eq 2 rfl rfl ?_
                refine spArg_eq 1 rfl rfl ?_
                refine spArg_eq 0 rfl rfl ?_
                refine spArg_nil ?_
                simp only [Act.put, List.setIfInBounds_toArray, List.set_cons_succ, List.set_cons_zero]
                go_wp2_with fail
                go_ret
                exact ⟨rfl, hu.up⟩)
          · have hq1 : (order.length == N) = false := by rw [beq_eq_false_iff_ne]; exact hop
            have hq2 : ((order.length : Int) == (N : Int)) = false := by rw [beq_eq_false_iff_ne]; omega
            have hq3 : ¬ (order.length : Int) = (N : Int) := by omega
            obtain ⟨e0, out, he0, hopn, hok⟩ := hAop A (by omega)
            have hout := HGN.out out (fun h => hop h.1) (opened_get he0 hopn)
            have HE0 := Lib.hid he0; have HOPN0 := Lib.hid hopn; have HOU := Lib.hid hout; have HOK := Lib.hid hok
            clear he0 hopn hout hok hAop
            go_wp2_with fail
            have hstab := stabE wr
            have hkH : HoldT (fun u => Ext wr u) w wr.drew := HoldT.drew hstab ⟨Ext.refl _, Ext.tr hbel2 HX.out⟩
            try change Code.wp _ _ _ (Act.mk _ _) _
            haveI hne_ : Nonempty (InC (fun u => Ext wr u)) := ⟨⟨_, (hkH).1⟩⟩
            refine wp_region_tr (C := fun w_ => ∃ e_ : InC (fun u => Ext wr u), w_ = e_.u) (.step [0, 1, 2, 3, 4, 5, 6, 7, 8, 9, 10, 11] (.alt 12 (.step [13, 14, 15] (.alt 16 (.step [] (.alt 17 (.fin [18]) .nil)) .nil)) (.alt 16 (.step [] (.alt 12 (.step [13, 14, 15] (.alt 17 (.fin [18]) .nil)) .nil)) .nil))) (by kernel_rfl) (by kernel_rfl) (fun _ _ _ _ hd_ h_ => ⟨hd_.symm.trans h_.1, h_.2⟩) ⟨⟨World.drew _, (hkH).1⟩, rfl⟩ ?_
            have hk_ := hkH
            repeat' (first
              | ((with_reducible refine wpTr_fin ?_)
                 simp only [pickOps, List.flatMap_cons, List.flatMap_nil, List.drop_succ_cons, List.drop_zero, List.take_succ_cons, List.take_zero, List.cons_append, List.nil_append, List.append_nil]
                 repeat (first | (first | (refine wpQuiet_load_mid rfl 54 (.tmp 100) rfl bS (oS + m * 3) rfl sP.cells _ (fun w_ hw_ => by obtain ⟨e_, rfl⟩ := hw_; exact range_below HRS.out (Ext.tr HX.out e_.has)) Tryz.underlying54 rfl info_sec ?_; simp only [Act.put, List.setIfInBounds_toArray, List.set_cons_succ, List.set_cons_zero]) | (refine wpQuiet_load_mid rfl 60 (.tmp 104) rfl bP (oP + m * 10) rfl pP.cells _ (fun w_ hw_ => by obtain ⟨e_, rfl⟩ := hw_; exact range_below HRP.out (Ext.tr HX.out e_.has)) Tryz.underlying60 rfl info_pub ?_; simp only [Act.put, List.setIfInBounds_toArray, List.set_cons_succ, List.set_cons_zero])) | go_big_quiet_step (exact rfl))
                 refine wpQuiet_nil ?_)
              | ((with_reducible refine wpTr_step ?_); simp only [pickOps, List.flatMap_cons, List.flatMap_nil, List.drop_succ_cons, List.drop_zero, List.take_succ_cons, List.take_zero, List.cons_append, List.nil_append, List.append_nil]; repeat (first | (first | (refine wpQuiet_load_mid rfl 54 (.tmp 100) rfl bS (oS + m * 3) rfl sP.cells _ (fun w_ hw_ => by obtain ⟨e_, rfl⟩ := hw_; exact range_below HRS.out (Ext.tr HX.out e_.has)) Tryz.underlying54 rfl info_sec ?_; simp only [Act.put, List.setIfInBounds_toArray, List.set_cons_succ, List.set_cons_zero]) | (refine wpQuiet_load_mid rfl 60 (.tmp 104) rfl bP (oP + m * 10) rfl pP.cells _ (fun w_ hw_ => by obtain ⟨e_, rfl⟩ := hw_; exact range_below HRP.out (Ext.tr HX.out e_.has)) Tryz.underlying60 rfl info_pub ?_; simp only [Act.put, List.setIfInBounds_toArray, List.set_cons_succ, List.set_cons_zero])) | go_big_quiet_step (exact rfl))
                 refine wpQuiet_nil ?_)
              | (with_reducible refine wpTr_one ?_)
              | (with_reducible refine wpTr_alt ?_ ?_)
              | (simp only [pickOps, List.flatMap_cons, List.flatMap_nil, List.drop_succ_cons, List.drop_zero, List.take_succ_cons, List.take_zero, List.cons_append, List.nil_append, List.append_nil]
                 go_wp2_with (first
              | (go_at_call 27; refine (HHO.out _ hk_.has).mono ?_; rintro r_ x5 ⟨vE, vB, rfl, hE5, hB5, e5⟩; obtain ⟨aE, cE, rfl, -, -⟩ := hE5.form; have hk5 := HoldT.step hstab hk_ e5; have e5' : Ext _ x5 := e5)
              | (refine wpList_allocB rfl _ rfl PasZ run_allocPas ?_; intro x6 g hG hg6 e6; have hg0 := Nat.le_trans (Below.size hk_.has) hg6; have hk6 := HoldT.step hstab hk_ e6; have e6' : Ext _ x6 := e6)
              | (refine wpList_store_row rfl 70 (.tmp 27) _ rfl g #[.slice aE RUN.es.length cE, .int .u64 RUN.p.c, .int .u64 RUN.p.s] _ _ rfl rfl (exBl hG) rfl info_pas (one_pas _ _ _ _ _) ?_; intro x7 hg7 hs7 hR7
                 have hwg : w.heap.size ≤ g := Nat.le_trans (Below.size (Ext.tr hbel2 HX.out)) hg0
                 have hbel7 : Ext wr x7 := ext_row hk_.has hg7 hg0
                 have hk7 : HoldT (fun u => Ext wr u) w x7 := ⟨hbel7, ext_row hk_.up hg7 hwg⟩
                 have hO7 := (hE5.ext (w := x5)).grownT hg7 (RowT.blk (exBl hG)) (by decide) (by decide) (fun _ _ => Nat.zero_le _)
                 clear hs7))
                 refine phPost_hold (by first | with_reducible assumption | exact HoldT.alloc hstab (by with_reducible assumption) _ | exact HoldT.alloc hstab (HoldT.alloc hstab (by with_reducible assumption) _) _) ?_
                 intro hk_))
            all_goals (
              have hq7 : x7.cell? ⟨g, 0, none⟩ = some (.slice aE RUN.es.length cE) := by rw [hR7.cell]; rfl
              go_wp2_with fail
              clear hq7
              have hHQ : Ext x7 x7 := Ext.refl _
              have hXW : Ext wr x7 := Ext.tr hbel7 hHQ
              have h2W : Ext w2 x7 := Ext.tr HX.out hXW
              have hWW : Ext w x7 := Ext.tr hbel2 h2W
              have HRg := Lib.hid (hR7.below hHQ)
              have HOW := Lib.hid (hO7.sl.ext hHQ)
              have hgW := HRg.out.lt
              have hst := stabE x7
              have hk15 : HoldT (fun u => Ext x7 u) w (x7).drew := HoldT.drew hst ⟨Ext.refl _, hWW⟩
              obtain ⟨bL, oL, cL', e1, -, -⟩ := HL.out.open (by rw [HLL.out]; omega)
              obtain ⟨rfl, rfl⟩ : aL = some ⟨bL, oL, none⟩ ∧ cL = cL' := by injection e1 with e1 _ e3; exact ⟨e1, e3⟩
              clear e1
              obtain ⟨v0, hr0, hv0⟩ := slE_atR HL.out A e0 HE0.out
              obtain ⟨a0, c0, rfl, -, -⟩ := hv0.form
              have HR0 := Lib.hid hr0; have HV0 := Lib.hid hv0
              have hge0 := HGG.out e0 (List.mem_of_getElem? HE0.out)
              have HAN := Lib.hid fun (w' : World) (h : Ext wr w') => BAnswer_any sP pP A e0 a b _ w' hsok hpok hge0.1 ha hb (hv0.ext h).bytes hge0.2
              have HALO := Lib.hid (answerL_ok (s := sP) (p := pP) (j := A) (e := e0) (a := a) (b := b) (by omega) hge0.1)
              have HALE := Lib.hid (show (answerL sP pP A e0 a b).e = e0 from rfl)
              have HPS := Lib.hid (decide_eq_true (honest_passed hpub hsok HE0.out HOPN0.out ha hb))
              have HFD := Lib.hid (decide_eq_false (not_failed (s := sP) (p := pP) (frm := (A : Int)) (a := a) (b := b) HOPN0.out))
              have HPZ := Lib.hid (show pP.cells.toArray.size = 10 by rw [List.size_toArray, pP.length_cells])
              clear hr0 hv0
              generalize answerL sP pP A e0 a b = AL at *
              have hdJ : decide (N ≤ A) = false := decide_eq_false (by omega)
              have hdA : decide (N ≤ A) = false := decide_eq_false (by omega)
              rw [HLL.out]
              try change Code.wp _ _ _ (Act.mk _ _) _
              refine wp_region_runR Ext 17 169 (HoldT (fun u => Ext x7 u) _) [[], [], [(0, 126), (1, 127)], [(2, 128)], [], [], [(4, 130), (5, 131)], [(6, 132)], [], [], [], [(9, 135), (10, 136)], [(11, 137)], [], [], [(3, 129), (7, 133), (8, 134), (12, 138), (13, 139), (14, 140)], []] [(0, 126), (1, 127), (2, 128), (3, 129), (4, 130), (5, 131), (6, 132), (7, 133), (8, 134), (9, 135), (10, 136), (11, 137), (12, 138), (13, 139), (14, 140), (15, 141), (16, 29)] (by kernel_rfl) (by kernel_rfl) (by first | rfl | simp) (hk15) ?_
              simp only [List.take_succ_cons, List.take_zero, List.drop_succ_cons, List.drop_zero]
              refine sp_op (Ph.eq _) (fun u hu => by
                refine spArg_nil ?_
                go_wp2_with (fail)
                exact ⟨rfl, hu, Ext.refl _, slot_eq rfl⟩) ?_
              refine sp_op (Ph.eq _) (fun u hu => by
                refine spArg_nil ?_
                go_wp2_with (fail)
                exact ⟨rfl, hu, Ext.refl _, slot_eq rfl⟩) ?_
              refine sp_op (Ph.eq _) (fun u hu => by
                refine spArg_eq 1 rfl rfl ?_
                refine spArg_eq 0 rfl rfl ?_
                refine spArg_nil ?_
                simp only [Act.put, List.setIfInBounds_toArray, List.set_cons_succ, List.set_cons_zero]
                go_wp2_with (fail)
                exact ⟨rfl, hu, Ext.refl _, slot_eq rfl⟩) ?_
              refine sp_op (Ph.eq _) (fun u hu => by
                refine spArg_eq 0 rfl rfl ?_
                refine spArg_nil ?_
                simp only [Act.put, List.setIfInBounds_toArray, List.set_cons_succ, List.set_cons_zero]
                go_wp2_with ((refine wpList_load_midG rfl 54 _ rfl (bS) (oS + m * 3) rfl _ _ (range_below HRS.out (Ext.tr h2W hu.has)) Tryz.underlying54 rfl (info_sec) ?_))
                exact ⟨rfl, hu, Ext.refl _, slot_eq rfl⟩) ?_
              refine sp_op (Ph.eq _) (fun u hu => by
                refine spArg_nil ?_
                go_wp2_with (fail)
                exact ⟨rfl, hu, Ext.refl _, slot_eq rfl⟩) ?_
              refine sp_op (Ph.eq _) (fun u hu => by
                refine spArg_nil ?_
                go_wp2_with (fail)
                exact ⟨rfl, hu, Ext.refl _, slot_eq rfl⟩) ?_
              refine sp_op (Ph.eq _) (fun u hu => by
                refine spArg_eq 1 rfl rfl ?_
                refine spArg_eq 0 rfl rfl ?_
                refine spArg_nil ?_
                simp only [Act.put, List.setIfInBounds_toArray, List.set_cons_succ, List.set_cons_zero]
                go_wp2_with (fail)
                exact ⟨rfl, hu, Ext.refl _, slot_eq rfl⟩) ?_
              refine sp_op (Ph.eq _) (fun u hu => by
                refine spArg_eq 0 rfl rfl ?_
                refine spArg_nil ?_
                simp only [Act.put, List.setIfInBounds_toArray, List.set_cons_succ, List.set_cons_zero]
                go_wp2_with ((refine wpList_load_midG rfl 60 _ rfl (bP) (oP + m * 10) rfl _ _ (range_below HRP.out (Ext.tr h2W hu.has)) Tryz.underlying60 rfl (info_pub) ?_))
                exact ⟨rfl, hu, Ext.refl _, slot_eq rfl⟩) ?_
              refine sp_op (Ph.eq _) (fun u hu => by
                refine spArg_nil ?_
                go_wp2_with (fail)
                exact ⟨rfl, hu, Ext.refl _, slot_eq rfl⟩) ?_
              refine sp_op (Ph.eq _) (fun u hu => by
                refine spArg_nil ?_
                go_wp2_with (fail)
                exact ⟨rfl, hu, Ext.refl _, slot_eq rfl⟩) ?_
              refine sp_op (Ph.eq _) (fun u hu => by
                refine spArg_nil ?_
                go_wp2_with (fail)
                exact ⟨rfl, hu, Ext.refl _, slot_eq rfl⟩) ?_
              refine sp_op (Ph.eq _) (fun u hu => by
                refine spArg_eq 1 rfl rfl ?_
                refine spArg_eq 0 rfl rfl ?_
                refine spArg_nil ?_
                simp only [Act.put, List.setIfInBounds_toArray, List.set_cons_succ, List.set_cons_zero]
                go_wp2_with (fail)
                exact ⟨rfl, hu, Ext.refl _, slot_eq rfl⟩) ?_
              refine sp_op (Ph.eq _) (fun u hu => by
                refine spArg_eq 0 rfl rfl ?_
                refine spArg_nil ?_
                simp only [Act.put, List.setIfInBounds_toArray, List.set_cons_succ, List.set_cons_zero]
                go_wp2_with ((refine wpList_load_midG rfl 32 _ rfl (bL) (oL + A * 2) rfl _ _ (range_below HR0.out (Ext.tr hXW hu.has)) Tryz.underlying32 rfl (info_entry) ?_))
                exact ⟨rfl, hu, Ext.refl _, slot_eq rfl⟩) ?_
              refine sp_op (Ph.eq _) (fun u hu => by
                refine spArg_nil ?_
                go_wp2_with (fail)
                exact ⟨rfl, hu, Ext.refl _, slot_eq rfl⟩) ?_
              refine sp_op (Ph.eq _) (fun u hu => by
                refine spArg_nil ?_
                go_wp2_with (fail)
                exact ⟨rfl, hu, Ext.refl _, slot_eq rfl⟩) ?_
              refine sp_op (Ph.map (fun v => .agg (stpC AL v)) (Ph.ownB w.heap.size AL.e.box)) (fun u hu => by
                refine spArg_eq 11 rfl rfl ?_
                refine spArg_eq 7 rfl rfl ?_
                refine spArg_eq 6 rfl rfl ?_
                refine spArg_eq 2 rfl rfl ?_
                refine spArg_eq 1 rfl rfl ?_
                refine spArg_eq 0 rfl rfl ?_
                refine spArg_nil ?_
                simp only [Act.put, List.setIfInBounds_toArray, List.set_cons_succ, List.set_cons_zero]
                go_wp2_with ((go_at_call 23; refine (HAN.out _ (Ext.tr hXW hu.has)).mono ?_; rintro r_ x_ ⟨v_, rfl, how_, hb_⟩))
                exact ⟨rfl, HoldT.step hst hu hb_, hb_, slot_of rfl ⟨v_, rfl, owns_mono how_ hu.up.size⟩⟩) ?_
              refine sp_op (Ph.blk (x7).heap.size StpZ 57) (fun u hu => by
                refine spArg_nil ?_
                go_wp2_with ((refine wpList_allocB rfl _ rfl StpZ run_allocStp ?_; intro x_ B_ hh_ hB_ e_))
                exact ⟨rfl, HoldT.step hst hu e_, e_, slot_of rfl ⟨B_, rfl, Nat.le_trans (Below.size hu.has) hB_, hh_⟩⟩) ?_
              refine sp_end ?_
              intro u hu
              refine spArg_eq 16 rfl rfl ?_
              refine spArg_eq 15 rfl rfl ?_
              refine spArg_eq 14 rfl rfl ?_
              refine spArg_eq 13 rfl rfl ?_
              refine spArg_eq 12 rfl rfl ?_
              refine spArg_eq 11 rfl rfl ?_
              refine spArg_eq 10 rfl rfl ?_
              refine spArg_eq 9 rfl rfl ?_
              refine spArg_eq 8 rfl rfl ?_
              refine spArg_eq 7 rfl rfl ?_
              refine spArg_eq 6 rfl rfl ?_
              refine spArg_eq 5 rfl rfl ?_
              refine spArg_eq 4 rfl rfl ?_
              refine spArg_eq 3 rfl rfl ?_
              refine spArg_eq 2 rfl rfl ?_
              refine spArg_in (φ := Ph.map (fun v => .agg (stpC AL v)) (Ph.ownB w.heap.size AL.e.box)) 1 rfl rfl ?_; intro v15 h15
              obtain ⟨v15, rfl, h15'⟩ := h15
              obtain ⟨a15, c15, rfl, -, -⟩ := owns_form h15'
              refine spArg_in (φ := Ph.blk (x7).heap.size StpZ 57) 0 rfl rfl ?_; intro v16 h16
              obtain ⟨g29, rfl, hg29, hG29⟩ := h16
              refine spArg_nil ?_
              simp only [Act.put, List.setIfInBounds_toArray, List.set_cons_succ, List.set_cons_zero]
              have h15o : OwnB u w.heap.size (.slice a15 AL.e.box.length c15) AL.e.box := h15'
              clear h15'
              go_wp2_with (refine wpList_store_row rfl 57 (.tmp 29) _ rfl g29 (stpC AL (.slice a15 AL.e.box.length c15)) _ _ rfl rfl hG29 rfl info_stp (one_stp _ _ _ _ _ _ _ _ _ _) ?_; intro x9 hg9 hs9 hR9)
              have hX9 : Ext x7 x9 := ext_row hu.has hg9 hg29
              have hRg9 := Lib.hid (HRg.out.below hX9)
              have HR9 := Lib.hid hR9
              have HO9 := Lib.hid (sees_of_owns (own_grown h15o hg9 (RowT.blk hG29) (by decide)))
              have hW9 : Ext w x9 := Ext.tr hWW hX9
              have h29 : Ext w2 x9 := Ext.tr h2W hX9
              have hr9 : Ext wr x9 := Ext.tr hXW hX9
              clear hs9 hg9 hR9 hu hst
              obtain ⟨bE, oE, cE', e1, -, -⟩ := HOW.out.open (by have := (List.getElem?_eq_some_iff.1 HOU.out).1; omega)
              obtain ⟨rfl, rfl⟩ : aE = some ⟨bE, oE, none⟩ ∧ cE = cE' := by injection e1 with e1 _ e3; exact ⟨e1, e3⟩
              clear e1
              obtain ⟨vO, hrO, hvO⟩ := slE_atR HOW.out A out HOU.out
              obtain ⟨aO, cO, rfl, -, -⟩ := hvO.form
              have HRO := Lib.hid hrO
              have hAL := (List.getElem?_eq_some_iff.1 HOU.out).1
              have hdE : decide (RUN.es.length ≤ A) = false := decide_eq_false (by omega)
              have hALb : AL.e.box.length ≤ 20000000000000 := by rw [HALE.out]; exact hge0.2
              have HPA := Lib.hid fun (w' : World) (h : Ext x9 w') => Passed_any pP m LM out AL (max Bm 0) _ _ _ w' hpok HOK.out HALO.out ((HL.out.ext (Ext.tr hr9 h)).mono (Nat.le_max_left _ _)) (hvO.ext (Ext.tr hX9 h)).bytes (HO9.out.below h (by decide)) hALb (by rw [HLL.out]; omega)
              have HFA := Lib.hid fun (w' : World) (h : Ext x9 w') => Failed_any pP m e0 AL _ _ w' hpok hge0.1 HALO.out (HV0.out.ext (Ext.tr hr9 h)).bytes (HO9.out.below h (by decide)) hge0.2
              rw [HPS.out] at HPA
              rw [HFD.out] at HFA
              rw [HLL.out] at HPA
              clear hrO hvO HPS HFD
              have hst := stabE x9
              have hk16 : HoldT (fun u => Ext x9 u) w x9.drew := HoldT.drew hst ⟨Ext.refl _, hW9⟩
              try change Code.wp _ _ _ (Act.mk _ _) _
              refine wp_region_runR Ext 28 169 (HoldT (fun u => Ext x9 u) _) [[], [], [(0, 142), (1, 143)], [(2, 144)], [], [], [], [(6, 148)], [], [(7, 149), (8, 150)], [(9, 151)], [], [(3, 145), (4, 146), (5, 147), (10, 152), (11, 153)], [(12, 154)], [(13, 155)], [(13, 155)], [(14, 156), (15, 157), (13, 155)], [(16, 158), (13, 155)], [(13, 155)], [(13, 155)], [(13, 155)], [(19, 161), (20, 162), (13, 155)], [(21, 163), (13, 155)], [(13, 155)], [(17, 159), (18, 160), (22, 164), (23, 165), (13, 155)], [(24, 166), (13, 155)], [(13, 155), (25, 167)], [(26, 168)]] [(0, 142), (1, 143), (2, 144), (3, 145), (4, 146), (5, 147), (6, 148), (7, 149), (8, 150), (9, 151), (10, 152), (11, 153), (12, 154), (13, 155), (14, 156), (15, 157), (16, 158), (17, 159), (18, 160), (19, 161), (20, 162), (21, 163), (22, 164), (23, 165), (24, 166), (25, 167), (26, 168), (27, 18)] (by kernel_rfl) (by kernel_rfl) (by first | rfl | simp) (hk16) ?_
              simp only [List.take_succ_cons, List.take_zero, List.drop_succ_cons, List.drop_zero]
              refine sp_op (Ph.eq _) (fun u hu => by
                refine spArg_nil ?_
                have k0 : u.cell? ⟨g, 0, none⟩ = some (.slice (some ⟨bE, oE, none⟩) RUN.es.length cE) := by rw [(hRg9.out.below hu.has).cell]; rfl
                go_wp2_with (fail)
                exact ⟨rfl, hu, Ext.refl _, slot_eq rfl⟩) ?_
              refine sp_op (Ph.eq _) (fun u hu => by
                refine spArg_nil ?_
                have k0 : u.cell? ⟨g, 0, none⟩ = some (.slice (some ⟨bE, oE, none⟩) RUN.es.length cE) := by rw [(hRg9.out.below hu.has).cell]; rfl
                go_wp2_with (fail)
                exact ⟨rfl, hu, Ext.refl _, slot_eq rfl⟩) ?_
              refine sp_op (Ph.eq _) (fun u hu => by
                refine spArg_eq 1 rfl rfl ?_
                refine spArg_eq 0 rfl rfl ?_
                refine spArg_nil ?_
                simp only [Act.put, List.setIfInBounds_toArray, List.set_cons_succ, List.set_cons_zero]
                have k0 : u.cell? ⟨g, 0, none⟩ = some (.slice (some ⟨bE, oE, none⟩) RUN.es.length cE) := by rw [(hRg9.out.below hu.has).cell]; rfl
                go_wp2_with (fail)
                exact ⟨rfl, hu, Ext.refl _, slot_eq rfl⟩) ?_
              refine sp_op (Ph.eq _) (fun u hu => by
                refine spArg_eq 0 rfl rfl ?_
                refine spArg_nil ?_
                simp only [Act.put, List.setIfInBounds_toArray, List.set_cons_succ, List.set_cons_zero]
                have k0 : u.cell? ⟨g, 0, none⟩ = some (.slice (some ⟨bE, oE, none⟩) RUN.es.length cE) := by rw [(hRg9.out.below hu.has).cell]; rfl
                go_wp2_with ((refine wpList_load_midG rfl 60 _ rfl (bP) (oP + m * 10) rfl _ _ (range_below HRP.out (Ext.tr h29 hu.has)) Tryz.underlying60 rfl (info_pub) ?_))
                exact ⟨rfl, hu, Ext.refl _, slot_eq rfl⟩) ?_
              refine sp_op (Ph.eq _) (fun u hu => by
                refine spArg_nil ?_
                have k0 : u.cell? ⟨g, 0, none⟩ = some (.slice (some ⟨bE, oE, none⟩) RUN.es.length cE) := by rw [(hRg9.out.below hu.has).cell]; rfl
                go_wp2_with (fail)
                exact ⟨rfl, hu, Ext.refl _, slot_eq rfl⟩) ?_
              refine sp_op (Ph.eq _) (fun u hu => by
                refine spArg_nil ?_
                have k0 : u.cell? ⟨g, 0, none⟩ = some (.slice (some ⟨bE, oE, none⟩) RUN.es.length cE) := by rw [(hRg9.out.below hu.has).cell]; rfl
                go_wp2_with (fail)
                exact ⟨rfl, hu, Ext.refl _, slot_eq rfl⟩) ?_
              refine sp_op (Ph.eq _) (fun u hu => by
                refine spArg_nil ?_
                have k0 : u.cell? ⟨g, 0, none⟩ = some (.slice (some ⟨bE, oE, none⟩) RUN.es.length cE) := by rw [(hRg9.out.below hu.has).cell]; rfl
                go_wp2_with (fail)
                exact ⟨rfl, hu, Ext.refl _, slot_eq rfl⟩) ?_
              refine sp_op (Ph.eq _) (fun u hu => by
                refine spArg_eq 0 rfl rfl ?_
                refine spArg_nil ?_
                simp only [Act.put, List.setIfInBounds_toArray, List.set_cons_succ, List.set_cons_zero]
                have k0 : u.cell? ⟨g, 0, none⟩ = some (.slice (some ⟨bE, oE, none⟩) RUN.es.length cE) := by rw [(hRg9.out.below hu.has).cell]; rfl
                go_wp2_with (fail)
                exact ⟨rfl, hu, Ext.refl _, slot_eq rfl⟩) ?_
              refine sp_op (Ph.eq _) (fun u hu => by
                refine spArg_nil ?_
                have k0 : u.cell? ⟨g, 0, none⟩ = some (.slice (some ⟨bE, oE, none⟩) RUN.es.length cE) := by rw [(hRg9.out.below hu.has).cell]; rfl
                go_wp2_with (fail)
                exact ⟨rfl, hu, Ext.refl _, slot_eq rfl⟩) ?_
              refine sp_op (Ph.eq _) (fun u hu => by
                refine spArg_eq 1 rfl rfl ?_
                refine spArg_eq 0 rfl rfl ?_
                refine spArg_nil ?_
                simp only [Act.put, List.setIfInBounds_toArray, List.set_cons_succ, List.set_cons_zero]
                have k0 : u.cell? ⟨g, 0, none⟩ = some (.slice (some ⟨bE, oE, none⟩) RUN.es.length cE) := by rw [(hRg9.out.below hu.has).cell]; rfl
                go_wp2_with (fail)
                exact ⟨rfl, hu, Ext.refl _, slot_eq rfl⟩) ?_
              refine sp_op (Ph.eq _) (fun u hu => by
                refine spArg_eq 0 rfl rfl ?_
                refine spArg_nil ?_
                simp only [Act.put, List.setIfInBounds_toArray, List.set_cons_succ, List.set_cons_zero]
                have k0 : u.cell? ⟨g, 0, none⟩ = some (.slice (some ⟨bE, oE, none⟩) RUN.es.length cE) := by rw [(hRg9.out.below hu.has).cell]; rfl
                go_wp2_with ((refine wpList_load_midG rfl 32 _ rfl (bE) (oE + A * 2) rfl _ _ (range_below HRO.out (Ext.tr hX9 hu.has)) Tryz.underlying32 rfl (info_entry) ?_))
                exact ⟨rfl, hu, Ext.refl _, slot_eq rfl⟩) ?_
              refine sp_op (Ph.eq _) (fun u hu => by
                refine spArg_nil ?_
                have k0 : u.cell? ⟨g, 0, none⟩ = some (.slice (some ⟨bE, oE, none⟩) RUN.es.length cE) := by rw [(hRg9.out.below hu.has).cell]; rfl
                go_wp2_with ((refine wpList_load_rowG rfl 57 _ rfl (g29) rfl _ _ (0, 0) _ (HR9.out.below hu.has) Tryz.underlying57 rfl (info_stp) ?_))
                exact ⟨rfl, hu, Ext.refl _, slot_eq rfl⟩) ?_
              refine sp_op (Ph.eq _) (fun u hu => by
                refine spArg_eq 8 rfl rfl ?_
                refine spArg_eq 7 rfl rfl ?_
                refine spArg_eq 6 rfl rfl ?_
                refine spArg_eq 1 rfl rfl ?_
                refine spArg_eq 0 rfl rfl ?_
                refine spArg_nil ?_
                simp only [Act.put, List.setIfInBounds_toArray, List.set_cons_succ, List.set_cons_zero]
                have k0 : u.cell? ⟨g, 0, none⟩ = some (.slice (some ⟨bE, oE, none⟩) RUN.es.length cE) := by rw [(hRg9.out.below hu.has).cell]; rfl
                go_wp2_with ((go_at_call 28; refine (HPA.out _ hu.has).mono ?_; rintro e_ x_ ⟨rfl, hb_⟩))
                exact ⟨rfl, HoldT.step hst hu hb_, hb_, slot_eq rfl⟩) ?_
              refine sp_op (Ph.eq _) (fun u hu => by
                refine spArg_eq 0 rfl rfl ?_
                refine spArg_nil ?_
                simp only [Act.put, List.setIfInBounds_toArray, List.set_cons_succ, List.set_cons_zero]
                have k0 : u.cell? ⟨g, 0, none⟩ = some (.slice (some ⟨bE, oE, none⟩) RUN.es.length cE) := by rw [(hRg9.out.below hu.has).cell]; rfl
                go_wp2_with (fail)
                exact ⟨rfl, hu, Ext.refl _, slot_eq rfl⟩) ?_
              refine sp_op (Ph.eq _) (fun u hu => by
                refine spArg_eq 0 rfl rfl ?_
                refine spArg_nil ?_
                simp only [Act.put, List.setIfInBounds_toArray, List.set_cons_succ, List.set_cons_zero]
                have k0 : u.cell? ⟨g, 0, none⟩ = some (.slice (some ⟨bE, oE, none⟩) RUN.es.length cE) := by rw [(hRg9.out.below hu.has).cell]; rfl
                go_wp2_with (fail)
                exact ⟨rfl, hu, Ext.refl _, slot_eq rfl⟩) ?_
              refine sp_op (Ph.eq _) (fun u hu => by
                refine spArg_eq 1 rfl rfl ?_
                refine spArg_nil ?_
                simp only [Act.put, List.setIfInBounds_toArray, List.set_cons_succ, List.set_cons_zero]
                have k0 : u.cell? ⟨g, 0, none⟩ = some (.slice (some ⟨bE, oE, none⟩) RUN.es.length cE) := by rw [(hRg9.out.below hu.has).cell]; rfl
                go_wp2_with (fail)
                exact ⟨rfl, hu, Ext.refl _, slot_eq rfl⟩) ?_
              refine sp_op (Ph.eq _) (fun u hu => by
                refine spArg_eq 1 rfl rfl ?_
                refine spArg_eq 0 rfl rfl ?_
                refine spArg_eq 2 rfl rfl ?_
                refine spArg_nil ?_
                simp only [Act.put, List.setIfInBounds_toArray, List.set_cons_succ, List.set_cons_zero]
                have k0 : u.cell? ⟨g, 0, none⟩ = some (.slice (some ⟨bE, oE, none⟩) RUN.es.length cE) := by rw [(hRg9.out.below hu.has).cell]; rfl
                go_wp2_with (fail)
                exact ⟨rfl, hu, Ext.refl _, slot_eq rfl⟩) ?_
              refine sp_op (Ph.eq _) (fun u hu => by
                refine spArg_eq 0 rfl rfl ?_
                refine spArg_eq 3 rfl rfl ?_
                refine spArg_nil ?_
                simp only [Act.put, List.setIfInBounds_toArray, List.set_cons_succ, List.set_cons_zero]
                have k0 : u.cell? ⟨g, 0, none⟩ = some (.slice (some ⟨bE, oE, none⟩) RUN.es.length cE) := by rw [(hRg9.out.below hu.has).cell]; rfl
                go_wp2_with ((refine wpList_load_midG rfl 60 _ rfl (bP) (oP + m * 10) rfl _ _ (range_below HRP.out (Ext.tr h29 hu.has)) Tryz.underlying60 rfl (info_pub) ?_))
                exact ⟨rfl, hu, Ext.refl _, slot_eq rfl⟩) ?_
              refine sp_op (Ph.eq _) (fun u hu => by
                refine spArg_eq 4 rfl rfl ?_
                refine spArg_nil ?_
                simp only [Act.put, List.setIfInBounds_toArray, List.set_cons_succ, List.set_cons_zero]
                have k0 : u.cell? ⟨g, 0, none⟩ = some (.slice (some ⟨bE, oE, none⟩) RUN.es.length cE) := by rw [(hRg9.out.below hu.has).cell]; rfl
                go_wp2_with (fail)
                exact ⟨rfl, hu, Ext.refl _, slot_eq rfl⟩) ?_
              refine sp_op (Ph.eq _) (fun u hu => by
                refine spArg_eq 5 rfl rfl ?_
                refine spArg_nil ?_
                simp only [Act.put, List.setIfInBounds_toArray, List.set_cons_succ, List.set_cons_zero]
                have k0 : u.cell? ⟨g, 0, none⟩ = some (.slice (some ⟨bE, oE, none⟩) RUN.es.length cE) := by rw [(hRg9.out.below hu.has).cell]; rfl
                go_wp2_with (fail)
                exact ⟨rfl, hu, Ext.refl _, slot_eq rfl⟩) ?_
              refine sp_op (Ph.eq _) (fun u hu => by
                refine spArg_eq 6 rfl rfl ?_
                refine spArg_nil ?_
                simp only [Act.put, List.setIfInBounds_toArray, List.set_cons_succ, List.set_cons_zero]
                have k0 : u.cell? ⟨g, 0, none⟩ = some (.slice (some ⟨bE, oE, none⟩) RUN.es.length cE) := by rw [(hRg9.out.below hu.has).cell]; rfl
                go_wp2_with (fail)
                exact ⟨rfl, hu, Ext.refl _, slot_eq rfl⟩) ?_
              refine sp_op (Ph.eq _) (fun u hu => by
                refine spArg_eq 1 rfl rfl ?_
                refine spArg_eq 0 rfl rfl ?_
                refine spArg_eq 7 rfl rfl ?_
                refine spArg_nil ?_
                simp only [Act.put, List.setIfInBounds_toArray, List.set_cons_succ, List.set_cons_zero]
                have k0 : u.cell? ⟨g, 0, none⟩ = some (.slice (some ⟨bE, oE, none⟩) RUN.es.length cE) := by rw [(hRg9.out.below hu.has).cell]; rfl
                go_wp2_with (fail)
                exact ⟨rfl, hu, Ext.refl _, slot_eq rfl⟩) ?_
              refine sp_op (Ph.eq _) (fun u hu => by
                refine spArg_eq 0 rfl rfl ?_
                refine spArg_eq 8 rfl rfl ?_
                refine spArg_nil ?_
                simp only [Act.put, List.setIfInBounds_toArray, List.set_cons_succ, List.set_cons_zero]
                have k0 : u.cell? ⟨g, 0, none⟩ = some (.slice (some ⟨bE, oE, none⟩) RUN.es.length cE) := by rw [(hRg9.out.below hu.has).cell]; rfl
                go_wp2_with ((refine wpList_load_midG rfl 32 _ rfl (bL) (oL + A * 2) rfl _ _ (range_below HR0.out (Ext.tr hr9 hu.has)) Tryz.underlying32 rfl (info_entry) ?_))
                exact ⟨rfl, hu, Ext.refl _, slot_eq rfl⟩) ?_
              refine sp_op (Ph.eq _) (fun u hu => by
                refine spArg_eq 9 rfl rfl ?_
                refine spArg_nil ?_
                simp only [Act.put, List.setIfInBounds_toArray, List.set_cons_succ, List.set_cons_zero]
                have k0 : u.cell? ⟨g, 0, none⟩ = some (.slice (some ⟨bE, oE, none⟩) RUN.es.length cE) := by rw [(hRg9.out.below hu.has).cell]; rfl
                go_wp2_with ((refine wpList_load_rowG rfl 57 _ rfl (g29) rfl _ _ (0, 0) _ (HR9.out.below hu.has) Tryz.underlying57 rfl (info_stp) ?_))
                exact ⟨rfl, hu, Ext.refl _, slot_eq rfl⟩) ?_
              refine sp_op (Ph.eq _) (fun u hu => by
                refine spArg_eq 6 rfl rfl ?_
                refine spArg_eq 5 rfl rfl ?_
                refine spArg_eq 1 rfl rfl ?_
                refine spArg_eq 0 rfl rfl ?_
                refine spArg_eq 10 rfl rfl ?_
                refine spArg_nil ?_
                simp only [Act.put, List.setIfInBounds_toArray, List.set_cons_succ, List.set_cons_zero]
                have k0 : u.cell? ⟨g, 0, none⟩ = some (.slice (some ⟨bE, oE, none⟩) RUN.es.length cE) := by rw [(hRg9.out.below hu.has).cell]; rfl
                go_wp2_with ((go_at_call 29; refine (HFA.out _ hu.has).mono ?_; rintro e_ x_ ⟨rfl, hb_⟩))
                exact ⟨rfl, HoldT.step hst hu hb_, hb_, slot_eq rfl⟩) ?_
              refine sp_op (Ph.eq _) (fun u hu => by
                refine spArg_eq 0 rfl rfl ?_
                refine spArg_eq 11 rfl rfl ?_
                refine spArg_nil ?_
                simp only [Act.put, List.setIfInBounds_toArray, List.set_cons_succ, List.set_cons_zero]
                have k0 : u.cell? ⟨g, 0, none⟩ = some (.slice (some ⟨bE, oE, none⟩) RUN.es.length cE) := by rw [(hRg9.out.below hu.has).cell]; rfl
                go_wp2_with (fail)
                exact ⟨rfl, hu, Ext.refl _, slot_eq rfl⟩) ?_
              refine sp_op (Ph.eq _) (fun u hu => by
                refine spArg_eq 12 rfl rfl ?_
                refine spArg_eq 0 rfl rfl ?_
                refine spArg_nil ?_
                simp only [Act.put, List.setIfInBounds_toArray, List.set_cons_succ, List.set_cons_zero]
                have k0 : u.cell? ⟨g, 0, none⟩ = some (.slice (some ⟨bE, oE, none⟩) RUN.es.length cE) := by rw [(hRg9.out.below hu.has).cell]; rfl
                go_wp2_with (fail)
                exact ⟨rfl, hu, Ext.refl _, slot_eq rfl⟩) ?_
              refine sp_op (Ph.eq _) (fun u hu => by
                refine spArg_eq 0 rfl rfl ?_
                refine spArg_nil ?_
                simp only [Act.put, List.setIfInBounds_toArray, List.set_cons_succ, List.set_cons_zero]
                have k0 : u.cell? ⟨g, 0, none⟩ = some (.slice (some ⟨bE, oE, none⟩) RUN.es.length cE) := by rw [(hRg9.out.below hu.has).cell]; rfl
                go_wp2_with (fail)
                exact ⟨rfl, hu, Ext.refl _, slot_eq rfl⟩) ?_
              refine sp_end ?_
              intro u hu
              refine spArg_eq 27 rfl rfl ?_
              refine spArg_eq 26 rfl rfl ?_
              refine spArg_eq 25 rfl rfl ?_
              refine spArg_eq 24 rfl rfl ?_
              refine spArg_eq 23 rfl rfl ?_
              refine spArg_eq 22 rfl rfl ?_
              refine spArg_eq 21 rfl rfl ?_
              refine spArg_eq 20 rfl rfl ?_
              refine spArg_eq 19 rfl rfl ?_
              refine spArg_eq 18 rfl rfl ?_
              refine spArg_eq 17 rfl rfl ?_
              refine spArg_eq 16 rfl rfl ?_
              refine spArg_eq 15 rfl rfl ?_
              refine spArg_eq 14 rfl rfl ?_
              refine spArg_eq 13 rfl rfl ?_
              refine spArg_eq 12 rfl rfl ?_
              refine spArg_eq 11 rfl rfl ?_
              refine spArg_eq 10 rfl rfl ?_
              refine spArg_eq 9 rfl rfl ?_
              refine spArg_eq 8 rfl rfl ?_
              refine spArg_eq 7 rfl rfl ?_
              refine spArg_eq 6 rfl rfl ?_
              refine spArg_eq 5 rfl rfl ?_
              refine spArg_eq 4 rfl rfl ?_
              refine spArg_eq 3 rfl rfl ?_
              refine spArg_eq 2 rfl rfl ?_
              refine spArg_eq 1 rfl rfl ?_
              refine spArg_eq 0 rfl rfl ?_
              refine spArg_nil ?_
              simp only [Act.put, List.setIfInBounds_toArray, List.set_cons_succ, List.set_cons_zero]
              go_wp2_with fail
              go_ret
              exact ⟨rfl, hu.up⟩)
    · go_enter Tryz.func8, Tryz.ntmps8
      go_wp2_with (first
        | (go_at_call 20; refine (alive20_any _).mono ?_; rintro e w1 ⟨rfl, hb1⟩; have hkey1 := hk0.out.below hb1; have hbel1 := hb0.out.trans (hb1.mono hb0.out.size))
        | (refine wpList_load_row rfl 23 _ rfl w.heap.size rfl _ (keyA seed) (0, 0) _ hkey1 under_key rfl (by rw [keyA_size, HK.out]; exact info_key) ?_)
        | (go_at_call 10; refine (LChain_any seed k _ HK.out HKI.out).mono ?_; rintro e w2 ⟨v2, u2, rfl, hok2, hb2⟩; rw [HD.out]; have hbel2 : Ext w w2 := hbel1.trans (hb2.mono hbel1.size)))
      all_goals (first | (exfalso; omega) | (go_ret; exact ⟨rfl, hbel2⟩))
  · have HD := Lib.hid (decide_eq_false hr)
    go_enter Tryz.func8, Tryz.ntmps8
    go_wp2_with (first
      | (go_at_call 20; refine (alive20_any _).mono ?_; rintro e w1 ⟨rfl, hb1⟩; have hkey1 := hk0.out.below hb1; have hbel1 := hb0.out.trans (hb1.mono hb0.out.size))
      | (refine wpList_load_row rfl 23 _ rfl w.heap.size rfl _ (keyA seed) (0, 0) _ hkey1 under_key rfl (by rw [keyA_size, HK.out]; exact info_key) ?_)
      | (go_at_call 10; refine (LChain_any seed k _ HK.out HKI.out).mono ?_; rintro e w2 ⟨v2, u2, rfl, hok2, hb2⟩; rw [HD.out]; have hbel2 : Ext w w2 := hbel1.trans (hb2.mono hbel1.size)))
    go_ret
    exact ⟨rfl, hbel2⟩
end Go.Proofs.YtnmniblaefjekaaGreat
