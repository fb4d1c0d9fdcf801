/-
  BlameUsers: walked.
-/
import Derived.Test.YtnmniblaefjekaaGreatBu2
namespace Go.Proofs.YtnmniblaefjekaaGreat
set_option linter.unusedVariables false
set_option linter.unusedSimpArgs false
open Go Go.RowKit

set_option maxRecDepth 100000 in
set_option maxHeartbeats 8000000 in
theorem BlameUsers_any (seed : List UInt8) (k n bad at_ from_ : Int) (orders : List (List Int)) (vo : Value) (w : World) (h32 : seed.length = 32) (hk : inI k) (hn : inI n) (hpl : inI bad) (hat : inI at_) (hf : in64 from_) (hvo : SlR intsR w.heap.size w vo orders) :
    Calls Tryz.prog 5 #[.agg (keyA seed), .int .i64 k, .int .i64 n, .int .i64 bad, .int .i64 at_, .int .u64 from_, vo] w fun e w' => e = .returned (.bool true) ∧ Below w.heap.size w w' := by
  have HK := Lib.hid h32; clear h32
  obtain ⟨ao0, co0, rfl, hol1, hol2⟩ := hvo.form
  have HVO := Lib.hid hvo; clear hvo
  have HKI := Lib.hid hk
  obtain ⟨k0, k1⟩ := hk
  obtain ⟨n0, n1⟩ := hn
  obtain ⟨p0, p1⟩ := hpl
  obtain ⟨t0, t1⟩ := hat
  have hk0 := Lib.hid (Blk.new w (keyA seed) 23)
  have hb0 := Lib.hid (show Below w.heap.size w (w.alloc (.cells (keyA seed) 23)) by go_grown)
  by_cases hr : 1 ≤ k ∧ k ≤ 6
  · have HD := Lib.hid (decide_eq_true hr)
    by_cases hg : (1 ≤ n ∧ n ≤ 6) ∧ (0 ≤ bad ∧ bad < k) ∧ (0 ≤ at_ ∧ at_ < n) ∧ k ≤ orders.length
    · obtain ⟨⟨g1, g2⟩, ⟨g3, g4⟩, ⟨g5, g6⟩, g7⟩ := hg
      obtain ⟨K, rfl⟩ : ∃ K : Nat, k = K := ⟨k.toNat, by omega⟩
      obtain ⟨N, rfl⟩ : ∃ N : Nat, n = N := ⟨n.toNat, by omega⟩
      obtain ⟨PL, rfl⟩ : ∃ P : Nat, bad = P := ⟨bad.toNat, by omega⟩
      obtain ⟨A, rfl⟩ : ∃ A : Nat, at_ = A := ⟨at_.toNat, by omega⟩
      have hd1 : ¬ (N : Int) < 1 := by omega
      have hd2 : ¬ (6 : Int) < (N : Int) := by omega
      have hd3 : decide ((PL : Int) < 0) = false := decide_eq_false (by omega)
      have hd4 : decide (K ≤ PL) = false := decide_eq_false (by omega)
      have hd5 : decide ((A : Int) < 0) = false := decide_eq_false (by omega)
      have hd6 : decide (N ≤ A) = false := decide_eq_false (by omega)
      have hd7 : decide (orders.length < K) = false := decide_eq_false (by omega)
      have hd7' : ¬ ((orders.length : Int) < (K : Int)) := by omega
      have hLS := length_keysSL seed 3 4 (K : Int).toNat
      have hSO := keysSL_ok seed 3 4 (K : Int).toNat
      have hPO : ∀ p ∈ keysP seed 3 4 (K : Int).toNat, p.ok := chainN_ok _ _ _
      have hRR := fun (u : World) => LChain_any seed K u HK.out HKI.out
      unfold RetC at hRR
      rw [show keysP seed 3 4 (K : Int).toNat = chainL (keysSL seed 3 4 (K : Int).toNat) (keysDL seed 3 4 (K : Int).toNat) from rfl] at hPO hRR
      generalize keysDL seed 3 4 (K : Int).toNat = dd at *
      generalize keysSL seed 3 4 (K : Int).toNat = ss at *
      rw [Int.toNat_natCast] at hLS
      have hLP : (chainL ss dd).length = K := by rw [length_chainL]; exact hLS
      have HRR := Lib.hid hRR; have HLS := Lib.hid hLS; have HLP := Lib.hid hLP; have HSO := Lib.hid hSO; have HPO := Lib.hid hPO
      have HPU := Lib.hid fun i s p (h1 : ss[i]? = some s) (h2 : (chainL ss dd)[i]? = some p) => pubOf_chain hSO h1 h2
      have hx := madeX_in from_ A
      have hl0 : (l0S (chainL ss dd) from_ N A PL)[A]? = some (entAt ss dd (madeX from_ A) (put64 A) PL 0) := by
        unfold l0S; rw [List.getElem?_set_self (by rw [length_madeL]; omega), entAt_zero]
      have hg0 : ∀ e ∈ l0S (chainL ss dd) from_ N A PL, Good ss dd PL 0 e := fun e he => by
        unfold l0S at he
        rcases List.mem_or_eq_of_mem_set he with he | rfl
        · exact made_good N e he
        · exact ⟨madeX from_ A, put64 A, PL, hx, by rw [length_put64]; decide, fun j hj => by omega, rfl⟩
      have HLV := Lib.hid fun (i : Nat) (hi : i ≤ PL) => lev_good (draw := from_) (O := ordO orders) hSO (show ss.length ≤ 1000 by omega) (show PL ≤ ss.length by omega) hg0 i hi
      have HGK := Lib.hid fun (i : Nat) (e : Ent) (h : Good ss dd PL i e) => (show e.ok ∧ e.box.length ≤ 20000000000000 from ⟨⟨Int.le_of_lt (h.ok hSO).1, Int.lt_trans (h.ok hSO).2 (by decide)⟩, Nat.le_trans (h.len (show ss.length ≤ 1000 by omega)) (by decide)⟩)
      have hLA := lev_at (draw := from_) (O := ordO orders) hSO (show ss.length ≤ 1000 by omega) (show PL ≤ ss.length by omega) hg0 hl0 hx (fun j hj => by omega)
      rw [length_l0S] at hLA
      have HLA := Lib.hid hLA
      have HPE := Lib.hid fun (i : Nat) (s : Sec) (h : ss[i]? = some s) (hi : i < PL) => peel_any ss dd (madeX from_ A) (put64 A) PL i s h hSO hx (show ss.length ≤ 1000 by omega) (by omega)
      have HXO := Lib.hid fun (i : Nat) (hi : i ≤ PL) (e : Ent) (he : e ∈ levN ss (chainL ss dd) from_ (ordO orders) (l0S (chainL ss dd) from_ N A PL) i) => ((HLV.out i hi).2 e he).ok hSO
      have HJL := Lib.hid fun i : Nat => posN_lt (n := N) (O := ordO orders) (user := A) (show A < N by omega) i
      have HSPD := Lib.hid fun (u : World) (v v' : Value) (h1 : SeesS u v ss) (h2 : SeesP u v' (chainL ss dd)) (h3 : SlR intsR w.heap.size u (.slice ao0 orders.length co0) orders) => Spoiled20_any ss (chainL ss dd) K N PL A from_ orders w.heap.size v v' _ u h1 h2 h3 hLS hLP (by omega) (by omega) (by omega) (by omega) (by omega) (by omega) hSO hPO hf (fun i hi => by
        obtain ⟨q1, q2⟩ := HLV.out i hi
        rw [length_l0S] at q1
        exact ⟨q1, fun e he => HGK.out i e (q2 e he)⟩)
      have HLL := Lib.hid fun (i : Nat) (hi : i ≤ PL) => (show (levN ss (chainL ss dd) from_ (ordO orders) (l0S (chainL ss dd) from_ N A PL) i).length = N ∧ ∀ e ∈ levN ss (chainL ss dd) from_ (ordO orders) (l0S (chainL ss dd) from_ N A PL) i, e.ok ∧ e.box.length ≤ 20000000000000 from by
        obtain ⟨q1, q2⟩ := HLV.out i hi
        rw [length_l0S] at q1
        exact ⟨q1, fun e he => HGK.out i e (q2 e he)⟩)
      clear hl0 hg0 hLA HLV HGK hx
      clear hRR hLS hLP hSO hPO
      generalize hEE : (fun i : Nat => entAt ss dd (madeX from_ A) (put64 A) PL i) = E at *
      have hEi : ∀ i, entAt ss dd (madeX from_ A) (put64 A) PL i = E i := fun i => congrFun hEE i
      simp only [hEi] at HLA HPE
      clear hEi hEE
      generalize hPS : chainL ss dd = ps at *
      clear hPS
      generalize hLVD : (fun i : Nat => levN ss ps from_ (ordO orders) (l0S ps from_ N A PL) i) = LT at *
      have hLi : ∀ i, levN ss ps from_ (ordO orders) (l0S ps from_ N A PL) i = LT i := fun i => congrFun hLVD i
      simp only [hLi] at HLA HXO HLL
      clear hLi hLVD
      have hPLK : PL < K := by omega
      obtain ⟨sP, hsP⟩ : ∃ s, ss[PL]? = some s := ⟨_, List.getElem?_eq_getElem (by rw [HLS.out]; exact hPLK)⟩
      obtain ⟨pP, hpP⟩ : ∃ p, ps[PL]? = some p := ⟨_, List.getElem?_eq_getElem (by rw [HLP.out]; exact hPLK)⟩
      have HSP := Lib.hid hsP; have HPP := Lib.hid hpP
      clear hsP hpP
      go_enter Tryz.func5, Tryz.ntmps5
      go_wp2_with (first
        | (go_at_call 20; refine (alive20_any _).mono ?_; rintro e w1 ⟨rfl, hb1⟩; have hkey1 := hk0.out.below hb1; have hbel1 := hb0.out.trans (hb1.mono hb0.out.size))
        | (refine wpList_load_row rfl 23 _ rfl w.heap.size rfl _ (keyA seed) (0, 0) _ hkey1 under_key rfl (by rw [keyA_size, HK.out]; exact info_key) ?_)
        | (go_at_call 10; refine (HRR.out _).mono ?_; rintro e w2 ⟨v2, u2, rfl, hok2, hb2⟩; rw [HD.out]; have hbel2 : Ext w w2 := hbel1.trans (hb2.mono hbel1.size)
           have HS2 := Lib.hid (show SeesS w2 v2 ss from sees_of_owns (hok2 hr).1)
           have HP2 := Lib.hid (show SeesP w2 u2 ps from sees_of_owns (hok2 hr).2)
           have HPR := Lib.hid (show SlR pubR 0 w2 u2 ps from slP_own (hok2 hr).2)
           clear hok2)
        | (go_at_call 21; refine (HSPD.out _ _ _ HS2.out HP2.out (HVO.out.ext hbel2)).mono ?_; rintro e w3 ⟨v3, rfl, hown3, hb3⟩
           obtain ⟨a3, c3, rfl, -, -⟩ := hown3.sl.form
           have hbel3 : Ext w w3 := Ext.tr hbel2 hb3))
      obtain ⟨bS, oS, cS, rfl, -, -, -⟩ := seesS_open HS2.out (by rw [HLS.out]; omega)
      obtain ⟨bP, oP, cP, rfl, -, -, -⟩ := seesP_open HP2.out (by rw [HLP.out]; omega)
      have HSA := Lib.hid fun i s (h : ss[i]? = some s) => seesS_at HS2.out (by rw [HLS.out]; omega) i s h
      have HPA := Lib.hid fun i p (h : ps[i]? = some p) => seesP_at HP2.out (by rw [HLP.out]; omega) i p h
      have HX : Hid (Ext w2 w3) := Lib.hid hb3
      have HLS2 := Lib.hid hown3
      clear hown3 hb3 hbel3 HSPD HRR
      rw [HLS.out, HLP.out]
      have hF : ∀ i : Nat, ∃ t : Sec × Pub, i ≤ PL → ss[i]? = some t.1 ∧ ps[i]? = some t.2 := by
        intro i
        by_cases hi : i ≤ PL
        · obtain ⟨s, hs⟩ : ∃ s, ss[i]? = some s := ⟨_, List.getElem?_eq_getElem (by rw [HLS.out]; omega)⟩
          obtain ⟨p, hp⟩ : ∃ p, ps[i]? = some p := ⟨_, List.getElem?_eq_getElem (by rw [HLP.out]; omega)⟩
          exact ⟨(s, p), fun _ => ⟨hs, hp⟩⟩
        · exact ⟨(sP, pP), fun h => absurd h hi⟩
      obtain ⟨F, hF⟩ := Classical.axiomOfChoice hF
      have hEO := fun (i : Nat) (hi : i ≤ PL) => (HLL.out i hi).2 _ (List.mem_of_getElem? (HLA.out i hi))
      have HJ0 := Lib.hid (show posN N (ordO orders) A 0 = A from rfl)
      have HJP := Lib.hid fun (i : Nat) (od : List Int) (h : orders[i]? = some od) (hc : od.length = N ∧ permOk od) => (show od[posN N (ordO orders) A (i + 1)]? = some (posN N (ordO orders) A i : Int) from by
        have := (posN_perm (n := N) (O := ordO orders) (user := A) (show A < N by omega) (i := i) (by rw [ordO_at h]; exact hc)).2
        rwa [ordO_at h] at this)
      have HJN := Lib.hid fun (i : Nat) (od : List Int) (h : orders[i]? = some od) (hc : ¬ (od.length = N ∧ permOk od)) => (show posN N (ordO orders) A (i + 1) = posN N (ordO orders) A i from posN_no (by rw [ordO_at h]; exact hc))
      generalize posN N (ordO orders) A = J at *
      generalize hAT : (fun i : Nat => answerL (F i).1 (F i).2 (J i) (E i) 5 6) = AT
      have hATi := fun i : Nat => congrFun hAT i
      have hlaw : opE (F PL).1 PL (E PL) = none → traceL ps (lvs LT PL) (J PL) (lvs (fun j => AT (PL - j)) PL) = (1, (A : Int)) := fun hno => by
        have hFm := hF PL (Nat.le_refl _)
        have h := blamed_user (ps := ps) (lists := lvs LT PL) (steps := lvs (fun j => AT (PL - j)) PL) (h := PL) (last := LT PL) (p := (F PL).2) (fun i => (F i).1) E J 5 6 ⟨by decide, by decide⟩ ⟨by decide, by decide⟩ (length_lvs _ _) (lvs_get _ (Nat.le_refl _)) hFm.2 (HLA.out PL (Nat.le_refl _)) (by rw [lvs_get _ (Nat.zero_le _), Nat.sub_zero, ← hATi]) (HPU.out PL _ _ hFm.1 hFm.2) (HSO.out _ (List.mem_of_getElem? hFm.1)) (HXO.out PL (Nat.le_refl _) _ (List.mem_of_getElem? (HLA.out PL (Nat.le_refl _)))) hno (fun i hi => by
          have hFi := hF i (by omega)
          exact ⟨(F i).2, LT i, hFi.2, lvs_get _ (by omega), by rw [lvs_get _ (by omega), show PL - (PL - i) = i from by omega, ← hATi], HPU.out i _ _ hFi.1 hFi.2, HSO.out _ (List.mem_of_getElem? hFi.1), HLA.out i (by omega), HPE.out i _ hFi.1 hi⟩)
        rw [HJ0.out] at h; exact h
      obtain ⟨bT, oT, cT, e1, -, -⟩ := HLS2.out.sl.open (by rw [length_lvs]; omega)
      obtain ⟨rfl, rfl⟩ : a3 = some ⟨bT, oT, none⟩ ∧ c3 = cT := by injection e1 with e1 _ e3; exact ⟨e1, e3⟩
      clear e1
      have hPL := fun (i : Nat) (hi : i ≤ PL) => (show ∃ bi oi ci a0 c0, w3.rangeAt bT (oT + i) [.slice (some ⟨bi, oi, none⟩) N ci] ∧ w3.rangeAt bi (oi + J i * 2) [.int .u64 (E i).x, .slice a0 (E i).box.length c0] ∧ SlR byteR 0 w3 (.slice a0 (E i).box.length c0) (E i).box by
        obtain ⟨ch, ⟨v, rfl, hv⟩, _, hr⟩ := HLS2.out.sl.at i _ (lvs_get _ hi)
        have g1 := (HLL.out i hi).1
        obtain ⟨bi, oi, ci, rfl, -, -⟩ := hv.open (by rw [g1]; omega)
        rw [g1] at hr hv
        obtain ⟨v0, h1, h2⟩ := slE_atR hv (J i) _ (HLA.out i hi)
        obtain ⟨a0, c0, rfl, -, -⟩ := h2.form
        exact ⟨bi, oi, ci, a0, c0, by rw [show entsR.sz = 1 from rfl, Nat.mul_one] at hr; exact hr, h1, h2⟩)
      have hSOK := fun (i : Nat) (hi : i ≤ PL) => HSO.out _ (List.mem_of_getElem? (hF i hi).1)
      have hPOK := fun (i : Nat) (hi : i ≤ PL) => HPO.out _ (List.mem_of_getElem? (hF i hi).2)
      have hAN := fun (i : Nat) (hi : i ≤ PL) (ve : Value) (w' : World) (h : SeesB w' ve (E i).box) => BAnswer_any (F i).1 (F i).2 (J i) (E i) 5 6 ve w' (hSOK i hi) (hPOK i hi) (hEO i hi).1 ⟨by decide, by decide⟩ ⟨by decide, by decide⟩ h (hEO i hi).2
      have hATj : ∀ i : Nat, answerL (F i).1 (F i).2 (J i) (E i) 5 6 = AT i := hATi
      simp only [hATj] at hAN
      have HAN := Lib.hid hAN
      clear hAN hATj
      have HALO := Lib.hid fun (i : Nat) (hi : i ≤ PL) => (show (AT i).ok by rw [← hATi i]; exact answerL_ok (by have := HJL.out i; omega) (hEO i hi).1)
      have HATE := Lib.hid fun (i : Nat) => (show (AT i).e = E i by rw [← hATi i]; rfl)
      have HRS := Lib.hid fun (i : Nat) (hi : i ≤ PL) => HSA.out i _ (hF i hi).1
      have HRP := Lib.hid fun (i : Nat) (hi : i ≤ PL) => HPA.out i _ (hF i hi).2
      have HPLL := Lib.hid hPL
      have HLAW := Lib.hid hlaw
      have HEO := Lib.hid hEO
      have HLSO := Lib.hid (show ∀ es ∈ lvs LT PL, es.length ≤ 1000000000 ∧ ∀ e ∈ es, e.ok ∧ e.box.length ≤ 20000000000000 from fun es he => by
        unfold lvs at he
        obtain ⟨i, hi, rfl⟩ := List.mem_map.1 he
        have hi := List.mem_range.1 hi
        obtain ⟨q1, q2⟩ := HLL.out i (by omega)
        exact ⟨by rw [q1]; omega, q2⟩)
      have HOH := Lib.hid fun (u : World) (v : Value) (h : SeesB u v (E PL).box) => OpenHop_any (F PL).1.blind (F PL).1.mix (F PL).1.inner PL (E PL).x (E PL).box v u (hSOK PL (Nat.le_refl _)).1 (hSOK PL (Nat.le_refl _)).2.1 (hEO PL (Nat.le_refl _)).1 h (hEO PL (Nat.le_refl _)).2
      have HOLN := Lib.hid (show ∀ od ∈ orders, od.length ≤ 9223372036854775807 from fun od hod => by
        obtain ⟨i, hi⟩ := List.mem_iff_getElem?.1 hod
        obtain ⟨bO, oO, cO, e, -, -⟩ := HVO.out.open (by omega)
        obtain ⟨rfl, rfl⟩ : ao0 = some ⟨bO, oO, none⟩ ∧ co0 = cO := by injection e with e1 _ e3; exact ⟨e1, e3⟩
        obtain ⟨v, _, hv⟩ := slL_atI HVO.out i od hi
        obtain ⟨_, _, _, q1, q2⟩ := hv.form
        exact Nat.le_trans q1 q2)
      obtain ⟨bO, oO, cO, e1, -, -⟩ := HVO.out.open (by omega)
      obtain ⟨rfl, rfl⟩ : ao0 = some ⟨bO, oO, none⟩ ∧ co0 = cO := by injection e1 with e1 _ e3; exact ⟨e1, e3⟩
      clear e1 hF hAT hlaw hPL hATi hEO hSOK hPOK
      have HOA := Lib.hid fun (i : Nat) (hi : i < K) => (show ∃ od ao co, orders[i]? = some od ∧ w.cell? ⟨bO, oO + i, none⟩ = some (.slice ao od.length co) ∧ SlR intR w.heap.size w (.slice ao od.length co) od from by
        obtain ⟨od, hod⟩ : ∃ od, orders[i]? = some od := ⟨_, List.getElem?_eq_getElem (by omega)⟩
        obtain ⟨v, hc, hv⟩ := slL_atI HVO.out i od hod
        obtain ⟨ao, co, rfl, -, -⟩ := hv.form
        exact ⟨od, ao, co, hod, hc, hv⟩)
      rw [length_lvs]
      obtain ⟨bi, oi, ci, a0, c0, hq1, hq2, hq3⟩ := HPLL.out PL (Nat.le_refl _)
      have HQ1 := Lib.hid hq1; have HQ2 := Lib.hid hq2; have HQ3 := Lib.hid hq3
      have HRM := Lib.hid (HRS.out PL (Nat.le_refl _))
      have hJP := HJL.out PL
      have hdN : decide (N ≤ J PL) = false := decide_eq_false (by omega)
      have hdK : decide (K ≤ PL) = false := decide_eq_false (by omega)
      have hdM : decide (PL + 1 ≤ PL) = false := decide_eq_false (by omega)
      clear hq1 hq2 hq3
      have hstab := stabE w3
      have hkO : HoldT (fun u => Ext w3 u) w w3.drew := HoldT.drew hstab ⟨Ext.refl _, Ext.tr hbel2 HX.out⟩
      have hqL : ∀ e : InC (fun u => Ext w3 u), e.u.cell? ⟨bT, oT + PL, none⟩ = some (.slice (some ⟨bi, oi, none⟩) N ci) := fun e => range_below HQ1.out e.has 0 _ rfl
      have hqE0 : ∀ e : InC (fun u => Ext w3 u), e.u.cell? ⟨bi, oi + J PL * 2, none⟩ = some (.int .u64 (E PL).x) := fun e => by have := range_below HQ2.out e.has 0 _ rfl; rwa [Nat.add_zero] at this
      have hqE1 : ∀ e : InC (fun u => Ext w3 u), e.u.cell? ⟨bi, oi + J PL * 2 + 1, none⟩ = some (.slice a0 (E PL).box.length c0) := fun e => range_below HQ2.out e.has 1 _ rfl
      have hop : opE (F PL).1 PL (E PL) = (openE (F PL).1.blind (F PL).1.mix PL (E PL).x (E PL).box).map fun p => ⟨p.1, p.2⟩ := rfl
      generalize openE (F PL).1.blind (F PL).1.mix PL (E PL).x (E PL).box = o at *
      cases o with
      | some r =>
        clear hop
        have HOH2 := Lib.hid HOH.out
        unfold RetOE at HOH2
        simp only [Option.getD_some, Option.isSome_some] at HOH2
        go_wp2_with fail
        try change Code.wp _ _ _ (Act.mk _ _) _
        haveI hne_ : Nonempty (InC (fun u => Ext w3 u)) := ⟨⟨_, (hkO).1⟩⟩
        refine wp_region_tr (C := fun w_ => ∃ e_ : InC (fun u => Ext w3 u), w_ = e_.u) (.step [0, 1, 2, 3, 4, 5, 6, 7, 8, 9, 10, 11] (.alt 12 (.step [13, 14, 15] (.alt 16 (.step [] (.alt 17 (.fin [18]) .nil)) .nil)) (.alt 16 (.step [] (.alt 12 (.step [13, 14, 15] (.alt 17 (.fin [18]) .nil)) .nil)) .nil))) (by kernel_rfl) (by kernel_rfl) (fun _ _ _ _ hd_ h_ => ⟨hd_.symm.trans h_.1, h_.2⟩) ⟨⟨World.drew _, (hkO).1⟩, rfl⟩ ?_
        have hk_ := hkO
        repeat' (first
          | ((with_reducible refine wpTr_fin ?_)
             simp only [pickOps, List.flatMap_cons, List.flatMap_nil, List.drop_succ_cons, List.drop_zero, List.take_succ_cons, List.take_zero, List.cons_append, List.nil_append, List.append_nil]
             repeat (first | ((refine wpQuiet_load_mid rfl 54 (.tmp 87) rfl bS (oS + PL * 3) rfl (F PL).1.cells _ (fun w_ hw_ => by obtain ⟨e_, rfl⟩ := hw_; exact range_below HRM.out (Ext.tr HX.out e_.has)) Tryz.underlying54 rfl info_sec ?_; simp only [Act.put, List.setIfInBounds_toArray, List.set_cons_succ, List.set_cons_zero])) | go_big_quiet_step (exact rfl))
             refine wpQuiet_nil ?_)
          | ((with_reducible refine wpTr_step ?_); simp only [pickOps, List.flatMap_cons, List.flatMap_nil, List.drop_succ_cons, List.drop_zero, List.take_succ_cons, List.take_zero, List.cons_append, List.nil_append, List.append_nil]; repeat (first | ((refine wpQuiet_load_mid rfl 54 (.tmp 87) rfl bS (oS + PL * 3) rfl (F PL).1.cells _ (fun w_ hw_ => by obtain ⟨e_, rfl⟩ := hw_; exact range_below HRM.out (Ext.tr HX.out e_.has)) Tryz.underlying54 rfl info_sec ?_; simp only [Act.put, List.setIfInBounds_toArray, List.set_cons_succ, List.set_cons_zero])) | go_big_quiet_step (exact rfl))
             refine wpQuiet_nil ?_)
          | (with_reducible refine wpTr_one ?_)
          | (with_reducible refine wpTr_alt ?_ ?_)
          | (simp only [pickOps, List.flatMap_cons, List.flatMap_nil, List.drop_succ_cons, List.drop_zero, List.take_succ_cons, List.take_zero, List.cons_append, List.nil_append, List.append_nil]
             go_wp2_with (first
          | (go_at_call 22; refine (HOH2.out _ _ (HQ3.out.ext hk_.has).bytes).mono ?_; rintro r_ x5 ⟨v5, rfl, how5, e5⟩; obtain ⟨a5, c5, rfl, -, -⟩ := owns_form how5; have hk5 := HoldT.step hstab hk_ e5; have e5' : Ext _ x5 := e5)
          | (refine wpList_allocB rfl _ rfl #[.int .u64 0, .slice none 0 0] run_allocEnt ?_; intro x6 g hG hg6 e6; have hg0 := Nat.le_trans (Below.size hk_.has) hg6; have hk6 := HoldT.step hstab hk_ e6; have e6' : Ext _ x6 := e6)
          | (refine wpList_store_row rfl 32 (.tmp 21) _ rfl g _ _ _ rfl rfl (exBl hG) rfl info_entry (by intro v hv; simp at hv; rcases hv with rfl | rfl <;> rfl) ?_; intro x7 hg7 hs7 hR7
             have hbel7 : Ext w3 x7 := ext_row hk_.has hg7 hg0
             have hk7 : HoldT (fun u => Ext w3 u) w x7 := ⟨hbel7, Ext.tr (Ext.tr hbel2 HX.out) hbel7⟩
             clear hs7))
             refine phPost_hold (by first | with_reducible assumption | exact HoldT.alloc hstab (by with_reducible assumption) _ | exact HoldT.alloc hstab (HoldT.alloc hstab (by with_reducible assumption) _) _) ?_
             intro hk_))
        all_goals (
          go_wp2_with fail
          go_ret
          exact ⟨rfl, hk_.up⟩)
      | none =>
        have hlw := HLAW.out (by rw [hop]; rfl)
        clear hop
        have HOH2 := Lib.hid HOH.out
        unfold RetOE at HOH2
        simp only [Option.getD_none, Option.isSome_none] at HOH2
        have HLW := Lib.hid hlw
        clear hlw
        go_wp2_with fail
        try change Code.wp _ _ _ (Act.mk _ _) _
        haveI hne_ : Nonempty (InC (fun u => Ext w3 u)) := ⟨⟨_, (hkO).1⟩⟩
        refine wp_region_tr (C := fun w_ => ∃ e_ : InC (fun u => Ext w3 u), w_ = e_.u) (.step [0, 1, 2, 3, 4, 5, 6, 7, 8, 9, 10, 11] (.alt 12 (.step [13, 14, 15] (.alt 16 (.step [] (.alt 17 (.fin [18]) .nil)) .nil)) (.alt 16 (.step [] (.alt 12 (.step [13, 14, 15] (.alt 17 (.fin [18]) .nil)) .nil)) .nil))) (by kernel_rfl) (by kernel_rfl) (fun _ _ _ _ hd_ h_ => ⟨hd_.symm.trans h_.1, h_.2⟩) ⟨⟨World.drew _, (hkO).1⟩, rfl⟩ ?_
        have hk_ := hkO
        repeat' (first
          | ((with_reducible refine wpTr_fin ?_)
             simp only [pickOps, List.flatMap_cons, List.flatMap_nil, List.drop_succ_cons, List.drop_zero, List.take_succ_cons, List.take_zero, List.cons_append, List.nil_append, List.append_nil]
             repeat (first | ((refine wpQuiet_load_mid rfl 54 (.tmp 87) rfl bS (oS + PL * 3) rfl (F PL).1.cells _ (fun w_ hw_ => by obtain ⟨e_, rfl⟩ := hw_; exact range_below HRM.out (Ext.tr HX.out e_.has)) Tryz.underlying54 rfl info_sec ?_; simp only [Act.put, List.setIfInBounds_toArray, List.set_cons_succ, List.set_cons_zero])) | go_big_quiet_step (exact rfl))
             refine wpQuiet_nil ?_)
          | ((with_reducible refine wpTr_step ?_); simp only [pickOps, List.flatMap_cons, List.flatMap_nil, List.drop_succ_cons, List.drop_zero, List.take_succ_cons, List.take_zero, List.cons_append, List.nil_append, List.append_nil]; repeat (first | ((refine wpQuiet_load_mid rfl 54 (.tmp 87) rfl bS (oS + PL * 3) rfl (F PL).1.cells _ (fun w_ hw_ => by obtain ⟨e_, rfl⟩ := hw_; exact range_below HRM.out (Ext.tr HX.out e_.has)) Tryz.underlying54 rfl info_sec ?_; simp only [Act.put, List.setIfInBounds_toArray, List.set_cons_succ, List.set_cons_zero])) | go_big_quiet_step (exact rfl))
             refine wpQuiet_nil ?_)
          | (with_reducible refine wpTr_one ?_)
          | (with_reducible refine wpTr_alt ?_ ?_)
          | (simp only [pickOps, List.flatMap_cons, List.flatMap_nil, List.drop_succ_cons, List.drop_zero, List.take_succ_cons, List.take_zero, List.cons_append, List.nil_append, List.append_nil]
             go_wp2_with (first
          | (go_at_call 22; refine (HOH2.out _ _ (HQ3.out.ext hk_.has).bytes).mono ?_; rintro r_ x5 ⟨v5, rfl, how5, e5⟩; obtain ⟨a5, c5, rfl, -, -⟩ := owns_form how5; have hk5 := HoldT.step hstab hk_ e5; have e5' : Ext _ x5 := e5)
          | (refine wpList_allocB rfl _ rfl #[.int .u64 0, .slice none 0 0] run_allocEnt ?_; intro x6 g hG hg6 e6; have hg0 := Nat.le_trans (Below.size hk_.has) hg6; have hk6 := HoldT.step hstab hk_ e6; have e6' : Ext _ x6 := e6)
          | (refine wpList_store_row rfl 32 (.tmp 21) _ rfl g _ _ _ rfl rfl (exBl hG) rfl info_entry (by intro v hv; simp at hv; rcases hv with rfl | rfl <;> rfl) ?_; intro x7 hg7 hs7 hR7
             have hbel7 : Ext w3 x7 := ext_row hk_.has hg7 hg0
             have hk7 : HoldT (fun u => Ext w3 u) w x7 := ⟨hbel7, Ext.tr (Ext.tr hbel2 HX.out) hbel7⟩
             clear hs7))
             refine phPost_hold (by first | with_reducible assumption | exact HoldT.alloc hstab (by with_reducible assumption) _ | exact HoldT.alloc hstab (HoldT.alloc hstab (by with_reducible assumption) _) _) ?_
             intro hk_))
        all_goals (
          have HAM := Lib.hid (HAN.out PL (Nat.le_refl _))
          have HPM := Lib.hid (HRP.out PL (Nat.le_refl _))
          have hk13 : HoldT (fun u => Ext w3 u) w x7.drew := HoldT.drew hstab ⟨hbel7, hk_.up⟩
          clear hqL hqE0 hqE1
          go_wp2_with fail
          try change Code.wp _ _ _ (Act.mk _ _) _
          refine wp_region_runR Ext 17 175 (HoldT (fun u => Ext w3 u) _) [[], [], [(0, 101), (1, 102)], [(2, 103)], [], [], [(4, 105), (5, 106)], [(6, 107)], [], [], [], [(9, 110), (10, 111)], [(11, 112)], [], [(12, 113), (13, 114)], [(14, 115)], [(3, 104), (7, 108), (8, 109), (15, 116)]] [(0, 101), (1, 102), (2, 103), (3, 104), (4, 105), (5, 106), (6, 107), (7, 108), (8, 109), (9, 110), (10, 111), (11, 112), (12, 113), (13, 114), (14, 115), (15, 116), (16, 117)] (by kernel_rfl) (by kernel_rfl) (by first | rfl | simp) (hk13) ?_
          simp only [List.take_succ_cons, List.take_zero, List.drop_succ_cons, List.drop_zero]
          refine sp_op (Ph.eq _) (fun u hu => by
            refine spArg_nil ?_
            have k0 : u.cell? ⟨bT, oT + PL, none⟩ = some (.slice (some ⟨bi, oi, none⟩) N ci) := range_below HQ1.out hu.has 0 _ rfl
            go_wp2_with (fail)
            exact ⟨rfl, hu, Ext.refl _, slot_eq rfl⟩) ?_
          refine sp_op (Ph.eq _) (fun u hu => by
            refine spArg_nil ?_
            have k0 : u.cell? ⟨bT, oT + PL, none⟩ = some (.slice (some ⟨bi, oi, none⟩) N ci) := range_below HQ1.out hu.has 0 _ rfl
            go_wp2_with (fail)
            exact ⟨rfl, hu, Ext.refl _, slot_eq rfl⟩) ?_
          refine sp_op (Ph.eq _) (fun u hu => by
            refine spArg_eq 1 rfl rfl ?_
            refine spArg_eq 0 rfl rfl ?_
            refine spArg_nil ?_
            simp only [Act.put, List.setIfInBounds_toArray, List.set_cons_succ, List.set_cons_zero]
            have k0 : u.cell? ⟨bT, oT + PL, none⟩ = some (.slice (some ⟨bi, oi, none⟩) N ci) := range_below HQ1.out hu.has 0 _ rfl
            go_wp2_with (fail)
            exact ⟨rfl, hu, Ext.refl _, slot_eq rfl⟩) ?_
          refine sp_op (Ph.eq _) (fun u hu => by
            refine spArg_eq 0 rfl rfl ?_
            refine spArg_nil ?_
            simp only [Act.put, List.setIfInBounds_toArray, List.set_cons_succ, List.set_cons_zero]
            have k0 : u.cell? ⟨bT, oT + PL, none⟩ = some (.slice (some ⟨bi, oi, none⟩) N ci) := range_below HQ1.out hu.has 0 _ rfl
            go_wp2_with ((refine wpList_load_midG rfl 54 _ rfl (bS) (oS + PL * 3) rfl _ _ (range_below HRM.out (Ext.tr HX.out hu.has)) Tryz.underlying54 rfl (info_sec) ?_))
            exact ⟨rfl, hu, Ext.refl _, slot_eq rfl⟩) ?_
          refine sp_op (Ph.eq _) (fun u hu => by
            refine spArg_nil ?_
            have k0 : u.cell? ⟨bT, oT + PL, none⟩ = some (.slice (some ⟨bi, oi, none⟩) N ci) := range_below HQ1.out hu.has 0 _ rfl
            go_wp2_with (fail)
            exact ⟨rfl, hu, Ext.refl _, slot_eq rfl⟩) ?_
          refine sp_op (Ph.eq _) (fun u hu => by
            refine spArg_nil ?_
            have k0 : u.cell? ⟨bT, oT + PL, none⟩ = some (.slice (some ⟨bi, oi, none⟩) N ci) := range_below HQ1.out hu.has 0 _ rfl
            go_wp2_with (fail)
            exact ⟨rfl, hu, Ext.refl _, slot_eq rfl⟩) ?_
          refine sp_op (Ph.eq _) (fun u hu => by
            refine spArg_eq 1 rfl rfl ?_
            refine spArg_eq 0 rfl rfl ?_
            refine spArg_nil ?_
            simp only [Act.put, List.setIfInBounds_toArray, List.set_cons_succ, List.set_cons_zero]
            have k0 : u.cell? ⟨bT, oT + PL, none⟩ = some (.slice (some ⟨bi, oi, none⟩) N ci) := range_below HQ1.out hu.has 0 _ rfl
            go_wp2_with (fail)
            exact ⟨rfl, hu, Ext.refl _, slot_eq rfl⟩) ?_
          refine sp_op (Ph.eq _) (fun u hu => by
            refine spArg_eq 0 rfl rfl ?_
            refine spArg_nil ?_
            simp only [Act.put, List.setIfInBounds_toArray, List.set_cons_succ, List.set_cons_zero]
            have k0 : u.cell? ⟨bT, oT + PL, none⟩ = some (.slice (some ⟨bi, oi, none⟩) N ci) := range_below HQ1.out hu.has 0 _ rfl
            go_wp2_with ((refine wpList_load_midG rfl 60 _ rfl (bP) (oP + PL * 10) rfl _ _ (range_below HPM.out (Ext.tr HX.out hu.has)) Tryz.underlying60 rfl (info_pub) ?_))
            exact ⟨rfl, hu, Ext.refl _, slot_eq rfl⟩) ?_
          refine sp_op (Ph.eq _) (fun u hu => by
            refine spArg_nil ?_
            have k0 : u.cell? ⟨bT, oT + PL, none⟩ = some (.slice (some ⟨bi, oi, none⟩) N ci) := range_below HQ1.out hu.has 0 _ rfl
            go_wp2_with (fail)
            exact ⟨rfl, hu, Ext.refl _, slot_eq rfl⟩) ?_
          refine sp_op (Ph.eq _) (fun u hu => by
            refine spArg_nil ?_
            have k0 : u.cell? ⟨bT, oT + PL, none⟩ = some (.slice (some ⟨bi, oi, none⟩) N ci) := range_below HQ1.out hu.has 0 _ rfl
            go_wp2_with (fail)
            exact ⟨rfl, hu, Ext.refl _, slot_eq rfl⟩) ?_
          refine sp_op (Ph.eq _) (fun u hu => by
            refine spArg_nil ?_
            have k0 : u.cell? ⟨bT, oT + PL, none⟩ = some (.slice (some ⟨bi, oi, none⟩) N ci) := range_below HQ1.out hu.has 0 _ rfl
            go_wp2_with (fail)
            exact ⟨rfl, hu, Ext.refl _, slot_eq rfl⟩) ?_
          refine sp_op (Ph.eq _) (fun u hu => by
            refine spArg_eq 1 rfl rfl ?_
            refine spArg_eq 0 rfl rfl ?_
            refine spArg_nil ?_
            simp only [Act.put, List.setIfInBounds_toArray, List.set_cons_succ, List.set_cons_zero]
            have k0 : u.cell? ⟨bT, oT + PL, none⟩ = some (.slice (some ⟨bi, oi, none⟩) N ci) := range_below HQ1.out hu.has 0 _ rfl
            go_wp2_with (fail)
            exact ⟨rfl, hu, Ext.refl _, slot_eq rfl⟩) ?_
          refine sp_op (Ph.eq _) (fun u hu => by
            refine spArg_eq 0 rfl rfl ?_
            refine spArg_nil ?_
            simp only [Act.put, List.setIfInBounds_toArray, List.set_cons_succ, List.set_cons_zero]
            have k0 : u.cell? ⟨bT, oT + PL, none⟩ = some (.slice (some ⟨bi, oi, none⟩) N ci) := range_below HQ1.out hu.has 0 _ rfl
            go_wp2_with (fail)
            exact ⟨rfl, hu, Ext.refl _, slot_eq rfl⟩) ?_
          refine sp_op (Ph.eq _) (fun u hu => by
            refine spArg_nil ?_
            have k0 : u.cell? ⟨bT, oT + PL, none⟩ = some (.slice (some ⟨bi, oi, none⟩) N ci) := range_below HQ1.out hu.has 0 _ rfl
            go_wp2_with (fail)
            exact ⟨rfl, hu, Ext.refl _, slot_eq rfl⟩) ?_
          refine sp_op (Ph.eq _) (fun u hu => by
            refine spArg_eq 1 rfl rfl ?_
            refine spArg_eq 0 rfl rfl ?_
            refine spArg_nil ?_
            simp only [Act.put, List.setIfInBounds_toArray, List.set_cons_succ, List.set_cons_zero]
            have k0 : u.cell? ⟨bT, oT + PL, none⟩ = some (.slice (some ⟨bi, oi, none⟩) N ci) := range_below HQ1.out hu.has 0 _ rfl
            go_wp2_with (fail)
            exact ⟨rfl, hu, Ext.refl _, slot_eq rfl⟩) ?_
          refine sp_op (Ph.eq _) (fun u hu => by
            refine spArg_eq 0 rfl rfl ?_
            refine spArg_nil ?_
            simp only [Act.put, List.setIfInBounds_toArray, List.set_cons_succ, List.set_cons_zero]
            have k0 : u.cell? ⟨bT, oT + PL, none⟩ = some (.slice (some ⟨bi, oi, none⟩) N ci) := range_below HQ1.out hu.has 0 _ rfl
            go_wp2_with ((refine wpList_load_midG rfl 32 _ rfl (bi) (oi + J PL * 2) rfl _ _ (range_below HQ2.out hu.has) Tryz.underlying32 rfl (info_entry) ?_))
            exact ⟨rfl, hu, Ext.refl _, slot_eq rfl⟩) ?_
          refine sp_op (Ph.map (fun v => .agg (stpC (AT PL) v)) (Ph.ownB w3.heap.size (AT PL).e.box)) (fun u hu => by
            refine spArg_eq 12 rfl rfl ?_
            refine spArg_eq 8 rfl rfl ?_
            refine spArg_eq 7 rfl rfl ?_
            refine spArg_eq 0 rfl rfl ?_
            refine spArg_nil ?_
            simp only [Act.put, List.setIfInBounds_toArray, List.set_cons_succ, List.set_cons_zero]
            have k0 : u.cell? ⟨bT, oT + PL, none⟩ = some (.slice (some ⟨bi, oi, none⟩) N ci) := range_below HQ1.out hu.has 0 _ rfl
            go_wp2_with ((go_at_call 23; refine (HAM.out _ _ (HQ3.out.ext hu.has).bytes).mono ?_; rintro r_ x_ ⟨v_, rfl, how_, hb_⟩))
            exact ⟨rfl, HoldT.step hstab hu hb_, hb_, slot_of rfl ⟨v_, rfl, owns_mono how_ (Below.size hu.has)⟩⟩) ?_
          refine sp_end ?_
          intro u hu
          refine spArg_eq 16 rfl rfl ?_
          refine spArg_eq 15 rfl rfl ?_
          refine spArg_eq 14 rfl rfl ?_
          refine spArg_eq 13 rfl rfl ?_
          refine spArg_eq 12 rfl rfl ?_
          refine spArg_eq 11 rfl rfl ?_
          refine spArg_eq 10 rfl rfl ?_
          refine spArg_eq 9 rfl rfl ?_
          refine spArg_eq 8 rfl rfl ?_
          refine spArg_eq 7 rfl rfl ?_
          refine spArg_eq 6 rfl rfl ?_
          refine spArg_eq 5 rfl rfl ?_
          refine spArg_eq 4 rfl rfl ?_
          refine spArg_eq 3 rfl rfl ?_
          refine spArg_eq 2 rfl rfl ?_
          refine spArg_eq 1 rfl rfl ?_
          refine spArg_in (φ := Ph.map (fun v => .agg (stpC (AT PL) v)) (Ph.ownB w3.heap.size (AT PL).e.box)) 0 rfl rfl ?_; intro v16 h16
          obtain ⟨v16, rfl, h16'⟩ := h16
          obtain ⟨a16, c16, rfl, -, -⟩ := owns_form h16'
          refine spArg_nil ?_
          simp only [Act.put, List.setIfInBounds_toArray, List.set_cons_succ, List.set_cons_zero]
          have h16o : OwnB u w3.heap.size (.slice a16 (AT PL).e.box.length c16) (AT PL).e.box := h16'
          clear h16'
          unfold stpC
          go_wp2_with fail
          go_loopw [23, 24, 25] (fun sv pv i wr => ∃ t : Nat, i = .int .i64 ((PL : Int) - 1 - t) ∧ t ≤ PL ∧ OwR stpR 0 w3.heap.size wr sv (lvs (fun j => AT (PL - j)) t) ∧ pv = .int .i64 (J (PL - t) : Nat) ∧ Ext w3 wr) (fun _ _ i _ => (intOf i + 1).toNat)
          case atStart => exact ⟨0, by simp, Nat.zero_le _, OwR.lit1 (R := stpR) (c := (stpC (AT PL) (.slice a16 (AT PL).e.box.length c16)).toList) ⟨_, rfl, slB_own h16o⟩ (Below.size hu.has), rfl, Ext.tr hu.has (Ext.alloc _ _)⟩
          case round =>
            obtain ⟨t, rfl, ht, hsv, rfl, hZ⟩ := hrel
            have HZ := Lib.hid hZ; have HSV := Lib.hid hsv
            obtain ⟨aS, cS', rfl, -, -⟩ := hsv.sl.form
            clear hZ hsv hu h16o HQ1 HQ2 HQ3 HAM HRM HPM hk_ hkO hbel7 hk7 hR7 hk13
            have HSL := Lib.hid (length_lvs (fun j => AT (PL - j)) t)
            by_cases hlt2 : t < PL
            · obtain ⟨q, hqm⟩ : ∃ q : Nat, q = PL - (t + 1) := ⟨_, rfl⟩
              have hqi : (PL : Int) - 1 - t = q := by omega
              have hqle : q ≤ PL := by omega
              rw [hqi, show PL - t = q + 1 from by omega]
              have HSUC := Lib.hid (show lvs (fun j => AT (PL - j)) (t + 1) = lvs (fun j => AT (PL - j)) t ++ [AT q] by rw [lvs_succ, hqm])
              generalize lvs (fun j => AT (PL - j)) t = SV at *
              obtain ⟨bi, oi, ci, a1, c1, hq1, hq2, hq3⟩ := HPLL.out q hqle
              have HQ1 := Lib.hid hq1; have HQ2 := Lib.hid hq2; have HQ3 := Lib.hid hq3
              have HAM := Lib.hid (HAN.out q hqle)
              have HRM := Lib.hid (HRS.out q hqle); have HPM := Lib.hid (HRP.out q hqle)
              have HQM := Lib.hid hqm
              obtain ⟨od, ao, co, hod, hco, hvo⟩ := HOA.out q (by omega)
              have hol := HOLN.out od (List.mem_of_getElem? hod)
              have HEXT := Lib.hid (Ext.tr (Ext.tr hbel2 HX.out) HZ.out)
              have hoc : wr.cell? ⟨bO, oO + q, none⟩ = some (.slice ao od.length co) := (Below.cell HEXT.out (World.block_lt_of_cell? w _ hco)).trans hco
              have HCO := Lib.hid hco; have HOR := Lib.hid hvo
              have hjp := HJP.out q od hod; have hjn := HJN.out q od hod
              clear hq1 hq2 hq3 hqi hqm hod hco hvo
              have hstab := stabE wr
              have hdK2 : decide (K ≤ q) = false := decide_eq_false (by omega)
              have hdM2 : decide (PL + 1 ≤ q) = false := decide_eq_false (by omega)
              have hdO2 : decide (orders.length ≤ q) = false := decide_eq_false (by omega)
              have hJq := HJL.out q
              have hdN2 : decide (N ≤ J q) = false := decide_eq_false (by omega)
              have hJq1 := HJL.out (q + 1)
              have hdN3 : decide (N ≤ J (q + 1)) = false := decide_eq_false (by omega)
              by_cases hlen : od.length = N
              · by_cases hpk : permOk od
                · have hjj := hjp ⟨hlen, hpk⟩
                  have HRO := Lib.hid (RightOrderr_any od w.heap.size _ wr (HOR.out.ext HEXT.out) hol)
                  rw [decide_eq_true hpk] at HRO
                  rw [hlen] at HRO hoc
                  obtain ⟨bo, oo, co', e1, -, -⟩ := HOR.out.open (by omega)
                  obtain ⟨rfl, rfl⟩ : ao = some ⟨bo, oo, none⟩ ∧ co = co' := by injection e1 with e1 _ e3; exact ⟨e1, e3⟩
                  have hcj := slI_at HOR.out (J (q + 1)) _ hjj
                  have HCJ := Lib.hid hcj
                  rw [hlen] at HCO
                  generalize J (q + 1) = J1 at *
                  generalize hJ0E : J q = J0 at *
                  have HJ0E := Lib.hid hJ0E
                  clear hJ0E
                  clear hjp hjn hlen hpk hjj e1 hcj
                  go_wp2_with (go_at_call 24; refine HRO.out.mono ?_; rintro e x8 ⟨rfl, hb8⟩; have e8 : Ext wr x8 := hb8; have ho8 : x8.cell? ⟨bO, oO + q, none⟩ = some (.slice (some ⟨bo, oo, none⟩) N co) := (Below.cell (Ext.tr HEXT.out e8) (World.block_lt_of_cell? w _ HCO.out)).trans HCO.out; have hc8 : x8.cell? ⟨bo, oo + J1, none⟩ = some (.int .i64 J0) := (Below.cell (Ext.tr HEXT.out e8) (World.block_lt_of_cell? w _ HCJ.out)).trans HCJ.out)
                  have hk17 : HoldT (fun u => Ext wr u) w (x8).drew := HoldT.drew hstab ⟨e8, Ext.tr HEXT.out e8⟩
                  try change Code.wp _ _ _ (Act.mk _ _) _
                  refine wp_region_runR Ext 19 175 (HoldT (fun u => Ext wr u) _) [[], [], [], [(1, 148), (2, 149)], [(3, 150)], [], [], [(5, 152), (6, 153)], [(7, 154)], [], [], [], [(10, 157), (11, 158)], [(12, 159)], [], [(13, 160), (14, 161)], [(15, 162)], [(4, 151), (8, 155), (9, 156), (16, 163)], [(17, 164)]] [(0, 147), (1, 148), (2, 149), (3, 150), (4, 151), (5, 152), (6, 153), (7, 154), (8, 155), (9, 156), (10, 157), (11, 158), (12, 159), (13, 160), (14, 161), (15, 162), (16, 163), (17, 164), (18, 165)] (by kernel_rfl) (by kernel_rfl) (by first | rfl | simp) (hk17) ?_
                  simp only [List.take_succ_cons, List.take_zero, List.drop_succ_cons, List.drop_zero]
                  refine sp_op (Ph.eq _) (fun u hu => by
                    refine spArg_nil ?_
                    have k0 : u.cell? ⟨bT, oT + q, none⟩ = some (.slice (some ⟨bi, oi, none⟩) N ci) := range_below HQ1.out (Ext.tr HZ.out hu.has) 0 _ rfl
                    go_wp2_with (fail)
                    exact ⟨rfl, hu, Ext.refl _, slot_eq rfl⟩) ?_
                  refine sp_op (Ph.eq _) (fun u hu => by
                    refine spArg_nil ?_
                    have k0 : u.cell? ⟨bT, oT + q, none⟩ = some (.slice (some ⟨bi, oi, none⟩) N ci) := range_below HQ1.out (Ext.tr HZ.out hu.has) 0 _ rfl
                    go_wp2_with (fail)
                    exact ⟨rfl, hu, Ext.refl _, slot_eq rfl⟩) ?_
                  refine sp_op (Ph.eq _) (fun u hu => by
                    refine spArg_nil ?_
                    have k0 : u.cell? ⟨bT, oT + q, none⟩ = some (.slice (some ⟨bi, oi, none⟩) N ci) := range_below HQ1.out (Ext.tr HZ.out hu.has) 0 _ rfl
                    go_wp2_with (fail)
                    exact ⟨rfl, hu, Ext.refl _, slot_eq rfl⟩) ?_
                  refine sp_op (Ph.eq _) (fun u hu => by
                    refine spArg_eq 1 rfl rfl ?_
                    refine spArg_eq 0 rfl rfl ?_
                    refine spArg_nil ?_
                    simp only [Act.put, List.setIfInBounds_toArray, List.set_cons_succ, List.set_cons_zero]
                    have k0 : u.cell? ⟨bT, oT + q, none⟩ = some (.slice (some ⟨bi, oi, none⟩) N ci) := range_below HQ1.out (Ext.tr HZ.out hu.has) 0 _ rfl
                    go_wp2_with (fail)
                    exact ⟨rfl, hu, Ext.refl _, slot_eq rfl⟩) ?_
                  refine sp_op (Ph.eq _) (fun u hu => by
                    refine spArg_eq 0 rfl rfl ?_
                    refine spArg_nil ?_
                    simp only [Act.put, List.setIfInBounds_toArray, List.set_cons_succ, List.set_cons_zero]
                    have k0 : u.cell? ⟨bT, oT + q, none⟩ = some (.slice (some ⟨bi, oi, none⟩) N ci) := range_below HQ1.out (Ext.tr HZ.out hu.has) 0 _ rfl
                    go_wp2_with ((refine wpList_load_midG rfl 54 _ rfl (bS) (oS + q * 3) rfl _ _ (range_below HRM.out (Ext.tr HX.out (Ext.tr HZ.out hu.has))) Tryz.underlying54 rfl (info_sec) ?_))
                    exact ⟨rfl, hu, Ext.refl _, slot_eq rfl⟩) ?_
                  refine sp_op (Ph.eq _) (fun u hu => by
                    refine spArg_nil ?_
                    have k0 : u.cell? ⟨bT, oT + q, none⟩ = some (.slice (some ⟨bi, oi, none⟩) N ci) := range_below HQ1.out (Ext.tr HZ.out hu.has) 0 _ rfl
                    go_wp2_with (fail)
                    exact ⟨rfl, hu, Ext.refl _, slot_eq rfl⟩) ?_
                  refine sp_op (Ph.eq _) (fun u hu => by
                    refine spArg_nil ?_
                    have k0 : u.cell? ⟨bT, oT + q, none⟩ = some (.slice (some ⟨bi, oi, none⟩) N ci) := range_below HQ1.out (Ext.tr HZ.out hu.has) 0 _ rfl
                    go_wp2_with (fail)
                    exact ⟨rfl, hu, Ext.refl _, slot_eq rfl⟩) ?_
                  refine sp_op (Ph.eq _) (fun u hu => by
                    refine spArg_eq 1 rfl rfl ?_
                    refine spArg_eq 0 rfl rfl ?_
                    refine spArg_nil ?_
                    simp only [Act.put, List.setIfInBounds_toArray, List.set_cons_succ, List.set_cons_zero]
                    have k0 : u.cell? ⟨bT, oT + q, none⟩ = some (.slice (some ⟨bi, oi, none⟩) N ci) := range_below HQ1.out (Ext.tr HZ.out hu.has) 0 _ rfl
                    go_wp2_with (fail)
                    exact ⟨rfl, hu, Ext.refl _, slot_eq rfl⟩) ?_
                  refine sp_op (Ph.eq _) (fun u hu => by
                    refine spArg_eq 0 rfl rfl ?_
                    refine spArg_nil ?_
                    simp only [Act.put, List.setIfInBounds_toArray, List.set_cons_succ, List.set_cons_zero]
                    have k0 : u.cell? ⟨bT, oT + q, none⟩ = some (.slice (some ⟨bi, oi, none⟩) N ci) := range_below HQ1.out (Ext.tr HZ.out hu.has) 0 _ rfl
                    go_wp2_with ((refine wpList_load_midG rfl 60 _ rfl (bP) (oP + q * 10) rfl _ _ (range_below HPM.out (Ext.tr HX.out (Ext.tr HZ.out hu.has))) Tryz.underlying60 rfl (info_pub) ?_))
                    exact ⟨rfl, hu, Ext.refl _, slot_eq rfl⟩) ?_
                  refine sp_op (Ph.eq _) (fun u hu => by
                    refine spArg_nil ?_
                    have k0 : u.cell? ⟨bT, oT + q, none⟩ = some (.slice (some ⟨bi, oi, none⟩) N ci) := range_below HQ1.out (Ext.tr HZ.out hu.has) 0 _ rfl
                    go_wp2_with (fail)
                    exact ⟨rfl, hu, Ext.refl _, slot_eq rfl⟩) ?_
                  refine sp_op (Ph.eq _) (fun u hu => by
                    refine spArg_nil ?_
                    have k0 : u.cell? ⟨bT, oT + q, none⟩ = some (.slice (some ⟨bi, oi, none⟩) N ci) := range_below HQ1.out (Ext.tr HZ.out hu.has) 0 _ rfl
                    go_wp2_with (fail)
                    exact ⟨rfl, hu, Ext.refl _, slot_eq rfl⟩) ?_
                  refine sp_op (Ph.eq _) (fun u hu => by
                    refine spArg_nil ?_
                    have k0 : u.cell? ⟨bT, oT + q, none⟩ = some (.slice (some ⟨bi, oi, none⟩) N ci) := range_below HQ1.out (Ext.tr HZ.out hu.has) 0 _ rfl
                    go_wp2_with (fail)
                    exact ⟨rfl, hu, Ext.refl _, slot_eq rfl⟩) ?_
                  refine sp_op (Ph.eq _) (fun u hu => by
                    refine spArg_eq 1 rfl rfl ?_
                    refine spArg_eq 0 rfl rfl ?_
                    refine spArg_nil ?_
                    simp only [Act.put, List.setIfInBounds_toArray, List.set_cons_succ, List.set_cons_zero]
                    have k0 : u.cell? ⟨bT, oT + q, none⟩ = some (.slice (some ⟨bi, oi, none⟩) N ci) := range_below HQ1.out (Ext.tr HZ.out hu.has) 0 _ rfl
                    go_wp2_with (fail)
                    exact ⟨rfl, hu, Ext.refl _, slot_eq rfl⟩) ?_
                  refine sp_op (Ph.eq _) (fun u hu => by
                    refine spArg_eq 0 rfl rfl ?_
                    refine spArg_nil ?_
                    simp only [Act.put, List.setIfInBounds_toArray, List.set_cons_succ, List.set_cons_zero]
                    have k0 : u.cell? ⟨bT, oT + q, none⟩ = some (.slice (some ⟨bi, oi, none⟩) N ci) := range_below HQ1.out (Ext.tr HZ.out hu.has) 0 _ rfl
                    go_wp2_with (fail)
                    exact ⟨rfl, hu, Ext.refl _, slot_eq rfl⟩) ?_
                  refine sp_op (Ph.eq _) (fun u hu => by
                    refine spArg_nil ?_
                    have k0 : u.cell? ⟨bT, oT + q, none⟩ = some (.slice (some ⟨bi, oi, none⟩) N ci) := range_below HQ1.out (Ext.tr HZ.out hu.has) 0 _ rfl
                    go_wp2_with (fail)
                    exact ⟨rfl, hu, Ext.refl _, slot_eq rfl⟩) ?_
                  refine sp_op (Ph.eq _) (fun u hu => by
                    refine spArg_eq 1 rfl rfl ?_
                    refine spArg_eq 0 rfl rfl ?_
                    refine spArg_nil ?_
                    simp only [Act.put, List.setIfInBounds_toArray, List.set_cons_succ, List.set_cons_zero]
                    have k0 : u.cell? ⟨bT, oT + q, none⟩ = some (.slice (some ⟨bi, oi, none⟩) N ci) := range_below HQ1.out (Ext.tr HZ.out hu.has) 0 _ rfl
                    go_wp2_with (fail)
                    exact ⟨rfl, hu, Ext.refl _, slot_eq rfl⟩) ?_
                  refine sp_op (Ph.eq _) (fun u hu => by
                    refine spArg_eq 0 rfl rfl ?_
                    refine spArg_nil ?_
                    simp only [Act.put, List.setIfInBounds_toArray, List.set_cons_succ, List.set_cons_zero]
                    have k0 : u.cell? ⟨bT, oT + q, none⟩ = some (.slice (some ⟨bi, oi, none⟩) N ci) := range_below HQ1.out (Ext.tr HZ.out hu.has) 0 _ rfl
                    go_wp2_with ((refine wpList_load_midG rfl 32 _ rfl (bi) (oi + J0 * 2) rfl _ _ (range_below HQ2.out (Ext.tr HZ.out hu.has)) Tryz.underlying32 rfl (info_entry) ?_))
                    exact ⟨rfl, hu, Ext.refl _, slot_eq rfl⟩) ?_
                  refine sp_op (Ph.map (fun v => .agg (stpC (AT q) v)) (Ph.ownB w3.heap.size (AT q).e.box)) (fun u hu => by
                    refine spArg_eq 12 rfl rfl ?_
                    refine spArg_eq 8 rfl rfl ?_
                    refine spArg_eq 7 rfl rfl ?_
                    refine spArg_eq 0 rfl rfl ?_
                    refine spArg_nil ?_
                    simp only [Act.put, List.setIfInBounds_toArray, List.set_cons_succ, List.set_cons_zero]
                    have k0 : u.cell? ⟨bT, oT + q, none⟩ = some (.slice (some ⟨bi, oi, none⟩) N ci) := range_below HQ1.out (Ext.tr HZ.out hu.has) 0 _ rfl
                    go_wp2_with ((go_at_call 23; refine (HAM.out _ _ (HQ3.out.ext (Ext.tr HZ.out hu.has)).bytes).mono ?_; rintro r_ x_ ⟨v_, rfl, how_, hb_⟩))
                    exact ⟨rfl, HoldT.step hstab hu hb_, hb_, slot_of rfl ⟨v_, rfl, owns_mono how_ (Below.size (Ext.tr HZ.out hu.has))⟩⟩) ?_
                  refine sp_op (Ph.slT (AT q)) (fun u hu => by
                    refine spArg_in (φ := Ph.map (fun v => .agg (stpC (AT q) v)) (Ph.ownB w3.heap.size (AT q).e.box)) 0 rfl rfl ?_; intro v17 h17
                    obtain ⟨v17, rfl, h17'⟩ := h17
                    obtain ⟨a17, c17, rfl, -, -⟩ := owns_form h17'
                    (try unfold stpC)
                    refine spArg_nil ?_
                    simp only [Act.put, List.setIfInBounds_toArray, List.set_cons_succ, List.set_cons_zero]
                    have k0 : u.cell? ⟨bT, oT + q, none⟩ = some (.slice (some ⟨bi, oi, none⟩) N ci) := range_below HQ1.out (Ext.tr HZ.out hu.has) 0 _ rfl
                    go_wp2_with (fail)
                    exact ⟨rfl, HoldT.step hstab hu (Ext.alloc _ _), Ext.alloc _ _, slot_of rfl ⟨⟨_, rfl⟩, SlR.lit1 (R := stpR) (y := AT q) (w := u) (c := (stpC (AT q) (.slice a17 (AT q).e.box.length c17)).toList) ⟨_, rfl, slB_own h17'⟩⟩⟩) ?_
                  refine sp_end ?_
                  intro u hu
                  refine spArg_eq 18 rfl rfl ?_
                  refine spArg_eq 17 rfl rfl ?_
                  refine spArg_eq 16 rfl rfl ?_
                  refine spArg_eq 15 rfl rfl ?_
                  refine spArg_eq 14 rfl rfl ?_
                  refine spArg_eq 13 rfl rfl ?_
                  refine spArg_eq 12 rfl rfl ?_
                  refine spArg_eq 11 rfl rfl ?_
                  refine spArg_eq 10 rfl rfl ?_
                  refine spArg_eq 9 rfl rfl ?_
                  refine spArg_eq 8 rfl rfl ?_
                  refine spArg_eq 7 rfl rfl ?_
                  refine spArg_eq 6 rfl rfl ?_
                  refine spArg_eq 5 rfl rfl ?_
                  refine spArg_eq 4 rfl rfl ?_
                  refine spArg_eq 3 rfl rfl ?_
                  refine spArg_eq 2 rfl rfl ?_
                  refine spArg_in (φ := Ph.map (fun v => .agg (stpC (AT q) v)) (Ph.ownB w3.heap.size (AT q).e.box)) 1 rfl rfl ?_; intro v17 h17
                  obtain ⟨v17, rfl, h17'⟩ := h17
                  obtain ⟨a17, c17, rfl, -, -⟩ := owns_form h17'
                  (try unfold stpC)
                  refine spArg_in (φ := Ph.slT (AT q)) 0 rfl rfl ?_; intro v18 h18
                  obtain ⟨⟨g18, rfl⟩, h18'⟩ := h18
                  refine spArg_nil ?_
                  simp only [Act.put, List.setIfInBounds_toArray, List.set_cons_succ, List.set_cons_zero]
                  have h18o : SlR stpR 0 u (.slice (some ⟨g18, 0, none⟩) 1 1) [AT q] := h18'
                  clear h18'
                  go_wp2_with (at_builtin; refine appT (W := w3) (B := 0) rfl _ _ rfl (Nat.zero_le _) _ SV rfl (HSV.out.ext hu.has) (.slice (some ⟨g18, 0, none⟩) 1 1) [AT q] rfl h18o (by have := HSL.out; simp only [List.length_cons, List.length_nil]; omega) (Ext.tr HZ.out hu.has) ?_; intro v8 w8 hown8 hg8 hb8)
                  go_roundw
                  case rel => exact ⟨t + 1, by (show Value.int .i64 _ = Value.int .i64 _); congr 1; have := HQM.out; omega, by omega, by rw [HSUC.out]; exact hown8, by rw [show PL - (t + 1) = q from HQM.out.symm, HJ0E.out], hb8⟩
                  case measure => (simp [intOf] <;> omega)
                · have hjj := hjn (fun h => hpk h.2)
                  have HRO := Lib.hid (RightOrderr_any od w.heap.size _ wr (HOR.out.ext HEXT.out) hol)
                  rw [decide_eq_false hpk] at HRO
                  rw [hlen] at HRO hoc
                  rw [hjj]
                  generalize hJ0E : J q = J0 at *
                  have HJ0E := Lib.hid hJ0E
                  clear hJ0E
                  clear hjp hjn hlen hpk hjj
                  go_wp2_with (go_at_call 24; refine HRO.out.mono ?_; rintro e x8 ⟨rfl, hb8⟩; have e8 : Ext wr x8 := hb8)
                  have hk17 : HoldT (fun u => Ext wr u) w (x8).drew := HoldT.drew hstab ⟨e8, Ext.tr HEXT.out e8⟩
                  try change Code.wp _ _ _ (Act.mk _ _) _
                  refine wp_region_runR Ext 19 175 (HoldT (fun u => Ext wr u) _) [[], [], [], [(1, 148), (2, 149)], [(3, 150)], [], [], [(5, 152), (6, 153)], [(7, 154)], [], [], [], [(10, 157), (11, 158)], [(12, 159)], [], [(13, 160), (14, 161)], [(15, 162)], [(4, 151), (8, 155), (9, 156), (16, 163)], [(17, 164)]] [(0, 147), (1, 148), (2, 149), (3, 150), (4, 151), (5, 152), (6, 153), (7, 154), (8, 155), (9, 156), (10, 157), (11, 158), (12, 159), (13, 160), (14, 161), (15, 162), (16, 163), (17, 164), (18, 165)] (by kernel_rfl) (by kernel_rfl) (by first | rfl | simp) (hk17) ?_
                  simp only [List.take_succ_cons, List.take_zero, List.drop_succ_cons, List.drop_zero]
                  refine sp_op (Ph.eq _) (fun u hu => by
                    refine spArg_nil ?_
                    have k0 : u.cell? ⟨bT, oT + q, none⟩ = some (.slice (some ⟨bi, oi, none⟩) N ci) := range_below HQ1.out (Ext.tr HZ.out hu.has) 0 _ rfl
                    go_wp2_with (fail)
                    exact ⟨rfl, hu, Ext.refl _, slot_eq rfl⟩) ?_
                  refine sp_op (Ph.eq _) (fun u hu => by
                    refine spArg_nil ?_
                    have k0 : u.cell? ⟨bT, oT + q, none⟩ = some (.slice (some ⟨bi, oi, none⟩) N ci) := range_below HQ1.out (Ext.tr HZ.out hu.has) 0 _ rfl
                    go_wp2_with (fail)
                    exact ⟨rfl, hu, Ext.refl _, slot_eq rfl⟩) ?_
                  refine sp_op (Ph.eq _) (fun u hu => by
                    refine spArg_nil ?_
                    have k0 : u.cell? ⟨bT, oT + q, none⟩ = some (.slice (some ⟨bi, oi, none⟩) N ci) := range_below HQ1.out (Ext.tr HZ.out hu.has) 0 _ rfl
                    go_wp2_with (fail)
                    exact ⟨rfl, hu, Ext.refl _, slot_eq rfl⟩) ?_
                  refine sp_op (Ph.eq _) (fun u hu => by
                    refine spArg_eq 1 rfl rfl ?_
                    refine spArg_eq 0 rfl rfl ?_
                    refine spArg_nil ?_
                    simp only [Act.put, List.setIfInBounds_toArray, List.set_cons_succ, List.set_cons_zero]
                    have k0 : u.cell? ⟨bT, oT + q, none⟩ = some (.slice (some ⟨bi, oi, none⟩) N ci) := range_below HQ1.out (Ext.tr HZ.out hu.has) 0 _ rfl
                    go_wp2_with (fail)
                    exact ⟨rfl, hu, Ext.refl _, slot_eq rfl⟩) ?_
                  refine sp_op (Ph.eq _) (fun u hu => by
                    refine spArg_eq 0 rfl rfl ?_
                    refine spArg_nil ?_
                    simp only [Act.put, List.setIfInBounds_toArray, List.set_cons_succ, List.set_cons_zero]
                    have k0 : u.cell? ⟨bT, oT + q, none⟩ = some (.slice (some ⟨bi, oi, none⟩) N ci) := range_below HQ1.out (Ext.tr HZ.out hu.has) 0 _ rfl
                    go_wp2_with ((refine wpList_load_midG rfl 54 _ rfl (bS) (oS + q * 3) rfl _ _ (range_below HRM.out (Ext.tr HX.out (Ext.tr HZ.out hu.has))) Tryz.underlying54 rfl (info_sec) ?_))
                    exact ⟨rfl, hu, Ext.refl _, slot_eq rfl⟩) ?_
                  refine sp_op (Ph.eq _) (fun u hu => by
                    refine spArg_nil ?_
                    have k0 : u.cell? ⟨bT, oT + q, none⟩ = some (.slice (some ⟨bi, oi, none⟩) N ci) := range_below HQ1.out (Ext.tr HZ.out hu.has) 0 _ rfl
                    go_wp2_with (fail)
                    exact ⟨rfl, hu, Ext.refl _, slot_eq rfl⟩) ?_
                  refine sp_op (Ph.eq _) (fun u hu => by
                    refine spArg_nil ?_
                    have k0 : u.cell? ⟨bT, oT + q, none⟩ = some (.slice (some ⟨bi, oi, none⟩) N ci) := range_below HQ1.out (Ext.tr HZ.out hu.has) 0 _ rfl
                    go_wp2_with (fail)
                    exact ⟨rfl, hu, Ext.refl _, slot_eq rfl⟩) ?_
                  refine sp_op (Ph.eq _) (fun u hu => by
                    refine spArg_eq 1 rfl rfl ?_
                    refine spArg_eq 0 rfl rfl ?_
                    refine spArg_nil ?_
                    simp only [Act.put, List.setIfInBounds_toArray, List.set_cons_succ, List.set_cons_zero]
                    have k0 : u.cell? ⟨bT, oT + q, none⟩ = some (.slice (some ⟨bi, oi, none⟩) N ci) := range_below HQ1.out (Ext.tr HZ.out hu.has) 0 _ rfl
                    go_wp2_with (fail)
                    exact ⟨rfl, hu, Ext.refl _, slot_eq rfl⟩) ?_
                  refine sp_op (Ph.eq _) (fun u hu => by
                    refine spArg_eq 0 rfl rfl ?_
                    refine spArg_nil ?_
                    simp only [Act.put, List.setIfInBounds_toArray, List.set_cons_succ, List.set_cons_zero]
                    have k0 : u.cell? ⟨bT, oT + q, none⟩ = some (.slice (some ⟨bi, oi, none⟩) N ci) := range_below HQ1.out (Ext.tr HZ.out hu.has) 0 _ rfl
                    go_wp2_with ((refine wpList_load_midG rfl 60 _ rfl (bP) (oP + q * 10) rfl _ _ (range_below HPM.out (Ext.tr HX.out (Ext.tr HZ.out hu.has))) Tryz.underlying60 rfl (info_pub) ?_))
                    exact ⟨rfl, hu, Ext.refl _, slot_eq rfl⟩) ?_
                  refine sp_op (Ph.eq _) (fun u hu => by
                    refine spArg_nil ?_
                    have k0 : u.cell? ⟨bT, oT + q, none⟩ = some (.slice (some ⟨bi, oi, none⟩) N ci) := range_below HQ1.out (Ext.tr HZ.out hu.has) 0 _ rfl
                    go_wp2_with (fail)
                    exact ⟨rfl, hu, Ext.refl _, slot_eq rfl⟩) ?_
                  refine sp_op (Ph.eq _) (fun u hu => by
                    refine spArg_nil ?_
                    have k0 : u.cell? ⟨bT, oT + q, none⟩ = some (.slice (some ⟨bi, oi, none⟩) N ci) := range_below HQ1.out (Ext.tr HZ.out hu.has) 0 _ rfl
                    go_wp2_with (fail)
                    exact ⟨rfl, hu, Ext.refl _, slot_eq rfl⟩) ?_
                  refine sp_op (Ph.eq _) (fun u hu => by
                    refine spArg_nil ?_
                    have k0 : u.cell? ⟨bT, oT + q, none⟩ = some (.slice (some ⟨bi, oi, none⟩) N ci) := range_below HQ1.out (Ext.tr HZ.out hu.has) 0 _ rfl
                    go_wp2_with (fail)
                    exact ⟨rfl, hu, Ext.refl _, slot_eq rfl⟩) ?_
                  refine sp_op (Ph.eq _) (fun u hu => by
                    refine spArg_eq 1 rfl rfl ?_
                    refine spArg_eq 0 rfl rfl ?_
                    refine spArg_nil ?_
                    simp only [Act.put, List.setIfInBounds_toArray, List.set_cons_succ, List.set_cons_zero]
                    have k0 : u.cell? ⟨bT, oT + q, none⟩ = some (.slice (some ⟨bi, oi, none⟩) N ci) := range_below HQ1.out (Ext.tr HZ.out hu.has) 0 _ rfl
                    go_wp2_with (fail)
                    exact ⟨rfl, hu, Ext.refl _, slot_eq rfl⟩) ?_
                  refine sp_op (Ph.eq _) (fun u hu => by
                    refine spArg_eq 0 rfl rfl ?_
                    refine spArg_nil ?_
                    simp only [Act.put, List.setIfInBounds_toArray, List.set_cons_succ, List.set_cons_zero]
                    have k0 : u.cell? ⟨bT, oT + q, none⟩ = some (.slice (some ⟨bi, oi, none⟩) N ci) := range_below HQ1.out (Ext.tr HZ.out hu.has) 0 _ rfl
                    go_wp2_with (fail)
                    exact ⟨rfl, hu, Ext.refl _, slot_eq rfl⟩) ?_
                  refine sp_op (Ph.eq _) (fun u hu => by
                    refine spArg_nil ?_
                    have k0 : u.cell? ⟨bT, oT + q, none⟩ = some (.slice (some ⟨bi, oi, none⟩) N ci) := range_below HQ1.out (Ext.tr HZ.out hu.has) 0 _ rfl
                    go_wp2_with (fail)
                    exact ⟨rfl, hu, Ext.refl _, slot_eq rfl⟩) ?_
                  refine sp_op (Ph.eq _) (fun u hu => by
                    refine spArg_eq 1 rfl rfl ?_
                    refine spArg_eq 0 rfl rfl ?_
                    refine spArg_nil ?_
                    simp only [Act.put, List.setIfInBounds_toArray, List.set_cons_succ, List.set_cons_zero]
                    have k0 : u.cell? ⟨bT, oT + q, none⟩ = some (.slice (some ⟨bi, oi, none⟩) N ci) := range_below HQ1.out (Ext.tr HZ.out hu.has) 0 _ rfl
                    go_wp2_with (fail)
                    exact ⟨rfl, hu, Ext.refl _, slot_eq rfl⟩) ?_
                  refine sp_op (Ph.eq _) (fun u hu => by
                    refine spArg_eq 0 rfl rfl ?_
                    refine spArg_nil ?_
                    simp only [Act.put, List.setIfInBounds_toArray, List.set_cons_succ, List.set_cons_zero]
                    have k0 : u.cell? ⟨bT, oT + q, none⟩ = some (.slice (some ⟨bi, oi, none⟩) N ci) := range_below HQ1.out (Ext.tr HZ.out hu.has) 0 _ rfl
                    go_wp2_with ((refine wpList_load_midG rfl 32 _ rfl (bi) (oi + J0 * 2) rfl _ _ (range_below HQ2.out (Ext.tr HZ.out hu.has)) Tryz.underlying32 rfl (info_entry) ?_))
                    exact ⟨rfl, hu, Ext.refl _, slot_eq rfl⟩) ?_
                  refine sp_op (Ph.map (fun v => .agg (stpC (AT q) v)) (Ph.ownB w3.heap.size (AT q).e.box)) (fun u hu => by
                    refine spArg_eq 12 rfl rfl ?_
                    refine spArg_eq 8 rfl rfl ?_
                    refine spArg_eq 7 rfl rfl ?_
                    refine spArg_eq 0 rfl rfl ?_
                    refine spArg_nil ?_
                    simp only [Act.put, List.setIfInBounds_toArray, List.set_cons_succ, List.set_cons_zero]
                    have k0 : u.cell? ⟨bT, oT + q, none⟩ = some (.slice (some ⟨bi, oi, none⟩) N ci) := range_below HQ1.out (Ext.tr HZ.out hu.has) 0 _ rfl
                    go_wp2_with ((go_at_call 23; refine (HAM.out _ _ (HQ3.out.ext (Ext.tr HZ.out hu.has)).bytes).mono ?_; rintro r_ x_ ⟨v_, rfl, how_, hb_⟩))
                    exact ⟨rfl, HoldT.step hstab hu hb_, hb_, slot_of rfl ⟨v_, rfl, owns_mono how_ (Below.size (Ext.tr HZ.out hu.has))⟩⟩) ?_
                  refine sp_op (Ph.slT (AT q)) (fun u hu => by
                    refine spArg_in (φ := Ph.map (fun v => .agg (stpC (AT q) v)) (Ph.ownB w3.heap.size (AT q).e.box)) 0 rfl rfl ?_; intro v17 h17
                    obtain ⟨v17, rfl, h17'⟩ := h17
                    obtain ⟨a17, c17, rfl, -, -⟩ := owns_form h17'
                    (try unfold stpC)
                    refine spArg_nil ?_
                    simp only [Act.put, List.setIfInBounds_toArray, List.set_cons_succ, List.set_cons_zero]
                    have k0 : u.cell? ⟨bT, oT + q, none⟩ = some (.slice (some ⟨bi, oi, none⟩) N ci) := range_below HQ1.out (Ext.tr HZ.out hu.has) 0 _ rfl
                    go_wp2_with (fail)
                    exact ⟨rfl, HoldT.step hstab hu (Ext.alloc _ _), Ext.alloc _ _, slot_of rfl ⟨⟨_, rfl⟩, SlR.lit1 (R := stpR) (y := AT q) (w := u) (c := (stpC (AT q) (.slice a17 (AT q).e.box.length c17)).toList) ⟨_, rfl, slB_own h17'⟩⟩⟩) ?_
                  refine sp_end ?_
                  intro u hu
                  refine spArg_eq 18 rfl rfl ?_
                  refine spArg_eq 17 rfl rfl ?_
                  refine spArg_eq 16 rfl rfl ?_
                  refine spArg_eq 15 rfl rfl ?_
                  refine spArg_eq 14 rfl rfl ?_
                  refine spArg_eq 13 rfl rfl ?_
                  refine spArg_eq 12 rfl rfl ?_
                  refine spArg_eq 11 rfl rfl ?_
                  refine spArg_eq 10 rfl rfl ?_
                  refine spArg_eq 9 rfl rfl ?_
                  refine spArg_eq 8 rfl rfl ?_
                  refine spArg_eq 7 rfl rfl ?_
                  refine spArg_eq 6 rfl rfl ?_
                  refine spArg_eq 5 rfl rfl ?_
                  refine spArg_eq 4 rfl rfl ?_
                  refine spArg_eq 3 rfl rfl ?_
                  refine spArg_eq 2 rfl rfl ?_
                  refine spArg_in (φ := Ph.map (fun v => .agg (stpC (AT q) v)) (Ph.ownB w3.heap.size (AT q).e.box)) 1 rfl rfl ?_; intro v17 h17
                  obtain ⟨v17, rfl, h17'⟩ := h17
                  obtain ⟨a17, c17, rfl, -, -⟩ := owns_form h17'
                  (try unfold stpC)
                  refine spArg_in (φ := Ph.slT (AT q)) 0 rfl rfl ?_; intro v18 h18
                  obtain ⟨⟨g18, rfl⟩, h18'⟩ := h18
                  refine spArg_nil ?_
                  simp only [Act.put, List.setIfInBounds_toArray, List.set_cons_succ, List.set_cons_zero]
                  have h18o : SlR stpR 0 u (.slice (some ⟨g18, 0, none⟩) 1 1) [AT q] := h18'
                  clear h18'
                  go_wp2_with (at_builtin; refine appT (W := w3) (B := 0) rfl _ _ rfl (Nat.zero_le _) _ SV rfl (HSV.out.ext hu.has) (.slice (some ⟨g18, 0, none⟩) 1 1) [AT q] rfl h18o (by have := HSL.out; simp only [List.length_cons, List.length_nil]; omega) (Ext.tr HZ.out hu.has) ?_; intro v8 w8 hown8 hg8 hb8)
                  go_roundw
                  case rel => exact ⟨t + 1, by (show Value.int .i64 _ = Value.int .i64 _); congr 1; have := HQM.out; omega, by omega, by rw [HSUC.out]; exact hown8, by rw [show PL - (t + 1) = q from HQM.out.symm, HJ0E.out], hb8⟩
                  case measure => (simp [intOf] <;> omega)
              · have hjj := hjn (fun h => hlen h.1)
                have hl : ((od.length : Int) == (N : Int)) = false := by rw [beq_eq_false_iff_ne]; omega
                rw [hjj]
                generalize hJ0E : J q = J0 at *
                have HJ0E := Lib.hid hJ0E
                clear hJ0E
                clear hjp hjn hlen hjj
                have e8 : Ext wr wr := Ext.refl _
                go_wp2_with fail
                have hk17 : HoldT (fun u => Ext wr u) w (wr).drew := HoldT.drew hstab ⟨e8, Ext.tr HEXT.out e8⟩
                try change Code.wp _ _ _ (Act.mk _ _) _
                refine wp_region_runR Ext 19 175 (HoldT (fun u => Ext wr u) _) [[], [], [], [(1, 148), (2, 149)], [(3, 150)], [], [], [(5, 152), (6, 153)], [(7, 154)], [], [], [], [(10, 157), (11, 158)], [(12, 159)], [], [(13, 160), (14, 161)], [(15, 162)], [(4, 151), (8, 155), (9, 156), (16, 163)], [(17, 164)]] [(0, 147), (1, 148), (2, 149), (3, 150), (4, 151), (5, 152), (6, 153), (7, 154), (8, 155), (9, 156), (10, 157), (11, 158), (12, 159), (13, 160), (14, 161), (15, 162), (16, 163), (17, 164), (18, 165)] (by kernel_rfl) (by kernel_rfl) (by first | rfl | simp) (hk17) ?_
                simp only [List.take_succ_cons, List.take_zero, List.drop_succ_cons, List.drop_zero]
                refine sp_op (Ph.eq _) (fun u hu => by
                  refine spArg_nil ?_
                  have k0 : u.cell? ⟨bT, oT + q, none⟩ = some (.slice (some ⟨bi, oi, none⟩) N ci) := range_below HQ1.out (Ext.tr HZ.out hu.has) 0 _ rfl
                  go_wp2_with (fail)
                  exact ⟨rfl, hu, Ext.refl _, slot_eq rfl⟩) ?_
                refine sp_op (Ph.eq _) (fun u hu => by
                  refine spArg_nil ?_
                  have k0 : u.cell? ⟨bT, oT + q, none⟩ = some (.slice (some ⟨bi, oi, none⟩) N ci) := range_below HQ1.out (Ext.tr HZ.out hu.has) 0 _ rfl
                  go_wp2_with (fail)
                  exact ⟨rfl, hu, Ext.refl _, slot_eq rfl⟩) ?_
                refine sp_op (Ph.eq _) (fun u hu => by
                  refine spArg_nil ?_
                  have k0 : u.cell? ⟨bT, oT + q, none⟩ = some (.slice (some ⟨bi, oi, none⟩) N ci) := range_below HQ1.out (Ext.tr HZ.out hu.has) 0 _ rfl
                  go_wp2_with (fail)
                  exact ⟨rfl, hu, Ext.refl _, slot_eq rfl⟩) ?_
                refine sp_op (Ph.eq _) (fun u hu => by
                  refine spArg_eq 1 rfl rfl ?_
                  refine spArg_eq 0 rfl rfl ?_
                  refine spArg_nil ?_
                  simp only [Act.put, List.setIfInBounds_toArray, List.set_cons_succ, List.set_cons_zero]
                  have k0 : u.cell? ⟨bT, oT + q, none⟩ = some (.slice (some ⟨bi, oi, none⟩) N ci) := range_below HQ1.out (Ext.tr HZ.out hu.has) 0 _ rfl
                  go_wp2_with (fail)
                  exact ⟨rfl, hu, Ext.refl _, slot_eq rfl⟩) ?_
                refine sp_op (Ph.eq _) (fun u hu => by
                  refine spArg_eq 0 rfl rfl ?_
                  refine spArg_nil ?_
                  simp only [Act.put, List.setIfInBounds_toArray, List.set_cons_succ, List.set_cons_zero]
                  have k0 : u.cell? ⟨bT, oT + q, none⟩ = some (.slice (some ⟨bi, oi, none⟩) N ci) := range_below HQ1.out (Ext.tr HZ.out hu.has) 0 _ rfl
                  go_wp2_with ((refine wpList_load_midG rfl 54 _ rfl (bS) (oS + q * 3) rfl _ _ (range_below HRM.out (Ext.tr HX.out (Ext.tr HZ.out hu.has))) Tryz.underlying54 rfl (info_sec) ?_))
                  exact ⟨rfl, hu, Ext.refl _, slot_eq rfl⟩) ?_
                refine sp_op (Ph.eq _) (fun u hu => by
                  refine spArg_nil ?_
                  have k0 : u.cell? ⟨bT, oT + q, none⟩ = some (.slice (some ⟨bi, oi, none⟩) N ci) := range_below HQ1.out (Ext.tr HZ.out hu.has) 0 _ rfl
                  go_wp2_with (fail)
                  exact ⟨rfl, hu, Ext.refl _, slot_eq rfl⟩) ?_
                refine sp_op (Ph.eq _) (fun u hu => by
                  refine spArg_nil ?_
                  have k0 : u.cell? ⟨bT, oT + q, none⟩ = some (.slice (some ⟨bi, oi, none⟩) N ci) := range_below HQ1.out (Ext.tr HZ.out hu.has) 0 _ rfl
                  go_wp2_with (fail)
                  exact ⟨rfl, hu, Ext.refl _, slot_eq rfl⟩) ?_
                refine sp_op (Ph.eq _) (fun u hu => by
                  refine spArg_eq 1 rfl rfl ?_
                  refine spArg_eq 0 rfl rfl ?_
                  refine spArg_nil ?_
                  simp only [Act.put, List.setIfInBounds_toArray, List.set_cons_succ, List.set_cons_zero]
                  have k0 : u.cell? ⟨bT, oT + q, none⟩ = some (.slice (some ⟨bi, oi, none⟩) N ci) := range_below HQ1.out (Ext.tr HZ.out hu.has) 0 _ rfl
                  go_wp2_with (fail)
                  exact ⟨rfl, hu, Ext.refl _, slot_eq rfl⟩) ?_
                refine sp_op (Ph.eq _) (fun u hu => by
                  refine spArg_eq 0 rfl rfl ?_
                  refine spArg_nil ?_
                  simp only [Act.put, List.setIfInBounds_toArray, List.set_cons_succ, List.set_cons_zero]
                  have k0 : u.cell? ⟨bT, oT + q, none⟩ = some (.slice (some ⟨bi, oi, none⟩) N ci) := range_below HQ1.out (Ext.tr HZ.out hu.has) 0 _ rfl
                  go_wp2_with ((refine wpList_load_midG rfl 60 _ rfl (bP) (oP + q * 10) rfl _ _ (range_below HPM.out (Ext.tr HX.out (Ext.tr HZ.out hu.has))) Tryz.underlying60 rfl (info_pub) ?_))
                  exact ⟨rfl, hu, Ext.refl _, slot_eq rfl⟩) ?_
                refine sp_op (Ph.eq _) (fun u hu => by
                  refine spArg_nil ?_
                  have k0 : u.cell? ⟨bT, oT + q, none⟩ = some (.slice (some ⟨bi, oi, none⟩) N ci) := range_below HQ1.out (Ext.tr HZ.out hu.has) 0 _ rfl
                  go_wp2_with (fail)
                  exact ⟨rfl, hu, Ext.refl _, slot_eq rfl⟩) ?_
                refine sp_op (Ph.eq _) (fun u hu => by
                  refine spArg_nil ?_
                  have k0 : u.cell? ⟨bT, oT + q, none⟩ = some (.slice (some ⟨bi, oi, none⟩) N ci) := range_below HQ1.out (Ext.tr HZ.out hu.has) 0 _ rfl
                  go_wp2_with (fail)
                  exact ⟨rfl, hu, Ext.refl _, slot_eq rfl⟩) ?_
                refine sp_op (Ph.eq _) (fun u hu => by
                  refine spArg_nil ?_
                  have k0 : u.cell? ⟨bT, oT + q, none⟩ = some (.slice (some ⟨bi, oi, none⟩) N ci) := range_below HQ1.out (Ext.tr HZ.out hu.has) 0 _ rfl
                  go_wp2_with (fail)
                  exact ⟨rfl, hu, Ext.refl _, slot_eq rfl⟩) ?_
                refine sp_op (Ph.eq _) (fun u hu => by
                  refine spArg_eq 1 rfl rfl ?_
                  refine spArg_eq 0 rfl rfl ?_
                  refine spArg_nil ?_
                  simp only [Act.put, List.setIfInBounds_toArray, List.set_cons_succ, List.set_cons_zero]
                  have k0 : u.cell? ⟨bT, oT + q, none⟩ = some (.slice (some ⟨bi, oi, none⟩) N ci) := range_below HQ1.out (Ext.tr HZ.out hu.has) 0 _ rfl
                  go_wp2_with (fail)
                  exact ⟨rfl, hu, Ext.refl _, slot_eq rfl⟩) ?_
                refine sp_op (Ph.eq _) (fun u hu => by
                  refine spArg_eq 0 rfl rfl ?_
                  refine spArg_nil ?_
                  simp only [Act.put, List.setIfInBounds_toArray, List.set_cons_succ, List.set_cons_zero]
                  have k0 : u.cell? ⟨bT, oT + q, none⟩ = some (.slice (some ⟨bi, oi, none⟩) N ci) := range_below HQ1.out (Ext.tr HZ.out hu.has) 0 _ rfl
                  go_wp2_with (fail)
                  exact ⟨rfl, hu, Ext.refl _, slot_eq rfl⟩) ?_
                refine sp_op (Ph.eq _) (fun u hu => by
                  refine spArg_nil ?_
                  have k0 : u.cell? ⟨bT, oT + q, none⟩ = some (.slice (some ⟨bi, oi, none⟩) N ci) := range_below HQ1.out (Ext.tr HZ.out hu.has) 0 _ rfl
                  go_wp2_with (fail)
                  exact ⟨rfl, hu, Ext.refl _, slot_eq rfl⟩) ?_
                refine sp_op (Ph.eq _) (fun u hu => by
                  refine spArg_eq 1 rfl rfl ?_
                  refine spArg_eq 0 rfl rfl ?_
                  refine spArg_nil ?_
                  simp only [Act.put, List.setIfInBounds_toArray, List.set_cons_succ, List.set_cons_zero]
                  have k0 : u.cell? ⟨bT, oT + q, none⟩ = some (.slice (some ⟨bi, oi, none⟩) N ci) := range_below HQ1.out (Ext.tr HZ.out hu.has) 0 _ rfl
                  go_wp2_with (fail)
                  exact ⟨rfl, hu, Ext.refl _, slot_eq rfl⟩) ?_
                refine sp_op (Ph.eq _) (fun u hu => by
                  refine spArg_eq 0 rfl rfl ?_
                  refine spArg_nil ?_
                  simp only [Act.put, List.setIfInBounds_toArray, List.set_cons_succ, List.set_cons_zero]
                  have k0 : u.cell? ⟨bT, oT + q, none⟩ = some (.slice (some ⟨bi, oi, none⟩) N ci) := range_below HQ1.out (Ext.tr HZ.out hu.has) 0 _ rfl
                  go_wp2_with ((refine wpList_load_midG rfl 32 _ rfl (bi) (oi + J0 * 2) rfl _ _ (range_below HQ2.out (Ext.tr HZ.out hu.has)) Tryz.underlying32 rfl (info_entry) ?_))
                  exact ⟨rfl, hu, Ext.refl _, slot_eq rfl⟩) ?_
                refine sp_op (Ph.map (fun v => .agg (stpC (AT q) v)) (Ph.ownB w3.heap.size (AT q).e.box)) (fun u hu => by
                  refine spArg_eq 12 rfl rfl ?_
                  refine spArg_eq 8 rfl rfl ?_
                  refine spArg_eq 7 rfl rfl ?_
                  refine spArg_eq 0 rfl rfl ?_
                  refine spArg_nil ?_
                  simp only [Act.put, List.setIfInBounds_toArray, List.set_cons_succ, List.set_cons_zero]
                  have k0 : u.cell? ⟨bT, oT + q, none⟩ = some (.slice (some ⟨bi, oi, none⟩) N ci) := range_below HQ1.out (Ext.tr HZ.out hu.has) 0 _ rfl
                  go_wp2_with ((go_at_call 23; refine (HAM.out _ _ (HQ3.out.ext (Ext.tr HZ.out hu.has)).bytes).mono ?_; rintro r_ x_ ⟨v_, rfl, how_, hb_⟩))
                  exact ⟨rfl, HoldT.step hstab hu hb_, hb_, slot_of rfl ⟨v_, rfl, owns_mono how_ (Below.size (Ext.tr HZ.out hu.has))⟩⟩) ?_
                refine sp_op (Ph.slT (AT q)) (fun u hu => by
                  refine spArg_in (φ := Ph.map (fun v => .agg (stpC (AT q) v)) (Ph.ownB w3.heap.size (AT q).e.box)) 0 rfl rfl ?_; intro v17 h17
                  obtain ⟨v17, rfl, h17'⟩ := h17
                  obtain ⟨a17, c17, rfl, -, -⟩ := owns_form h17'
                  (try unfold stpC)
                  refine spArg_nil ?_
                  simp only [Act.put, List.setIfInBounds_toArray, List.set_cons_succ, List.set_cons_zero]
                  have k0 : u.cell? ⟨bT, oT + q, none⟩ = some (.slice (some ⟨bi, oi, none⟩) N ci) := range_below HQ1.out (Ext.tr HZ.out hu.has) 0 _ rfl
                  go_wp2_with (fail)
                  exact ⟨rfl, HoldT.step hstab hu (Ext.alloc _ _), Ext.alloc _ _, slot_of rfl ⟨⟨_, rfl⟩, SlR.lit1 (R := stpR) (y := AT q) (w := u) (c := (stpC (AT q) (.slice a17 (AT q).e.box.length c17)).toList) ⟨_, rfl, slB_own h17'⟩⟩⟩) ?_
                refine sp_end ?_
                intro u hu
                refine spArg_eq 18 rfl rfl ?_
                refine spArg_eq 17 rfl rfl ?_
                refine spArg_eq 16 rfl rfl ?_
                refine spArg_eq 15 rfl rfl ?_
                refine spArg_eq 14 rfl rfl ?_
                refine spArg_eq 13 rfl rfl ?_
                refine spArg_eq 12 rfl rfl ?_
                refine spArg_eq 11 rfl rfl ?_
                refine spArg_eq 10 rfl rfl ?_
                refine spArg_eq 9 rfl rfl ?_
                refine spArg_eq 8 rfl rfl ?_
                refine spArg_eq 7 rfl rfl ?_
                refine spArg_eq 6 rfl rfl ?_
                refine spArg_eq 5 rfl rfl ?_
                refine spArg_eq 4 rfl rfl ?_
                refine spArg_eq 3 rfl rfl ?_
                refine spArg_eq 2 rfl rfl ?_
                refine spArg_in (φ := Ph.map (fun v => .agg (stpC (AT q) v)) (Ph.ownB w3.heap.size (AT q).e.box)) 1 rfl rfl ?_; intro v17 h17
                obtain ⟨v17, rfl, h17'⟩ := h17
                obtain ⟨a17, c17, rfl, -, -⟩ := owns_form h17'
                (try unfold stpC)
                refine spArg_in (φ := Ph.slT (AT q)) 0 rfl rfl ?_; intro v18 h18
                obtain ⟨⟨g18, rfl⟩, h18'⟩ := h18
                refine spArg_nil ?_
                simp only [Act.put, List.setIfInBounds_toArray, List.set_cons_succ, List.set_cons_zero]
                have h18o : SlR stpR 0 u (.slice (some ⟨g18, 0, none⟩) 1 1) [AT q] := h18'
                clear h18'
                go_wp2_with (at_builtin; refine appT (W := w3) (B := 0) rfl _ _ rfl (Nat.zero_le _) _ SV rfl (HSV.out.ext hu.has) (.slice (some ⟨g18, 0, none⟩) 1 1) [AT q] rfl h18o (by have := HSL.out; simp only [List.length_cons, List.length_nil]; omega) (Ext.tr HZ.out hu.has) ?_; intro v8 w8 hown8 hg8 hb8)
                go_roundw
                case rel => exact ⟨t + 1, by (show Value.int .i64 _ = Value.int .i64 _); congr 1; have := HQM.out; omega, by omega, by rw [HSUC.out]; exact hown8, by rw [show PL - (t + 1) = q from HQM.out.symm, HJ0E.out], hb8⟩
                case measure => (simp [intOf] <;> omega)
            · obtain rfl : PL = t := by omega
              have HSO3 := Lib.hid (show ∀ t ∈ lvs (fun j => AT (PL - j)) PL, t.ok ∧ t.e.box.length ≤ 20000000000000 from fun t ht => by
                unfold lvs at ht
                obtain ⟨j, hj, rfl⟩ := List.mem_map.1 ht
                have hj := List.mem_range.1 hj
                exact ⟨HALO.out _ (by omega), by rw [HATE.out]; exact (HEO.out _ (by omega)).2⟩)
              have hTR := Trace_any ps (lvs LT PL) (J PL) (lvs (fun j => AT (PL - j)) PL) 0 _ _ _ wr (HPR.out.ext (Ext.tr HX.out HZ.out)) (HLS2.out.sl.ext HZ.out) HSV.out.sl HPO.out HSO3.out HLSO.out ⟨by omega, by omega⟩ (by rw [HLP.out]; omega) (by rw [length_lvs]; omega) (by rw [length_lvs]; omega)
              rw [HLW.out, HLP.out] at hTR
              simp only [length_lvs] at hTR
              have HTR := Lib.hid hTR
              clear hTR
              rw [length_lvs]
              go_wp2_with (first
                | (go_at_call 25; refine HTR.out.mono ?_; rintro r_ x9 ⟨rfl, hb9⟩)
                | (refine wpList_eql rfl 65 _ _ rfl _ _ _ rfl rfl guard_verd (run_eqV _ _ _ _) ?_))
              go_ret
              exact ⟨by simp, Ext.tr hbel2 (Ext.tr HX.out (Ext.tr HZ.out hb9))⟩)
    · go_enter Tryz.func5, Tryz.ntmps5
      go_wp2_with (first
        | (go_at_call 20; refine (alive20_any _).mono ?_; rintro e w1 ⟨rfl, hb1⟩; have hkey1 := hk0.out.below hb1; have hbel1 := hb0.out.trans (hb1.mono hb0.out.size))
        | (refine wpList_load_row rfl 23 _ rfl w.heap.size rfl _ (keyA seed) (0, 0) _ hkey1 under_key rfl (by rw [keyA_size, HK.out]; exact info_key) ?_)
        | (go_at_call 10; refine (LChain_any seed k _ HK.out HKI.out).mono ?_; rintro e w2 ⟨v2, u2, rfl, hok2, hb2⟩; rw [HD.out]; have hbel2 : Ext w w2 := hbel1.trans (hb2.mono hbel1.size)))
      all_goals (first | (exfalso; omega) | (go_ret; exact ⟨rfl, hbel2⟩))
  · have HD := Lib.hid (decide_eq_false hr)
    go_enter Tryz.func5, Tryz.ntmps5
    go_wp2_with (first
      | (go_at_call 20; refine (alive20_any _).mono ?_; rintro e w1 ⟨rfl, hb1⟩; have hkey1 := hk0.out.below hb1; have hbel1 := hb0.out.trans (hb1.mono hb0.out.size))
      | (refine wpList_load_row rfl 23 _ rfl w.heap.size rfl _ (keyA seed) (0, 0) _ hkey1 under_key rfl (by rw [keyA_size, HK.out]; exact info_key) ?_)
      | (go_at_call 10; refine (LChain_any seed k _ HK.out HKI.out).mono ?_; rintro e w2 ⟨v2, u2, rfl, hok2, hb2⟩; rw [HD.out]; have hbel2 : Ext w w2 := hbel1.trans (hb2.mono hbel1.size)))
    go_ret
    exact ⟨rfl, hbel2⟩
end Go.Proofs.YtnmniblaefjekaaGreat
