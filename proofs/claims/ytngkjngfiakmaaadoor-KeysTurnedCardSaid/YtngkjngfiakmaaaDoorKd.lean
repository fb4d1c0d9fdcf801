/-
  Chains of keys checked, and their products: both programs.
-/
import Derived.Test.YtngkjngfiakmaaaDoorKc
namespace Go.Proofs.YtngkjngfiakmaaaDoor
set_option linter.unusedVariables false
set_option linter.unusedSimpArgs false
open Go Go.RowKit

theorem seesP_opn {w : World} {v : Value} {ps : List Pub} (h : SeesP w v ps) (hn : 0 < ps.length) : ∃ b o c, v = .slice (some ⟨b, o, none⟩) ps.length c := by
  obtain ⟨b, o, c, e, _⟩ := seesP_open h hn; exact ⟨b, o, c, e⟩
theorem pub_c {u : World} {g : Nat} {t : TypeId} {pa pb pm pn q1 q2 q3 q4 q5 q6 : Int} (h : Blk u g (PubC pa pb pm pn q1 q2 q3 q4 q5 q6) t) :
    u.cell? ⟨g, 0, none⟩ = some (.int .u64 pa) ∧ u.cell? ⟨g, 1, none⟩ = some (.int .u64 pb) ∧ u.cell? ⟨g, 2, none⟩ = some (.int .u64 pm) ∧ u.cell? ⟨g, 3, none⟩ = some (.int .u64 pn) :=
  ⟨by rw [h.cell]; rfl, by rw [h.cell]; rfl, by rw [h.cell]; rfl, by rw [h.cell]; rfl⟩
theorem pub_r {u : World} {g : Nat} {t : TypeId} {pa pb pm pn q1 q2 q3 q4 q5 q6 : Int} (h : Blk u g (PubC pa pb pm pn q1 q2 q3 q4 q5 q6) t) :
    u.rangeAt g 4 [.int .u64 q1, .int .u64 q2] ∧ u.rangeAt g 6 [.int .u64 q3, .int .u64 q4] ∧ u.rangeAt g 8 [.int .u64 q5, .int .u64 q6] :=
  ⟨blk_range h 4 _ (fun j u hj => by match j, hj with | 0, hj => exact hj | 1, hj => exact hj), blk_range h 6 _ (fun j u hj => by match j, hj with | 0, hj => exact hj | 1, hj => exact hj), blk_range h 8 _ (fun j u hj => by match j, hj with | 0, hj => exact hj | 1, hj => exact hj)⟩
theorem okAt_dec (b : Int) (p : Pub) : decide (okAt b p) = (decide (p.base = b) && (decide (knowOk b p.blind p.c1 p.s1) && (decide (knowOk b p.mix p.c2 p.s2) && decide (knowOk 37 p.inner p.c3 p.s3)))) := by
  by_cases h1 : p.base = b <;> by_cases h2 : knowOk b p.blind p.c1 p.s1 <;> by_cases h3 : knowOk b p.mix p.c2 p.s2 <;> by_cases h4 : knowOk 37 p.inner p.c3 p.s3 <;> simp [okAt, h1, h2, h3, h4]
def ChkRel (w : World) (l : List Pub) (g i : Value) (wr : World) : Prop :=
  ∃ (k : Nat) (b : Int), k ≤ l.length ∧ i = .int .i64 k ∧ g = .int .u64 b ∧ in64 b ∧ Hid (chkP l 37 = chkP (l.drop k) b) ∧ Ext w wr
set_option maxRecDepth 100000 in
set_option maxHeartbeats 4000000 in
theorem CheckK_any (l : List Pub) (v0 : Value) (w : World) (hv : SeesP w v0 l) (hok : ∀ p ∈ l, p.ok) (hl : l.length ≤ 1000000) :
    Calls Tryd.prog 14 #[v0] w fun e w' => e = .returned (.bool (checkK l)) ∧ Below w.heap.size w w' := by
  have HV := Lib.hid hv; have HOK := Lib.hid hok
  obtain ⟨a, c, rfl, hc, hm⟩ := sees_form hv
  clear hv hok
  go_enter Tryd.func14, Tryd.ntmps14
  go_wp2_with fail
  go_loopw [3, 5, 8] (fun g _ i wr => ChkRel w l g i wr) (fun _ _ i _ => l.length - (intOf i).toNat)
  case atStart => exact ⟨0, 37, Nat.zero_le _, rfl, rfl, ⟨by decide, by decide⟩, Lib.hid rfl, Ext.refl _⟩
  case round =>
    obtain ⟨k, b, hk, rfl, rfl, hb, hP, hX⟩ := hrel
    by_cases hlt : k < l.length
    · skip
      obtain ⟨p, hpe⟩ : ∃ p, l[k]? = some p := ⟨_, List.getElem?_eq_getElem hlt⟩
      have hpo := HOK.out p (List.mem_of_getElem? hpe)
      obtain ⟨bP, oP, cP, e1⟩ := seesP_opn HV.out (by omega)
      obtain ⟨rfl, rfl⟩ : a = some ⟨bP, oP, none⟩ ∧ c = cP := by injection e1 with e1 _ e3; exact ⟨e1, e3⟩
      clear e1
      have hrg := Lib.hid (range_ext (seesP_at HV.out (by omega) k p hpe) hX)
      have hdrop := chkP_drop (b := b) hpe
      rw [okAt_dec] at hdrop
      obtain ⟨pa, pb, pm, pn, q1, q2, q3, q4, q5, q6⟩ := p
      obtain ⟨oa, ob, om, on, o1, o2, o3, o4, o5, o6⟩ := hpo
      simp only at oa ob om on o1 o2 o3 o4 o5 o6 hdrop
      have HK1 := fun u : World => CheckKnow_any b pb q1 q2 u hb ob o1 o2
      have HK2 := fun u : World => CheckKnow_any b pm q3 q4 u hb om o3 o4
      have HK3 := fun u : World => CheckKnow_any 37 pn q5 q6 u ⟨by decide, by decide⟩ on o5 o6
      generalize decide (knowOk b pb q1 q2) = d1 at *
      generalize decide (knowOk b pm q3 q4) = d2 at *
      generalize decide (knowOk 37 pn q5 q6) = d3 at *
      have HK1 := Lib.hid HK1; have HK2 := Lib.hid HK2; have HK3 := Lib.hid HK3
      by_cases hpb : pa = b
      · rw [decide_eq_true hpb, Bool.true_and] at hdrop
        subst hpb
        cases d1
        · skip
          have HF := Lib.hid (show checkK l = false by rw [checkK, hP.out, hdrop]; simp only [Bool.and_false, Bool.false_and, Bool.and_true, Bool.true_and])
          clear hdrop hP
          go_wp2_with (first
            | (refine wpList_load_mid rfl 39 (.tmp 10) rfl bP (oP + k * 10) rfl _ _ hrg.out Tryd.underlying39 rfl info_pub ?_)
            | (refine wpList_allocB rfl _ rfl _ run_allocPub ?_; intro x1 B1 hh1 hB1 e1)
            | (refine wpList_store_row rfl 39 _ _ rfl B1 (PubC pa pb pm pn q1 q2 q3 q4 q5 q6) _ _ rfl rfl hh1 rfl info_pub (one_pubC _ _ _ _ _ _ _ _ _ _) ?_; intro x2 hg2 hs2 hR2
               have e2 : Ext wr x2 := ext_rowK e1 hg2 hB1
               obtain ⟨g0, g1, g2, g3⟩ := pub_c hR2
               clear hg2 hs2 e1)
            | (refine wpList_load_midG rfl 37 (.tmp 20) rfl B1 4 rfl _ _ (pub_r hR2).1 Tryd.underlying37 rfl info_proof ?_)
            | (go_at_call 33; (with_reducible show Calls _ _ #[_, .int .u64 pb, _] _ _); refine (HK1.out _).mono ?_; rintro r3 x3 ⟨rfl, hb3⟩; have e3 : Ext x2 x3 := hb3; have hR3 := hR2.below hb3; obtain ⟨k0, k1, k2, k3⟩ := pub_c hR3)
            | (refine wpList_load_midG rfl 37 (.tmp 29) rfl B1 6 rfl _ _ (pub_r hR3).2.1 Tryd.underlying37 rfl info_proof ?_)
            | (go_at_call 33; (with_reducible show Calls _ _ #[_, .int .u64 pm, _] _ _); refine (HK2.out _).mono ?_; rintro r4 x4 ⟨rfl, hb4⟩; have e4 : Ext x3 x4 := hb4; have hR4 := hR3.below hb4; obtain ⟨j0, j1, j2, j3⟩ := pub_c hR4)
            | (refine wpList_load_midG rfl 37 (.tmp 37) rfl B1 8 rfl _ _ (pub_r hR4).2.2 Tryd.underlying37 rfl info_proof ?_)
            | (go_at_call 33; (with_reducible show Calls _ _ #[_, .int .u64 pn, _] _ _); refine (HK3.out _).mono ?_; rintro r5 x5 ⟨rfl, hb5⟩; have e5 : Ext x4 x5 := hb5; have hR5 := hR4.below hb5; obtain ⟨i0, i1, i2, i3⟩ := pub_c hR5))
          go_ret
          exact ⟨by rw [HF.out]; rfl, (show Ext w _ from by solve_by_elim (maxDepth := 12) [Ext.tr])⟩
        · cases d2
          · skip
            have HF := Lib.hid (show checkK l = false by rw [checkK, hP.out, hdrop]; simp only [Bool.and_false, Bool.false_and, Bool.and_true, Bool.true_and])
            clear hdrop hP
            go_wp2_with (first
              | (refine wpList_load_mid rfl 39 (.tmp 10) rfl bP (oP + k * 10) rfl _ _ hrg.out Tryd.underlying39 rfl info_pub ?_)
              | (refine wpList_allocB rfl _ rfl _ run_allocPub ?_; intro x1 B1 hh1 hB1 e1)
              | (refine wpList_store_row rfl 39 _ _ rfl B1 (PubC pa pb pm pn q1 q2 q3 q4 q5 q6) _ _ rfl rfl hh1 rfl info_pub (one_pubC _ _ _ _ _ _ _ _ _ _) ?_; intro x2 hg2 hs2 hR2
                 have e2 : Ext wr x2 := ext_rowK e1 hg2 hB1
                 obtain ⟨g0, g1, g2, g3⟩ := pub_c hR2
                 clear hg2 hs2 e1)
              | (refine wpList_load_midG rfl 37 (.tmp 20) rfl B1 4 rfl _ _ (pub_r hR2).1 Tryd.underlying37 rfl info_proof ?_)
              | (go_at_call 33; (with_reducible show Calls _ _ #[_, .int .u64 pb, _] _ _); refine (HK1.out _).mono ?_; rintro r3 x3 ⟨rfl, hb3⟩; have e3 : Ext x2 x3 := hb3; have hR3 := hR2.below hb3; obtain ⟨k0, k1, k2, k3⟩ := pub_c hR3)
              | (refine wpList_load_midG rfl 37 (.tmp 29) rfl B1 6 rfl _ _ (pub_r hR3).2.1 Tryd.underlying37 rfl info_proof ?_)
              | (go_at_call 33; (with_reducible show Calls _ _ #[_, .int .u64 pm, _] _ _); refine (HK2.out _).mono ?_; rintro r4 x4 ⟨rfl, hb4⟩; have e4 : Ext x3 x4 := hb4; have hR4 := hR3.below hb4; obtain ⟨j0, j1, j2, j3⟩ := pub_c hR4)
              | (refine wpList_load_midG rfl 37 (.tmp 37) rfl B1 8 rfl _ _ (pub_r hR4).2.2 Tryd.underlying37 rfl info_proof ?_)
              | (go_at_call 33; (with_reducible show Calls _ _ #[_, .int .u64 pn, _] _ _); refine (HK3.out _).mono ?_; rintro r5 x5 ⟨rfl, hb5⟩; have e5 : Ext x4 x5 := hb5; have hR5 := hR4.below hb5; obtain ⟨i0, i1, i2, i3⟩ := pub_c hR5))
            go_ret
            exact ⟨by rw [HF.out]; rfl, (show Ext w _ from by solve_by_elim (maxDepth := 12) [Ext.tr])⟩
          · cases d3
            · skip
              have HF := Lib.hid (show checkK l = false by rw [checkK, hP.out, hdrop]; simp only [Bool.and_false, Bool.false_and, Bool.and_true, Bool.true_and])
              clear hdrop hP
              go_wp2_with (first
                | (refine wpList_load_mid rfl 39 (.tmp 10) rfl bP (oP + k * 10) rfl _ _ hrg.out Tryd.underlying39 rfl info_pub ?_)
                | (refine wpList_allocB rfl _ rfl _ run_allocPub ?_; intro x1 B1 hh1 hB1 e1)
                | (refine wpList_store_row rfl 39 _ _ rfl B1 (PubC pa pb pm pn q1 q2 q3 q4 q5 q6) _ _ rfl rfl hh1 rfl info_pub (one_pubC _ _ _ _ _ _ _ _ _ _) ?_; intro x2 hg2 hs2 hR2
                   have e2 : Ext wr x2 := ext_rowK e1 hg2 hB1
                   obtain ⟨g0, g1, g2, g3⟩ := pub_c hR2
                   clear hg2 hs2 e1)
                | (refine wpList_load_midG rfl 37 (.tmp 20) rfl B1 4 rfl _ _ (pub_r hR2).1 Tryd.underlying37 rfl info_proof ?_)
                | (go_at_call 33; (with_reducible show Calls _ _ #[_, .int .u64 pb, _] _ _); refine (HK1.out _).mono ?_; rintro r3 x3 ⟨rfl, hb3⟩; have e3 : Ext x2 x3 := hb3; have hR3 := hR2.below hb3; obtain ⟨k0, k1, k2, k3⟩ := pub_c hR3)
                | (refine wpList_load_midG rfl 37 (.tmp 29) rfl B1 6 rfl _ _ (pub_r hR3).2.1 Tryd.underlying37 rfl info_proof ?_)
                | (go_at_call 33; (with_reducible show Calls _ _ #[_, .int .u64 pm, _] _ _); refine (HK2.out _).mono ?_; rintro r4 x4 ⟨rfl, hb4⟩; have e4 : Ext x3 x4 := hb4; have hR4 := hR3.below hb4; obtain ⟨j0, j1, j2, j3⟩ := pub_c hR4)
                | (refine wpList_load_midG rfl 37 (.tmp 37) rfl B1 8 rfl _ _ (pub_r hR4).2.2 Tryd.underlying37 rfl info_proof ?_)
                | (go_at_call 33; (with_reducible show Calls _ _ #[_, .int .u64 pn, _] _ _); refine (HK3.out _).mono ?_; rintro r5 x5 ⟨rfl, hb5⟩; have e5 : Ext x4 x5 := hb5; have hR5 := hR4.below hb5; obtain ⟨i0, i1, i2, i3⟩ := pub_c hR5))
              go_ret
              exact ⟨by rw [HF.out]; rfl, (show Ext w _ from by solve_by_elim (maxDepth := 12) [Ext.tr])⟩
            · have HP2 := Lib.hid (hP.out.trans hdrop)
              clear hdrop hP
              go_wp2_with (first
                | (refine wpList_load_mid rfl 39 (.tmp 10) rfl bP (oP + k * 10) rfl _ _ hrg.out Tryd.underlying39 rfl info_pub ?_)
                | (refine wpList_allocB rfl _ rfl _ run_allocPub ?_; intro x1 B1 hh1 hB1 e1)
                | (refine wpList_store_row rfl 39 _ _ rfl B1 (PubC pa pb pm pn q1 q2 q3 q4 q5 q6) _ _ rfl rfl hh1 rfl info_pub (one_pubC _ _ _ _ _ _ _ _ _ _) ?_; intro x2 hg2 hs2 hR2
                   have e2 : Ext wr x2 := ext_rowK e1 hg2 hB1
                   obtain ⟨g0, g1, g2, g3⟩ := pub_c hR2
                   clear hg2 hs2 e1)
                | (refine wpList_load_midG rfl 37 (.tmp 20) rfl B1 4 rfl _ _ (pub_r hR2).1 Tryd.underlying37 rfl info_proof ?_)
                | (go_at_call 33; (with_reducible show Calls _ _ #[_, .int .u64 pb, _] _ _); refine (HK1.out _).mono ?_; rintro r3 x3 ⟨rfl, hb3⟩; have e3 : Ext x2 x3 := hb3; have hR3 := hR2.below hb3; obtain ⟨k0, k1, k2, k3⟩ := pub_c hR3)
                | (refine wpList_load_midG rfl 37 (.tmp 29) rfl B1 6 rfl _ _ (pub_r hR3).2.1 Tryd.underlying37 rfl info_proof ?_)
                | (go_at_call 33; (with_reducible show Calls _ _ #[_, .int .u64 pm, _] _ _); refine (HK2.out _).mono ?_; rintro r4 x4 ⟨rfl, hb4⟩; have e4 : Ext x3 x4 := hb4; have hR4 := hR3.below hb4; obtain ⟨j0, j1, j2, j3⟩ := pub_c hR4)
                | (refine wpList_load_midG rfl 37 (.tmp 37) rfl B1 8 rfl _ _ (pub_r hR4).2.2 Tryd.underlying37 rfl info_proof ?_)
                | (go_at_call 33; (with_reducible show Calls _ _ #[_, .int .u64 pn, _] _ _); refine (HK3.out _).mono ?_; rintro r5 x5 ⟨rfl, hb5⟩; have e5 : Ext x4 x5 := hb5; have hR5 := hR4.below hb5; obtain ⟨i0, i1, i2, i3⟩ := pub_c hR5))
              go_roundw
              case rel => exact ⟨k + 1, pb, by omega, by go_num, rfl, ob, Lib.hid (by rw [HP2.out]; rfl), (show Ext w _ from by solve_by_elim (maxDepth := 12) [Ext.tr])⟩
              case measure => simp [intOf]; omega
      · rw [decide_eq_false hpb, Bool.false_and, Bool.false_and] at hdrop
        have HF := Lib.hid (show checkK l = false by rw [checkK, hP.out, hdrop]; simp only [Bool.and_false, Bool.false_and, Bool.and_true, Bool.true_and])
        clear hdrop hP
        go_wp2_with (first
          | (refine wpList_load_mid rfl 39 (.tmp 10) rfl bP (oP + k * 10) rfl _ _ hrg.out Tryd.underlying39 rfl info_pub ?_)
          | (refine wpList_allocB rfl _ rfl _ run_allocPub ?_; intro x1 B1 hh1 hB1 e1)
          | (refine wpList_store_row rfl 39 _ _ rfl B1 (PubC pa pb pm pn q1 q2 q3 q4 q5 q6) _ _ rfl rfl hh1 rfl info_pub (one_pubC _ _ _ _ _ _ _ _ _ _) ?_; intro x2 hg2 hs2 hR2
             have e2 : Ext wr x2 := ext_rowK e1 hg2 hB1
             obtain ⟨g0, g1, g2, g3⟩ := pub_c hR2
             clear hg2 hs2 e1)
          | (refine wpList_load_midG rfl 37 (.tmp 20) rfl B1 4 rfl _ _ (pub_r hR2).1 Tryd.underlying37 rfl info_proof ?_)
          | (go_at_call 33; (with_reducible show Calls _ _ #[_, .int .u64 pb, _] _ _); refine (HK1.out _).mono ?_; rintro r3 x3 ⟨rfl, hb3⟩; have e3 : Ext x2 x3 := hb3; have hR3 := hR2.below hb3; obtain ⟨k0, k1, k2, k3⟩ := pub_c hR3)
          | (refine wpList_load_midG rfl 37 (.tmp 29) rfl B1 6 rfl _ _ (pub_r hR3).2.1 Tryd.underlying37 rfl info_proof ?_)
          | (go_at_call 33; (with_reducible show Calls _ _ #[_, .int .u64 pm, _] _ _); refine (HK2.out _).mono ?_; rintro r4 x4 ⟨rfl, hb4⟩; have e4 : Ext x3 x4 := hb4; have hR4 := hR3.below hb4; obtain ⟨j0, j1, j2, j3⟩ := pub_c hR4)
          | (refine wpList_load_midG rfl 37 (.tmp 37) rfl B1 8 rfl _ _ (pub_r hR4).2.2 Tryd.underlying37 rfl info_proof ?_)
          | (go_at_call 33; (with_reducible show Calls _ _ #[_, .int .u64 pn, _] _ _); refine (HK3.out _).mono ?_; rintro r5 x5 ⟨rfl, hb5⟩; have e5 : Ext x4 x5 := hb5; have hR5 := hR4.below hb5; obtain ⟨i0, i1, i2, i3⟩ := pub_c hR5))
        go_ret
        exact ⟨by rw [HF.out]; rfl, (show Ext w _ from by solve_by_elim (maxDepth := 12) [Ext.tr])⟩
    · obtain rfl : k = l.length := by omega
      have hP2 := hP.out
      rw [List.drop_length, chkP] at hP2
      have HC := Lib.hid (show checkK l = decide (1 ≤ l.length ∧ l.length ≤ 20) by rw [checkK, hP2, Bool.and_true])
      clear hP hP2
      by_cases h1 : 1 ≤ l.length
      · have h1' : (1 : Int) ≤ (l.length : Int) := by omega
        by_cases h2 : l.length ≤ 20
        · have h2' : (l.length : Int) ≤ 20 := by omega
          have HD := Lib.hid (HC.out.trans (decide_eq_true ⟨h1, h2⟩))
          go_wp2_with fail
          go_ret
          exact ⟨by rw [HD.out]; rfl, hX⟩
        · have h2' : (20 : Int) < (l.length : Int) := by omega
          have HD := Lib.hid (HC.out.trans (decide_eq_false (fun h => h2 h.2)))
          go_wp2_with fail
          go_ret
          exact ⟨by rw [HD.out]; exact ret_bool (decide_eq_false (by omega)), hX⟩
      · have h1' : (l.length : Int) < 1 := by omega
        have HD := Lib.hid (HC.out.trans (decide_eq_false (fun h => h1 h.1)))
        go_wp2_with fail
        go_ret
        exact ⟨by rw [HD.out]; rfl, hX⟩
set_option maxRecDepth 100000 in
set_option maxHeartbeats 4000000 in
theorem CheckKr_any (l : List Pub) (v0 : Value) (w : World) (hv : SeesP w v0 l) (hok : ∀ p ∈ l, p.ok) (hl : l.length ≤ 1000000) :
    Calls Tryd.prog 15 #[v0] w fun e w' => e = .returned (.bool (checkK l)) ∧ Below w.heap.size w w' := by
  have HV := Lib.hid hv; have HOK := Lib.hid hok
  obtain ⟨a, c, rfl, hc, hm⟩ := sees_form hv
  clear hv hok
  by_cases h1 : 1 ≤ l.length
  · have h1' : ¬ (l.length : Int) < 1 := by omega
    by_cases h2 : l.length ≤ 20
    · have h2' : ¬ (20 : Int) < (l.length : Int) := by omega
      go_enter Tryd.func15, Tryd.ntmps15
      go_wp2_with fail
      go_loopw [3, 4, 5] (fun g i _ wr => ChkRel w l g i wr) (fun _ i _ _ => l.length - (intOf i).toNat)
      case atStart => exact ⟨0, 37, Nat.zero_le _, rfl, rfl, ⟨by decide, by decide⟩, Lib.hid rfl, Ext.refl _⟩
      case round =>
        obtain ⟨k, b, hk, rfl, rfl, hb, hP, hX⟩ := hrel
        by_cases hlt : k < l.length
        · skip
          obtain ⟨p, hpe⟩ : ∃ p, l[k]? = some p := ⟨_, List.getElem?_eq_getElem hlt⟩
          have hpo := HOK.out p (List.mem_of_getElem? hpe)
          obtain ⟨bP, oP, cP, e1⟩ := seesP_opn HV.out (by omega)
          obtain ⟨rfl, rfl⟩ : a = some ⟨bP, oP, none⟩ ∧ c = cP := by injection e1 with e1 _ e3; exact ⟨e1, e3⟩
          clear e1
          have hrg := Lib.hid (range_ext (seesP_at HV.out (by omega) k p hpe) hX)
          have hdrop := chkP_drop (b := b) hpe
          rw [okAt_dec] at hdrop
          obtain ⟨pa, pb, pm, pn, q1, q2, q3, q4, q5, q6⟩ := p
          obtain ⟨oa, ob, om, on, o1, o2, o3, o4, o5, o6⟩ := hpo
          simp only at oa ob om on o1 o2 o3 o4 o5 o6 hdrop
          have HK1 := fun u : World => CheckKnowr_any b pb q1 q2 u hb ob o1 o2
          have HK2 := fun u : World => CheckKnowr_any b pm q3 q4 u hb om o3 o4
          have HK3 := fun u : World => CheckKnowr_any 37 pn q5 q6 u ⟨by decide, by decide⟩ on o5 o6
          generalize decide (knowOk b pb q1 q2) = d1 at *
          generalize decide (knowOk b pm q3 q4) = d2 at *
          generalize decide (knowOk 37 pn q5 q6) = d3 at *
          have HK1 := Lib.hid HK1; have HK2 := Lib.hid HK2; have HK3 := Lib.hid HK3
          by_cases hpb : pa = b
          · rw [decide_eq_true hpb, Bool.true_and] at hdrop
            subst hpb
            cases d1
            · skip
              have HF := Lib.hid (show checkK l = false by rw [checkK, hP.out, hdrop]; simp only [Bool.and_false, Bool.false_and, Bool.and_true, Bool.true_and])
              clear hdrop hP
              go_wp2_with (first
                | (refine wpList_load_mid rfl 39 (.tmp 22) rfl bP (oP + k * 10) rfl _ _ hrg.out Tryd.underlying39 rfl info_pub ?_)
                | (refine wpList_allocB rfl _ rfl _ run_allocPub ?_; intro x1 B1 hh1 hB1 e1)
                | (refine wpList_store_row rfl 39 _ _ rfl B1 (PubC pa pb pm pn q1 q2 q3 q4 q5 q6) _ _ rfl rfl hh1 rfl info_pub (one_pubC _ _ _ _ _ _ _ _ _ _) ?_; intro x2 hg2 hs2 hR2
                   have e2 : Ext wr x2 := ext_rowK e1 hg2 hB1
                   obtain ⟨g0, g1, g2, g3⟩ := pub_c hR2
                   clear hg2 hs2 e1)
                | (refine wpList_load_midG rfl 37 (.tmp 32) rfl B1 4 rfl _ _ (pub_r hR2).1 Tryd.underlying37 rfl info_proof ?_)
                | (go_at_call 34; (with_reducible show Calls _ _ #[_, .int .u64 pb, _] _ _); refine (HK1.out _).mono ?_; rintro r3 x3 ⟨rfl, hb3⟩; have e3 : Ext x2 x3 := hb3; have hR3 := hR2.below hb3; obtain ⟨k0, k1, k2, k3⟩ := pub_c hR3)
                | (refine wpList_load_midG rfl 37 (.tmp 41) rfl B1 6 rfl _ _ (pub_r hR3).2.1 Tryd.underlying37 rfl info_proof ?_)
                | (go_at_call 34; (with_reducible show Calls _ _ #[_, .int .u64 pm, _] _ _); refine (HK2.out _).mono ?_; rintro r4 x4 ⟨rfl, hb4⟩; have e4 : Ext x3 x4 := hb4; have hR4 := hR3.below hb4; obtain ⟨j0, j1, j2, j3⟩ := pub_c hR4)
                | (refine wpList_load_midG rfl 37 (.tmp 49) rfl B1 8 rfl _ _ (pub_r hR4).2.2 Tryd.underlying37 rfl info_proof ?_)
                | (go_at_call 34; (with_reducible show Calls _ _ #[_, .int .u64 pn, _] _ _); refine (HK3.out _).mono ?_; rintro r5 x5 ⟨rfl, hb5⟩; have e5 : Ext x4 x5 := hb5; have hR5 := hR4.below hb5; obtain ⟨i0, i1, i2, i3⟩ := pub_c hR5))
              go_ret
              exact ⟨by rw [HF.out]; rfl, (show Ext w _ from by solve_by_elim (maxDepth := 12) [Ext.tr])⟩
            · cases d2
              · skip
                have HF := Lib.hid (show checkK l = false by rw [checkK, hP.out, hdrop]; simp only [Bool.and_false, Bool.false_and, Bool.and_true, Bool.true_and])
                clear hdrop hP
                go_wp2_with (first
                  | (refine wpList_load_mid rfl 39 (.tmp 22) rfl bP (oP + k * 10) rfl _ _ hrg.out Tryd.underlying39 rfl info_pub ?_)
                  | (refine wpList_allocB rfl _ rfl _ run_allocPub ?_; intro x1 B1 hh1 hB1 e1)
                  | (refine wpList_store_row rfl 39 _ _ rfl B1 (PubC pa pb pm pn q1 q2 q3 q4 q5 q6) _ _ rfl rfl hh1 rfl info_pub (one_pubC _ _ _ _ _ _ _ _ _ _) ?_; intro x2 hg2 hs2 hR2
                     have e2 : Ext wr x2 := ext_rowK e1 hg2 hB1
                     obtain ⟨g0, g1, g2, g3⟩ := pub_c hR2
                     clear hg2 hs2 e1)
                  | (refine wpList_load_midG rfl 37 (.tmp 32) rfl B1 4 rfl _ _ (pub_r hR2).1 Tryd.underlying37 rfl info_proof ?_)
                  | (go_at_call 34; (with_reducible show Calls _ _ #[_, .int .u64 pb, _] _ _); refine (HK1.out _).mono ?_; rintro r3 x3 ⟨rfl, hb3⟩; have e3 : Ext x2 x3 := hb3; have hR3 := hR2.below hb3; obtain ⟨k0, k1, k2, k3⟩ := pub_c hR3)
                  | (refine wpList_load_midG rfl 37 (.tmp 41) rfl B1 6 rfl _ _ (pub_r hR3).2.1 Tryd.underlying37 rfl info_proof ?_)
                  | (go_at_call 34; (with_reducible show Calls _ _ #[_, .int .u64 pm, _] _ _); refine (HK2.out _).mono ?_; rintro r4 x4 ⟨rfl, hb4⟩; have e4 : Ext x3 x4 := hb4; have hR4 := hR3.below hb4; obtain ⟨j0, j1, j2, j3⟩ := pub_c hR4)
                  | (refine wpList_load_midG rfl 37 (.tmp 49) rfl B1 8 rfl _ _ (pub_r hR4).2.2 Tryd.underlying37 rfl info_proof ?_)
                  | (go_at_call 34; (with_reducible show Calls _ _ #[_, .int .u64 pn, _] _ _); refine (HK3.out _).mono ?_; rintro r5 x5 ⟨rfl, hb5⟩; have e5 : Ext x4 x5 := hb5; have hR5 := hR4.below hb5; obtain ⟨i0, i1, i2, i3⟩ := pub_c hR5))
                go_ret
                exact ⟨by rw [HF.out]; rfl, (show Ext w _ from by solve_by_elim (maxDepth := 12) [Ext.tr])⟩
              · cases d3
                · skip
                  have HF := Lib.hid (show checkK l = false by rw [checkK, hP.out, hdrop]; simp only [Bool.and_false, Bool.false_and, Bool.and_true, Bool.true_and])
                  clear hdrop hP
                  go_wp2_with (first
                    | (refine wpList_load_mid rfl 39 (.tmp 22) rfl bP (oP + k * 10) rfl _ _ hrg.out Tryd.underlying39 rfl info_pub ?_)
                    | (refine wpList_allocB rfl _ rfl _ run_allocPub ?_; intro x1 B1 hh1 hB1 e1)
                    | (refine wpList_store_row rfl 39 _ _ rfl B1 (PubC pa pb pm pn q1 q2 q3 q4 q5 q6) _ _ rfl rfl hh1 rfl info_pub (one_pubC _ _ _ _ _ _ _ _ _ _) ?_; intro x2 hg2 hs2 hR2
                       have e2 : Ext wr x2 := ext_rowK e1 hg2 hB1
                       obtain ⟨g0, g1, g2, g3⟩ := pub_c hR2
                       clear hg2 hs2 e1)
                    | (refine wpList_load_midG rfl 37 (.tmp 32) rfl B1 4 rfl _ _ (pub_r hR2).1 Tryd.underlying37 rfl info_proof ?_)
                    | (go_at_call 34; (with_reducible show Calls _ _ #[_, .int .u64 pb, _] _ _); refine (HK1.out _).mono ?_; rintro r3 x3 ⟨rfl, hb3⟩; have e3 : Ext x2 x3 := hb3; have hR3 := hR2.below hb3; obtain ⟨k0, k1, k2, k3⟩ := pub_c hR3)
                    | (refine wpList_load_midG rfl 37 (.tmp 41) rfl B1 6 rfl _ _ (pub_r hR3).2.1 Tryd.underlying37 rfl info_proof ?_)
                    | (go_at_call 34; (with_reducible show Calls _ _ #[_, .int .u64 pm, _] _ _); refine (HK2.out _).mono ?_; rintro r4 x4 ⟨rfl, hb4⟩; have e4 : Ext x3 x4 := hb4; have hR4 := hR3.below hb4; obtain ⟨j0, j1, j2, j3⟩ := pub_c hR4)
                    | (refine wpList_load_midG rfl 37 (.tmp 49) rfl B1 8 rfl _ _ (pub_r hR4).2.2 Tryd.underlying37 rfl info_proof ?_)
                    | (go_at_call 34; (with_reducible show Calls _ _ #[_, .int .u64 pn, _] _ _); refine (HK3.out _).mono ?_; rintro r5 x5 ⟨rfl, hb5⟩; have e5 : Ext x4 x5 := hb5; have hR5 := hR4.below hb5; obtain ⟨i0, i1, i2, i3⟩ := pub_c hR5))
                  go_ret
                  exact ⟨by rw [HF.out]; rfl, (show Ext w _ from by solve_by_elim (maxDepth := 12) [Ext.tr])⟩
                · have HP2 := Lib.hid (hP.out.trans hdrop)
                  clear hdrop hP
                  go_wp2_with (first
                    | (refine wpList_load_mid rfl 39 (.tmp 22) rfl bP (oP + k * 10) rfl _ _ hrg.out Tryd.underlying39 rfl info_pub ?_)
                    | (refine wpList_allocB rfl _ rfl _ run_allocPub ?_; intro x1 B1 hh1 hB1 e1)
                    | (refine wpList_store_row rfl 39 _ _ rfl B1 (PubC pa pb pm pn q1 q2 q3 q4 q5 q6) _ _ rfl rfl hh1 rfl info_pub (one_pubC _ _ _ _ _ _ _ _ _ _) ?_; intro x2 hg2 hs2 hR2
                       have e2 : Ext wr x2 := ext_rowK e1 hg2 hB1
                       obtain ⟨g0, g1, g2, g3⟩ := pub_c hR2
                       clear hg2 hs2 e1)
                    | (refine wpList_load_midG rfl 37 (.tmp 32) rfl B1 4 rfl _ _ (pub_r hR2).1 Tryd.underlying37 rfl info_proof ?_)
                    | (go_at_call 34; (with_reducible show Calls _ _ #[_, .int .u64 pb, _] _ _); refine (HK1.out _).mono ?_; rintro r3 x3 ⟨rfl, hb3⟩; have e3 : Ext x2 x3 := hb3; have hR3 := hR2.below hb3; obtain ⟨k0, k1, k2, k3⟩ := pub_c hR3)
                    | (refine wpList_load_midG rfl 37 (.tmp 41) rfl B1 6 rfl _ _ (pub_r hR3).2.1 Tryd.underlying37 rfl info_proof ?_)
                    | (go_at_call 34; (with_reducible show Calls _ _ #[_, .int .u64 pm, _] _ _); refine (HK2.out _).mono ?_; rintro r4 x4 ⟨rfl, hb4⟩; have e4 : Ext x3 x4 := hb4; have hR4 := hR3.below hb4; obtain ⟨j0, j1, j2, j3⟩ := pub_c hR4)
                    | (refine wpList_load_midG rfl 37 (.tmp 49) rfl B1 8 rfl _ _ (pub_r hR4).2.2 Tryd.underlying37 rfl info_proof ?_)
                    | (go_at_call 34; (with_reducible show Calls _ _ #[_, .int .u64 pn, _] _ _); refine (HK3.out _).mono ?_; rintro r5 x5 ⟨rfl, hb5⟩; have e5 : Ext x4 x5 := hb5; have hR5 := hR4.below hb5; obtain ⟨i0, i1, i2, i3⟩ := pub_c hR5))
                  go_roundw
                  case rel => exact ⟨k + 1, pb, by omega, by go_num, rfl, ob, Lib.hid (by rw [HP2.out]; rfl), (show Ext w _ from by solve_by_elim (maxDepth := 12) [Ext.tr])⟩
                  case measure => simp [intOf]; omega
          · rw [decide_eq_false hpb, Bool.false_and, Bool.false_and] at hdrop
            have HF := Lib.hid (show checkK l = false by rw [checkK, hP.out, hdrop]; simp only [Bool.and_false, Bool.false_and, Bool.and_true, Bool.true_and])
            clear hdrop hP
            go_wp2_with (first
              | (refine wpList_load_mid rfl 39 (.tmp 22) rfl bP (oP + k * 10) rfl _ _ hrg.out Tryd.underlying39 rfl info_pub ?_)
              | (refine wpList_allocB rfl _ rfl _ run_allocPub ?_; intro x1 B1 hh1 hB1 e1)
              | (refine wpList_store_row rfl 39 _ _ rfl B1 (PubC pa pb pm pn q1 q2 q3 q4 q5 q6) _ _ rfl rfl hh1 rfl info_pub (one_pubC _ _ _ _ _ _ _ _ _ _) ?_; intro x2 hg2 hs2 hR2
                 have e2 : Ext wr x2 := ext_rowK e1 hg2 hB1
                 obtain ⟨g0, g1, g2, g3⟩ := pub_c hR2
                 clear hg2 hs2 e1)
              | (refine wpList_load_midG rfl 37 (.tmp 32) rfl B1 4 rfl _ _ (pub_r hR2).1 Tryd.underlying37 rfl info_proof ?_)
              | (go_at_call 34; (with_reducible show Calls _ _ #[_, .int .u64 pb, _] _ _); refine (HK1.out _).mono ?_; rintro r3 x3 ⟨rfl, hb3⟩; have e3 : Ext x2 x3 := hb3; have hR3 := hR2.below hb3; obtain ⟨k0, k1, k2, k3⟩ := pub_c hR3)
              | (refine wpList_load_midG rfl 37 (.tmp 41) rfl B1 6 rfl _ _ (pub_r hR3).2.1 Tryd.underlying37 rfl info_proof ?_)
              | (go_at_call 34; (with_reducible show Calls _ _ #[_, .int .u64 pm, _] _ _); refine (HK2.out _).mono ?_; rintro r4 x4 ⟨rfl, hb4⟩; have e4 : Ext x3 x4 := hb4; have hR4 := hR3.below hb4; obtain ⟨j0, j1, j2, j3⟩ := pub_c hR4)
              | (refine wpList_load_midG rfl 37 (.tmp 49) rfl B1 8 rfl _ _ (pub_r hR4).2.2 Tryd.underlying37 rfl info_proof ?_)
              | (go_at_call 34; (with_reducible show Calls _ _ #[_, .int .u64 pn, _] _ _); refine (HK3.out _).mono ?_; rintro r5 x5 ⟨rfl, hb5⟩; have e5 : Ext x4 x5 := hb5; have hR5 := hR4.below hb5; obtain ⟨i0, i1, i2, i3⟩ := pub_c hR5))
            go_ret
            exact ⟨by rw [HF.out]; rfl, (show Ext w _ from by solve_by_elim (maxDepth := 12) [Ext.tr])⟩
        · obtain rfl : k = l.length := by omega
          have hP2 := hP.out
          rw [List.drop_length, chkP] at hP2
          have HD := Lib.hid (show checkK l = true by rw [checkK, hP2, Bool.and_true]; exact decide_eq_true ⟨h1, h2⟩)
          clear hP hP2
          go_wp2_with fail
          go_ret
          exact ⟨by rw [HD.out]; rfl, hX⟩
    · have h2' : (20 : Int) < (l.length : Int) := by omega
      have HD := Lib.hid (show checkK l = false by rw [checkK, decide_eq_false (fun h => h2 h.2), Bool.false_and])
      go_enter Tryd.func15, Tryd.ntmps15
      go_wp2_with fail
      go_ret
      exact ⟨by rw [HD.out]; rfl, Ext.refl _⟩
  · have h1' : (l.length : Int) < 1 := by omega
    have HD := Lib.hid (show checkK l = false by rw [checkK, decide_eq_false (fun h => h1 h.1), Bool.false_and])
    go_enter Tryd.func15, Tryd.ntmps15
    go_wp2_with fail
    go_ret
    exact ⟨by rw [HD.out]; rfl, Ext.refl _⟩
end Go.Proofs.YtngkjngfiakmaaaDoor
