/-
  KeysTurned: walked.
-/
import Derived.Test.YtngkjngfiakmaaaDoorKl1
namespace Go.Proofs.YtngkjngfiakmaaaDoor
set_option linter.unusedVariables false
set_option linter.unusedSimpArgs false
open Go Go.RowKit

theorem pub_turn {w : World} {B g n cap : Nat} {l : List Pub} (h : OwR pubR B B w (.slice (some ⟨g, 0, none⟩) n cap) l) {A : Nat} {p : Pub} (ha : l[A]? = some p) (j : Nat) (hj : j < 10) (v : Value) (p' : Pub) (hp : p.cells.set j v = p'.cells) :
    SeesP (w.setCell ⟨g, A * 10 + j, none⟩ v) (.slice (some ⟨g, 0, none⟩) n cap) (l.set A p') := by
  have h1 := OwR.setAt h ha (j := j) hj v (a' := p') (fun cs hc => by
    have hc' : cs = p.cells := hc
    show cs.set j v = p'.cells
    rw [hc']; exact hp) (by show _ ∉ ([] : List TypeId); simp) (Nat.le_refl _)
  rw [show 0 + A * pubR.sz + j = A * 10 + j from by show 0 + A * 10 + j = _; omega] at h1
  exact h1.sl.pubs
theorem ok_set {l : List Pub} {A : Nat} {p' : Pub} (hl : ∀ p ∈ l, p.ok) (hp : p'.ok) : ∀ p ∈ l.set A p', p.ok := fun p h => by
  rcases List.mem_or_eq_of_mem_set h with h | rfl
  · exact hl p h
  · exact hp
theorem in64_wrap (x : Int) : in64 (IntKind.u64.wrap x) := by rw [IntKind.wrap_u64]; exact ⟨Int.emod_nonneg _ (by decide), Int.emod_lt_of_pos _ (by decide)⟩
theorem setCell_size (w : World) (a : Addr) (v : Value) : (w.setCell a v).heap.size = w.heap.size := by simp [World.setCell]
set_option maxRecDepth 100000 in
set_option maxHeartbeats 4000000 in
theorem KeysTurned_any (ss : List Sec) (at_ which by_ : Int) (v0 : Value) (w : World) (hv : SeesS w v0 ss) (hok : ∀ s ∈ ss, s.ok) (hat : inI at_) (hwh : inI which) (hby : in64 by_) :
    Calls Tryd.prog 4 #[v0, .int .i64 at_, .int .i64 which, .int .u64 by_] w fun e w' => e = .returned (.bool true) ∧ Below w.heap.size w w' := by
  have HV := Lib.hid hv; have HOK := Lib.hid hok
  obtain ⟨a, c, rfl, hac, hcm⟩ := sees_form hv
  obtain ⟨t0, t1⟩ := hat
  obtain ⟨y0, y1⟩ := hby
  obtain ⟨z0, z1⟩ := hwh
  clear hv hok
  by_cases h1 : 1 ≤ ss.length
  · have hd1 : ¬ (ss.length : Int) < 1 := by omega
    by_cases h8 : ss.length ≤ 8
    · have hd2 : ¬ (8 : Int) < (ss.length : Int) := by omega
      by_cases h0 : 0 ≤ at_
      · obtain ⟨A, rfl⟩ := Int.eq_ofNat_of_zero_le h0
        have hd3 : decide ((A : Int) < 0) = false := decide_eq_false (by omega)
        by_cases hA : A < ss.length
        · have hd4 : decide (ss.length ≤ A) = false := decide_eq_false (by omega)
          have HCH := Lib.hid fun (u : World) (h : SeesS u (.slice a ss.length c) ss) => Chain_any ss [] _ _ u h (seesUU_nil u) HOK.out (fun l h => by cases h) (by omega)
          have HPO := Lib.hid (show ∀ p ∈ chainL ss [], p.ok from chainN_ok _ _ _)
          have HCL := Lib.hid (length_chainL ss [])
          generalize chainL ss [] = CH at *
          obtain ⟨p, hpe⟩ : ∃ p, CH[A]? = some p := ⟨_, List.getElem?_eq_getElem (by rw [HCL.out]; exact hA)⟩
          have hpo := HPO.out p (List.mem_of_getElem? hpe)
          obtain ⟨pa, pb, pm, pn, q1, q2, q3, q4, q5, q6⟩ := p
          obtain ⟨oa, ob, om, on, o1, o2, o3, o4, o5, o6⟩ := hpo
          simp only at oa ob om on o1 o2 o3 o4 o5 o6
          by_cases hw0 : which = 0
          · subst hw0
            go_enter Tryd.func4, Tryd.ntmps4
            go_wp2_with (first
              | (go_at_call 9; refine (alive16_any _).mono ?_; rintro e w1 ⟨rfl, hb1⟩; have e1 : Ext w w1 := hb1; clear hb1; have hS1 : SeesS w1 (.slice a ss.length c) ss := HV.out.below e1 (by decide))
              | (go_at_call 13; refine (HCH.out _ hS1).mono ?_; rintro e w2 ⟨v2, rfl, ho2, hb2⟩; have e2 : Ext w w2 := Ext.tr e1 hb2
                 have hO : OwR pubR w1.heap.size w1.heap.size w2 v2 CH := owR_flat ho2
                 have hsz1 := Below.size e1
                 rcases ho2.2 with ⟨_, hz⟩ | ⟨g, cap, cur, rfl, hgb, hblk, -, -, -, -⟩
                 · exfalso; have := HCL.out; omega
                 have hgw : w.heap.size ≤ g := Nat.le_trans hsz1 hgb
                 have hrp : w2.rangeAt g (A * 10) (Pub.cells ⟨pa, pb, pm, pn, q1, q2, q3, q4, q5, q6⟩) := by have := seesP_at (sees_of_owns ho2) (by rw [HCL.out]; omega) A _ hpe; rwa [Nat.zero_add] at this
                 have hc : w2.cell? ⟨g, A * 10, none⟩ = some (.int .u64 pa) := by have := hrp 0 _ rfl; simpa [Nat.add_assoc] using this
                 have hf : w2.frozen? ⟨g, A * 10, none⟩ = false := Blk.free hblk _
                 have hT := pub_turn hO hpe 0 (by decide) (.int .u64 (IntKind.u64.wrap (pa + by_))) ⟨IntKind.u64.wrap (pa + by_), pb, pm, pn, q1, q2, q3, q4, q5, q6⟩ rfl
                 rw [show A * 10 + 0 = A * 10 from by omega] at hT
                 have hOK := ok_set HPO.out (show Pub.ok ⟨IntKind.u64.wrap (pa + by_), pb, pm, pn, q1, q2, q3, q4, q5, q6⟩ from ⟨in64_wrap _, ob, om, on, o1, o2, o3, o4, o5, o6⟩) (A := A)
                 have hLN : (CH.set A ⟨IntKind.u64.wrap (pa + by_), pb, pm, pn, q1, q2, q3, q4, q5, q6⟩).length ≤ 1000000 := by rw [List.length_set, HCL.out]; omega
                 have hC1 := CheckK_any (CH.set A ⟨IntKind.u64.wrap (pa + by_), pb, pm, pn, q1, q2, q3, q4, q5, q6⟩) _ _ hT hOK hLN
                 have hC2 := fun (u : World) (h : SeesP u (.slice (some ⟨g, 0, none⟩) CH.length cap) (CH.set A ⟨IntKind.u64.wrap (pa + by_), pb, pm, pn, q1, q2, q3, q4, q5, q6⟩)) => CheckKr_any (CH.set A ⟨IntKind.u64.wrap (pa + by_), pb, pm, pn, q1, q2, q3, q4, q5, q6⟩) _ u h hOK hLN
                 have HE := Lib.hid fun (u : World) (h : Below w2.heap.size (w2.setCell ⟨g, A * 10, none⟩ (.int .u64 (IntKind.u64.wrap (pa + by_)))) u) => (show Ext w u from Below.trans (Below.grown e2 (grownBy_cell w2 g (A * 10) _) (Below.size e2) (fun k hk => by cases hk; exact hgw)) (h.mono (Below.size e2)))
                 rw [HCL.out] at hC1 hC2 hT
                 generalize checkK (CH.set A ⟨IntKind.u64.wrap (pa + by_), pb, pm, pn, q1, q2, q3, q4, q5, q6⟩) = CK at hC1 hC2
                 have HC1 := Lib.hid hC1; have HC2 := Lib.hid hC2; have HT := Lib.hid hT
                 rw [HCL.out]
                 clear hC1 hC2 hT hO ho2 hb2 hS1 hsz1 hgb hOK hLN hrp)
              | (go_at_call 14; refine HC1.out.mono ?_; rintro e x3 ⟨rfl, hb3⟩; have hS3 := HT.out.below hb3 (by decide))
              | (go_at_call 15; refine (HC2.out _ hS3).mono ?_; rintro e x4 ⟨rfl, hb4⟩))
            go_ret
            exact ⟨by simp, HE.out _ ((hb3.mono (by rw [setCell_size]; exact Nat.le_refl _)).trans (hb4.mono (by have := Below.size hb3; rw [setCell_size] at this; exact this)))⟩
          · by_cases hw1 : which = 1
            · subst hw1
              go_enter Tryd.func4, Tryd.ntmps4
              go_wp2_with (first
                | (go_at_call 9; refine (alive16_any _).mono ?_; rintro e w1 ⟨rfl, hb1⟩; have e1 : Ext w w1 := hb1; clear hb1; have hS1 : SeesS w1 (.slice a ss.length c) ss := HV.out.below e1 (by decide))
                | (go_at_call 13; refine (HCH.out _ hS1).mono ?_; rintro e w2 ⟨v2, rfl, ho2, hb2⟩; have e2 : Ext w w2 := Ext.tr e1 hb2
                   have hO : OwR pubR w1.heap.size w1.heap.size w2 v2 CH := owR_flat ho2
                   have hsz1 := Below.size e1
                   rcases ho2.2 with ⟨_, hz⟩ | ⟨g, cap, cur, rfl, hgb, hblk, -, -, -, -⟩
                   · exfalso; have := HCL.out; omega
                   have hgw : w.heap.size ≤ g := Nat.le_trans hsz1 hgb
                   have hrp : w2.rangeAt g (A * 10) (Pub.cells ⟨pa, pb, pm, pn, q1, q2, q3, q4, q5, q6⟩) := by have := seesP_at (sees_of_owns ho2) (by rw [HCL.out]; omega) A _ hpe; rwa [Nat.zero_add] at this
                   have hc : w2.cell? ⟨g, A * 10 + 1, none⟩ = some (.int .u64 pb) := by have := hrp 1 _ rfl; simpa [Nat.add_assoc] using this
                   have hf : w2.frozen? ⟨g, A * 10 + 1, none⟩ = false := Blk.free hblk _
                   have hT := pub_turn hO hpe 1 (by decide) (.int .u64 (IntKind.u64.wrap (pb + by_))) ⟨pa, IntKind.u64.wrap (pb + by_), pm, pn, q1, q2, q3, q4, q5, q6⟩ rfl
                   rw [show A * 10 + 1 = A * 10 + 1 from by omega] at hT
                   have hOK := ok_set HPO.out (show Pub.ok ⟨pa, IntKind.u64.wrap (pb + by_), pm, pn, q1, q2, q3, q4, q5, q6⟩ from ⟨oa, in64_wrap _, om, on, o1, o2, o3, o4, o5, o6⟩) (A := A)
                   have hLN : (CH.set A ⟨pa, IntKind.u64.wrap (pb + by_), pm, pn, q1, q2, q3, q4, q5, q6⟩).length ≤ 1000000 := by rw [List.length_set, HCL.out]; omega
                   have hC1 := CheckK_any (CH.set A ⟨pa, IntKind.u64.wrap (pb + by_), pm, pn, q1, q2, q3, q4, q5, q6⟩) _ _ hT hOK hLN
                   have hC2 := fun (u : World) (h : SeesP u (.slice (some ⟨g, 0, none⟩) CH.length cap) (CH.set A ⟨pa, IntKind.u64.wrap (pb + by_), pm, pn, q1, q2, q3, q4, q5, q6⟩)) => CheckKr_any (CH.set A ⟨pa, IntKind.u64.wrap (pb + by_), pm, pn, q1, q2, q3, q4, q5, q6⟩) _ u h hOK hLN
                   have HE := Lib.hid fun (u : World) (h : Below w2.heap.size (w2.setCell ⟨g, A * 10 + 1, none⟩ (.int .u64 (IntKind.u64.wrap (pb + by_)))) u) => (show Ext w u from Below.trans (Below.grown e2 (grownBy_cell w2 g (A * 10 + 1) _) (Below.size e2) (fun k hk => by cases hk; exact hgw)) (h.mono (Below.size e2)))
                   rw [HCL.out] at hC1 hC2 hT
                   generalize checkK (CH.set A ⟨pa, IntKind.u64.wrap (pb + by_), pm, pn, q1, q2, q3, q4, q5, q6⟩) = CK at hC1 hC2
                   have HC1 := Lib.hid hC1; have HC2 := Lib.hid hC2; have HT := Lib.hid hT
                   rw [HCL.out]
                   clear hC1 hC2 hT hO ho2 hb2 hS1 hsz1 hgb hOK hLN hrp)
                | (go_at_call 14; refine HC1.out.mono ?_; rintro e x3 ⟨rfl, hb3⟩; have hS3 := HT.out.below hb3 (by decide))
                | (go_at_call 15; refine (HC2.out _ hS3).mono ?_; rintro e x4 ⟨rfl, hb4⟩))
              go_ret
              exact ⟨by simp, HE.out _ ((hb3.mono (by rw [setCell_size]; exact Nat.le_refl _)).trans (hb4.mono (by have := Below.size hb3; rw [setCell_size] at this; exact this)))⟩
            · by_cases hw2 : which = 2
              · subst hw2
                go_enter Tryd.func4, Tryd.ntmps4
                go_wp2_with (first
                  | (go_at_call 9; refine (alive16_any _).mono ?_; rintro e w1 ⟨rfl, hb1⟩; have e1 : Ext w w1 := hb1; clear hb1; have hS1 : SeesS w1 (.slice a ss.length c) ss := HV.out.below e1 (by decide))
                  | (go_at_call 13; refine (HCH.out _ hS1).mono ?_; rintro e w2 ⟨v2, rfl, ho2, hb2⟩; have e2 : Ext w w2 := Ext.tr e1 hb2
                     have hO : OwR pubR w1.heap.size w1.heap.size w2 v2 CH := owR_flat ho2
                     have hsz1 := Below.size e1
                     rcases ho2.2 with ⟨_, hz⟩ | ⟨g, cap, cur, rfl, hgb, hblk, -, -, -, -⟩
                     · exfalso; have := HCL.out; omega
                     have hgw : w.heap.size ≤ g := Nat.le_trans hsz1 hgb
                     have hrp : w2.rangeAt g (A * 10) (Pub.cells ⟨pa, pb, pm, pn, q1, q2, q3, q4, q5, q6⟩) := by have := seesP_at (sees_of_owns ho2) (by rw [HCL.out]; omega) A _ hpe; rwa [Nat.zero_add] at this
                     have hc : w2.cell? ⟨g, A * 10 + 2, none⟩ = some (.int .u64 pm) := by have := hrp 2 _ rfl; simpa [Nat.add_assoc] using this
                     have hf : w2.frozen? ⟨g, A * 10 + 2, none⟩ = false := Blk.free hblk _
                     have hT := pub_turn hO hpe 2 (by decide) (.int .u64 (IntKind.u64.wrap (pm + by_))) ⟨pa, pb, IntKind.u64.wrap (pm + by_), pn, q1, q2, q3, q4, q5, q6⟩ rfl
                     rw [show A * 10 + 2 = A * 10 + 2 from by omega] at hT
                     have hOK := ok_set HPO.out (show Pub.ok ⟨pa, pb, IntKind.u64.wrap (pm + by_), pn, q1, q2, q3, q4, q5, q6⟩ from ⟨oa, ob, in64_wrap _, on, o1, o2, o3, o4, o5, o6⟩) (A := A)
                     have hLN : (CH.set A ⟨pa, pb, IntKind.u64.wrap (pm + by_), pn, q1, q2, q3, q4, q5, q6⟩).length ≤ 1000000 := by rw [List.length_set, HCL.out]; omega
                     have hC1 := CheckK_any (CH.set A ⟨pa, pb, IntKind.u64.wrap (pm + by_), pn, q1, q2, q3, q4, q5, q6⟩) _ _ hT hOK hLN
                     have hC2 := fun (u : World) (h : SeesP u (.slice (some ⟨g, 0, none⟩) CH.length cap) (CH.set A ⟨pa, pb, IntKind.u64.wrap (pm + by_), pn, q1, q2, q3, q4, q5, q6⟩)) => CheckKr_any (CH.set A ⟨pa, pb, IntKind.u64.wrap (pm + by_), pn, q1, q2, q3, q4, q5, q6⟩) _ u h hOK hLN
                     have HE := Lib.hid fun (u : World) (h : Below w2.heap.size (w2.setCell ⟨g, A * 10 + 2, none⟩ (.int .u64 (IntKind.u64.wrap (pm + by_)))) u) => (show Ext w u from Below.trans (Below.grown e2 (grownBy_cell w2 g (A * 10 + 2) _) (Below.size e2) (fun k hk => by cases hk; exact hgw)) (h.mono (Below.size e2)))
                     rw [HCL.out] at hC1 hC2 hT
                     generalize checkK (CH.set A ⟨pa, pb, IntKind.u64.wrap (pm + by_), pn, q1, q2, q3, q4, q5, q6⟩) = CK at hC1 hC2
                     have HC1 := Lib.hid hC1; have HC2 := Lib.hid hC2; have HT := Lib.hid hT
                     rw [HCL.out]
                     clear hC1 hC2 hT hO ho2 hb2 hS1 hsz1 hgb hOK hLN hrp)
                  | (go_at_call 14; refine HC1.out.mono ?_; rintro e x3 ⟨rfl, hb3⟩; have hS3 := HT.out.below hb3 (by decide))
                  | (go_at_call 15; refine (HC2.out _ hS3).mono ?_; rintro e x4 ⟨rfl, hb4⟩))
                go_ret
                exact ⟨by simp, HE.out _ ((hb3.mono (by rw [setCell_size]; exact Nat.le_refl _)).trans (hb4.mono (by have := Below.size hb3; rw [setCell_size] at this; exact this)))⟩
              · by_cases hw3 : which = 3
                · subst hw3
                  go_enter Tryd.func4, Tryd.ntmps4
                  go_wp2_with (first
                    | (go_at_call 9; refine (alive16_any _).mono ?_; rintro e w1 ⟨rfl, hb1⟩; have e1 : Ext w w1 := hb1; clear hb1; have hS1 : SeesS w1 (.slice a ss.length c) ss := HV.out.below e1 (by decide))
                    | (go_at_call 13; refine (HCH.out _ hS1).mono ?_; rintro e w2 ⟨v2, rfl, ho2, hb2⟩; have e2 : Ext w w2 := Ext.tr e1 hb2
                       have hO : OwR pubR w1.heap.size w1.heap.size w2 v2 CH := owR_flat ho2
                       have hsz1 := Below.size e1
                       rcases ho2.2 with ⟨_, hz⟩ | ⟨g, cap, cur, rfl, hgb, hblk, -, -, -, -⟩
                       · exfalso; have := HCL.out; omega
                       have hgw : w.heap.size ≤ g := Nat.le_trans hsz1 hgb
                       have hrp : w2.rangeAt g (A * 10) (Pub.cells ⟨pa, pb, pm, pn, q1, q2, q3, q4, q5, q6⟩) := by have := seesP_at (sees_of_owns ho2) (by rw [HCL.out]; omega) A _ hpe; rwa [Nat.zero_add] at this
                       have hc : w2.cell? ⟨g, A * 10 + 3, none⟩ = some (.int .u64 pn) := by have := hrp 3 _ rfl; simpa [Nat.add_assoc] using this
                       have hf : w2.frozen? ⟨g, A * 10 + 3, none⟩ = false := Blk.free hblk _
                       have hT := pub_turn hO hpe 3 (by decide) (.int .u64 (IntKind.u64.wrap (pn + by_))) ⟨pa, pb, pm, IntKind.u64.wrap (pn + by_), q1, q2, q3, q4, q5, q6⟩ rfl
                       rw [show A * 10 + 3 = A * 10 + 3 from by omega] at hT
                       have hOK := ok_set HPO.out (show Pub.ok ⟨pa, pb, pm, IntKind.u64.wrap (pn + by_), q1, q2, q3, q4, q5, q6⟩ from ⟨oa, ob, om, in64_wrap _, o1, o2, o3, o4, o5, o6⟩) (A := A)
                       have hLN : (CH.set A ⟨pa, pb, pm, IntKind.u64.wrap (pn + by_), q1, q2, q3, q4, q5, q6⟩).length ≤ 1000000 := by rw [List.length_set, HCL.out]; omega
                       have hC1 := CheckK_any (CH.set A ⟨pa, pb, pm, IntKind.u64.wrap (pn + by_), q1, q2, q3, q4, q5, q6⟩) _ _ hT hOK hLN
                       have hC2 := fun (u : World) (h : SeesP u (.slice (some ⟨g, 0, none⟩) CH.length cap) (CH.set A ⟨pa, pb, pm, IntKind.u64.wrap (pn + by_), q1, q2, q3, q4, q5, q6⟩)) => CheckKr_any (CH.set A ⟨pa, pb, pm, IntKind.u64.wrap (pn + by_), q1, q2, q3, q4, q5, q6⟩) _ u h hOK hLN
                       have HE := Lib.hid fun (u : World) (h : Below w2.heap.size (w2.setCell ⟨g, A * 10 + 3, none⟩ (.int .u64 (IntKind.u64.wrap (pn + by_)))) u) => (show Ext w u from Below.trans (Below.grown e2 (grownBy_cell w2 g (A * 10 + 3) _) (Below.size e2) (fun k hk => by cases hk; exact hgw)) (h.mono (Below.size e2)))
                       rw [HCL.out] at hC1 hC2 hT
                       generalize checkK (CH.set A ⟨pa, pb, pm, IntKind.u64.wrap (pn + by_), q1, q2, q3, q4, q5, q6⟩) = CK at hC1 hC2
                       have HC1 := Lib.hid hC1; have HC2 := Lib.hid hC2; have HT := Lib.hid hT
                       rw [HCL.out]
                       clear hC1 hC2 hT hO ho2 hb2 hS1 hsz1 hgb hOK hLN hrp)
                    | (go_at_call 14; refine HC1.out.mono ?_; rintro e x3 ⟨rfl, hb3⟩; have hS3 := HT.out.below hb3 (by decide))
                    | (go_at_call 15; refine (HC2.out _ hS3).mono ?_; rintro e x4 ⟨rfl, hb4⟩))
                  go_ret
                  exact ⟨by simp, HE.out _ ((hb3.mono (by rw [setCell_size]; exact Nat.le_refl _)).trans (hb4.mono (by have := Below.size hb3; rw [setCell_size] at this; exact this)))⟩
                · by_cases hw4 : which = 4
                  · subst hw4
                    go_enter Tryd.func4, Tryd.ntmps4
                    go_wp2_with (first
                      | (go_at_call 9; refine (alive16_any _).mono ?_; rintro e w1 ⟨rfl, hb1⟩; have e1 : Ext w w1 := hb1; clear hb1; have hS1 : SeesS w1 (.slice a ss.length c) ss := HV.out.below e1 (by decide))
                      | (go_at_call 13; refine (HCH.out _ hS1).mono ?_; rintro e w2 ⟨v2, rfl, ho2, hb2⟩; have e2 : Ext w w2 := Ext.tr e1 hb2
                         have hO : OwR pubR w1.heap.size w1.heap.size w2 v2 CH := owR_flat ho2
                         have hsz1 := Below.size e1
                         rcases ho2.2 with ⟨_, hz⟩ | ⟨g, cap, cur, rfl, hgb, hblk, -, -, -, -⟩
                         · exfalso; have := HCL.out; omega
                         have hgw : w.heap.size ≤ g := Nat.le_trans hsz1 hgb
                         have hrp : w2.rangeAt g (A * 10) (Pub.cells ⟨pa, pb, pm, pn, q1, q2, q3, q4, q5, q6⟩) := by have := seesP_at (sees_of_owns ho2) (by rw [HCL.out]; omega) A _ hpe; rwa [Nat.zero_add] at this
                         have hc : w2.cell? ⟨g, A * 10 + 6 + 1, none⟩ = some (.int .u64 q4) := by have := hrp 7 _ rfl; simpa [Nat.add_assoc] using this
                         have hf : w2.frozen? ⟨g, A * 10 + 6 + 1, none⟩ = false := Blk.free hblk _
                         have hT := pub_turn hO hpe 7 (by decide) (.int .u64 (IntKind.u64.wrap (q4 + by_))) ⟨pa, pb, pm, pn, q1, q2, q3, IntKind.u64.wrap (q4 + by_), q5, q6⟩ rfl
                         rw [show A * 10 + 7 = A * 10 + 6 + 1 from by omega] at hT
                         have hOK := ok_set HPO.out (show Pub.ok ⟨pa, pb, pm, pn, q1, q2, q3, IntKind.u64.wrap (q4 + by_), q5, q6⟩ from ⟨oa, ob, om, on, o1, o2, o3, in64_wrap _, o5, o6⟩) (A := A)
                         have hLN : (CH.set A ⟨pa, pb, pm, pn, q1, q2, q3, IntKind.u64.wrap (q4 + by_), q5, q6⟩).length ≤ 1000000 := by rw [List.length_set, HCL.out]; omega
                         have hC1 := CheckK_any (CH.set A ⟨pa, pb, pm, pn, q1, q2, q3, IntKind.u64.wrap (q4 + by_), q5, q6⟩) _ _ hT hOK hLN
                         have hC2 := fun (u : World) (h : SeesP u (.slice (some ⟨g, 0, none⟩) CH.length cap) (CH.set A ⟨pa, pb, pm, pn, q1, q2, q3, IntKind.u64.wrap (q4 + by_), q5, q6⟩)) => CheckKr_any (CH.set A ⟨pa, pb, pm, pn, q1, q2, q3, IntKind.u64.wrap (q4 + by_), q5, q6⟩) _ u h hOK hLN
                         have HE := Lib.hid fun (u : World) (h : Below w2.heap.size (w2.setCell ⟨g, A * 10 + 6 + 1, none⟩ (.int .u64 (IntKind.u64.wrap (q4 + by_)))) u) => (show Ext w u from Below.trans (Below.grown e2 (grownBy_cell w2 g (A * 10 + 6 + 1) _) (Below.size e2) (fun k hk => by cases hk; exact hgw)) (h.mono (Below.size e2)))
                         rw [HCL.out] at hC1 hC2 hT
                         generalize checkK (CH.set A ⟨pa, pb, pm, pn, q1, q2, q3, IntKind.u64.wrap (q4 + by_), q5, q6⟩) = CK at hC1 hC2
                         have HC1 := Lib.hid hC1; have HC2 := Lib.hid hC2; have HT := Lib.hid hT
                         rw [HCL.out]
                         clear hC1 hC2 hT hO ho2 hb2 hS1 hsz1 hgb hOK hLN hrp)
                      | (go_at_call 14; refine HC1.out.mono ?_; rintro e x3 ⟨rfl, hb3⟩; have hS3 := HT.out.below hb3 (by decide))
                      | (go_at_call 15; refine (HC2.out _ hS3).mono ?_; rintro e x4 ⟨rfl, hb4⟩))
                    go_ret
                    exact ⟨by simp, HE.out _ ((hb3.mono (by rw [setCell_size]; exact Nat.le_refl _)).trans (hb4.mono (by have := Below.size hb3; rw [setCell_size] at this; exact this)))⟩
                  · have hx0 : (which == 0) = false := beq_eq_false_iff_ne.2 hw0
                    have hx1 : (which == 1) = false := beq_eq_false_iff_ne.2 hw1
                    have hx2 : (which == 2) = false := beq_eq_false_iff_ne.2 hw2
                    have hx3 : (which == 3) = false := beq_eq_false_iff_ne.2 hw3
                    have hx4 : (which == 4) = false := beq_eq_false_iff_ne.2 hw4
                    go_enter Tryd.func4, Tryd.ntmps4
                    go_wp2_with (first
                      | (go_at_call 9; refine (alive16_any _).mono ?_; rintro e w1 ⟨rfl, hb1⟩; have e1 : Ext w w1 := hb1; clear hb1; have hS1 : SeesS w1 (.slice a ss.length c) ss := HV.out.below e1 (by decide))
                      | (go_at_call 13; refine (HCH.out _ hS1).mono ?_; rintro e w2 ⟨v2, rfl, ho2, hb2⟩; have e2 : Ext w w2 := Ext.tr e1 hb2
                         have hO : OwR pubR w1.heap.size w1.heap.size w2 v2 CH := owR_flat ho2
                         have hsz1 := Below.size e1
                         rcases ho2.2 with ⟨_, hz⟩ | ⟨g, cap, cur, rfl, hgb, hblk, -, -, -, -⟩
                         · exfalso; have := HCL.out; omega
                         have hgw : w.heap.size ≤ g := Nat.le_trans hsz1 hgb
                         have hrp : w2.rangeAt g (A * 10) (Pub.cells ⟨pa, pb, pm, pn, q1, q2, q3, q4, q5, q6⟩) := by have := seesP_at (sees_of_owns ho2) (by rw [HCL.out]; omega) A _ hpe; rwa [Nat.zero_add] at this
                         have hc : w2.cell? ⟨g, A * 10 + 8, none⟩ = some (.int .u64 q5) := by have := hrp 8 _ rfl; simpa [Nat.add_assoc] using this
                         have hf : w2.frozen? ⟨g, A * 10 + 8, none⟩ = false := Blk.free hblk _
                         have hT := pub_turn hO hpe 8 (by decide) (.int .u64 (IntKind.u64.wrap (q5 + by_))) ⟨pa, pb, pm, pn, q1, q2, q3, q4, IntKind.u64.wrap (q5 + by_), q6⟩ rfl
                         rw [show A * 10 + 8 = A * 10 + 8 from by omega] at hT
                         have hOK := ok_set HPO.out (show Pub.ok ⟨pa, pb, pm, pn, q1, q2, q3, q4, IntKind.u64.wrap (q5 + by_), q6⟩ from ⟨oa, ob, om, on, o1, o2, o3, o4, in64_wrap _, o6⟩) (A := A)
                         have hLN : (CH.set A ⟨pa, pb, pm, pn, q1, q2, q3, q4, IntKind.u64.wrap (q5 + by_), q6⟩).length ≤ 1000000 := by rw [List.length_set, HCL.out]; omega
                         have hC1 := CheckK_any (CH.set A ⟨pa, pb, pm, pn, q1, q2, q3, q4, IntKind.u64.wrap (q5 + by_), q6⟩) _ _ hT hOK hLN
                         have hC2 := fun (u : World) (h : SeesP u (.slice (some ⟨g, 0, none⟩) CH.length cap) (CH.set A ⟨pa, pb, pm, pn, q1, q2, q3, q4, IntKind.u64.wrap (q5 + by_), q6⟩)) => CheckKr_any (CH.set A ⟨pa, pb, pm, pn, q1, q2, q3, q4, IntKind.u64.wrap (q5 + by_), q6⟩) _ u h hOK hLN
                         have HE := Lib.hid fun (u : World) (h : Below w2.heap.size (w2.setCell ⟨g, A * 10 + 8, none⟩ (.int .u64 (IntKind.u64.wrap (q5 + by_)))) u) => (show Ext w u from Below.trans (Below.grown e2 (grownBy_cell w2 g (A * 10 + 8) _) (Below.size e2) (fun k hk => by cases hk; exact hgw)) (h.mono (Below.size e2)))
                         rw [HCL.out] at hC1 hC2 hT
                         generalize checkK (CH.set A ⟨pa, pb, pm, pn, q1, q2, q3, q4, IntKind.u64.wrap (q5 + by_), q6⟩) = CK at hC1 hC2
                         have HC1 := Lib.hid hC1; have HC2 := Lib.hid hC2; have HT := Lib.hid hT
                         rw [HCL.out]
                         clear hC1 hC2 hT hO ho2 hb2 hS1 hsz1 hgb hOK hLN hrp)
                      | (go_at_call 14; refine HC1.out.mono ?_; rintro e x3 ⟨rfl, hb3⟩; have hS3 := HT.out.below hb3 (by decide))
                      | (go_at_call 15; refine (HC2.out _ hS3).mono ?_; rintro e x4 ⟨rfl, hb4⟩))
                    go_ret
                    exact ⟨by simp, HE.out _ ((hb3.mono (by rw [setCell_size]; exact Nat.le_refl _)).trans (hb4.mono (by have := Below.size hb3; rw [setCell_size] at this; exact this)))⟩
        · have hd4 : decide (ss.length ≤ A) = true := decide_eq_true (by omega)
          go_enter Tryd.func4, Tryd.ntmps4
          go_wp2_with (go_at_call 9; refine (alive16_any _).mono ?_; rintro e w1 ⟨rfl, hb1⟩; have e1 : Ext w w1 := hb1; clear hb1)
          go_ret
          exact ⟨rfl, e1⟩
      · have hd3 : decide (at_ < 0) = true := decide_eq_true (by omega)
        go_enter Tryd.func4, Tryd.ntmps4
        go_wp2_with (go_at_call 9; refine (alive16_any _).mono ?_; rintro e w1 ⟨rfl, hb1⟩; have e1 : Ext w w1 := hb1; clear hb1)
        go_ret
        exact ⟨rfl, e1⟩
    · have hd2 : (8 : Int) < (ss.length : Int) := by omega
      go_enter Tryd.func4, Tryd.ntmps4
      go_wp2_with (go_at_call 9; refine (alive16_any _).mono ?_; rintro e w1 ⟨rfl, hb1⟩; have e1 : Ext w w1 := hb1; clear hb1)
      go_ret
      exact ⟨rfl, e1⟩
  · have hd1 : (ss.length : Int) < 1 := by omega
    go_enter Tryd.func4, Tryd.ntmps4
    go_wp2_with (go_at_call 9; refine (alive16_any _).mono ?_; rintro e w1 ⟨rfl, hb1⟩; have e1 : Ext w w1 := hb1; clear hb1)
    go_ret
    exact ⟨rfl, e1⟩
end Go.Proofs.YtngkjngfiakmaaaDoor
