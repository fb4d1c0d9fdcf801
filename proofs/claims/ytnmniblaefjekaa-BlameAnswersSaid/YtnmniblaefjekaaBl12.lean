/-
  BlameAnswers: walked.
-/
import Derived.Test.YtnmniblaefjekaaBl11
namespace Go.Proofs.Ytnmniblaefjekaa
set_option linter.unusedVariables false
set_option linter.unusedSimpArgs false
open Go Go.RowKit

set_option maxRecDepth 100000 in
set_option maxHeartbeats 2000000 in
theorem SameStep_any (t : Stp) (v1 v2 : Value) (w : World) (h1 : SeesB w v1 t.e.box) (h2 : SeesB w v2 t.e.box) :
    Calls Try.prog 18 #[.agg (stpC t v1), .agg (stpC t v2)] w fun e w' => e = .returned (.bool true) ∧ Below w.heap.size w w' := by
  obtain ⟨a1, c1, rfl, -, -⟩ := sees_form h1
  obtain ⟨a2, c2, rfl, -, -⟩ := sees_form h2
  have hA := Lib.hid ((Blk.new w (stpC t (.slice a1 t.e.box.length c1)) 42).alloc (.cells (stpC t (.slice a2 t.e.box.length c2)) 42))
  have hB := Lib.hid (Blk.new2 w (.cells (stpC t (.slice a1 t.e.box.length c1)) 42) (stpC t (.slice a2 t.e.box.length c2)) 42)
  have hb0 := Lib.hid (show Ext w ((w.alloc (.cells (stpC t (.slice a1 t.e.box.length c1)) 42)).alloc (.cells (stpC t (.slice a2 t.e.box.length c2)) 42)) from (show Below w.heap.size w _ by go_grown))
  have HS := Lib.hid fun (w' : World) (e : Ext w w') => (show Calls Try.prog 38 #[.agg #[.int .u64 t.e.x, .slice a1 t.e.box.length c1], .agg #[.int .u64 t.e.x, .slice a2 t.e.box.length c2]] w' fun e w'' => e = .returned (.bool true) ∧ Below w'.heap.size w' w'' from by
    have := Same2r_any t.e t.e _ _ w' (h1.below e (by decide)) (h2.below e (by decide)); rwa [decide_eq_true (rfl : t.e = t.e)] at this)
  have q1 := stp_cell hA.out; have q2 := stp_cell hB.out
  clear h1 h2
  go_enter Try.func18, Try.ntmps18
  go_wp2_with (first
    | (refine wpList_load_midG rfl 27 (.tmp 11) rfl w.heap.size 1 rfl _ _ (stp_e hA.out) Try.underlying27 rfl info_entry ?_)
    | (refine wpList_load_midG rfl 27 (.tmp 13) rfl (w.heap.size + 1) 1 rfl _ _ (stp_e hB.out) Try.underlying27 rfl info_entry ?_)
    | (go_at_call 38; refine (HS.out _ hb0.out).mono ?_; rintro r x1 ⟨rfl, hb1⟩
       have hA1 := hA.out.below hb1; have hB1 := hB.out.below hb1; have r1 := stp_cell hA1; have r2 := stp_cell hB1; have hup : Ext w x1 := Ext.tr hb0.out hb1
       clear q1 q2)
    | (refine wpList_load_midG rfl 29 (.tmp 25) rfl w.heap.size 4 rfl _ _ (stp_b hA1) Try.underlying29 rfl info_proof ?_)
    | (refine wpList_load_midG rfl 29 (.tmp 27) rfl (w.heap.size + 1) 4 rfl _ _ (stp_b hB1) Try.underlying29 rfl info_proof ?_)
    | (refine wpList_load_midG rfl 29 (.tmp 32) rfl w.heap.size 6 rfl _ _ (stp_m hA1) Try.underlying29 rfl info_proof ?_)
    | (refine wpList_load_midG rfl 29 (.tmp 34) rfl (w.heap.size + 1) 6 rfl _ _ (stp_m hB1) Try.underlying29 rfl info_proof ?_)
    | (refine wpList_eqP rfl _ _ rfl _ _ _ _ rfl rfl ?_))
  go_ret
  exact ⟨by simp, hup⟩
/-- The three boxes of such a call. -/
def PaC (w : World) (SC PC EC : Array Value) (u : World) : Prop := Blk u w.heap.size SC 53 ∧ Blk u (w.heap.size + 1) PC 39 ∧ Blk u (w.heap.size + 1 + 1) EC 27
theorem stabPaC (w : World) (SC PC EC : Array Value) : Stab (PaC w SC PC EC) := Stab.and (Stab.blk _ _ _) (Stab.and (Stab.blk _ _ _) (Stab.blk _ _ _))
set_option maxRecDepth 100000 in
set_option maxHeartbeats 4000000 in
theorem BlameAnswers_any (s : Sec) (p : Pub) (frm : Int) (e : Ent) (a b : Int) (ve : Value) (w : World) (hs : s.ok) (hp : p.ok) (he : e.ok) (ha : in64 a) (hb : in64 b) (hve : SeesB w ve e.box) :
    Calls Try.prog 6 #[.agg s.cells.toArray, .agg p.cells.toArray, .int .i64 frm, .agg #[.int .u64 e.x, ve], .int .u64 a, .int .u64 b] w fun r w' => r = .returned (.bool true) ∧ Below w.heap.size w w' := by
  obtain ⟨ae, ce, rfl, -, -⟩ := sees_form hve
  have hst : Stab (fun u => PaC w s.cells.toArray p.cells.toArray #[.int .u64 e.x, .slice ae e.box.length ce] u) := stabPaC _ _ _ _
  have hS0 : Hid (PaC w s.cells.toArray p.cells.toArray #[.int .u64 e.x, .slice ae e.box.length ce] (((w.alloc (.cells s.cells.toArray 53)).alloc (.cells p.cells.toArray 39)).alloc (.cells #[.int .u64 e.x, .slice ae e.box.length ce] 27))) :=
    Lib.hid ⟨((Blk.new _ _ _).alloc _ |>.alloc _), (Blk.new2 _ _ _ _).alloc _, Blk.new3 _ _ _ _ _⟩
  have hb0 := Lib.hid (show Ext w (((w.alloc (.cells s.cells.toArray 53)).alloc (.cells p.cells.toArray 39)).alloc (.cells #[.int .u64 e.x, .slice ae e.box.length ce] 27)) from (show Below w.heap.size w _ by go_grown))
  have HEC := Lib.hid fun (u : World) (h : PaC w s.cells.toArray p.cells.toArray #[.int .u64 e.x, .slice ae e.box.length ce] u) => ent_cell h.2.2
  have HPZ := Lib.hid (show p.cells.toArray.size = 10 by rw [List.size_toArray, p.length_cells])
  have HSZ := Lib.hid (show s.cells.toArray.size = 3 from rfl)
  by_cases h1 : e.box.length ≤ 300
  · have d1 : ¬ (300 : Int) < (e.box.length : Int) := by omega
    have HA := Lib.hid fun (w' : World) (h : Ext w w') => BAnswer_any s p frm e a b _ w' hs hp he ha hb (hve.below h (by decide)) (by omega)
    have HB := Lib.hid fun (w' : World) (h : Ext w w') => BAnswerr_any s p frm e a b _ w' hs hp he ha hb (hve.below h (by decide)) (by omega)
    clear hs hp he ha hb hve
    generalize answerL s p frm e a b = AL at *
    generalize s.cells.toArray = SC at *
    generalize p.cells.toArray = PC at *
    generalize e.x = EX at *
    generalize e.box.length = en at *
    go_enter Try.func6, Try.ntmps6
    go_wp2_with (go_at_call 11; refine (alive20_any _).mono ?_; rintro r w1 ⟨rfl, hb1⟩
                 have hS1 := hst _ _ hS0.out hb1
                 have hup1 : Ext w w1 := Ext.tr hb0.out hb1
                 have hc1 := (HEC.out _ hS1).2)
    have hk : HoldT (fun u => PaC w SC PC #[.int .u64 EX, .slice ae en ce] u) w w1.drew := HoldT.drew hst ⟨hS1, hup1⟩
    try change Code.wp _ _ _ (Act.mk _ _) _
    refine wp_region_runR Ext 16 39 (HoldT (fun u => PaC w SC PC #[.int .u64 EX, .slice ae en ce] u) _) [[], [], [], [], [], [], [(0, 24), (1, 25), (2, 26), (3, 27), (4, 28), (5, 29)], [], [], [], [], [], [], [(7, 31), (8, 32), (9, 33), (10, 34), (11, 35), (12, 36)], [(6, 30), (13, 37)], [(14, 38)]] [(0, 24), (1, 25), (2, 26), (3, 27), (4, 28), (5, 29), (6, 30), (7, 31), (8, 32), (9, 33), (10, 34), (11, 35), (12, 36), (13, 37), (14, 38), (15, 12)] (by kernel_rfl) (by kernel_rfl) (by first | rfl | simp) (hk) ?_
    simp only [List.take_succ_cons, List.take_zero, List.drop_succ_cons, List.drop_zero]
    refine sp_op (Ph.eq _) (fun u hu => by
      refine spArg_nil ?_
      go_wp2_with ((refine wpList_load_rowG rfl 53 _ rfl (w.heap.size) rfl _ _ (0, 0) _ (hu.has.1) Try.underlying53 rfl (by rw [HSZ.out]; exact info_sec) ?_))
      exact ⟨rfl, hu, Ext.refl _, slot_eq rfl⟩) ?_
    refine sp_op (Ph.eq _) (fun u hu => by
      refine spArg_nil ?_
      go_wp2_with ((refine wpList_load_rowG rfl 39 _ rfl (w.heap.size + 1) rfl _ _ (0, 0) _ (hu.has.2.1) Try.underlying39 rfl (by rw [HPZ.out]; exact info_pub) ?_))
      exact ⟨rfl, hu, Ext.refl _, slot_eq rfl⟩) ?_
    refine sp_op (Ph.eq _) (fun u hu => by
      refine spArg_nil ?_
      go_wp2_with (fail)
      exact ⟨rfl, hu, Ext.refl _, slot_eq rfl⟩) ?_
    refine sp_op (Ph.eq _) (fun u hu => by
      refine spArg_nil ?_
      go_wp2_with ((refine wpList_load_rowG rfl 27 _ rfl (w.heap.size + 1 + 1) rfl _ _ (0, 0) _ (hu.has.2.2) Try.underlying27 rfl (info_entry) ?_))
      exact ⟨rfl, hu, Ext.refl _, slot_eq rfl⟩) ?_
    refine sp_op (Ph.eq _) (fun u hu => by
      refine spArg_nil ?_
      go_wp2_with (fail)
      exact ⟨rfl, hu, Ext.refl _, slot_eq rfl⟩) ?_
    refine sp_op (Ph.eq _) (fun u hu => by
      refine spArg_nil ?_
      go_wp2_with (fail)
      exact ⟨rfl, hu, Ext.refl _, slot_eq rfl⟩) ?_
    refine sp_op (Ph.map (fun v => .agg (stpC AL v)) (Ph.ownB w.heap.size AL.e.box)) (fun u hu => by
      refine spArg_eq 5 rfl rfl ?_
      refine spArg_eq 4 rfl rfl ?_
      refine spArg_eq 3 rfl rfl ?_
      refine spArg_eq 2 rfl rfl ?_
      refine spArg_eq 1 rfl rfl ?_
      refine spArg_eq 0 rfl rfl ?_
      refine spArg_nil ?_
      simp only [Act.put, List.setIfInBounds_toArray, List.set_cons_succ, List.set_cons_zero]
      go_wp2_with ((go_at_call 19; refine (HA.out _ hu.up).mono ?_; rintro r_ x_ ⟨v_, rfl, how_, hb_⟩))
      exact ⟨rfl, HoldT.step hst hu hb_, hb_, slot_of rfl ⟨v_, rfl, owns_mono how_ hu.up.size⟩⟩) ?_
    refine sp_op (Ph.eq _) (fun u hu => by
      refine spArg_nil ?_
      go_wp2_with ((refine wpList_load_rowG rfl 53 _ rfl (w.heap.size) rfl _ _ (0, 0) _ (hu.has.1) Try.underlying53 rfl (by rw [HSZ.out]; exact info_sec) ?_))
      exact ⟨rfl, hu, Ext.refl _, slot_eq rfl⟩) ?_
    refine sp_op (Ph.eq _) (fun u hu => by
      refine spArg_nil ?_
      go_wp2_with ((refine wpList_load_rowG rfl 39 _ rfl (w.heap.size + 1) rfl _ _ (0, 0) _ (hu.has.2.1) Try.underlying39 rfl (by rw [HPZ.out]; exact info_pub) ?_))
      exact ⟨rfl, hu, Ext.refl _, slot_eq rfl⟩) ?_
    refine sp_op (Ph.eq _) (fun u hu => by
      refine spArg_nil ?_
      go_wp2_with (fail)
      exact ⟨rfl, hu, Ext.refl _, slot_eq rfl⟩) ?_
    refine sp_op (Ph.eq _) (fun u hu => by
      refine spArg_nil ?_
      go_wp2_with ((refine wpList_load_rowG rfl 27 _ rfl (w.heap.size + 1 + 1) rfl _ _ (0, 0) _ (hu.has.2.2) Try.underlying27 rfl (info_entry) ?_))
      exact ⟨rfl, hu, Ext.refl _, slot_eq rfl⟩) ?_
    refine sp_op (Ph.eq _) (fun u hu => by
      refine spArg_nil ?_
      go_wp2_with (fail)
      exact ⟨rfl, hu, Ext.refl _, slot_eq rfl⟩) ?_
    refine sp_op (Ph.eq _) (fun u hu => by
      refine spArg_nil ?_
      go_wp2_with (fail)
      exact ⟨rfl, hu, Ext.refl _, slot_eq rfl⟩) ?_
    refine sp_op (Ph.map (fun v => .agg (stpC AL v)) (Ph.ownB w.heap.size AL.e.box)) (fun u hu => by
      refine spArg_eq 5 rfl rfl ?_
      refine spArg_eq 4 rfl rfl ?_
      refine spArg_eq 3 rfl rfl ?_
      refine spArg_eq 2 rfl rfl ?_
      refine spArg_eq 1 rfl rfl ?_
      refine spArg_eq 0 rfl rfl ?_
      refine spArg_nil ?_
      simp only [Act.put, List.setIfInBounds_toArray, List.set_cons_succ, List.set_cons_zero]
      go_wp2_with ((go_at_call 20; refine (HB.out _ hu.up).mono ?_; rintro r_ x_ ⟨v_, rfl, how_, hb_⟩))
      exact ⟨rfl, HoldT.step hst hu hb_, hb_, slot_of rfl ⟨v_, rfl, owns_mono how_ hu.up.size⟩⟩) ?_
    refine sp_op (Ph.eq _) (fun u hu => by
      refine spArg_in (φ := Ph.map (fun v => .agg (stpC AL v)) (Ph.ownB w.heap.size AL.e.box)) 7 rfl rfl ?_; intro v6 h6
      obtain ⟨v6, rfl, h6'⟩ := h6
      refine spArg_in (φ := Ph.map (fun v => .agg (stpC AL v)) (Ph.ownB w.heap.size AL.e.box)) 0 rfl rfl ?_; intro v13 h13
      obtain ⟨v13, rfl, h13'⟩ := h13
      refine spArg_nil ?_
      simp only [Act.put, List.setIfInBounds_toArray, List.set_cons_succ, List.set_cons_zero]
      go_wp2_with ((go_at_call 18; refine (SameStep_any AL _ _ _ (sees_of_owns h6') (sees_of_owns h13')).mono ?_; rintro e_ x_ ⟨rfl, hb_⟩))
      exact ⟨rfl, HoldT.step hst hu hb_, hb_, slot_eq rfl⟩) ?_
    refine sp_op (Ph.eq _) (fun u hu => by
      refine spArg_eq 0 rfl rfl ?_
      refine spArg_nil ?_
      simp only [Act.put, List.setIfInBounds_toArray, List.set_cons_succ, List.set_cons_zero]
      go_wp2_with (fail)
      exact ⟨rfl, hu, Ext.refl _, slot_eq rfl⟩) ?_
    refine sp_end ?_
    intro u hu
    refine spArg_eq 15 rfl rfl ?_
    refine spArg_eq 14 rfl rfl ?_
    refine spArg_eq 13 rfl rfl ?_
    refine spArg_eq 12 rfl rfl ?_
    refine spArg_eq 11 rfl rfl ?_
    refine spArg_eq 10 rfl rfl ?_
    refine spArg_in (φ := Ph.map (fun v => .agg (stpC AL v)) (Ph.ownB w.heap.size AL.e.box)) 9 rfl rfl ?_; intro v6 h6
    obtain ⟨v6, rfl, h6'⟩ := h6
    refine spArg_eq 8 rfl rfl ?_
    refine spArg_eq 7 rfl rfl ?_
    refine spArg_eq 6 rfl rfl ?_
    refine spArg_eq 5 rfl rfl ?_
    refine spArg_eq 4 rfl rfl ?_
    refine spArg_eq 3 rfl rfl ?_
    refine spArg_in (φ := Ph.map (fun v => .agg (stpC AL v)) (Ph.ownB w.heap.size AL.e.box)) 2 rfl rfl ?_; intro v13 h13
    obtain ⟨v13, rfl, h13'⟩ := h13
    refine spArg_eq 1 rfl rfl ?_
    refine spArg_eq 0 rfl rfl ?_
    refine spArg_nil ?_
    simp only [Act.put, List.setIfInBounds_toArray, List.set_cons_succ, List.set_cons_zero]
    go_wp2_with fail
    go_ret
    exact ⟨rfl, hu.up⟩
  · have d1 : (300 : Int) < (e.box.length : Int) := by omega
    generalize s.cells.toArray = SC at *
    generalize p.cells.toArray = PC at *
    generalize e.x = EX at *
    generalize e.box.length = en at *
    go_enter Try.func6, Try.ntmps6
    go_wp2_with (go_at_call 11; refine (alive20_any _).mono ?_; rintro r w1 ⟨rfl, hb1⟩
                 have hS1 := hst _ _ hS0.out hb1
                 have hup1 : Ext w w1 := Ext.tr hb0.out hb1
                 have hc1 := (HEC.out _ hS1).2)
    go_ret
    exact ⟨rfl, hup1⟩
end Go.Proofs.Ytnmniblaefjekaa
