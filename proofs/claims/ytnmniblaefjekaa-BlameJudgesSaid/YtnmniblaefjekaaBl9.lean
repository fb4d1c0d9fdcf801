/-
  BlameJudges: walked.
-/
import Derived.Test.YtnmniblaefjekaaBl8
namespace Go.Proofs.Ytnmniblaefjekaa
set_option linter.unusedVariables false
set_option linter.unusedSimpArgs false
open Go Go.RowKit

set_option maxRecDepth 100000 in
set_option maxHeartbeats 4000000 in
theorem BlameJudges_any (p : Pub) (at_ : Int) (ins : List Ent) (out : Ent) (t : Stp) (B : Nat) (vi vo vt : Value) (w : World) (hp : p.ok) (ho : out.ok) (ht : t.ok) (hi : SlR entR B w vi ins) (hvo : SeesB w vo out.box) (hvt : SeesB w vt t.e.box) :
    Calls Try.prog 4 #[.agg p.cells.toArray, .int .i64 at_, vi, .agg #[.int .u64 out.x, vo], .agg (stpC t vt)] w fun r w' => r = .returned (.bool true) ∧ Below w.heap.size w w' := by
  obtain ⟨ai, ci, rfl, -, -⟩ := hi.form
  obtain ⟨ao, co, rfl, -, -⟩ := sees_form hvo
  obtain ⟨a2, c2, rfl, -, -⟩ := sees_form hvt
  have hS0 : Hid (PsC w.heap.size p.cells.toArray #[.int .u64 out.x, .slice ao out.box.length co] (stpC t (.slice a2 t.e.box.length c2)) (((w.alloc (.cells p.cells.toArray 39)).alloc (.cells #[.int .u64 out.x, .slice ao out.box.length co] 27)).alloc (.cells (stpC t (.slice a2 t.e.box.length c2)) 42))) :=
    Lib.hid ⟨((Blk.new w p.cells.toArray 39).alloc _).alloc _, (Blk.new2 w (.cells p.cells.toArray 39) #[.int .u64 out.x, .slice ao out.box.length co] 27).alloc _, Blk.new3 w _ _ _ _⟩
  have hb0 := Lib.hid (show Ext w (((w.alloc (.cells p.cells.toArray 39)).alloc (.cells #[.int .u64 out.x, .slice ao out.box.length co] 27)).alloc (.cells (stpC t (.slice a2 t.e.box.length c2)) 42)) from (show Below w.heap.size w _ by go_grown))
  have hst := stabPsC w.heap.size p.cells.toArray #[.int .u64 out.x, .slice ao out.box.length co] (stpC t (.slice a2 t.e.box.length c2))
  have HEC := Lib.hid fun (u : World) (h : PsC w.heap.size p.cells.toArray #[.int .u64 out.x, .slice ao out.box.length co] (stpC t (.slice a2 t.e.box.length c2)) u) => ent_cell h.2.1
  have HTC := Lib.hid fun (u : World) (h : PsC w.heap.size p.cells.toArray #[.int .u64 out.x, .slice ao out.box.length co] (stpC t (.slice a2 t.e.box.length c2)) u) => stp_cell h.2.2
  have HPZ := Lib.hid (show p.cells.toArray.size = 10 by rw [List.size_toArray, p.length_cells])
  have HTZ := Lib.hid (show (stpC t (.slice a2 t.e.box.length c2)).size = 8 from rfl)
  by_cases h1 : ins.length ≤ 20
  · have d1 : ¬ (20 : Int) < (ins.length : Int) := by omega
    by_cases h2 : out.box.length ≤ 300
    · have d2 : ¬ (300 : Int) < (out.box.length : Int) := by omega
      by_cases h3 : t.e.box.length ≤ 300
      · have d3 : ¬ (300 : Int) < (t.e.box.length : Int) := by omega
        have HA := Lib.hid fun (w' : World) (e : Ext w w') => Passed_any p at_ ins out t B _ _ _ w' hp ho ht (hi.ext e) (hvo.below e (by decide)) (hvt.below e (by decide)) (by omega) (by omega)
        have HB := Lib.hid fun (w' : World) (e : Ext w w') => Passedr_any p at_ ins out t B _ _ _ w' hp ho ht (hi.ext e) (hvo.below e (by decide)) (hvt.below e (by decide)) (by omega) (by omega)
        have HC := Lib.hid fun (w' : World) (e : Ext w w') => Failed_any p at_ out t _ _ w' hp ho ht (hvo.below e (by decide)) (hvt.below e (by decide)) (by omega)
        have HD := Lib.hid fun (w' : World) (e : Ext w w') => Failedr_any p at_ out t _ _ w' hp ho ht (hvo.below e (by decide)) (hvt.below e (by decide)) (by omega)
        clear hi hvo hvt hp ho ht
        generalize decide (passedL p at_ ins out t) = D1 at *
        generalize decide (failedL p at_ out t) = D2 at *
        generalize p.cells.toArray = PC at *
        generalize stpC t (.slice a2 t.e.box.length c2) = TC at *
        generalize out.x = OX at *
        generalize out.box.length = on at *
        generalize t.e.box.length = tn at *
        go_enter Try.func4, Try.ntmps4
        go_wp2_with (go_at_call 11; refine (alive20_any _).mono ?_; rintro e w1 ⟨rfl, hb1⟩
                     have hS1 := stabPsC _ _ _ _ _ _ hS0.out hb1
                     have hup1 : Ext w w1 := Ext.tr hb0.out hb1
                     have hc1 := (HEC.out _ hS1).2; have hc2 := (HTC.out _ hS1).2.2.1)
        have hk : HoldT (PsC w.heap.size PC #[.int .u64 OX, .slice ao on co] TC) w w1.drew := HoldT.drew hst ⟨hS1, hup1⟩
        try change Code.wp _ _ _ (Act.mk _ _) _
        refine wp_region_runR Ext 27 60 (HoldT (PsC w.heap.size PC #[.int .u64 OX, .slice ao on co] TC) _) [[], [], [], [], [], [(0, 34), (1, 35), (2, 36), (3, 37), (4, 38)], [], [], [], [], [], [(6, 40), (7, 41), (8, 42), (9, 43), (10, 44)], [(5, 39), (11, 45)], [(12, 46)], [(13, 47)], [(13, 47)], [(13, 47)], [(13, 47)], [(14, 48), (15, 49), (16, 50), (17, 51), (13, 47)], [(13, 47)], [(13, 47)], [(13, 47)], [(13, 47)], [(19, 53), (20, 54), (21, 55), (22, 56), (13, 47)], [(18, 52), (23, 57), (13, 47)], [(13, 47), (24, 58)], [(25, 59)]] [(0, 34), (1, 35), (2, 36), (3, 37), (4, 38), (5, 39), (6, 40), (7, 41), (8, 42), (9, 43), (10, 44), (11, 45), (12, 46), (13, 47), (14, 48), (15, 49), (16, 50), (17, 51), (18, 52), (19, 53), (20, 54), (21, 55), (22, 56), (23, 57), (24, 58), (25, 59), (26, 10)] (by kernel_rfl) (by kernel_rfl) (by first | rfl | simp) (hk) ?_
        simp only [List.take_succ_cons, List.take_zero, List.drop_succ_cons, List.drop_zero]
        refine sp_op (Ph.eq _) (fun u hu => by
          refine spArg_nil ?_
          go_wp2_with ((refine wpList_load_rowG rfl 39 _ rfl (w.heap.size) rfl _ _ (0, 0) _ (hu.has.1) Try.underlying39 rfl (by rw [HPZ.out]; exact info_pub) ?_))
          exact ⟨rfl, hu, Ext.refl _, slot_eq rfl⟩) ?_
        refine sp_op (Ph.eq _) (fun u hu => by
          refine spArg_nil ?_
          go_wp2_with (fail)
          exact ⟨rfl, hu, Ext.refl _, slot_eq rfl⟩) ?_
        refine sp_op (Ph.eq _) (fun u hu => by
          refine spArg_nil ?_
          go_wp2_with (fail)
          exact ⟨rfl, hu, Ext.refl _, slot_eq rfl⟩) ?_
        refine sp_op (Ph.eq _) (fun u hu => by
          refine spArg_nil ?_
          go_wp2_with ((refine wpList_load_rowG rfl 27 _ rfl (w.heap.size + 1) rfl _ _ (0, 0) _ (hu.has.2.1) Try.underlying27 rfl (info_entry) ?_))
          exact ⟨rfl, hu, Ext.refl _, slot_eq rfl⟩) ?_
        refine sp_op (Ph.eq _) (fun u hu => by
          refine spArg_nil ?_
          go_wp2_with ((refine wpList_load_rowG rfl 42 _ rfl (w.heap.size + 1 + 1) rfl _ _ (0, 0) _ (hu.has.2.2) Try.underlying42 rfl (by rw [HTZ.out]; exact info_stp) ?_))
          exact ⟨rfl, hu, Ext.refl _, slot_eq rfl⟩) ?_
        refine sp_op (Ph.eq _) (fun u hu => by
          refine spArg_eq 4 rfl rfl ?_
          refine spArg_eq 3 rfl rfl ?_
          refine spArg_eq 2 rfl rfl ?_
          refine spArg_eq 1 rfl rfl ?_
          refine spArg_eq 0 rfl rfl ?_
          refine spArg_nil ?_
          simp only [Act.put, List.setIfInBounds_toArray, List.set_cons_succ, List.set_cons_zero]
          go_wp2_with ((go_at_call 12; refine (HA.out _ hu.up).mono ?_; rintro e_ x_ ⟨rfl, hb_⟩))
          exact ⟨rfl, HoldT.step hst hu hb_, hb_, slot_eq rfl⟩) ?_
        refine sp_op (Ph.eq _) (fun u hu => by
          refine spArg_nil ?_
          go_wp2_with ((refine wpList_load_rowG rfl 39 _ rfl (w.heap.size) rfl _ _ (0, 0) _ (hu.has.1) Try.underlying39 rfl (by rw [HPZ.out]; exact info_pub) ?_))
          exact ⟨rfl, hu, Ext.refl _, slot_eq rfl⟩) ?_
        refine sp_op (Ph.eq _) (fun u hu => by
          refine spArg_nil ?_
          go_wp2_with (fail)
          exact ⟨rfl, hu, Ext.refl _, slot_eq rfl⟩) ?_
        refine sp_op (Ph.eq _) (fun u hu => by
          refine spArg_nil ?_
          go_wp2_with (fail)
          exact ⟨rfl, hu, Ext.refl _, slot_eq rfl⟩) ?_
        refine sp_op (Ph.eq _) (fun u hu => by
          refine spArg_nil ?_
          go_wp2_with ((refine wpList_load_rowG rfl 27 _ rfl (w.heap.size + 1) rfl _ _ (0, 0) _ (hu.has.2.1) Try.underlying27 rfl (info_entry) ?_))
          exact ⟨rfl, hu, Ext.refl _, slot_eq rfl⟩) ?_
        refine sp_op (Ph.eq _) (fun u hu => by
          refine spArg_nil ?_
          go_wp2_with ((refine wpList_load_rowG rfl 42 _ rfl (w.heap.size + 1 + 1) rfl _ _ (0, 0) _ (hu.has.2.2) Try.underlying42 rfl (by rw [HTZ.out]; exact info_stp) ?_))
          exact ⟨rfl, hu, Ext.refl _, slot_eq rfl⟩) ?_
        refine sp_op (Ph.eq _) (fun u hu => by
          refine spArg_eq 4 rfl rfl ?_
          refine spArg_eq 3 rfl rfl ?_
          refine spArg_eq 2 rfl rfl ?_
          refine spArg_eq 1 rfl rfl ?_
          refine spArg_eq 0 rfl rfl ?_
          refine spArg_nil ?_
          simp only [Act.put, List.setIfInBounds_toArray, List.set_cons_succ, List.set_cons_zero]
          go_wp2_with ((go_at_call 13; refine (HB.out _ hu.up).mono ?_; rintro e_ x_ ⟨rfl, hb_⟩))
          exact ⟨rfl, HoldT.step hst hu hb_, hb_, slot_eq rfl⟩) ?_
        refine sp_op (Ph.eq _) (fun u hu => by
          refine spArg_eq 6 rfl rfl ?_
          refine spArg_eq 0 rfl rfl ?_
          refine spArg_nil ?_
          simp only [Act.put, List.setIfInBounds_toArray, List.set_cons_succ, List.set_cons_zero]
          go_wp2_with (fail)
          exact ⟨rfl, hu, Ext.refl _, slot_eq rfl⟩) ?_
        refine sp_op (Ph.eq _) (fun u hu => by
          refine spArg_eq 0 rfl rfl ?_
          refine spArg_nil ?_
          simp only [Act.put, List.setIfInBounds_toArray, List.set_cons_succ, List.set_cons_zero]
          go_wp2_with (fail)
          exact ⟨rfl, hu, Ext.refl _, slot_eq rfl⟩) ?_
        refine sp_op (Ph.eq _) (fun u hu => by
          refine spArg_eq 0 rfl rfl ?_
          refine spArg_nil ?_
          simp only [Act.put, List.setIfInBounds_toArray, List.set_cons_succ, List.set_cons_zero]
          go_wp2_with ((refine wpList_load_rowG rfl 39 _ rfl (w.heap.size) rfl _ _ (0, 0) _ (hu.has.1) Try.underlying39 rfl (by rw [HPZ.out]; exact info_pub) ?_))
          exact ⟨rfl, hu, Ext.refl _, slot_eq rfl⟩) ?_
        refine sp_op (Ph.eq _) (fun u hu => by
          refine spArg_eq 1 rfl rfl ?_
          refine spArg_nil ?_
          simp only [Act.put, List.setIfInBounds_toArray, List.set_cons_succ, List.set_cons_zero]
          go_wp2_with (fail)
          exact ⟨rfl, hu, Ext.refl _, slot_eq rfl⟩) ?_
        refine sp_op (Ph.eq _) (fun u hu => by
          refine spArg_eq 2 rfl rfl ?_
          refine spArg_nil ?_
          simp only [Act.put, List.setIfInBounds_toArray, List.set_cons_succ, List.set_cons_zero]
          go_wp2_with ((refine wpList_load_rowG rfl 27 _ rfl (w.heap.size + 1) rfl _ _ (0, 0) _ (hu.has.2.1) Try.underlying27 rfl (info_entry) ?_))
          exact ⟨rfl, hu, Ext.refl _, slot_eq rfl⟩) ?_
        refine sp_op (Ph.eq _) (fun u hu => by
          refine spArg_eq 3 rfl rfl ?_
          refine spArg_nil ?_
          simp only [Act.put, List.setIfInBounds_toArray, List.set_cons_succ, List.set_cons_zero]
          go_wp2_with ((refine wpList_load_rowG rfl 42 _ rfl (w.heap.size + 1 + 1) rfl _ _ (0, 0) _ (hu.has.2.2) Try.underlying42 rfl (by rw [HTZ.out]; exact info_stp) ?_))
          exact ⟨rfl, hu, Ext.refl _, slot_eq rfl⟩) ?_
        refine sp_op (Ph.eq _) (fun u hu => by
          refine spArg_eq 3 rfl rfl ?_
          refine spArg_eq 2 rfl rfl ?_
          refine spArg_eq 1 rfl rfl ?_
          refine spArg_eq 0 rfl rfl ?_
          refine spArg_eq 4 rfl rfl ?_
          refine spArg_nil ?_
          simp only [Act.put, List.setIfInBounds_toArray, List.set_cons_succ, List.set_cons_zero]
          go_wp2_with ((go_at_call 14; refine (HC.out _ hu.up).mono ?_; rintro e_ x_ ⟨rfl, hb_⟩))
          exact ⟨rfl, HoldT.step hst hu hb_, hb_, slot_eq rfl⟩) ?_
        refine sp_op (Ph.eq _) (fun u hu => by
          refine spArg_eq 5 rfl rfl ?_
          refine spArg_nil ?_
          simp only [Act.put, List.setIfInBounds_toArray, List.set_cons_succ, List.set_cons_zero]
          go_wp2_with ((refine wpList_load_rowG rfl 39 _ rfl (w.heap.size) rfl _ _ (0, 0) _ (hu.has.1) Try.underlying39 rfl (by rw [HPZ.out]; exact info_pub) ?_))
          exact ⟨rfl, hu, Ext.refl _, slot_eq rfl⟩) ?_
        refine sp_op (Ph.eq _) (fun u hu => by
          refine spArg_eq 6 rfl rfl ?_
          refine spArg_nil ?_
          simp only [Act.put, List.setIfInBounds_toArray, List.set_cons_succ, List.set_cons_zero]
          go_wp2_with (fail)
          exact ⟨rfl, hu, Ext.refl _, slot_eq rfl⟩) ?_
        refine sp_op (Ph.eq _) (fun u hu => by
          refine spArg_eq 7 rfl rfl ?_
          refine spArg_nil ?_
          simp only [Act.put, List.setIfInBounds_toArray, List.set_cons_succ, List.set_cons_zero]
          go_wp2_with ((refine wpList_load_rowG rfl 27 _ rfl (w.heap.size + 1) rfl _ _ (0, 0) _ (hu.has.2.1) Try.underlying27 rfl (info_entry) ?_))
          exact ⟨rfl, hu, Ext.refl _, slot_eq rfl⟩) ?_
        refine sp_op (Ph.eq _) (fun u hu => by
          refine spArg_eq 8 rfl rfl ?_
          refine spArg_nil ?_
          simp only [Act.put, List.setIfInBounds_toArray, List.set_cons_succ, List.set_cons_zero]
          go_wp2_with ((refine wpList_load_rowG rfl 42 _ rfl (w.heap.size + 1 + 1) rfl _ _ (0, 0) _ (hu.has.2.2) Try.underlying42 rfl (by rw [HTZ.out]; exact info_stp) ?_))
          exact ⟨rfl, hu, Ext.refl _, slot_eq rfl⟩) ?_
        refine sp_op (Ph.eq _) (fun u hu => by
          refine spArg_eq 3 rfl rfl ?_
          refine spArg_eq 2 rfl rfl ?_
          refine spArg_eq 1 rfl rfl ?_
          refine spArg_eq 0 rfl rfl ?_
          refine spArg_eq 9 rfl rfl ?_
          refine spArg_nil ?_
          simp only [Act.put, List.setIfInBounds_toArray, List.set_cons_succ, List.set_cons_zero]
          go_wp2_with ((go_at_call 15; refine (HD.out _ hu.up).mono ?_; rintro e_ x_ ⟨rfl, hb_⟩))
          exact ⟨rfl, HoldT.step hst hu hb_, hb_, slot_eq rfl⟩) ?_
        refine sp_op (Ph.eq _) (fun u hu => by
          refine spArg_eq 5 rfl rfl ?_
          refine spArg_eq 0 rfl rfl ?_
          refine spArg_eq 10 rfl rfl ?_
          refine spArg_nil ?_
          simp only [Act.put, List.setIfInBounds_toArray, List.set_cons_succ, List.set_cons_zero]
          go_wp2_with (fail)
          exact ⟨rfl, hu, Ext.refl _, slot_eq rfl⟩) ?_
        refine sp_op (Ph.eq _) (fun u hu => by
          refine spArg_eq 11 rfl rfl ?_
          refine spArg_eq 0 rfl rfl ?_
          refine spArg_nil ?_
          simp only [Act.put, List.setIfInBounds_toArray, List.set_cons_succ, List.set_cons_zero]
          go_wp2_with (fail)
          exact ⟨rfl, hu, Ext.refl _, slot_eq rfl⟩) ?_
        refine sp_op (Ph.eq _) (fun u hu => by
          refine spArg_eq 0 rfl rfl ?_
          refine spArg_nil ?_
          simp only [Act.put, List.setIfInBounds_toArray, List.set_cons_succ, List.set_cons_zero]
          go_wp2_with (fail)
          exact ⟨rfl, hu, Ext.refl _, slot_eq rfl⟩) ?_
        refine sp_end ?_
        intro u hu
        refine spArg_eq 26 rfl rfl ?_
        refine spArg_eq 25 rfl rfl ?_
        refine spArg_eq 24 rfl rfl ?_
        refine spArg_eq 23 rfl rfl ?_
        refine spArg_eq 22 rfl rfl ?_
        refine spArg_eq 21 rfl rfl ?_
        refine spArg_eq 20 rfl rfl ?_
        refine spArg_eq 19 rfl rfl ?_
        refine spArg_eq 18 rfl rfl ?_
        refine spArg_eq 17 rfl rfl ?_
        refine spArg_eq 16 rfl rfl ?_
        refine spArg_eq 15 rfl rfl ?_
        refine spArg_eq 14 rfl rfl ?_
        refine spArg_eq 13 rfl rfl ?_
        refine spArg_eq 12 rfl rfl ?_
        refine spArg_eq 11 rfl rfl ?_
        refine spArg_eq 10 rfl rfl ?_
        refine spArg_eq 9 rfl rfl ?_
        refine spArg_eq 8 rfl rfl ?_
        refine spArg_eq 7 rfl rfl ?_
        refine spArg_eq 6 rfl rfl ?_
        refine spArg_eq 5 rfl rfl ?_
        refine spArg_eq 4 rfl rfl ?_
        refine spArg_eq 3 rfl rfl ?_
        refine spArg_eq 2 rfl rfl ?_
        refine spArg_eq 1 rfl rfl ?_
        refine spArg_eq 0 rfl rfl ?_
        refine spArg_nil ?_
        simp only [Act.put, List.setIfInBounds_toArray, List.set_cons_succ, List.set_cons_zero]
        go_wp2_with fail
        go_ret
        exact ⟨by simp, hu.up⟩
      · have d3 : (300 : Int) < (t.e.box.length : Int) := by omega
        go_enter Try.func4, Try.ntmps4
        go_wp2_with (go_at_call 11; refine (alive20_any _).mono ?_; rintro e w1 ⟨rfl, hb1⟩
                     have hS1 := stabPsC _ _ _ _ _ _ hS0.out hb1
                     have hup1 : Ext w w1 := Ext.tr hb0.out hb1
                     have hc1 := (HEC.out _ hS1).2; have hc2 := (HTC.out _ hS1).2.2.1)
        go_ret
        exact ⟨rfl, hup1⟩
    · have d2 : (300 : Int) < (out.box.length : Int) := by omega
      go_enter Try.func4, Try.ntmps4
      go_wp2_with (go_at_call 11; refine (alive20_any _).mono ?_; rintro e w1 ⟨rfl, hb1⟩
                   have hS1 := stabPsC _ _ _ _ _ _ hS0.out hb1
                   have hup1 : Ext w w1 := Ext.tr hb0.out hb1
                   have hc1 := (HEC.out _ hS1).2; have hc2 := (HTC.out _ hS1).2.2.1)
      go_ret
      exact ⟨rfl, hup1⟩
  · have d1 : (20 : Int) < (ins.length : Int) := by omega
    go_enter Try.func4, Try.ntmps4
    go_wp2_with (go_at_call 11; refine (alive20_any _).mono ?_; rintro e w1 ⟨rfl, hb1⟩
                 have hS1 := stabPsC _ _ _ _ _ _ hS0.out hb1
                 have hup1 : Ext w w1 := Ext.tr hb0.out hb1
                 have hc1 := (HEC.out _ hS1).2; have hc2 := (HTC.out _ hS1).2.2.1)
    go_ret
    exact ⟨rfl, hup1⟩
end Go.Proofs.Ytnmniblaefjekaa
