/-
  The laws of chapter 9: ProofChecks. (Printed by wip/gen_law9e.py.)
-/
import Derived.Test.YteialfdhbfbkgaaLaw9d
namespace Go.Proofs.Yteialfdhbfbkgaa
set_option linter.unusedVariables false
set_option linter.unusedSimpArgs false
open Go Go.RowKit

set_option maxHeartbeats 2000000 in
theorem ProofChecks_any (g x h y c s : Int) (w : World) (hg : in64 g) (hx : in64 x) (hh : in64 h) (hy : in64 y) (hc : in64 c) (hs : in64 s) :
    Calls Try.prog 8 #[.int .u64 g, .int .u64 x, .int .u64 h, .int .u64 y, PV c s] w fun e w' => e = .returned (.bool true) ∧ Below w.heap.size w w' := by
  obtain ⟨g0, g1⟩ := hg; obtain ⟨x0, x1⟩ := hx; obtain ⟨h0, h1⟩ := hh; obtain ⟨y0, y1⟩ := hy; obtain ⟨c0, c1⟩ := hc; obtain ⟨s0, s1⟩ := hs
  have hS0 : ∀ e : InC (One w.heap.size c s), e.u.cell? ⟨w.heap.size, 0, none⟩ = some (.int .u64 c) := fun e => e.has.cell 0
  have hS1 : ∀ e : InC (One w.heap.size c s), e.u.cell? ⟨w.heap.size, 1, none⟩ = some (.int .u64 s) := fun e => e.has.cell 1
  have hst : HoldS (One w.heap.size c s) w (w.alloc (.cells #[.int .u64 c, .int .u64 s] 43)) := ⟨Blk.new w _ _, show Below _ _ _ from by go_grown⟩
  rcases Bool.eq_false_or_eq_true (decide (knowOk g x c s)) with hK | hK
  · rcases Bool.eq_false_or_eq_true (decide (equalOk g x h y c s)) with hE | hE
    · go_enter Try.func8, Try.ntmps8
      go_wp2_with (go_at_call 22; refine (alive_any _).mono ?_; rintro e w1 ⟨rfl, hb1⟩; have hk1 := hst.step1 hb1)
      have hk : HoldS (One w.heap.size c s) w w1.drew := ⟨hk1.1.drew, Below.drew hk1.2⟩
      change Code.wp _ _ _ (Act.mk _ _) _
      try change Code.wp _ _ _ (Act.mk _ _) _
      haveI hne_ : Nonempty (InC (One w.heap.size c s)) := ⟨⟨_, hk.1⟩⟩
      refine wp_region_ph (C := fun w_ => ∃ e_ : InC (One w.heap.size c s), w_ = e_.u) [([0, 1, 2, 3, 4, 6, 7, 8], 5), ([], 9), ([10], 11), ([12, 13, 14, 15, 16, 17, 19, 20, 21, 22, 23], 18), ([], 24), ([25], 26)] [27] (by kernel_rfl) (by kernel_rfl) (fun _ _ _ _ hd_ h_ => ⟨hd_.symm.trans h_.1, h_.2⟩) ⟨⟨World.drew _, hk.1⟩, rfl⟩ ?_
      first | refine wpPh_cons ?_ | refine wpPh_nil ?_
      simp only [pickOps, List.flatMap_cons, List.flatMap_nil, List.drop_succ_cons, List.drop_zero, List.take_succ_cons, List.take_zero, List.cons_append, List.nil_append, List.append_nil]
      iterate 8 (go_big_quiet_step (exact rfl))
      refine wpQuiet_nil ?_
      iterate 6 (
        go_wp2_with (first
        | (go_at_call 27; refine (CheckKnow_any _ _ _ _ _ ⟨by omega, by omega⟩ ⟨by omega, by omega⟩ ⟨by omega, by omega⟩ ⟨by omega, by omega⟩).mono ?_; rintro e w8 ⟨rfl, hb8⟩; rw [hK]; have hk8 := HoldS.step1 (by assumption) hb8)
        | (go_at_call 33; refine (CheckKnowr_any _ _ _ _ _ ⟨by omega, by omega⟩ ⟨by omega, by omega⟩ ⟨by omega, by omega⟩ ⟨by omega, by omega⟩).mono ?_; rintro e w9 ⟨rfl, hb9⟩; rw [hK]; have hk9 := HoldS.step1 (by assumption) hb9)
        | (go_at_call 34; refine (CheckEqual_any _ _ _ _ _ _ _ ⟨by omega, by omega⟩ ⟨by omega, by omega⟩ ⟨by omega, by omega⟩ ⟨by omega, by omega⟩ ⟨by omega, by omega⟩ ⟨by omega, by omega⟩).mono ?_; rintro e w10 ⟨rfl, hb10⟩; rw [hE]; have hk10 := HoldS.step1 (by assumption) hb10)
        | (go_at_call 35; refine (CheckEqualr_any _ _ _ _ _ _ _ ⟨by omega, by omega⟩ ⟨by omega, by omega⟩ ⟨by omega, by omega⟩ ⟨by omega, by omega⟩ ⟨by omega, by omega⟩ ⟨by omega, by omega⟩).mono ?_; rintro e w11 ⟨rfl, hb11⟩; rw [hE]; have hk11 := HoldS.step1 (by assumption) hb11))
        refine phPost_normal ⟨⟨⟨_, (show HoldS _ _ _ from by assumption).1⟩, rfl⟩, ?_⟩
        first | refine wpPh_cons ?_ | refine wpPh_nil ?_
        simp only [pickOps, List.flatMap_cons, List.flatMap_nil, List.drop_succ_cons, List.drop_zero, List.take_succ_cons, List.take_zero, List.cons_append, List.nil_append, List.append_nil]
        repeat (go_big_quiet_step (exact rfl))
        refine wpQuiet_nil ?_)
      go_wp2_with fail
      go_ret
      exact ⟨rfl, (show HoldS _ _ _ from by assumption).2⟩
    · go_enter Try.func8, Try.ntmps8
      go_wp2_with (go_at_call 22; refine (alive_any _).mono ?_; rintro e w1 ⟨rfl, hb1⟩; have hk1 := hst.step1 hb1)
      have hk : HoldS (One w.heap.size c s) w w1.drew := ⟨hk1.1.drew, Below.drew hk1.2⟩
      change Code.wp _ _ _ (Act.mk _ _) _
      try change Code.wp _ _ _ (Act.mk _ _) _
      haveI hne_ : Nonempty (InC (One w.heap.size c s)) := ⟨⟨_, hk.1⟩⟩
      refine wp_region_ph (C := fun w_ => ∃ e_ : InC (One w.heap.size c s), w_ = e_.u) [([0, 1, 2, 3, 4, 6, 7, 8], 5), ([], 9), ([10], 11), ([12, 13, 14, 15, 16, 17, 19, 20, 21, 22, 23], 18), ([], 24), ([25], 26)] [27] (by kernel_rfl) (by kernel_rfl) (fun _ _ _ _ hd_ h_ => ⟨hd_.symm.trans h_.1, h_.2⟩) ⟨⟨World.drew _, hk.1⟩, rfl⟩ ?_
      first | refine wpPh_cons ?_ | refine wpPh_nil ?_
      simp only [pickOps, List.flatMap_cons, List.flatMap_nil, List.drop_succ_cons, List.drop_zero, List.take_succ_cons, List.take_zero, List.cons_append, List.nil_append, List.append_nil]
      iterate 8 (go_big_quiet_step (exact rfl))
      refine wpQuiet_nil ?_
      iterate 6 (
        go_wp2_with (first
        | (go_at_call 27; refine (CheckKnow_any _ _ _ _ _ ⟨by omega, by omega⟩ ⟨by omega, by omega⟩ ⟨by omega, by omega⟩ ⟨by omega, by omega⟩).mono ?_; rintro e w8 ⟨rfl, hb8⟩; rw [hK]; have hk8 := HoldS.step1 (by assumption) hb8)
        | (go_at_call 33; refine (CheckKnowr_any _ _ _ _ _ ⟨by omega, by omega⟩ ⟨by omega, by omega⟩ ⟨by omega, by omega⟩ ⟨by omega, by omega⟩).mono ?_; rintro e w9 ⟨rfl, hb9⟩; rw [hK]; have hk9 := HoldS.step1 (by assumption) hb9)
        | (go_at_call 34; refine (CheckEqual_any _ _ _ _ _ _ _ ⟨by omega, by omega⟩ ⟨by omega, by omega⟩ ⟨by omega, by omega⟩ ⟨by omega, by omega⟩ ⟨by omega, by omega⟩ ⟨by omega, by omega⟩).mono ?_; rintro e w10 ⟨rfl, hb10⟩; rw [hE]; have hk10 := HoldS.step1 (by assumption) hb10)
        | (go_at_call 35; refine (CheckEqualr_any _ _ _ _ _ _ _ ⟨by omega, by omega⟩ ⟨by omega, by omega⟩ ⟨by omega, by omega⟩ ⟨by omega, by omega⟩ ⟨by omega, by omega⟩ ⟨by omega, by omega⟩).mono ?_; rintro e w11 ⟨rfl, hb11⟩; rw [hE]; have hk11 := HoldS.step1 (by assumption) hb11))
        refine phPost_normal ⟨⟨⟨_, (show HoldS _ _ _ from by assumption).1⟩, rfl⟩, ?_⟩
        first | refine wpPh_cons ?_ | refine wpPh_nil ?_
        simp only [pickOps, List.flatMap_cons, List.flatMap_nil, List.drop_succ_cons, List.drop_zero, List.take_succ_cons, List.take_zero, List.cons_append, List.nil_append, List.append_nil]
        repeat (go_big_quiet_step (exact rfl))
        refine wpQuiet_nil ?_)
      go_wp2_with fail
      go_ret
      exact ⟨rfl, (show HoldS _ _ _ from by assumption).2⟩
  · rcases Bool.eq_false_or_eq_true (decide (equalOk g x h y c s)) with hE | hE
    · go_enter Try.func8, Try.ntmps8
      go_wp2_with (go_at_call 22; refine (alive_any _).mono ?_; rintro e w1 ⟨rfl, hb1⟩; have hk1 := hst.step1 hb1)
      have hk : HoldS (One w.heap.size c s) w w1.drew := ⟨hk1.1.drew, Below.drew hk1.2⟩
      change Code.wp _ _ _ (Act.mk _ _) _
      try change Code.wp _ _ _ (Act.mk _ _) _
      haveI hne_ : Nonempty (InC (One w.heap.size c s)) := ⟨⟨_, hk.1⟩⟩
      refine wp_region_ph (C := fun w_ => ∃ e_ : InC (One w.heap.size c s), w_ = e_.u) [([0, 1, 2, 3, 4, 6, 7, 8], 5), ([], 9), ([10], 11), ([12, 13, 14, 15, 16, 17, 19, 20, 21, 22, 23], 18), ([], 24), ([25], 26)] [27] (by kernel_rfl) (by kernel_rfl) (fun _ _ _ _ hd_ h_ => ⟨hd_.symm.trans h_.1, h_.2⟩) ⟨⟨World.drew _, hk.1⟩, rfl⟩ ?_
      first | refine wpPh_cons ?_ | refine wpPh_nil ?_
      simp only [pickOps, List.flatMap_cons, List.flatMap_nil, List.drop_succ_cons, List.drop_zero, List.take_succ_cons, List.take_zero, List.cons_append, List.nil_append, List.append_nil]
      iterate 8 (go_big_quiet_step (exact rfl))
      refine wpQuiet_nil ?_
      iterate 6 (
        go_wp2_with (first
        | (go_at_call 27; refine (CheckKnow_any _ _ _ _ _ ⟨by omega, by omega⟩ ⟨by omega, by omega⟩ ⟨by omega, by omega⟩ ⟨by omega, by omega⟩).mono ?_; rintro e w8 ⟨rfl, hb8⟩; rw [hK]; have hk8 := HoldS.step1 (by assumption) hb8)
        | (go_at_call 33; refine (CheckKnowr_any _ _ _ _ _ ⟨by omega, by omega⟩ ⟨by omega, by omega⟩ ⟨by omega, by omega⟩ ⟨by omega, by omega⟩).mono ?_; rintro e w9 ⟨rfl, hb9⟩; rw [hK]; have hk9 := HoldS.step1 (by assumption) hb9)
        | (go_at_call 34; refine (CheckEqual_any _ _ _ _ _ _ _ ⟨by omega, by omega⟩ ⟨by omega, by omega⟩ ⟨by omega, by omega⟩ ⟨by omega, by omega⟩ ⟨by omega, by omega⟩ ⟨by omega, by omega⟩).mono ?_; rintro e w10 ⟨rfl, hb10⟩; rw [hE]; have hk10 := HoldS.step1 (by assumption) hb10)
        | (go_at_call 35; refine (CheckEqualr_any _ _ _ _ _ _ _ ⟨by omega, by omega⟩ ⟨by omega, by omega⟩ ⟨by omega, by omega⟩ ⟨by omega, by omega⟩ ⟨by omega, by omega⟩ ⟨by omega, by omega⟩).mono ?_; rintro e w11 ⟨rfl, hb11⟩; rw [hE]; have hk11 := HoldS.step1 (by assumption) hb11))
        refine phPost_normal ⟨⟨⟨_, (show HoldS _ _ _ from by assumption).1⟩, rfl⟩, ?_⟩
        first | refine wpPh_cons ?_ | refine wpPh_nil ?_
        simp only [pickOps, List.flatMap_cons, List.flatMap_nil, List.drop_succ_cons, List.drop_zero, List.take_succ_cons, List.take_zero, List.cons_append, List.nil_append, List.append_nil]
        repeat (go_big_quiet_step (exact rfl))
        refine wpQuiet_nil ?_)
      go_wp2_with fail
      go_ret
      exact ⟨rfl, (show HoldS _ _ _ from by assumption).2⟩
    · go_enter Try.func8, Try.ntmps8
      go_wp2_with (go_at_call 22; refine (alive_any _).mono ?_; rintro e w1 ⟨rfl, hb1⟩; have hk1 := hst.step1 hb1)
      have hk : HoldS (One w.heap.size c s) w w1.drew := ⟨hk1.1.drew, Below.drew hk1.2⟩
      change Code.wp _ _ _ (Act.mk _ _) _
      try change Code.wp _ _ _ (Act.mk _ _) _
      haveI hne_ : Nonempty (InC (One w.heap.size c s)) := ⟨⟨_, hk.1⟩⟩
      refine wp_region_ph (C := fun w_ => ∃ e_ : InC (One w.heap.size c s), w_ = e_.u) [([0, 1, 2, 3, 4, 6, 7, 8], 5), ([], 9), ([10], 11), ([12, 13, 14, 15, 16, 17, 19, 20, 21, 22, 23], 18), ([], 24), ([25], 26)] [27] (by kernel_rfl) (by kernel_rfl) (fun _ _ _ _ hd_ h_ => ⟨hd_.symm.trans h_.1, h_.2⟩) ⟨⟨World.drew _, hk.1⟩, rfl⟩ ?_
      first | refine wpPh_cons ?_ | refine wpPh_nil ?_
      simp only [pickOps, List.flatMap_cons, List.flatMap_nil, List.drop_succ_cons, List.drop_zero, List.take_succ_cons, List.take_zero, List.cons_append, List.nil_append, List.append_nil]
      iterate 8 (go_big_quiet_step (exact rfl))
      refine wpQuiet_nil ?_
      iterate 6 (
        go_wp2_with (first
        | (go_at_call 27; refine (CheckKnow_any _ _ _ _ _ ⟨by omega, by omega⟩ ⟨by omega, by omega⟩ ⟨by omega, by omega⟩ ⟨by omega, by omega⟩).mono ?_; rintro e w8 ⟨rfl, hb8⟩; rw [hK]; have hk8 := HoldS.step1 (by assumption) hb8)
        | (go_at_call 33; refine (CheckKnowr_any _ _ _ _ _ ⟨by omega, by omega⟩ ⟨by omega, by omega⟩ ⟨by omega, by omega⟩ ⟨by omega, by omega⟩).mono ?_; rintro e w9 ⟨rfl, hb9⟩; rw [hK]; have hk9 := HoldS.step1 (by assumption) hb9)
        | (go_at_call 34; refine (CheckEqual_any _ _ _ _ _ _ _ ⟨by omega, by omega⟩ ⟨by omega, by omega⟩ ⟨by omega, by omega⟩ ⟨by omega, by omega⟩ ⟨by omega, by omega⟩ ⟨by omega, by omega⟩).mono ?_; rintro e w10 ⟨rfl, hb10⟩; rw [hE]; have hk10 := HoldS.step1 (by assumption) hb10)
        | (go_at_call 35; refine (CheckEqualr_any _ _ _ _ _ _ _ ⟨by omega, by omega⟩ ⟨by omega, by omega⟩ ⟨by omega, by omega⟩ ⟨by omega, by omega⟩ ⟨by omega, by omega⟩ ⟨by omega, by omega⟩).mono ?_; rintro e w11 ⟨rfl, hb11⟩; rw [hE]; have hk11 := HoldS.step1 (by assumption) hb11))
        refine phPost_normal ⟨⟨⟨_, (show HoldS _ _ _ from by assumption).1⟩, rfl⟩, ?_⟩
        first | refine wpPh_cons ?_ | refine wpPh_nil ?_
        simp only [pickOps, List.flatMap_cons, List.flatMap_nil, List.drop_succ_cons, List.drop_zero, List.take_succ_cons, List.take_zero, List.cons_append, List.nil_append, List.append_nil]
        repeat (go_big_quiet_step (exact rfl))
        refine wpQuiet_nil ?_)
      go_wp2_with fail
      go_ret
      exact ⟨rfl, (show HoldS _ _ _ from by assumption).2⟩
end Go.Proofs.Yteialfdhbfbkgaa
