/-
  Signatures checked; both programs. (Printed by wip/gen_sign3.py.)
-/
import Derived.Test.YteialfdhbfbkgaaSign2
namespace Go.Proofs.Yteialfdhbfbkgaa
set_option linter.unusedVariables false
set_option linter.unusedSimpArgs false
open Go Go.RowKit

set_option maxRecDepth 100000 in
set_option maxHeartbeats 1000000 in
theorem SCheck_any (pub c s : Int) (b : List UInt8) (v : Value) (w : World) (hp : in64 pub) (hc : in64 c) (hs : in64 s) (hv : SeesB w v b) (hl : b.length ≤ 70368744170000) :
    Calls Try.prog 38 #[.int .u64 pub, v, PV c s] w fun e w' => e = .returned (.bool (decide (signOk pub b c s))) ∧ Below w.heap.size w w' := by
  obtain ⟨p0, p1⟩ := hp; obtain ⟨c0, c1⟩ := hc; obtain ⟨s0, s1⟩ := hs
  obtain ⟨a0, n0, rfl, hac0, hc0⟩ := sees_form hv
  obtain ⟨q0, q1⟩ := backP_pos 37 pub c s
  have hS0 : ∀ e : InC (fun u => Blk u w.heap.size #[.int .u64 c, .int .u64 s] 43), e.u.cell? ⟨w.heap.size, 0, none⟩ = some (.int .u64 c) := fun e => e.has.cell 0
  have hS1 : ∀ e : InC (fun u => Blk u w.heap.size #[.int .u64 c, .int .u64 s] 43), e.u.cell? ⟨w.heap.size, 1, none⟩ = some (.int .u64 s) := fun e => e.has.cell 1
  have hk := (Hold.start w #[.int .u64 c, .int .u64 s] 43).drew
  by_cases hg : okP pub
  · have hd_hg := decide_eq_true hg
    by_cases hp : smallP c s
    · have hd_hp := decide_eq_true hp
      have HF := Lib.hid (show decide (signOk pub b c s) = decide (sigC pub (backP 37 pub c s) b = c) by simp [signOk, hg, hp])
      generalize decide (signOk pub b c s) = fin at *
      go_enter Try.func38, Try.ntmps38
      go_wp2_with fail
      try change Code.wp _ _ _ (Act.mk _ _) _
      haveI hne_ : Nonempty (InC (fun u => Blk u w.heap.size #[.int .u64 c, .int .u64 s] 43)) := ⟨⟨_, hk.1⟩⟩
      refine wp_region_ph (C := fun w_ => ∃ e_ : InC (fun u => Blk u w.heap.size #[.int .u64 c, .int .u64 s] 43), w_ = e_.u) [([0], 1), ([2, 3], 4), ([], 5), ([6, 7, 8, 9, 11, 13, 14], 10), ([], 12), ([15], 16)] [17] (by kernel_rfl) (by kernel_rfl) (fun _ _ _ _ hd_ h_ => ⟨hd_.symm.trans h_.1, h_.2⟩) ⟨⟨World.drew _, hk.1⟩, rfl⟩ ?_
      first | refine wpPh_cons ?_ | refine wpPh_nil ?_
      simp only [pickOps, List.flatMap_cons, List.flatMap_nil, List.drop_succ_cons, List.drop_zero, List.take_succ_cons, List.take_zero, List.cons_append, List.nil_append, List.append_nil]
      iterate 1 (go_big_quiet_step (exact rfl))
      refine wpQuiet_nil ?_
      iterate 6 (
        go_wp2_with (first
      | (go_at_call 53; refine (Right_any _ _ (by omega) (by omega)).mono ?_; rintro e w' ⟨rfl, rfl⟩; simp only [hd_hg, hd_hp])
      | (go_at_call 54; refine (PRight_any _ _ _).mono ?_; rintro e w8 ⟨rfl, hb8⟩; simp only [hd_hg, hd_hp]; have hk8 := Hold.step (cs := _) (t := _) (by assumption) hb8)
      | (go_at_call 55; refine (Back_any 37 pub c s _ ⟨by omega, by omega⟩ ⟨by omega, by omega⟩ ⟨by omega, by omega⟩ ⟨by omega, by omega⟩).mono ?_; rintro e w9 ⟨rfl, hb9⟩; have hk9 := Hold.step (by assumption) hb9)
      | (go_at_call 67; refine (sigC_any pub (backP 37 pub c s) b _ _ ⟨by omega, by omega⟩ ⟨by omega, by omega⟩ (hv.below (show Hold w _ #[.int .u64 c, .int .u64 s] 43 from by assumption).2 (by decide)) hl).mono ?_; rintro e w10 ⟨rfl, hb10⟩; have hk10 := Hold.step (by assumption) hb10))
        refine phPost_normal ⟨⟨⟨_, (show Hold _ _ _ _ from by first | assumption | exact Hold.alloc (by assumption) _).1⟩, rfl⟩, ?_⟩
        first | refine wpPh_cons ?_ | refine wpPh_nil ?_
        simp only [pickOps, List.flatMap_cons, List.flatMap_nil, List.drop_succ_cons, List.drop_zero, List.take_succ_cons, List.take_zero, List.cons_append, List.nil_append, List.append_nil]
        repeat (go_big_quiet_step (exact rfl))
        refine wpQuiet_nil ?_)
      go_wp2_with fail
      go_ret
      exact ⟨ret_bool (by rw [HF.out]; rfl), (show Hold _ _ _ _ from by assumption).2⟩
    · have hd_hp := decide_eq_false hp
      have HF := Lib.hid (show decide (signOk pub b c s) = false by simp [signOk, hp])
      generalize decide (signOk pub b c s) = fin at *
      go_enter Try.func38, Try.ntmps38
      go_wp2_with fail
      try change Code.wp _ _ _ (Act.mk _ _) _
      haveI hne_ : Nonempty (InC (fun u => Blk u w.heap.size #[.int .u64 c, .int .u64 s] 43)) := ⟨⟨_, hk.1⟩⟩
      refine wp_region_ph (C := fun w_ => ∃ e_ : InC (fun u => Blk u w.heap.size #[.int .u64 c, .int .u64 s] 43), w_ = e_.u) [([0], 1), ([2, 3], 4), ([], 5), ([6, 7, 8, 9, 11, 13, 14], 10), ([], 12), ([15], 16)] [17] (by kernel_rfl) (by kernel_rfl) (fun _ _ _ _ hd_ h_ => ⟨hd_.symm.trans h_.1, h_.2⟩) ⟨⟨World.drew _, hk.1⟩, rfl⟩ ?_
      first | refine wpPh_cons ?_ | refine wpPh_nil ?_
      simp only [pickOps, List.flatMap_cons, List.flatMap_nil, List.drop_succ_cons, List.drop_zero, List.take_succ_cons, List.take_zero, List.cons_append, List.nil_append, List.append_nil]
      iterate 1 (go_big_quiet_step (exact rfl))
      refine wpQuiet_nil ?_
      iterate 6 (
        go_wp2_with (first
      | (go_at_call 53; refine (Right_any _ _ (by omega) (by omega)).mono ?_; rintro e w' ⟨rfl, rfl⟩; simp only [hd_hg, hd_hp])
      | (go_at_call 54; refine (PRight_any _ _ _).mono ?_; rintro e w8 ⟨rfl, hb8⟩; simp only [hd_hg, hd_hp]; have hk8 := Hold.step (cs := _) (t := _) (by assumption) hb8)
      | (go_at_call 55; refine (Back_any 37 pub c s _ ⟨by omega, by omega⟩ ⟨by omega, by omega⟩ ⟨by omega, by omega⟩ ⟨by omega, by omega⟩).mono ?_; rintro e w9 ⟨rfl, hb9⟩; have hk9 := Hold.step (by assumption) hb9)
      | (go_at_call 67; refine (sigC_any pub (backP 37 pub c s) b _ _ ⟨by omega, by omega⟩ ⟨by omega, by omega⟩ (hv.below (show Hold w _ #[.int .u64 c, .int .u64 s] 43 from by assumption).2 (by decide)) hl).mono ?_; rintro e w10 ⟨rfl, hb10⟩; have hk10 := Hold.step (by assumption) hb10))
        refine phPost_normal ⟨⟨⟨_, (show Hold _ _ _ _ from by first | assumption | exact Hold.alloc (by assumption) _).1⟩, rfl⟩, ?_⟩
        first | refine wpPh_cons ?_ | refine wpPh_nil ?_
        simp only [pickOps, List.flatMap_cons, List.flatMap_nil, List.drop_succ_cons, List.drop_zero, List.take_succ_cons, List.take_zero, List.cons_append, List.nil_append, List.append_nil]
        repeat (go_big_quiet_step (exact rfl))
        refine wpQuiet_nil ?_)
      go_wp2_with fail
      go_ret
      exact ⟨ret_bool HF.out.symm, (show Hold _ _ _ _ from by assumption).2⟩
  · have hd_hg := decide_eq_false hg
    have HF := Lib.hid (show decide (signOk pub b c s) = false by simp [signOk, hg])
    generalize decide (signOk pub b c s) = fin at *
    go_enter Try.func38, Try.ntmps38
    go_wp2_with fail
    try change Code.wp _ _ _ (Act.mk _ _) _
    haveI hne_ : Nonempty (InC (fun u => Blk u w.heap.size #[.int .u64 c, .int .u64 s] 43)) := ⟨⟨_, hk.1⟩⟩
    refine wp_region_ph (C := fun w_ => ∃ e_ : InC (fun u => Blk u w.heap.size #[.int .u64 c, .int .u64 s] 43), w_ = e_.u) [([0], 1), ([2, 3], 4), ([], 5), ([6, 7, 8, 9, 11, 13, 14], 10), ([], 12), ([15], 16)] [17] (by kernel_rfl) (by kernel_rfl) (fun _ _ _ _ hd_ h_ => ⟨hd_.symm.trans h_.1, h_.2⟩) ⟨⟨World.drew _, hk.1⟩, rfl⟩ ?_
    first | refine wpPh_cons ?_ | refine wpPh_nil ?_
    simp only [pickOps, List.flatMap_cons, List.flatMap_nil, List.drop_succ_cons, List.drop_zero, List.take_succ_cons, List.take_zero, List.cons_append, List.nil_append, List.append_nil]
    iterate 1 (go_big_quiet_step (exact rfl))
    refine wpQuiet_nil ?_
    iterate 6 (
      go_wp2_with (first
      | (go_at_call 53; refine (Right_any _ _ (by omega) (by omega)).mono ?_; rintro e w' ⟨rfl, rfl⟩; simp only [hd_hg])
      | (go_at_call 54; refine (PRight_any _ _ _).mono ?_; rintro e w8 ⟨rfl, hb8⟩; simp only [hd_hg]; have hk8 := Hold.step (cs := _) (t := _) (by assumption) hb8)
      | (go_at_call 55; refine (Back_any 37 pub c s _ ⟨by omega, by omega⟩ ⟨by omega, by omega⟩ ⟨by omega, by omega⟩ ⟨by omega, by omega⟩).mono ?_; rintro e w9 ⟨rfl, hb9⟩; have hk9 := Hold.step (by assumption) hb9)
      | (go_at_call 67; refine (sigC_any pub (backP 37 pub c s) b _ _ ⟨by omega, by omega⟩ ⟨by omega, by omega⟩ (hv.below (show Hold w _ #[.int .u64 c, .int .u64 s] 43 from by assumption).2 (by decide)) hl).mono ?_; rintro e w10 ⟨rfl, hb10⟩; have hk10 := Hold.step (by assumption) hb10))
      refine phPost_normal ⟨⟨⟨_, (show Hold _ _ _ _ from by first | assumption | exact Hold.alloc (by assumption) _).1⟩, rfl⟩, ?_⟩
      first | refine wpPh_cons ?_ | refine wpPh_nil ?_
      simp only [pickOps, List.flatMap_cons, List.flatMap_nil, List.drop_succ_cons, List.drop_zero, List.take_succ_cons, List.take_zero, List.cons_append, List.nil_append, List.append_nil]
      repeat (go_big_quiet_step (exact rfl))
      refine wpQuiet_nil ?_)
    go_wp2_with fail
    go_ret
    exact ⟨ret_bool HF.out.symm, (show Hold _ _ _ _ from by assumption).2⟩
set_option maxRecDepth 100000 in
set_option maxHeartbeats 1000000 in
theorem SCheckr_any (pub c s : Int) (b : List UInt8) (v : Value) (w : World) (hp : in64 pub) (hc : in64 c) (hs : in64 s) (hv : SeesB w v b) (hl : b.length ≤ 70368744170000) :
    Calls Try.prog 40 #[.int .u64 pub, v, PV c s] w fun e w' => e = .returned (.bool (decide (signOk pub b c s))) ∧ Below w.heap.size w w' := by
  obtain ⟨p0, p1⟩ := hp; obtain ⟨c0, c1⟩ := hc; obtain ⟨s0, s1⟩ := hs
  obtain ⟨a0, n0, rfl, hac0, hc0⟩ := sees_form hv
  obtain ⟨q0, q1⟩ := backP_pos 37 pub c s
  have hS0 : ∀ e : InC (fun u => Blk u w.heap.size #[.int .u64 c, .int .u64 s] 43), e.u.cell? ⟨w.heap.size, 0, none⟩ = some (.int .u64 c) := fun e => e.has.cell 0
  have hS1 : ∀ e : InC (fun u => Blk u w.heap.size #[.int .u64 c, .int .u64 s] 43), e.u.cell? ⟨w.heap.size, 1, none⟩ = some (.int .u64 s) := fun e => e.has.cell 1
  have hk := (Hold.start w #[.int .u64 c, .int .u64 s] 43).drew
  by_cases hg : okP pub
  · have hd_hg := decide_eq_true hg
    by_cases hp : smallP c s
    · have hd_hp := decide_eq_true hp
      have HF := Lib.hid (show decide (signOk pub b c s) = decide (sigC pub (backP 37 pub c s) b = c) by simp [signOk, hg, hp])
      generalize decide (signOk pub b c s) = fin at *
      go_enter Try.func40, Try.ntmps40
      go_wp2_with fail
      try change Code.wp _ _ _ (Act.mk _ _) _
      haveI hne_ : Nonempty (InC (fun u => Blk u w.heap.size #[.int .u64 c, .int .u64 s] 43)) := ⟨⟨_, hk.1⟩⟩
      refine wp_region_ph (C := fun w_ => ∃ e_ : InC (fun u => Blk u w.heap.size #[.int .u64 c, .int .u64 s] 43), w_ = e_.u) [([0], 1), ([2, 3], 4), ([], 5), ([6, 7, 8, 9, 11, 13, 14], 10), ([], 12), ([15], 16)] [17] (by kernel_rfl) (by kernel_rfl) (fun _ _ _ _ hd_ h_ => ⟨hd_.symm.trans h_.1, h_.2⟩) ⟨⟨World.drew _, hk.1⟩, rfl⟩ ?_
      first | refine wpPh_cons ?_ | refine wpPh_nil ?_
      simp only [pickOps, List.flatMap_cons, List.flatMap_nil, List.drop_succ_cons, List.drop_zero, List.take_succ_cons, List.take_zero, List.cons_append, List.nil_append, List.append_nil]
      iterate 1 (go_big_quiet_step (exact rfl))
      refine wpQuiet_nil ?_
      iterate 6 (
        go_wp2_with (first
      | (go_at_call 23; refine (Rightr_any _ _ (by omega) (by omega)).mono ?_; rintro e w' ⟨rfl, rfl⟩; simp only [hd_hg, hd_hp])
      | (go_at_call 63; refine (small_any _ _ _).mono ?_; rintro e w8 ⟨rfl, hb8⟩; simp only [hd_hg, hd_hp]; have hk8 := Hold.step (cs := _) (t := _) (by assumption) hb8)
      | (go_at_call 64; refine (back_any 37 pub c s _ ⟨by omega, by omega⟩ ⟨by omega, by omega⟩ ⟨by omega, by omega⟩ ⟨by omega, by omega⟩).mono ?_; rintro e w9 ⟨rfl, hb9⟩; have hk9 := Hold.step (by assumption) hb9)
      | (go_at_call 69; refine (sigCr_any pub (backP 37 pub c s) b _ _ ⟨by omega, by omega⟩ ⟨by omega, by omega⟩ (hv.below (show Hold w _ #[.int .u64 c, .int .u64 s] 43 from by assumption).2 (by decide)) hl).mono ?_; rintro e w10 ⟨rfl, hb10⟩; have hk10 := Hold.step (by assumption) hb10))
        refine phPost_normal ⟨⟨⟨_, (show Hold _ _ _ _ from by first | assumption | exact Hold.alloc (by assumption) _).1⟩, rfl⟩, ?_⟩
        first | refine wpPh_cons ?_ | refine wpPh_nil ?_
        simp only [pickOps, List.flatMap_cons, List.flatMap_nil, List.drop_succ_cons, List.drop_zero, List.take_succ_cons, List.take_zero, List.cons_append, List.nil_append, List.append_nil]
        repeat (go_big_quiet_step (exact rfl))
        refine wpQuiet_nil ?_)
      go_wp2_with fail
      go_ret
      exact ⟨ret_bool (by rw [HF.out]; rfl), (show Hold _ _ _ _ from by assumption).2⟩
    · have hd_hp := decide_eq_false hp
      have HF := Lib.hid (show decide (signOk pub b c s) = false by simp [signOk, hp])
      generalize decide (signOk pub b c s) = fin at *
      go_enter Try.func40, Try.ntmps40
      go_wp2_with fail
      try change Code.wp _ _ _ (Act.mk _ _) _
      haveI hne_ : Nonempty (InC (fun u => Blk u w.heap.size #[.int .u64 c, .int .u64 s] 43)) := ⟨⟨_, hk.1⟩⟩
      refine wp_region_ph (C := fun w_ => ∃ e_ : InC (fun u => Blk u w.heap.size #[.int .u64 c, .int .u64 s] 43), w_ = e_.u) [([0], 1), ([2, 3], 4), ([], 5), ([6, 7, 8, 9, 11, 13, 14], 10), ([], 12), ([15], 16)] [17] (by kernel_rfl) (by kernel_rfl) (fun _ _ _ _ hd_ h_ => ⟨hd_.symm.trans h_.1, h_.2⟩) ⟨⟨World.drew _, hk.1⟩, rfl⟩ ?_
      first | refine wpPh_cons ?_ | refine wpPh_nil ?_
      simp only [pickOps, List.flatMap_cons, List.flatMap_nil, List.drop_succ_cons, List.drop_zero, List.take_succ_cons, List.take_zero, List.cons_append, List.nil_append, List.append_nil]
      iterate 1 (go_big_quiet_step (exact rfl))
      refine wpQuiet_nil ?_
      iterate 6 (
        go_wp2_with (first
      | (go_at_call 23; refine (Rightr_any _ _ (by omega) (by omega)).mono ?_; rintro e w' ⟨rfl, rfl⟩; simp only [hd_hg, hd_hp])
      | (go_at_call 63; refine (small_any _ _ _).mono ?_; rintro e w8 ⟨rfl, hb8⟩; simp only [hd_hg, hd_hp]; have hk8 := Hold.step (cs := _) (t := _) (by assumption) hb8)
      | (go_at_call 64; refine (back_any 37 pub c s _ ⟨by omega, by omega⟩ ⟨by omega, by omega⟩ ⟨by omega, by omega⟩ ⟨by omega, by omega⟩).mono ?_; rintro e w9 ⟨rfl, hb9⟩; have hk9 := Hold.step (by assumption) hb9)
      | (go_at_call 69; refine (sigCr_any pub (backP 37 pub c s) b _ _ ⟨by omega, by omega⟩ ⟨by omega, by omega⟩ (hv.below (show Hold w _ #[.int .u64 c, .int .u64 s] 43 from by assumption).2 (by decide)) hl).mono ?_; rintro e w10 ⟨rfl, hb10⟩; have hk10 := Hold.step (by assumption) hb10))
        refine phPost_normal ⟨⟨⟨_, (show Hold _ _ _ _ from by first | assumption | exact Hold.alloc (by assumption) _).1⟩, rfl⟩, ?_⟩
        first | refine wpPh_cons ?_ | refine wpPh_nil ?_
        simp only [pickOps, List.flatMap_cons, List.flatMap_nil, List.drop_succ_cons, List.drop_zero, List.take_succ_cons, List.take_zero, List.cons_append, List.nil_append, List.append_nil]
        repeat (go_big_quiet_step (exact rfl))
        refine wpQuiet_nil ?_)
      go_wp2_with fail
      go_ret
      exact ⟨ret_bool HF.out.symm, (show Hold _ _ _ _ from by assumption).2⟩
  · have hd_hg := decide_eq_false hg
    have HF := Lib.hid (show decide (signOk pub b c s) = false by simp [signOk, hg])
    generalize decide (signOk pub b c s) = fin at *
    go_enter Try.func40, Try.ntmps40
    go_wp2_with fail
    try change Code.wp _ _ _ (Act.mk _ _) _
    haveI hne_ : Nonempty (InC (fun u => Blk u w.heap.size #[.int .u64 c, .int .u64 s] 43)) := ⟨⟨_, hk.1⟩⟩
    refine wp_region_ph (C := fun w_ => ∃ e_ : InC (fun u => Blk u w.heap.size #[.int .u64 c, .int .u64 s] 43), w_ = e_.u) [([0], 1), ([2, 3], 4), ([], 5), ([6, 7, 8, 9, 11, 13, 14], 10), ([], 12), ([15], 16)] [17] (by kernel_rfl) (by kernel_rfl) (fun _ _ _ _ hd_ h_ => ⟨hd_.symm.trans h_.1, h_.2⟩) ⟨⟨World.drew _, hk.1⟩, rfl⟩ ?_
    first | refine wpPh_cons ?_ | refine wpPh_nil ?_
    simp only [pickOps, List.flatMap_cons, List.flatMap_nil, List.drop_succ_cons, List.drop_zero, List.take_succ_cons, List.take_zero, List.cons_append, List.nil_append, List.append_nil]
    iterate 1 (go_big_quiet_step (exact rfl))
    refine wpQuiet_nil ?_
    iterate 6 (
      go_wp2_with (first
      | (go_at_call 23; refine (Rightr_any _ _ (by omega) (by omega)).mono ?_; rintro e w' ⟨rfl, rfl⟩; simp only [hd_hg])
      | (go_at_call 63; refine (small_any _ _ _).mono ?_; rintro e w8 ⟨rfl, hb8⟩; simp only [hd_hg]; have hk8 := Hold.step (cs := _) (t := _) (by assumption) hb8)
      | (go_at_call 64; refine (back_any 37 pub c s _ ⟨by omega, by omega⟩ ⟨by omega, by omega⟩ ⟨by omega, by omega⟩ ⟨by omega, by omega⟩).mono ?_; rintro e w9 ⟨rfl, hb9⟩; have hk9 := Hold.step (by assumption) hb9)
      | (go_at_call 69; refine (sigCr_any pub (backP 37 pub c s) b _ _ ⟨by omega, by omega⟩ ⟨by omega, by omega⟩ (hv.below (show Hold w _ #[.int .u64 c, .int .u64 s] 43 from by assumption).2 (by decide)) hl).mono ?_; rintro e w10 ⟨rfl, hb10⟩; have hk10 := Hold.step (by assumption) hb10))
      refine phPost_normal ⟨⟨⟨_, (show Hold _ _ _ _ from by first | assumption | exact Hold.alloc (by assumption) _).1⟩, rfl⟩, ?_⟩
      first | refine wpPh_cons ?_ | refine wpPh_nil ?_
      simp only [pickOps, List.flatMap_cons, List.flatMap_nil, List.drop_succ_cons, List.drop_zero, List.take_succ_cons, List.take_zero, List.cons_append, List.nil_append, List.append_nil]
      repeat (go_big_quiet_step (exact rfl))
      refine wpQuiet_nil ?_)
    go_wp2_with fail
    go_ret
    exact ⟨ret_bool HF.out.symm, (show Hold _ _ _ _ from by assumption).2⟩
end Go.Proofs.Yteialfdhbfbkgaa
