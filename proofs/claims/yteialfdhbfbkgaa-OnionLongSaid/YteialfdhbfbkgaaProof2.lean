/-
  Proofs of knowledge checked: both programs. (Printed by wip/gen_proof2.py.)
-/
import Derived.Test.YteialfdhbfbkgaaProof1
namespace Go.Proofs.Yteialfdhbfbkgaa
set_option linter.unusedVariables false
set_option linter.unusedSimpArgs false
open Go Go.RowKit

/-- The call's first block is as it was laid, and nothing older is touched. -/
def Hold (w w1 : World) (cs : Array Value) (t : TypeId) : Prop := Blk w1 w.heap.size cs t ∧ Below w.heap.size w w1
theorem Hold.start (w : World) (cs : Array Value) (t : TypeId) : Hold w (w.alloc (.cells cs t)) cs t := ⟨Blk.new w _ _, by go_grown⟩
theorem Hold.drew {w w1 : World} {cs : Array Value} {t : TypeId} (h : Hold w w1 cs t) : Hold w w1.drew cs t := ⟨h.1.drew, h.2.drew⟩
theorem Hold.alloc {w w1 : World} {cs : Array Value} {t : TypeId} (h : Hold w w1 cs t) (o : Obj) : Hold w (w1.alloc o) cs t := ⟨h.1.alloc o, h.2.alloc h.2.size o⟩
theorem Hold.step {w w1 w2 : World} {cs : Array Value} {t : TypeId} (h : Hold w w1 cs t) (hb : Below w1.heap.size w1 w2) : Hold w w2 cs t := ⟨h.1.below hb, h.2.trans (hb.mono h.2.size)⟩

def knowOk (g x c s : Int) : Prop := okP g ∧ okP x ∧ smallP c s ∧ chal knowS [g, x, backP g x c s] = c
instance (g x c s : Int) : Decidable (knowOk g x c s) := by unfold knowOk; infer_instance
def equalOk (g x h y c s : Int) : Prop := okP g ∧ okP x ∧ okP h ∧ okP y ∧ smallP c s ∧ chal equalS [g, x, h, y, backP g x c s, backP h y c s] = c
instance (g x h y c s : Int) : Decidable (equalOk g x h y c s) := by unfold equalOk; infer_instance
set_option maxHeartbeats 1000000 in
theorem CheckKnow_any (g x c s : Int) (w : World) (hg : in64 g) (hx : in64 x) (hc : in64 c) (hs : in64 s) :
    Calls Try.prog 27 #[.int .u64 g, .int .u64 x, PV c s] w fun e w' => e = .returned (.bool (decide (knowOk g x c s))) ∧ Below w.heap.size w w' := by
  have HI := Lib.hid (show ∀ z ∈ [g, x, backP g x c s], in64 z by intro z hz; simp at hz; rcases hz with rfl | rfl | rfl <;> first | assumption | exact in64_P (backP_pos _ _ _ _))
  obtain ⟨g0, g1⟩ := hg; obtain ⟨x0, x1⟩ := hx; obtain ⟨c0, c1⟩ := hc; obtain ⟨s0, s1⟩ := hs
  have hS0 : ∀ e : InC (fun u => Blk u w.heap.size #[.int .u64 c, .int .u64 s] 43), e.u.cell? ⟨w.heap.size, 0, none⟩ = some (.int .u64 c) := fun e => e.has.cell 0
  have hS1 : ∀ e : InC (fun u => Blk u w.heap.size #[.int .u64 c, .int .u64 s] 43), e.u.cell? ⟨w.heap.size, 1, none⟩ = some (.int .u64 s) := fun e => e.has.cell 1
  have hk := (Hold.start w #[.int .u64 c, .int .u64 s] 43).drew
  by_cases hg : okP g
  · have hd_hg := decide_eq_true hg
    by_cases hx : okP x
    · have hd_hx := decide_eq_true hx
      by_cases hp : smallP c s
      · have hd_hp := decide_eq_true hp
        have HF := Lib.hid (show decide (knowOk g x c s) = decide (chal knowS [g, x, backP g x c s] = c) by simp [knowOk, hg, hx, hp])
        generalize decide (knowOk g x c s) = fin at *
        go_enter Try.func27, Try.ntmps27
        go_wp2_with fail
        try change Code.wp _ _ _ (Act.mk _ _) _
        haveI hne_ : Nonempty (InC (fun u => Blk u w.heap.size #[.int .u64 c, .int .u64 s] 43)) := ⟨⟨_, hk.1⟩⟩
        refine wp_region_ph (C := fun w_ => ∃ e_ : InC (fun u => Blk u w.heap.size #[.int .u64 c, .int .u64 s] 43), w_ = e_.u) [([0], 1), ([2, 3], 4), ([], 5), ([6, 7], 8), ([], 9), ([10, 11, 12, 13, 14, 15, 19, 20], 16), ([], 17), ([], 18), ([21], 22)] [23] (by kernel_rfl) (by kernel_rfl) (fun _ _ _ _ hd_ h_ => ⟨hd_.symm.trans h_.1, h_.2⟩) ⟨⟨World.drew _, hk.1⟩, rfl⟩ ?_
        first | refine wpPh_cons ?_ | refine wpPh_nil ?_
        simp only [pickOps, List.flatMap_cons, List.flatMap_nil, List.drop_succ_cons, List.drop_zero, List.take_succ_cons, List.take_zero, List.cons_append, List.nil_append, List.append_nil]
        iterate 1 (go_big_quiet_step (exact rfl))
        refine wpQuiet_nil ?_
        iterate 9 (
          go_wp2_with (first
      | (go_at_call 53; refine (Right_any _ _ (by omega) (by omega)).mono ?_; rintro e w' ⟨rfl, rfl⟩; simp only [hd_hg, hd_hx, hd_hp])
      | (go_at_call 54; refine (PRight_any _ _ _).mono ?_; rintro e w8 ⟨rfl, hb8⟩; simp only [hd_hg, hd_hx, hd_hp]; have hk8 := Hold.step (cs := _) (t := _) (by assumption) hb8)
      | (go_at_call 55; refine (Back_any _ _ _ _ _ ⟨by omega, by omega⟩ ⟨by omega, by omega⟩ ⟨by omega, by omega⟩ ⟨by omega, by omega⟩).mono ?_; rintro e w9 ⟨rfl, hb9⟩; have hk9 := Hold.step (by assumption) hb9)
      | (go_at_call 28; refine (Challenge_any _ knowS _ [g, x, backP g x c s] (sees_new _ 1 _ _ 3 rfl (by decide)) HI.out (by decide) (by show 3 ≤ 1000000; omega)).mono ?_; rintro e w10 ⟨rfl, hb10⟩; have hk10 := Hold.step (Hold.alloc (by assumption) _) hb10))
          refine phPost_normal ⟨⟨⟨_, (show Hold _ _ _ _ from by first | assumption | exact Hold.alloc (by assumption) _).1⟩, rfl⟩, ?_⟩
          first | refine wpPh_cons ?_ | refine wpPh_nil ?_
          simp only [pickOps, List.flatMap_cons, List.flatMap_nil, List.drop_succ_cons, List.drop_zero, List.take_succ_cons, List.take_zero, List.cons_append, List.nil_append, List.append_nil]
          repeat (go_big_quiet_step (exact rfl))
          refine wpQuiet_nil ?_)
        go_wp2_with fail
        go_ret
        exact ⟨ret_bool (by rw [HF.out]; rfl), (show Hold _ _ _ _ from by assumption).2⟩
      · have hd_hp := decide_eq_false hp
        have HF := Lib.hid (show decide (knowOk g x c s) = false by simp [knowOk, hp])
        generalize decide (knowOk g x c s) = fin at *
        go_enter Try.func27, Try.ntmps27
        go_wp2_with fail
        try change Code.wp _ _ _ (Act.mk _ _) _
        haveI hne_ : Nonempty (InC (fun u => Blk u w.heap.size #[.int .u64 c, .int .u64 s] 43)) := ⟨⟨_, hk.1⟩⟩
        refine wp_region_ph (C := fun w_ => ∃ e_ : InC (fun u => Blk u w.heap.size #[.int .u64 c, .int .u64 s] 43), w_ = e_.u) [([0], 1), ([2, 3], 4), ([], 5), ([6, 7], 8), ([], 9), ([10, 11, 12, 13, 14, 15, 19, 20], 16), ([], 17), ([], 18), ([21], 22)] [23] (by kernel_rfl) (by kernel_rfl) (fun _ _ _ _ hd_ h_ => ⟨hd_.symm.trans h_.1, h_.2⟩) ⟨⟨World.drew _, hk.1⟩, rfl⟩ ?_
        first | refine wpPh_cons ?_ | refine wpPh_nil ?_
        simp only [pickOps, List.flatMap_cons, List.flatMap_nil, List.drop_succ_cons, List.drop_zero, List.take_succ_cons, List.take_zero, List.cons_append, List.nil_append, List.append_nil]
        iterate 1 (go_big_quiet_step (exact rfl))
        refine wpQuiet_nil ?_
        iterate 9 (
          go_wp2_with (first
      | (go_at_call 53; refine (Right_any _ _ (by omega) (by omega)).mono ?_; rintro e w' ⟨rfl, rfl⟩; simp only [hd_hg, hd_hx, hd_hp])
      | (go_at_call 54; refine (PRight_any _ _ _).mono ?_; rintro e w8 ⟨rfl, hb8⟩; simp only [hd_hg, hd_hx, hd_hp]; have hk8 := Hold.step (cs := _) (t := _) (by assumption) hb8)
      | (go_at_call 55; refine (Back_any _ _ _ _ _ ⟨by omega, by omega⟩ ⟨by omega, by omega⟩ ⟨by omega, by omega⟩ ⟨by omega, by omega⟩).mono ?_; rintro e w9 ⟨rfl, hb9⟩; have hk9 := Hold.step (by assumption) hb9)
      | (go_at_call 28; refine (Challenge_any _ knowS _ [g, x, backP g x c s] (sees_new _ 1 _ _ 3 rfl (by decide)) HI.out (by decide) (by show 3 ≤ 1000000; omega)).mono ?_; rintro e w10 ⟨rfl, hb10⟩; have hk10 := Hold.step (Hold.alloc (by assumption) _) hb10))
          refine phPost_normal ⟨⟨⟨_, (show Hold _ _ _ _ from by first | assumption | exact Hold.alloc (by assumption) _).1⟩, rfl⟩, ?_⟩
          first | refine wpPh_cons ?_ | refine wpPh_nil ?_
          simp only [pickOps, List.flatMap_cons, List.flatMap_nil, List.drop_succ_cons, List.drop_zero, List.take_succ_cons, List.take_zero, List.cons_append, List.nil_append, List.append_nil]
          repeat (go_big_quiet_step (exact rfl))
          refine wpQuiet_nil ?_)
        go_wp2_with fail
        go_ret
        exact ⟨ret_bool HF.out.symm, (show Hold _ _ _ _ from by assumption).2⟩
    · have hd_hx := decide_eq_false hx
      have HF := Lib.hid (show decide (knowOk g x c s) = false by simp [knowOk, hx])
      generalize decide (knowOk g x c s) = fin at *
      go_enter Try.func27, Try.ntmps27
      go_wp2_with fail
      try change Code.wp _ _ _ (Act.mk _ _) _
      haveI hne_ : Nonempty (InC (fun u => Blk u w.heap.size #[.int .u64 c, .int .u64 s] 43)) := ⟨⟨_, hk.1⟩⟩
      refine wp_region_ph (C := fun w_ => ∃ e_ : InC (fun u => Blk u w.heap.size #[.int .u64 c, .int .u64 s] 43), w_ = e_.u) [([0], 1), ([2, 3], 4), ([], 5), ([6, 7], 8), ([], 9), ([10, 11, 12, 13, 14, 15, 19, 20], 16), ([], 17), ([], 18), ([21], 22)] [23] (by kernel_rfl) (by kernel_rfl) (fun _ _ _ _ hd_ h_ => ⟨hd_.symm.trans h_.1, h_.2⟩) ⟨⟨World.drew _, hk.1⟩, rfl⟩ ?_
      first | refine wpPh_cons ?_ | refine wpPh_nil ?_
      simp only [pickOps, List.flatMap_cons, List.flatMap_nil, List.drop_succ_cons, List.drop_zero, List.take_succ_cons, List.take_zero, List.cons_append, List.nil_append, List.append_nil]
      iterate 1 (go_big_quiet_step (exact rfl))
      refine wpQuiet_nil ?_
      iterate 9 (
        go_wp2_with (first
      | (go_at_call 53; refine (Right_any _ _ (by omega) (by omega)).mono ?_; rintro e w' ⟨rfl, rfl⟩; simp only [hd_hg, hd_hx])
      | (go_at_call 54; refine (PRight_any _ _ _).mono ?_; rintro e w8 ⟨rfl, hb8⟩; simp only [hd_hg, hd_hx]; have hk8 := Hold.step (cs := _) (t := _) (by assumption) hb8)
      | (go_at_call 55; refine (Back_any _ _ _ _ _ ⟨by omega, by omega⟩ ⟨by omega, by omega⟩ ⟨by omega, by omega⟩ ⟨by omega, by omega⟩).mono ?_; rintro e w9 ⟨rfl, hb9⟩; have hk9 := Hold.step (by assumption) hb9)
      | (go_at_call 28; refine (Challenge_any _ knowS _ [g, x, backP g x c s] (sees_new _ 1 _ _ 3 rfl (by decide)) HI.out (by decide) (by show 3 ≤ 1000000; omega)).mono ?_; rintro e w10 ⟨rfl, hb10⟩; have hk10 := Hold.step (Hold.alloc (by assumption) _) hb10))
        refine phPost_normal ⟨⟨⟨_, (show Hold _ _ _ _ from by first | assumption | exact Hold.alloc (by assumption) _).1⟩, rfl⟩, ?_⟩
        first | refine wpPh_cons ?_ | refine wpPh_nil ?_
        simp only [pickOps, List.flatMap_cons, List.flatMap_nil, List.drop_succ_cons, List.drop_zero, List.take_succ_cons, List.take_zero, List.cons_append, List.nil_append, List.append_nil]
        repeat (go_big_quiet_step (exact rfl))
        refine wpQuiet_nil ?_)
      go_wp2_with fail
      go_ret
      exact ⟨ret_bool HF.out.symm, (show Hold _ _ _ _ from by assumption).2⟩
  · have hd_hg := decide_eq_false hg
    have HF := Lib.hid (show decide (knowOk g x c s) = false by simp [knowOk, hg])
    generalize decide (knowOk g x c s) = fin at *
    go_enter Try.func27, Try.ntmps27
    go_wp2_with fail
    try change Code.wp _ _ _ (Act.mk _ _) _
    haveI hne_ : Nonempty (InC (fun u => Blk u w.heap.size #[.int .u64 c, .int .u64 s] 43)) := ⟨⟨_, hk.1⟩⟩
    refine wp_region_ph (C := fun w_ => ∃ e_ : InC (fun u => Blk u w.heap.size #[.int .u64 c, .int .u64 s] 43), w_ = e_.u) [([0], 1), ([2, 3], 4), ([], 5), ([6, 7], 8), ([], 9), ([10, 11, 12, 13, 14, 15, 19, 20], 16), ([], 17), ([], 18), ([21], 22)] [23] (by kernel_rfl) (by kernel_rfl) (fun _ _ _ _ hd_ h_ => ⟨hd_.symm.trans h_.1, h_.2⟩) ⟨⟨World.drew _, hk.1⟩, rfl⟩ ?_
    first | refine wpPh_cons ?_ | refine wpPh_nil ?_
    simp only [pickOps, List.flatMap_cons, List.flatMap_nil, List.drop_succ_cons, List.drop_zero, List.take_succ_cons, List.take_zero, List.cons_append, List.nil_append, List.append_nil]
    iterate 1 (go_big_quiet_step (exact rfl))
    refine wpQuiet_nil ?_
    iterate 9 (
      go_wp2_with (first
      | (go_at_call 53; refine (Right_any _ _ (by omega) (by omega)).mono ?_; rintro e w' ⟨rfl, rfl⟩; simp only [hd_hg])
      | (go_at_call 54; refine (PRight_any _ _ _).mono ?_; rintro e w8 ⟨rfl, hb8⟩; simp only [hd_hg]; have hk8 := Hold.step (cs := _) (t := _) (by assumption) hb8)
      | (go_at_call 55; refine (Back_any _ _ _ _ _ ⟨by omega, by omega⟩ ⟨by omega, by omega⟩ ⟨by omega, by omega⟩ ⟨by omega, by omega⟩).mono ?_; rintro e w9 ⟨rfl, hb9⟩; have hk9 := Hold.step (by assumption) hb9)
      | (go_at_call 28; refine (Challenge_any _ knowS _ [g, x, backP g x c s] (sees_new _ 1 _ _ 3 rfl (by decide)) HI.out (by decide) (by show 3 ≤ 1000000; omega)).mono ?_; rintro e w10 ⟨rfl, hb10⟩; have hk10 := Hold.step (Hold.alloc (by assumption) _) hb10))
      refine phPost_normal ⟨⟨⟨_, (show Hold _ _ _ _ from by first | assumption | exact Hold.alloc (by assumption) _).1⟩, rfl⟩, ?_⟩
      first | refine wpPh_cons ?_ | refine wpPh_nil ?_
      simp only [pickOps, List.flatMap_cons, List.flatMap_nil, List.drop_succ_cons, List.drop_zero, List.take_succ_cons, List.take_zero, List.cons_append, List.nil_append, List.append_nil]
      repeat (go_big_quiet_step (exact rfl))
      refine wpQuiet_nil ?_)
    go_wp2_with fail
    go_ret
    exact ⟨ret_bool HF.out.symm, (show Hold _ _ _ _ from by assumption).2⟩
set_option maxHeartbeats 1000000 in
theorem CheckKnowr_any (g x c s : Int) (w : World) (hg : in64 g) (hx : in64 x) (hc : in64 c) (hs : in64 s) :
    Calls Try.prog 33 #[.int .u64 g, .int .u64 x, PV c s] w fun e w' => e = .returned (.bool (decide (knowOk g x c s))) ∧ Below w.heap.size w w' := by
  have HI := Lib.hid (show ∀ z ∈ [g, x, backP g x c s], in64 z by intro z hz; simp at hz; rcases hz with rfl | rfl | rfl <;> first | assumption | exact in64_P (backP_pos _ _ _ _))
  obtain ⟨g0, g1⟩ := hg; obtain ⟨x0, x1⟩ := hx; obtain ⟨c0, c1⟩ := hc; obtain ⟨s0, s1⟩ := hs
  have hS0 : ∀ e : InC (fun u => Blk u w.heap.size #[.int .u64 c, .int .u64 s] 43), e.u.cell? ⟨w.heap.size, 0, none⟩ = some (.int .u64 c) := fun e => e.has.cell 0
  have hS1 : ∀ e : InC (fun u => Blk u w.heap.size #[.int .u64 c, .int .u64 s] 43), e.u.cell? ⟨w.heap.size, 1, none⟩ = some (.int .u64 s) := fun e => e.has.cell 1
  have hk := (Hold.start w #[.int .u64 c, .int .u64 s] 43).drew
  by_cases hg : okP g
  · have hd_hg := decide_eq_true hg
    by_cases hx : okP x
    · have hd_hx := decide_eq_true hx
      by_cases hp : smallP c s
      · have hd_hp := decide_eq_true hp
        have HF := Lib.hid (show decide (knowOk g x c s) = decide (chal knowS [g, x, backP g x c s] = c) by simp [knowOk, hg, hx, hp])
        generalize decide (knowOk g x c s) = fin at *
        go_enter Try.func33, Try.ntmps33
        go_wp2_with fail
        try change Code.wp _ _ _ (Act.mk _ _) _
        haveI hne_ : Nonempty (InC (fun u => Blk u w.heap.size #[.int .u64 c, .int .u64 s] 43)) := ⟨⟨_, hk.1⟩⟩
        refine wp_region_ph (C := fun w_ => ∃ e_ : InC (fun u => Blk u w.heap.size #[.int .u64 c, .int .u64 s] 43), w_ = e_.u) [([0], 1), ([2, 3], 4), ([], 5), ([6, 7], 8), ([], 9), ([10, 11, 12, 13, 14, 15, 19, 20], 16), ([], 17), ([], 18), ([21], 22)] [23] (by kernel_rfl) (by kernel_rfl) (fun _ _ _ _ hd_ h_ => ⟨hd_.symm.trans h_.1, h_.2⟩) ⟨⟨World.drew _, hk.1⟩, rfl⟩ ?_
        first | refine wpPh_cons ?_ | refine wpPh_nil ?_
        simp only [pickOps, List.flatMap_cons, List.flatMap_nil, List.drop_succ_cons, List.drop_zero, List.take_succ_cons, List.take_zero, List.cons_append, List.nil_append, List.append_nil]
        iterate 1 (go_big_quiet_step (exact rfl))
        refine wpQuiet_nil ?_
        iterate 9 (
          go_wp2_with (first
      | (go_at_call 23; refine (Rightr_any _ _ (by omega) (by omega)).mono ?_; rintro e w' ⟨rfl, rfl⟩; simp only [hd_hg, hd_hx, hd_hp])
      | (go_at_call 63; refine (small_any _ _ _).mono ?_; rintro e w8 ⟨rfl, hb8⟩; simp only [hd_hg, hd_hx, hd_hp]; have hk8 := Hold.step (cs := _) (t := _) (by assumption) hb8)
      | (go_at_call 64; refine (back_any _ _ _ _ _ ⟨by omega, by omega⟩ ⟨by omega, by omega⟩ ⟨by omega, by omega⟩ ⟨by omega, by omega⟩).mono ?_; rintro e w9 ⟨rfl, hb9⟩; have hk9 := Hold.step (by assumption) hb9)
      | (go_at_call 29; refine (Challenger_any _ knowS _ [g, x, backP g x c s] (sees_new _ 1 _ _ 3 rfl (by decide)) HI.out (by decide) (by show 3 ≤ 1000000; omega)).mono ?_; rintro e w10 ⟨rfl, hb10⟩; have hk10 := Hold.step (Hold.alloc (by assumption) _) hb10))
          refine phPost_normal ⟨⟨⟨_, (show Hold _ _ _ _ from by first | assumption | exact Hold.alloc (by assumption) _).1⟩, rfl⟩, ?_⟩
          first | refine wpPh_cons ?_ | refine wpPh_nil ?_
          simp only [pickOps, List.flatMap_cons, List.flatMap_nil, List.drop_succ_cons, List.drop_zero, List.take_succ_cons, List.take_zero, List.cons_append, List.nil_append, List.append_nil]
          repeat (go_big_quiet_step (exact rfl))
          refine wpQuiet_nil ?_)
        go_wp2_with fail
        go_ret
        exact ⟨ret_bool (by rw [HF.out]; rfl), (show Hold _ _ _ _ from by assumption).2⟩
      · have hd_hp := decide_eq_false hp
        have HF := Lib.hid (show decide (knowOk g x c s) = false by simp [knowOk, hp])
        generalize decide (knowOk g x c s) = fin at *
        go_enter Try.func33, Try.ntmps33
        go_wp2_with fail
        try change Code.wp _ _ _ (Act.mk _ _) _
        haveI hne_ : Nonempty (InC (fun u => Blk u w.heap.size #[.int .u64 c, .int .u64 s] 43)) := ⟨⟨_, hk.1⟩⟩
        refine wp_region_ph (C := fun w_ => ∃ e_ : InC (fun u => Blk u w.heap.size #[.int .u64 c, .int .u64 s] 43), w_ = e_.u) [([0], 1), ([2, 3], 4), ([], 5), ([6, 7], 8), ([], 9), ([10, 11, 12, 13, 14, 15, 19, 20], 16), ([], 17), ([], 18), ([21], 22)] [23] (by kernel_rfl) (by kernel_rfl) (fun _ _ _ _ hd_ h_ => ⟨hd_.symm.trans h_.1, h_.2⟩) ⟨⟨World.drew _, hk.1⟩, rfl⟩ ?_
        first | refine wpPh_cons ?_ | refine wpPh_nil ?_
        simp only [pickOps, List.flatMap_cons, List.flatMap_nil, List.drop_succ_cons, List.drop_zero, List.take_succ_cons, List.take_zero, List.cons_append, List.nil_append, List.append_nil]
        iterate 1 (go_big_quiet_step (exact rfl))
        refine wpQuiet_nil ?_
        iterate 9 (
          go_wp2_with (first
      | (go_at_call 23; refine (Rightr_any _ _ (by omega) (by omega)).mono ?_; rintro e w' ⟨rfl, rfl⟩; simp only [hd_hg, hd_hx, hd_hp])
      | (go_at_call 63; refine (small_any _ _ _).mono ?_; rintro e w8 ⟨rfl, hb8⟩; simp only [hd_hg, hd_hx, hd_hp]; have hk8 := Hold.step (cs := _) (t := _) (by assumption) hb8)
      | (go_at_call 64; refine (back_any _ _ _ _ _ ⟨by omega, by omega⟩ ⟨by omega, by omega⟩ ⟨by omega, by omega⟩ ⟨by omega, by omega⟩).mono ?_; rintro e w9 ⟨rfl, hb9⟩; have hk9 := Hold.step (by assumption) hb9)
      | (go_at_call 29; refine (Challenger_any _ knowS _ [g, x, backP g x c s] (sees_new _ 1 _ _ 3 rfl (by decide)) HI.out (by decide) (by show 3 ≤ 1000000; omega)).mono ?_; rintro e w10 ⟨rfl, hb10⟩; have hk10 := Hold.step (Hold.alloc (by assumption) _) hb10))
          refine phPost_normal ⟨⟨⟨_, (show Hold _ _ _ _ from by first | assumption | exact Hold.alloc (by assumption) _).1⟩, rfl⟩, ?_⟩
          first | refine wpPh_cons ?_ | refine wpPh_nil ?_
          simp only [pickOps, List.flatMap_cons, List.flatMap_nil, List.drop_succ_cons, List.drop_zero, List.take_succ_cons, List.take_zero, List.cons_append, List.nil_append, List.append_nil]
          repeat (go_big_quiet_step (exact rfl))
          refine wpQuiet_nil ?_)
        go_wp2_with fail
        go_ret
        exact ⟨ret_bool HF.out.symm, (show Hold _ _ _ _ from by assumption).2⟩
    · have hd_hx := decide_eq_false hx
      have HF := Lib.hid (show decide (knowOk g x c s) = false by simp [knowOk, hx])
      generalize decide (knowOk g x c s) = fin at *
      go_enter Try.func33, Try.ntmps33
      go_wp2_with fail
      try change Code.wp _ _ _ (Act.mk _ _) _
      haveI hne_ : Nonempty (InC (fun u => Blk u w.heap.size #[.int .u64 c, .int .u64 s] 43)) := ⟨⟨_, hk.1⟩⟩
      refine wp_region_ph (C := fun w_ => ∃ e_ : InC (fun u => Blk u w.heap.size #[.int .u64 c, .int .u64 s] 43), w_ = e_.u) [([0], 1), ([2, 3], 4), ([], 5), ([6, 7], 8), ([], 9), ([10, 11, 12, 13, 14, 15, 19, 20], 16), ([], 17), ([], 18), ([21], 22)] [23] (by kernel_rfl) (by kernel_rfl) (fun _ _ _ _ hd_ h_ => ⟨hd_.symm.trans h_.1, h_.2⟩) ⟨⟨World.drew _, hk.1⟩, rfl⟩ ?_
      first | refine wpPh_cons ?_ | refine wpPh_nil ?_
      simp only [pickOps, List.flatMap_cons, List.flatMap_nil, List.drop_succ_cons, List.drop_zero, List.take_succ_cons, List.take_zero, List.cons_append, List.nil_append, List.append_nil]
      iterate 1 (go_big_quiet_step (exact rfl))
      refine wpQuiet_nil ?_
      iterate 9 (
        go_wp2_with (first
      | (go_at_call 23; refine (Rightr_any _ _ (by omega) (by omega)).mono ?_; rintro e w' ⟨rfl, rfl⟩; simp only [hd_hg, hd_hx])
      | (go_at_call 63; refine (small_any _ _ _).mono ?_; rintro e w8 ⟨rfl, hb8⟩; simp only [hd_hg, hd_hx]; have hk8 := Hold.step (cs := _) (t := _) (by assumption) hb8)
      | (go_at_call 64; refine (back_any _ _ _ _ _ ⟨by omega, by omega⟩ ⟨by omega, by omega⟩ ⟨by omega, by omega⟩ ⟨by omega, by omega⟩).mono ?_; rintro e w9 ⟨rfl, hb9⟩; have hk9 := Hold.step (by assumption) hb9)
      | (go_at_call 29; refine (Challenger_any _ knowS _ [g, x, backP g x c s] (sees_new _ 1 _ _ 3 rfl (by decide)) HI.out (by decide) (by show 3 ≤ 1000000; omega)).mono ?_; rintro e w10 ⟨rfl, hb10⟩; have hk10 := Hold.step (Hold.alloc (by assumption) _) hb10))
        refine phPost_normal ⟨⟨⟨_, (show Hold _ _ _ _ from by first | assumption | exact Hold.alloc (by assumption) _).1⟩, rfl⟩, ?_⟩
        first | refine wpPh_cons ?_ | refine wpPh_nil ?_
        simp only [pickOps, List.flatMap_cons, List.flatMap_nil, List.drop_succ_cons, List.drop_zero, List.take_succ_cons, List.take_zero, List.cons_append, List.nil_append, List.append_nil]
        repeat (go_big_quiet_step (exact rfl))
        refine wpQuiet_nil ?_)
      go_wp2_with fail
      go_ret
      exact ⟨ret_bool HF.out.symm, (show Hold _ _ _ _ from by assumption).2⟩
  · have hd_hg := decide_eq_false hg
    have HF := Lib.hid (show decide (knowOk g x c s) = false by simp [knowOk, hg])
    generalize decide (knowOk g x c s) = fin at *
    go_enter Try.func33, Try.ntmps33
    go_wp2_with fail
    try change Code.wp _ _ _ (Act.mk _ _) _
    haveI hne_ : Nonempty (InC (fun u => Blk u w.heap.size #[.int .u64 c, .int .u64 s] 43)) := ⟨⟨_, hk.1⟩⟩
    refine wp_region_ph (C := fun w_ => ∃ e_ : InC (fun u => Blk u w.heap.size #[.int .u64 c, .int .u64 s] 43), w_ = e_.u) [([0], 1), ([2, 3], 4), ([], 5), ([6, 7], 8), ([], 9), ([10, 11, 12, 13, 14, 15, 19, 20], 16), ([], 17), ([], 18), ([21], 22)] [23] (by kernel_rfl) (by kernel_rfl) (fun _ _ _ _ hd_ h_ => ⟨hd_.symm.trans h_.1, h_.2⟩) ⟨⟨World.drew _, hk.1⟩, rfl⟩ ?_
    first | refine wpPh_cons ?_ | refine wpPh_nil ?_
    simp only [pickOps, List.flatMap_cons, List.flatMap_nil, List.drop_succ_cons, List.drop_zero, List.take_succ_cons, List.take_zero, List.cons_append, List.nil_append, List.append_nil]
    iterate 1 (go_big_quiet_step (exact rfl))
    refine wpQuiet_nil ?_
    iterate 9 (
      go_wp2_with (first
      | (go_at_call 23; refine (Rightr_any _ _ (by omega) (by omega)).mono ?_; rintro e w' ⟨rfl, rfl⟩; simp only [hd_hg])
      | (go_at_call 63; refine (small_any _ _ _).mono ?_; rintro e w8 ⟨rfl, hb8⟩; simp only [hd_hg]; have hk8 := Hold.step (cs := _) (t := _) (by assumption) hb8)
      | (go_at_call 64; refine (back_any _ _ _ _ _ ⟨by omega, by omega⟩ ⟨by omega, by omega⟩ ⟨by omega, by omega⟩ ⟨by omega, by omega⟩).mono ?_; rintro e w9 ⟨rfl, hb9⟩; have hk9 := Hold.step (by assumption) hb9)
      | (go_at_call 29; refine (Challenger_any _ knowS _ [g, x, backP g x c s] (sees_new _ 1 _ _ 3 rfl (by decide)) HI.out (by decide) (by show 3 ≤ 1000000; omega)).mono ?_; rintro e w10 ⟨rfl, hb10⟩; have hk10 := Hold.step (Hold.alloc (by assumption) _) hb10))
      refine phPost_normal ⟨⟨⟨_, (show Hold _ _ _ _ from by first | assumption | exact Hold.alloc (by assumption) _).1⟩, rfl⟩, ?_⟩
      first | refine wpPh_cons ?_ | refine wpPh_nil ?_
      simp only [pickOps, List.flatMap_cons, List.flatMap_nil, List.drop_succ_cons, List.drop_zero, List.take_succ_cons, List.take_zero, List.cons_append, List.nil_append, List.append_nil]
      repeat (go_big_quiet_step (exact rfl))
      refine wpQuiet_nil ?_)
    go_wp2_with fail
    go_ret
    exact ⟨ret_bool HF.out.symm, (show Hold _ _ _ _ from by assumption).2⟩
set_option maxHeartbeats 2000000 in
theorem CheckEqualr_any (g x h y c s : Int) (w : World) (hg : in64 g) (hx : in64 x) (hh : in64 h) (hy : in64 y) (hc : in64 c) (hs : in64 s) :
    Calls Try.prog 35 #[.int .u64 g, .int .u64 x, .int .u64 h, .int .u64 y, PV c s] w fun e w' => e = .returned (.bool (decide (equalOk g x h y c s))) ∧ Below w.heap.size w w' := by
  have HI := Lib.hid (show ∀ z ∈ [g, x, h, y, backP g x c s, backP h y c s], in64 z by intro z hz; simp at hz; rcases hz with rfl | rfl | rfl | rfl | rfl | rfl <;> first | assumption | exact in64_P (backP_pos _ _ _ _))
  obtain ⟨g0, g1⟩ := hg; obtain ⟨x0, x1⟩ := hx; obtain ⟨h0, h1⟩ := hh; obtain ⟨y0, y1⟩ := hy; obtain ⟨c0, c1⟩ := hc; obtain ⟨s0, s1⟩ := hs
  have hS0 : ∀ e : InC (fun u => Blk u w.heap.size #[.int .u64 c, .int .u64 s] 43), e.u.cell? ⟨w.heap.size, 0, none⟩ = some (.int .u64 c) := fun e => e.has.cell 0
  have hS1 : ∀ e : InC (fun u => Blk u w.heap.size #[.int .u64 c, .int .u64 s] 43), e.u.cell? ⟨w.heap.size, 1, none⟩ = some (.int .u64 s) := fun e => e.has.cell 1
  have hk := (Hold.start w #[.int .u64 c, .int .u64 s] 43).drew
  by_cases hg : okP g
  · have hd_hg := decide_eq_true hg
    by_cases hx : okP x
    · have hd_hx := decide_eq_true hx
      by_cases hh : okP h
      · have hd_hh := decide_eq_true hh
        by_cases hy : okP y
        · have hd_hy := decide_eq_true hy
          by_cases hp : smallP c s
          · have hd_hp := decide_eq_true hp
            have HF := Lib.hid (show decide (equalOk g x h y c s) = decide (chal equalS [g, x, h, y, backP g x c s, backP h y c s] = c) by simp [equalOk, hg, hx, hh, hy, hp])
            generalize decide (equalOk g x h y c s) = fin at *
            go_enter Try.func35, Try.ntmps35
            go_wp2_with fail
            try change Code.wp _ _ _ (Act.mk _ _) _
            haveI hne_ : Nonempty (InC (fun u => Blk u w.heap.size #[.int .u64 c, .int .u64 s] 43)) := ⟨⟨_, hk.1⟩⟩
            refine wp_region_ph (C := fun w_ => ∃ e_ : InC (fun u => Blk u w.heap.size #[.int .u64 c, .int .u64 s] 43), w_ = e_.u) [([0], 1), ([2, 3], 4), ([], 5), ([6, 7], 8), ([], 9), ([10, 11], 12), ([], 13), ([14, 15], 16), ([], 17), ([18, 19, 20, 21, 22, 23, 24, 25, 27, 28, 29, 33, 34], 26), ([], 30), ([], 31), ([], 32), ([35], 36)] [37] (by kernel_rfl) (by kernel_rfl) (fun _ _ _ _ hd_ h_ => ⟨hd_.symm.trans h_.1, h_.2⟩) ⟨⟨World.drew _, hk.1⟩, rfl⟩ ?_
            first | refine wpPh_cons ?_ | refine wpPh_nil ?_
            simp only [pickOps, List.flatMap_cons, List.flatMap_nil, List.drop_succ_cons, List.drop_zero, List.take_succ_cons, List.take_zero, List.cons_append, List.nil_append, List.append_nil]
            iterate 1 (go_big_quiet_step (exact rfl))
            refine wpQuiet_nil ?_
            iterate 14 (
              go_wp2_with (first
      | (go_at_call 23; refine (Rightr_any _ _ (by omega) (by omega)).mono ?_; rintro e w' ⟨rfl, rfl⟩; simp only [hd_hg, hd_hx, hd_hh, hd_hy, hd_hp])
      | (go_at_call 63; refine (small_any _ _ _).mono ?_; rintro e w8 ⟨rfl, hb8⟩; simp only [hd_hg, hd_hx, hd_hh, hd_hy, hd_hp]; have hk8 := Hold.step (cs := _) (t := _) (by assumption) hb8)
      | (go_at_call 64; refine (back_any _ _ _ _ _ ⟨by omega, by omega⟩ ⟨by omega, by omega⟩ ⟨by omega, by omega⟩ ⟨by omega, by omega⟩).mono ?_; rintro e w9 ⟨rfl, hb9⟩; have hk9 := Hold.step (by assumption) hb9)
      | (go_at_call 29; refine (Challenger_any _ equalS _ [g, x, h, y, backP g x c s, backP h y c s] (sees_new _ 1 _ _ 6 rfl (by decide)) HI.out (by decide) (by show 6 ≤ 1000000; omega)).mono ?_; rintro e w10 ⟨rfl, hb10⟩; have hk10 := Hold.step (Hold.alloc (by assumption) _) hb10))
              refine phPost_normal ⟨⟨⟨_, (show Hold _ _ _ _ from by first | assumption | exact Hold.alloc (by assumption) _).1⟩, rfl⟩, ?_⟩
              first | refine wpPh_cons ?_ | refine wpPh_nil ?_
              simp only [pickOps, List.flatMap_cons, List.flatMap_nil, List.drop_succ_cons, List.drop_zero, List.take_succ_cons, List.take_zero, List.cons_append, List.nil_append, List.append_nil]
              repeat (go_big_quiet_step (exact rfl))
              refine wpQuiet_nil ?_)
            go_wp2_with fail
            go_ret
            exact ⟨ret_bool (by rw [HF.out]; rfl), (show Hold _ _ _ _ from by assumption).2⟩
          · have hd_hp := decide_eq_false hp
            have HF := Lib.hid (show decide (equalOk g x h y c s) = false by simp [equalOk, hp])
            generalize decide (equalOk g x h y c s) = fin at *
            go_enter Try.func35, Try.ntmps35
            go_wp2_with fail
            try change Code.wp _ _ _ (Act.mk _ _) _
            haveI hne_ : Nonempty (InC (fun u => Blk u w.heap.size #[.int .u64 c, .int .u64 s] 43)) := ⟨⟨_, hk.1⟩⟩
            refine wp_region_ph (C := fun w_ => ∃ e_ : InC (fun u => Blk u w.heap.size #[.int .u64 c, .int .u64 s] 43), w_ = e_.u) [([0], 1), ([2, 3], 4), ([], 5), ([6, 7], 8), ([], 9), ([10, 11], 12), ([], 13), ([14, 15], 16), ([], 17), ([18, 19, 20, 21, 22, 23, 24, 25, 27, 28, 29, 33, 34], 26), ([], 30), ([], 31), ([], 32), ([35], 36)] [37] (by kernel_rfl) (by kernel_rfl) (fun _ _ _ _ hd_ h_ => ⟨hd_.symm.trans h_.1, h_.2⟩) ⟨⟨World.drew _, hk.1⟩, rfl⟩ ?_
            first | refine wpPh_cons ?_ | refine wpPh_nil ?_
            simp only [pickOps, List.flatMap_cons, List.flatMap_nil, List.drop_succ_cons, List.drop_zero, List.take_succ_cons, List.take_zero, List.cons_append, List.nil_append, List.append_nil]
            iterate 1 (go_big_quiet_step (exact rfl))
            refine wpQuiet_nil ?_
            iterate 14 (
              go_wp2_with (first
      | (go_at_call 23; refine (Rightr_any _ _ (by omega) (by omega)).mono ?_; rintro e w' ⟨rfl, rfl⟩; simp only [hd_hg, hd_hx, hd_hh, hd_hy, hd_hp])
      | (go_at_call 63; refine (small_any _ _ _).mono ?_; rintro e w8 ⟨rfl, hb8⟩; simp only [hd_hg, hd_hx, hd_hh, hd_hy, hd_hp]; have hk8 := Hold.step (cs := _) (t := _) (by assumption) hb8)
      | (go_at_call 64; refine (back_any _ _ _ _ _ ⟨by omega, by omega⟩ ⟨by omega, by omega⟩ ⟨by omega, by omega⟩ ⟨by omega, by omega⟩).mono ?_; rintro e w9 ⟨rfl, hb9⟩; have hk9 := Hold.step (by assumption) hb9)
      | (go_at_call 29; refine (Challenger_any _ equalS _ [g, x, h, y, backP g x c s, backP h y c s] (sees_new _ 1 _ _ 6 rfl (by decide)) HI.out (by decide) (by show 6 ≤ 1000000; omega)).mono ?_; rintro e w10 ⟨rfl, hb10⟩; have hk10 := Hold.step (Hold.alloc (by assumption) _) hb10))
              refine phPost_normal ⟨⟨⟨_, (show Hold _ _ _ _ from by first | assumption | exact Hold.alloc (by assumption) _).1⟩, rfl⟩, ?_⟩
              first | refine wpPh_cons ?_ | refine wpPh_nil ?_
              simp only [pickOps, List.flatMap_cons, List.flatMap_nil, List.drop_succ_cons, List.drop_zero, List.take_succ_cons, List.take_zero, List.cons_append, List.nil_append, List.append_nil]
              repeat (go_big_quiet_step (exact rfl))
              refine wpQuiet_nil ?_)
            go_wp2_with fail
            go_ret
            exact ⟨ret_bool HF.out.symm, (show Hold _ _ _ _ from by assumption).2⟩
        · have hd_hy := decide_eq_false hy
          have HF := Lib.hid (show decide (equalOk g x h y c s) = false by simp [equalOk, hy])
          generalize decide (equalOk g x h y c s) = fin at *
          go_enter Try.func35, Try.ntmps35
          go_wp2_with fail
          try change Code.wp _ _ _ (Act.mk _ _) _
          haveI hne_ : Nonempty (InC (fun u => Blk u w.heap.size #[.int .u64 c, .int .u64 s] 43)) := ⟨⟨_, hk.1⟩⟩
          refine wp_region_ph (C := fun w_ => ∃ e_ : InC (fun u => Blk u w.heap.size #[.int .u64 c, .int .u64 s] 43), w_ = e_.u) [([0], 1), ([2, 3], 4), ([], 5), ([6, 7], 8), ([], 9), ([10, 11], 12), ([], 13), ([14, 15], 16), ([], 17), ([18, 19, 20, 21, 22, 23, 24, 25, 27, 28, 29, 33, 34], 26), ([], 30), ([], 31), ([], 32), ([35], 36)] [37] (by kernel_rfl) (by kernel_rfl) (fun _ _ _ _ hd_ h_ => ⟨hd_.symm.trans h_.1, h_.2⟩) ⟨⟨World.drew _, hk.1⟩, rfl⟩ ?_
          first | refine wpPh_cons ?_ | refine wpPh_nil ?_
          simp only [pickOps, List.flatMap_cons, List.flatMap_nil, List.drop_succ_cons, List.drop_zero, List.take_succ_cons, List.take_zero, List.cons_append, List.nil_append, List.append_nil]
          iterate 1 (go_big_quiet_step (exact rfl))
          refine wpQuiet_nil ?_
          iterate 14 (
            go_wp2_with (first
      | (go_at_call 23; refine (Rightr_any _ _ (by omega) (by omega)).mono ?_; rintro e w' ⟨rfl, rfl⟩; simp only [hd_hg, hd_hx, hd_hh, hd_hy])
      | (go_at_call 63; refine (small_any _ _ _).mono ?_; rintro e w8 ⟨rfl, hb8⟩; simp only [hd_hg, hd_hx, hd_hh, hd_hy]; have hk8 := Hold.step (cs := _) (t := _) (by assumption) hb8)
      | (go_at_call 64; refine (back_any _ _ _ _ _ ⟨by omega, by omega⟩ ⟨by omega, by omega⟩ ⟨by omega, by omega⟩ ⟨by omega, by omega⟩).mono ?_; rintro e w9 ⟨rfl, hb9⟩; have hk9 := Hold.step (by assumption) hb9)
      | (go_at_call 29; refine (Challenger_any _ equalS _ [g, x, h, y, backP g x c s, backP h y c s] (sees_new _ 1 _ _ 6 rfl (by decide)) HI.out (by decide) (by show 6 ≤ 1000000; omega)).mono ?_; rintro e w10 ⟨rfl, hb10⟩; have hk10 := Hold.step (Hold.alloc (by assumption) _) hb10))
            refine phPost_normal ⟨⟨⟨_, (show Hold _ _ _ _ from by first | assumption | exact Hold.alloc (by assumption) _).1⟩, rfl⟩, ?_⟩
            first | refine wpPh_cons ?_ | refine wpPh_nil ?_
            simp only [pickOps, List.flatMap_cons, List.flatMap_nil, List.drop_succ_cons, List.drop_zero, List.take_succ_cons, List.take_zero, List.cons_append, List.nil_append, List.append_nil]
            repeat (go_big_quiet_step (exact rfl))
            refine wpQuiet_nil ?_)
          go_wp2_with fail
          go_ret
          exact ⟨ret_bool HF.out.symm, (show Hold _ _ _ _ from by assumption).2⟩
      · have hd_hh := decide_eq_false hh
        have HF := Lib.hid (show decide (equalOk g x h y c s) = false by simp [equalOk, hh])
        generalize decide (equalOk g x h y c s) = fin at *
        go_enter Try.func35, Try.ntmps35
        go_wp2_with fail
        try change Code.wp _ _ _ (Act.mk _ _) _
        haveI hne_ : Nonempty (InC (fun u => Blk u w.heap.size #[.int .u64 c, .int .u64 s] 43)) := ⟨⟨_, hk.1⟩⟩
        refine wp_region_ph (C := fun w_ => ∃ e_ : InC (fun u => Blk u w.heap.size #[.int .u64 c, .int .u64 s] 43), w_ = e_.u) [([0], 1), ([2, 3], 4), ([], 5), ([6, 7], 8), ([], 9), ([10, 11], 12), ([], 13), ([14, 15], 16), ([], 17), ([18, 19, 20, 21, 22, 23, 24, 25, 27, 28, 29, 33, 34], 26), ([], 30), ([], 31), ([], 32), ([35], 36)] [37] (by kernel_rfl) (by kernel_rfl) (fun _ _ _ _ hd_ h_ => ⟨hd_.symm.trans h_.1, h_.2⟩) ⟨⟨World.drew _, hk.1⟩, rfl⟩ ?_
        first | refine wpPh_cons ?_ | refine wpPh_nil ?_
        simp only [pickOps, List.flatMap_cons, List.flatMap_nil, List.drop_succ_cons, List.drop_zero, List.take_succ_cons, List.take_zero, List.cons_append, List.nil_append, List.append_nil]
        iterate 1 (go_big_quiet_step (exact rfl))
        refine wpQuiet_nil ?_
        iterate 14 (
          go_wp2_with (first
      | (go_at_call 23; refine (Rightr_any _ _ (by omega) (by omega)).mono ?_; rintro e w' ⟨rfl, rfl⟩; simp only [hd_hg, hd_hx, hd_hh])
      | (go_at_call 63; refine (small_any _ _ _).mono ?_; rintro e w8 ⟨rfl, hb8⟩; simp only [hd_hg, hd_hx, hd_hh]; have hk8 := Hold.step (cs := _) (t := _) (by assumption) hb8)
      | (go_at_call 64; refine (back_any _ _ _ _ _ ⟨by omega, by omega⟩ ⟨by omega, by omega⟩ ⟨by omega, by omega⟩ ⟨by omega, by omega⟩).mono ?_; rintro e w9 ⟨rfl, hb9⟩; have hk9 := Hold.step (by assumption) hb9)
      | (go_at_call 29; refine (Challenger_any _ equalS _ [g, x, h, y, backP g x c s, backP h y c s] (sees_new _ 1 _ _ 6 rfl (by decide)) HI.out (by decide) (by show 6 ≤ 1000000; omega)).mono ?_; rintro e w10 ⟨rfl, hb10⟩; have hk10 := Hold.step (Hold.alloc (by assumption) _) hb10))
          refine phPost_normal ⟨⟨⟨_, (show Hold _ _ _ _ from by first | assumption | exact Hold.alloc (by assumption) _).1⟩, rfl⟩, ?_⟩
          first | refine wpPh_cons ?_ | refine wpPh_nil ?_
          simp only [pickOps, List.flatMap_cons, List.flatMap_nil, List.drop_succ_cons, List.drop_zero, List.take_succ_cons, List.take_zero, List.cons_append, List.nil_append, List.append_nil]
          repeat (go_big_quiet_step (exact rfl))
          refine wpQuiet_nil ?_)
        go_wp2_with fail
        go_ret
        exact ⟨ret_bool HF.out.symm, (show Hold _ _ _ _ from by assumption).2⟩
    · have hd_hx := decide_eq_false hx
      have HF := Lib.hid (show decide (equalOk g x h y c s) = false by simp [equalOk, hx])
      generalize decide (equalOk g x h y c s) = fin at *
      go_enter Try.func35, Try.ntmps35
      go_wp2_with fail
      try change Code.wp _ _ _ (Act.mk _ _) _
      haveI hne_ : Nonempty (InC (fun u => Blk u w.heap.size #[.int .u64 c, .int .u64 s] 43)) := ⟨⟨_, hk.1⟩⟩
      refine wp_region_ph (C := fun w_ => ∃ e_ : InC (fun u => Blk u w.heap.size #[.int .u64 c, .int .u64 s] 43), w_ = e_.u) [([0], 1), ([2, 3], 4), ([], 5), ([6, 7], 8), ([], 9), ([10, 11], 12), ([], 13), ([14, 15], 16), ([], 17), ([18, 19, 20, 21, 22, 23, 24, 25, 27, 28, 29, 33, 34], 26), ([], 30), ([], 31), ([], 32), ([35], 36)] [37] (by kernel_rfl) (by kernel_rfl) (fun _ _ _ _ hd_ h_ => ⟨hd_.symm.trans h_.1, h_.2⟩) ⟨⟨World.drew _, hk.1⟩, rfl⟩ ?_
      first | refine wpPh_cons ?_ | refine wpPh_nil ?_
      simp only [pickOps, List.flatMap_cons, List.flatMap_nil, List.drop_succ_cons, List.drop_zero, List.take_succ_cons, List.take_zero, List.cons_append, List.nil_append, List.append_nil]
      iterate 1 (go_big_quiet_step (exact rfl))
      refine wpQuiet_nil ?_
      iterate 14 (
        go_wp2_with (first
      | (go_at_call 23; refine (Rightr_any _ _ (by omega) (by omega)).mono ?_; rintro e w' ⟨rfl, rfl⟩; simp only [hd_hg, hd_hx])
      | (go_at_call 63; refine (small_any _ _ _).mono ?_; rintro e w8 ⟨rfl, hb8⟩; simp only [hd_hg, hd_hx]; have hk8 := Hold.step (cs := _) (t := _) (by assumption) hb8)
      | (go_at_call 64; refine (back_any _ _ _ _ _ ⟨by omega, by omega⟩ ⟨by omega, by omega⟩ ⟨by omega, by omega⟩ ⟨by omega, by omega⟩).mono ?_; rintro e w9 ⟨rfl, hb9⟩; have hk9 := Hold.step (by assumption) hb9)
      | (go_at_call 29; refine (Challenger_any _ equalS _ [g, x, h, y, backP g x c s, backP h y c s] (sees_new _ 1 _ _ 6 rfl (by decide)) HI.out (by decide) (by show 6 ≤ 1000000; omega)).mono ?_; rintro e w10 ⟨rfl, hb10⟩; have hk10 := Hold.step (Hold.alloc (by assumption) _) hb10))
        refine phPost_normal ⟨⟨⟨_, (show Hold _ _ _ _ from by first | assumption | exact Hold.alloc (by assumption) _).1⟩, rfl⟩, ?_⟩
        first | refine wpPh_cons ?_ | refine wpPh_nil ?_
        simp only [pickOps, List.flatMap_cons, List.flatMap_nil, List.drop_succ_cons, List.drop_zero, List.take_succ_cons, List.take_zero, List.cons_append, List.nil_append, List.append_nil]
        repeat (go_big_quiet_step (exact rfl))
        refine wpQuiet_nil ?_)
      go_wp2_with fail
      go_ret
      exact ⟨ret_bool HF.out.symm, (show Hold _ _ _ _ from by assumption).2⟩
  · have hd_hg := decide_eq_false hg
    have HF := Lib.hid (show decide (equalOk g x h y c s) = false by simp [equalOk, hg])
    generalize decide (equalOk g x h y c s) = fin at *
    go_enter Try.func35, Try.ntmps35
    go_wp2_with fail
    try change Code.wp _ _ _ (Act.mk _ _) _
    haveI hne_ : Nonempty (InC (fun u => Blk u w.heap.size #[.int .u64 c, .int .u64 s] 43)) := ⟨⟨_, hk.1⟩⟩
    refine wp_region_ph (C := fun w_ => ∃ e_ : InC (fun u => Blk u w.heap.size #[.int .u64 c, .int .u64 s] 43), w_ = e_.u) [([0], 1), ([2, 3], 4), ([], 5), ([6, 7], 8), ([], 9), ([10, 11], 12), ([], 13), ([14, 15], 16), ([], 17), ([18, 19, 20, 21, 22, 23, 24, 25, 27, 28, 29, 33, 34], 26), ([], 30), ([], 31), ([], 32), ([35], 36)] [37] (by kernel_rfl) (by kernel_rfl) (fun _ _ _ _ hd_ h_ => ⟨hd_.symm.trans h_.1, h_.2⟩) ⟨⟨World.drew _, hk.1⟩, rfl⟩ ?_
    first | refine wpPh_cons ?_ | refine wpPh_nil ?_
    simp only [pickOps, List.flatMap_cons, List.flatMap_nil, List.drop_succ_cons, List.drop_zero, List.take_succ_cons, List.take_zero, List.cons_append, List.nil_append, List.append_nil]
    iterate 1 (go_big_quiet_step (exact rfl))
    refine wpQuiet_nil ?_
    iterate 14 (
      go_wp2_with (first
      | (go_at_call 23; refine (Rightr_any _ _ (by omega) (by omega)).mono ?_; rintro e w' ⟨rfl, rfl⟩; simp only [hd_hg])
      | (go_at_call 63; refine (small_any _ _ _).mono ?_; rintro e w8 ⟨rfl, hb8⟩; simp only [hd_hg]; have hk8 := Hold.step (cs := _) (t := _) (by assumption) hb8)
      | (go_at_call 64; refine (back_any _ _ _ _ _ ⟨by omega, by omega⟩ ⟨by omega, by omega⟩ ⟨by omega, by omega⟩ ⟨by omega, by omega⟩).mono ?_; rintro e w9 ⟨rfl, hb9⟩; have hk9 := Hold.step (by assumption) hb9)
      | (go_at_call 29; refine (Challenger_any _ equalS _ [g, x, h, y, backP g x c s, backP h y c s] (sees_new _ 1 _ _ 6 rfl (by decide)) HI.out (by decide) (by show 6 ≤ 1000000; omega)).mono ?_; rintro e w10 ⟨rfl, hb10⟩; have hk10 := Hold.step (Hold.alloc (by assumption) _) hb10))
      refine phPost_normal ⟨⟨⟨_, (show Hold _ _ _ _ from by first | assumption | exact Hold.alloc (by assumption) _).1⟩, rfl⟩, ?_⟩
      first | refine wpPh_cons ?_ | refine wpPh_nil ?_
      simp only [pickOps, List.flatMap_cons, List.flatMap_nil, List.drop_succ_cons, List.drop_zero, List.take_succ_cons, List.take_zero, List.cons_append, List.nil_append, List.append_nil]
      repeat (go_big_quiet_step (exact rfl))
      refine wpQuiet_nil ?_)
    go_wp2_with fail
    go_ret
    exact ⟨ret_bool HF.out.symm, (show Hold _ _ _ _ from by assumption).2⟩
end Go.Proofs.Yteialfdhbfbkgaa
