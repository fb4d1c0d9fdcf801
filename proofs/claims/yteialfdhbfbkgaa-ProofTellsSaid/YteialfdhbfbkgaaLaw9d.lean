/-
  The laws of chapter 9: ProofTurned. (Printed by wip/gen_law9d.py.)
-/
import Derived.Test.YteialfdhbfbkgaaLaw9c
namespace Go.Proofs.Yteialfdhbfbkgaa
set_option linter.unusedVariables false
set_option linter.unusedSimpArgs false
open Go Go.RowKit

theorem in64_wrap (n : Int) : in64 (IntKind.u64.wrap n) := by
  rw [IntKind.wrap_u64]; exact ⟨by omega, by omega⟩
def One (B : Nat) (C A : Int) (u : World) : Prop := PB u B C A
theorem HoldS.step1 {w u u' : World} {B : Nat} {C A : Int} (h : HoldS (One B C A) w u) (hb : Below u.heap.size u u') : HoldS (One B C A) w u' := ⟨h.1.below hb, h.2.step hb⟩

set_option maxHeartbeats 2000000 in
theorem ProofTurned_any (g h a d k b : Int) (w : World) (hg : in64 g) (hh : in64 h) (ha : in64 a) (hd : in64 d) (hb : in64 b) (hk0 : -9223372036854775808 ≤ k ∧ k ≤ 9223372036854775807) :
    Calls Try.prog 10 #[.int .u64 g, .int .u64 h, .int .u64 a, .int .u64 d, .int .i64 k, .int .u64 b] w fun e w' => e = .returned (.bool true) ∧ Below w.heap.size w w' := by
  obtain ⟨g0, g1⟩ := hg; obtain ⟨h0, h1⟩ := hh; obtain ⟨a0, a1⟩ := ha; obtain ⟨d0, d1⟩ := hd; obtain ⟨b0, b1⟩ := hb; obtain ⟨k0, k1⟩ := hk0
  have hu := Up.refl w
  by_cases hlo : k < 0
  · go_enter Try.func10, Try.ntmps10
    go_wp2_with (go_at_call 22; refine (alive_any _).mono ?_; rintro e w1 ⟨rfl, hb1⟩; replace hu := hu.step hb1)
    go_ret
    exact ⟨rfl, hu⟩
  by_cases hhi : 5 < k
  · go_enter Try.func10, Try.ntmps10
    go_wp2_with (go_at_call 22; refine (alive_any _).mono ?_; rintro e w1 ⟨rfl, hb1⟩; replace hu := hu.step hb1)
    go_ret
    exact ⟨rfl, hu⟩
  obtain ⟨x0, x1⟩ := timesP_pos g a
  obtain ⟨y0, y1⟩ := timesP_pos h a
  generalize hx : timesP g a = x at *
  generalize hy : timesP h a = y at *
  have HX := Lib.hid hx; have HY := Lib.hid hy; clear hx hy
  obtain ⟨c0, c1⟩ := equalC_pos g x h y d
  generalize hC : equalC g x h y d = C at *
  have HC := Lib.hid hC; clear hC
  obtain ⟨s0, s1⟩ := ansP_pos C a d
  generalize hA : ansP C a d = A at *
  have HA := Lib.hid hA; clear hA
  rcases (show k = 0 ∨ k = 1 ∨ k = 2 ∨ k = 3 ∨ k = 4 ∨ k = 5 by omega) with rfl | rfl | rfl | rfl | rfl | rfl
  · go_enter Try.func10, Try.ntmps10
    go_wp2_with (first
      | (go_at_call 22; refine (alive_any _).mono ?_; rintro e w1 ⟨rfl, hb1⟩; replace hu := hu.step hb1)
      | (go_at_call 21; refine (Timesr_any _ _ _ (by omega) (by omega) (by omega) (by omega)).mono ?_; rintro e w' ⟨rfl, rfl⟩; (first | rw [HX.out] | rw [HY.out]))
      | (go_at_call 31; refine (Equal_any _ _ _ _ _ _ _ ⟨by omega, by omega⟩ ⟨by omega, by omega⟩ ⟨by omega, by omega⟩ ⟨by omega, by omega⟩ ⟨by omega, by omega⟩ ⟨by omega, by omega⟩).mono ?_; rintro e w2 ⟨rfl, hb2⟩; rw [HC.out, HA.out]; have hu2 := hu.step hb2)
      | (refine wpList_store_row rfl 43 _ _ rfl w2.heap.size #[.int .u64 C, .int .u64 A] _ _ rfl rfl (Blk.new w2 _ _) (by rw [pv_size, pv_size]) (by rw [pv_size]; exact info_proof) (pv_one _ _) ?_; intro w3 hg3 hs3 hP3; have hu3 := hu2.store hg3; have hc0 : w3.cell? ⟨w2.heap.size, 0, none⟩ = some (.int .u64 C) := hP3.cell 0; have hc1 : w3.cell? ⟨w2.heap.size, 1, none⟩ = some (.int .u64 A) := hP3.cell 1; have hf0 := hP3.free 0; have hf1 := hP3.free 1; clear hg3 hs3))
    clear hc0 hc1 hf0 hf1
    have hk : HoldS (One w2.heap.size (IntKind.u64.wrap (C + b)) (A)) w (_ : World).drew := ⟨(hP3.set 0 _).drew, Below.drew (Below.setCell hu3 hu2.size _)⟩
    have hS0 : ∀ e : InC (One w2.heap.size (IntKind.u64.wrap (C + b)) (A)), e.u.cell? ⟨w2.heap.size, 0, none⟩ = some (.int .u64 (IntKind.u64.wrap (C + b))) := fun e => e.has.cell 0
    have hS1 : ∀ e : InC (One w2.heap.size (IntKind.u64.wrap (C + b)) (A)), e.u.cell? ⟨w2.heap.size, 1, none⟩ = some (.int .u64 (A)) := fun e => e.has.cell 1
    change Code.wp _ _ _ (Act.mk _ _) _
    try change Code.wp _ _ _ (Act.mk _ _) _
    haveI hne_ : Nonempty (InC (One w2.heap.size (IntKind.u64.wrap (C + b)) (A))) := ⟨⟨_, hk.1⟩⟩
    refine wp_region_ph (C := fun w_ => ∃ e_ : InC (One w2.heap.size (IntKind.u64.wrap (C + b)) (A)), w_ = e_.u) [([0, 1, 2, 3, 4, 6, 7, 8, 9, 10], 5), ([], 11)] [12, 13] (by kernel_rfl) (by kernel_rfl) (fun _ _ _ _ hd_ h_ => ⟨hd_.symm.trans h_.1, h_.2⟩) ⟨⟨World.drew _, hk.1⟩, rfl⟩ ?_
    first | refine wpPh_cons ?_ | refine wpPh_nil ?_
    simp only [pickOps, List.flatMap_cons, List.flatMap_nil, List.drop_succ_cons, List.drop_zero, List.take_succ_cons, List.take_zero, List.cons_append, List.nil_append, List.append_nil]
    iterate 10 (go_big_quiet_step (exact rfl))
    refine wpQuiet_nil ?_
    iterate 2 (
      go_wp2_with (first
      | (go_at_call 34; refine (CheckEqual_any _ _ _ _ _ _ _ (by first | exact in64_wrap _ | exact ⟨by omega, by omega⟩) (by first | exact in64_wrap _ | exact ⟨by omega, by omega⟩) (by first | exact in64_wrap _ | exact ⟨by omega, by omega⟩) (by first | exact in64_wrap _ | exact ⟨by omega, by omega⟩) (by first | exact in64_wrap _ | exact ⟨by omega, by omega⟩) (by first | exact in64_wrap _ | exact ⟨by omega, by omega⟩)).mono ?_; rintro e w8 ⟨rfl, hb8⟩; have hk8 := HoldS.step1 (by assumption) hb8)
      | (go_at_call 35; refine (CheckEqualr_any _ _ _ _ _ _ _ (by first | exact in64_wrap _ | exact ⟨by omega, by omega⟩) (by first | exact in64_wrap _ | exact ⟨by omega, by omega⟩) (by first | exact in64_wrap _ | exact ⟨by omega, by omega⟩) (by first | exact in64_wrap _ | exact ⟨by omega, by omega⟩) (by first | exact in64_wrap _ | exact ⟨by omega, by omega⟩) (by first | exact in64_wrap _ | exact ⟨by omega, by omega⟩)).mono ?_; rintro e w9 ⟨rfl, hb9⟩; have hk9 := HoldS.step1 (by assumption) hb9))
      refine phPost_normal ⟨⟨⟨_, (show HoldS _ _ _ from by assumption).1⟩, rfl⟩, ?_⟩
      first | refine wpPh_cons ?_ | refine wpPh_nil ?_
      simp only [pickOps, List.flatMap_cons, List.flatMap_nil, List.drop_succ_cons, List.drop_zero, List.take_succ_cons, List.take_zero, List.cons_append, List.nil_append, List.append_nil]
      repeat (go_big_quiet_step (exact rfl))
      refine wpQuiet_nil ?_)
    go_wp2_with fail
    go_ret
    exact ⟨ret_bool (by simp), (show HoldS _ _ _ from by assumption).2⟩
  · go_enter Try.func10, Try.ntmps10
    go_wp2_with (first
      | (go_at_call 22; refine (alive_any _).mono ?_; rintro e w1 ⟨rfl, hb1⟩; replace hu := hu.step hb1)
      | (go_at_call 21; refine (Timesr_any _ _ _ (by omega) (by omega) (by omega) (by omega)).mono ?_; rintro e w' ⟨rfl, rfl⟩; (first | rw [HX.out] | rw [HY.out]))
      | (go_at_call 31; refine (Equal_any _ _ _ _ _ _ _ ⟨by omega, by omega⟩ ⟨by omega, by omega⟩ ⟨by omega, by omega⟩ ⟨by omega, by omega⟩ ⟨by omega, by omega⟩ ⟨by omega, by omega⟩).mono ?_; rintro e w2 ⟨rfl, hb2⟩; rw [HC.out, HA.out]; have hu2 := hu.step hb2)
      | (refine wpList_store_row rfl 43 _ _ rfl w2.heap.size #[.int .u64 C, .int .u64 A] _ _ rfl rfl (Blk.new w2 _ _) (by rw [pv_size, pv_size]) (by rw [pv_size]; exact info_proof) (pv_one _ _) ?_; intro w3 hg3 hs3 hP3; have hu3 := hu2.store hg3; have hc0 : w3.cell? ⟨w2.heap.size, 0, none⟩ = some (.int .u64 C) := hP3.cell 0; have hc1 : w3.cell? ⟨w2.heap.size, 1, none⟩ = some (.int .u64 A) := hP3.cell 1; have hf0 := hP3.free 0; have hf1 := hP3.free 1; clear hg3 hs3))
    clear hc0 hc1 hf0 hf1
    have hk : HoldS (One w2.heap.size (C) (IntKind.u64.wrap (A + b))) w (_ : World).drew := ⟨(hP3.set 1 _).drew, Below.drew (Below.setCell hu3 hu2.size _)⟩
    have hS0 : ∀ e : InC (One w2.heap.size (C) (IntKind.u64.wrap (A + b))), e.u.cell? ⟨w2.heap.size, 0, none⟩ = some (.int .u64 (C)) := fun e => e.has.cell 0
    have hS1 : ∀ e : InC (One w2.heap.size (C) (IntKind.u64.wrap (A + b))), e.u.cell? ⟨w2.heap.size, 1, none⟩ = some (.int .u64 (IntKind.u64.wrap (A + b))) := fun e => e.has.cell 1
    change Code.wp _ _ _ (Act.mk _ _) _
    try change Code.wp _ _ _ (Act.mk _ _) _
    haveI hne_ : Nonempty (InC (One w2.heap.size (C) (IntKind.u64.wrap (A + b)))) := ⟨⟨_, hk.1⟩⟩
    refine wp_region_ph (C := fun w_ => ∃ e_ : InC (One w2.heap.size (C) (IntKind.u64.wrap (A + b))), w_ = e_.u) [([0, 1, 2, 3, 4, 6, 7, 8, 9, 10], 5), ([], 11)] [12, 13] (by kernel_rfl) (by kernel_rfl) (fun _ _ _ _ hd_ h_ => ⟨hd_.symm.trans h_.1, h_.2⟩) ⟨⟨World.drew _, hk.1⟩, rfl⟩ ?_
    first | refine wpPh_cons ?_ | refine wpPh_nil ?_
    simp only [pickOps, List.flatMap_cons, List.flatMap_nil, List.drop_succ_cons, List.drop_zero, List.take_succ_cons, List.take_zero, List.cons_append, List.nil_append, List.append_nil]
    iterate 10 (go_big_quiet_step (exact rfl))
    refine wpQuiet_nil ?_
    iterate 2 (
      go_wp2_with (first
      | (go_at_call 34; refine (CheckEqual_any _ _ _ _ _ _ _ (by first | exact in64_wrap _ | exact ⟨by omega, by omega⟩) (by first | exact in64_wrap _ | exact ⟨by omega, by omega⟩) (by first | exact in64_wrap _ | exact ⟨by omega, by omega⟩) (by first | exact in64_wrap _ | exact ⟨by omega, by omega⟩) (by first | exact in64_wrap _ | exact ⟨by omega, by omega⟩) (by first | exact in64_wrap _ | exact ⟨by omega, by omega⟩)).mono ?_; rintro e w8 ⟨rfl, hb8⟩; have hk8 := HoldS.step1 (by assumption) hb8)
      | (go_at_call 35; refine (CheckEqualr_any _ _ _ _ _ _ _ (by first | exact in64_wrap _ | exact ⟨by omega, by omega⟩) (by first | exact in64_wrap _ | exact ⟨by omega, by omega⟩) (by first | exact in64_wrap _ | exact ⟨by omega, by omega⟩) (by first | exact in64_wrap _ | exact ⟨by omega, by omega⟩) (by first | exact in64_wrap _ | exact ⟨by omega, by omega⟩) (by first | exact in64_wrap _ | exact ⟨by omega, by omega⟩)).mono ?_; rintro e w9 ⟨rfl, hb9⟩; have hk9 := HoldS.step1 (by assumption) hb9))
      refine phPost_normal ⟨⟨⟨_, (show HoldS _ _ _ from by assumption).1⟩, rfl⟩, ?_⟩
      first | refine wpPh_cons ?_ | refine wpPh_nil ?_
      simp only [pickOps, List.flatMap_cons, List.flatMap_nil, List.drop_succ_cons, List.drop_zero, List.take_succ_cons, List.take_zero, List.cons_append, List.nil_append, List.append_nil]
      repeat (go_big_quiet_step (exact rfl))
      refine wpQuiet_nil ?_)
    go_wp2_with fail
    go_ret
    exact ⟨ret_bool (by simp), (show HoldS _ _ _ from by assumption).2⟩
  · go_enter Try.func10, Try.ntmps10
    go_wp2_with (first
      | (go_at_call 22; refine (alive_any _).mono ?_; rintro e w1 ⟨rfl, hb1⟩; replace hu := hu.step hb1)
      | (go_at_call 21; refine (Timesr_any _ _ _ (by omega) (by omega) (by omega) (by omega)).mono ?_; rintro e w' ⟨rfl, rfl⟩; (first | rw [HX.out] | rw [HY.out]))
      | (go_at_call 31; refine (Equal_any _ _ _ _ _ _ _ ⟨by omega, by omega⟩ ⟨by omega, by omega⟩ ⟨by omega, by omega⟩ ⟨by omega, by omega⟩ ⟨by omega, by omega⟩ ⟨by omega, by omega⟩).mono ?_; rintro e w2 ⟨rfl, hb2⟩; rw [HC.out, HA.out]; have hu2 := hu.step hb2)
      | (refine wpList_store_row rfl 43 _ _ rfl w2.heap.size #[.int .u64 C, .int .u64 A] _ _ rfl rfl (Blk.new w2 _ _) (by rw [pv_size, pv_size]) (by rw [pv_size]; exact info_proof) (pv_one _ _) ?_; intro w3 hg3 hs3 hP3; have hu3 := hu2.store hg3; have hc0 : w3.cell? ⟨w2.heap.size, 0, none⟩ = some (.int .u64 C) := hP3.cell 0; have hc1 : w3.cell? ⟨w2.heap.size, 1, none⟩ = some (.int .u64 A) := hP3.cell 1; have hf0 := hP3.free 0; have hf1 := hP3.free 1; clear hg3 hs3))
    clear hc0 hc1 hf0 hf1
    have hk : HoldS (One w2.heap.size (C) (A)) w (_ : World).drew := ⟨hP3.drew, Below.drew hu3⟩
    have hS0 : ∀ e : InC (One w2.heap.size (C) (A)), e.u.cell? ⟨w2.heap.size, 0, none⟩ = some (.int .u64 (C)) := fun e => e.has.cell 0
    have hS1 : ∀ e : InC (One w2.heap.size (C) (A)), e.u.cell? ⟨w2.heap.size, 1, none⟩ = some (.int .u64 (A)) := fun e => e.has.cell 1
    change Code.wp _ _ _ (Act.mk _ _) _
    try change Code.wp _ _ _ (Act.mk _ _) _
    haveI hne_ : Nonempty (InC (One w2.heap.size (C) (A))) := ⟨⟨_, hk.1⟩⟩
    refine wp_region_ph (C := fun w_ => ∃ e_ : InC (One w2.heap.size (C) (A)), w_ = e_.u) [([0, 1, 2, 3, 4, 6, 7, 8, 9, 10], 5), ([], 11)] [12, 13] (by kernel_rfl) (by kernel_rfl) (fun _ _ _ _ hd_ h_ => ⟨hd_.symm.trans h_.1, h_.2⟩) ⟨⟨World.drew _, hk.1⟩, rfl⟩ ?_
    first | refine wpPh_cons ?_ | refine wpPh_nil ?_
    simp only [pickOps, List.flatMap_cons, List.flatMap_nil, List.drop_succ_cons, List.drop_zero, List.take_succ_cons, List.take_zero, List.cons_append, List.nil_append, List.append_nil]
    iterate 10 (go_big_quiet_step (exact rfl))
    refine wpQuiet_nil ?_
    iterate 2 (
      go_wp2_with (first
      | (go_at_call 34; refine (CheckEqual_any _ _ _ _ _ _ _ (by first | exact in64_wrap _ | exact ⟨by omega, by omega⟩) (by first | exact in64_wrap _ | exact ⟨by omega, by omega⟩) (by first | exact in64_wrap _ | exact ⟨by omega, by omega⟩) (by first | exact in64_wrap _ | exact ⟨by omega, by omega⟩) (by first | exact in64_wrap _ | exact ⟨by omega, by omega⟩) (by first | exact in64_wrap _ | exact ⟨by omega, by omega⟩)).mono ?_; rintro e w8 ⟨rfl, hb8⟩; have hk8 := HoldS.step1 (by assumption) hb8)
      | (go_at_call 35; refine (CheckEqualr_any _ _ _ _ _ _ _ (by first | exact in64_wrap _ | exact ⟨by omega, by omega⟩) (by first | exact in64_wrap _ | exact ⟨by omega, by omega⟩) (by first | exact in64_wrap _ | exact ⟨by omega, by omega⟩) (by first | exact in64_wrap _ | exact ⟨by omega, by omega⟩) (by first | exact in64_wrap _ | exact ⟨by omega, by omega⟩) (by first | exact in64_wrap _ | exact ⟨by omega, by omega⟩)).mono ?_; rintro e w9 ⟨rfl, hb9⟩; have hk9 := HoldS.step1 (by assumption) hb9))
      refine phPost_normal ⟨⟨⟨_, (show HoldS _ _ _ from by assumption).1⟩, rfl⟩, ?_⟩
      first | refine wpPh_cons ?_ | refine wpPh_nil ?_
      simp only [pickOps, List.flatMap_cons, List.flatMap_nil, List.drop_succ_cons, List.drop_zero, List.take_succ_cons, List.take_zero, List.cons_append, List.nil_append, List.append_nil]
      repeat (go_big_quiet_step (exact rfl))
      refine wpQuiet_nil ?_)
    go_wp2_with fail
    go_ret
    exact ⟨ret_bool (by simp), (show HoldS _ _ _ from by assumption).2⟩
  · go_enter Try.func10, Try.ntmps10
    go_wp2_with (first
      | (go_at_call 22; refine (alive_any _).mono ?_; rintro e w1 ⟨rfl, hb1⟩; replace hu := hu.step hb1)
      | (go_at_call 21; refine (Timesr_any _ _ _ (by omega) (by omega) (by omega) (by omega)).mono ?_; rintro e w' ⟨rfl, rfl⟩; (first | rw [HX.out] | rw [HY.out]))
      | (go_at_call 31; refine (Equal_any _ _ _ _ _ _ _ ⟨by omega, by omega⟩ ⟨by omega, by omega⟩ ⟨by omega, by omega⟩ ⟨by omega, by omega⟩ ⟨by omega, by omega⟩ ⟨by omega, by omega⟩).mono ?_; rintro e w2 ⟨rfl, hb2⟩; rw [HC.out, HA.out]; have hu2 := hu.step hb2)
      | (refine wpList_store_row rfl 43 _ _ rfl w2.heap.size #[.int .u64 C, .int .u64 A] _ _ rfl rfl (Blk.new w2 _ _) (by rw [pv_size, pv_size]) (by rw [pv_size]; exact info_proof) (pv_one _ _) ?_; intro w3 hg3 hs3 hP3; have hu3 := hu2.store hg3; have hc0 : w3.cell? ⟨w2.heap.size, 0, none⟩ = some (.int .u64 C) := hP3.cell 0; have hc1 : w3.cell? ⟨w2.heap.size, 1, none⟩ = some (.int .u64 A) := hP3.cell 1; have hf0 := hP3.free 0; have hf1 := hP3.free 1; clear hg3 hs3))
    clear hc0 hc1 hf0 hf1
    have hk : HoldS (One w2.heap.size (C) (A)) w (_ : World).drew := ⟨hP3.drew, Below.drew hu3⟩
    have hS0 : ∀ e : InC (One w2.heap.size (C) (A)), e.u.cell? ⟨w2.heap.size, 0, none⟩ = some (.int .u64 (C)) := fun e => e.has.cell 0
    have hS1 : ∀ e : InC (One w2.heap.size (C) (A)), e.u.cell? ⟨w2.heap.size, 1, none⟩ = some (.int .u64 (A)) := fun e => e.has.cell 1
    change Code.wp _ _ _ (Act.mk _ _) _
    try change Code.wp _ _ _ (Act.mk _ _) _
    haveI hne_ : Nonempty (InC (One w2.heap.size (C) (A))) := ⟨⟨_, hk.1⟩⟩
    refine wp_region_ph (C := fun w_ => ∃ e_ : InC (One w2.heap.size (C) (A)), w_ = e_.u) [([0, 1, 2, 3, 4, 6, 7, 8, 9, 10], 5), ([], 11)] [12, 13] (by kernel_rfl) (by kernel_rfl) (fun _ _ _ _ hd_ h_ => ⟨hd_.symm.trans h_.1, h_.2⟩) ⟨⟨World.drew _, hk.1⟩, rfl⟩ ?_
    first | refine wpPh_cons ?_ | refine wpPh_nil ?_
    simp only [pickOps, List.flatMap_cons, List.flatMap_nil, List.drop_succ_cons, List.drop_zero, List.take_succ_cons, List.take_zero, List.cons_append, List.nil_append, List.append_nil]
    iterate 10 (go_big_quiet_step (exact rfl))
    refine wpQuiet_nil ?_
    iterate 2 (
      go_wp2_with (first
      | (go_at_call 34; refine (CheckEqual_any _ _ _ _ _ _ _ (by first | exact in64_wrap _ | exact ⟨by omega, by omega⟩) (by first | exact in64_wrap _ | exact ⟨by omega, by omega⟩) (by first | exact in64_wrap _ | exact ⟨by omega, by omega⟩) (by first | exact in64_wrap _ | exact ⟨by omega, by omega⟩) (by first | exact in64_wrap _ | exact ⟨by omega, by omega⟩) (by first | exact in64_wrap _ | exact ⟨by omega, by omega⟩)).mono ?_; rintro e w8 ⟨rfl, hb8⟩; have hk8 := HoldS.step1 (by assumption) hb8)
      | (go_at_call 35; refine (CheckEqualr_any _ _ _ _ _ _ _ (by first | exact in64_wrap _ | exact ⟨by omega, by omega⟩) (by first | exact in64_wrap _ | exact ⟨by omega, by omega⟩) (by first | exact in64_wrap _ | exact ⟨by omega, by omega⟩) (by first | exact in64_wrap _ | exact ⟨by omega, by omega⟩) (by first | exact in64_wrap _ | exact ⟨by omega, by omega⟩) (by first | exact in64_wrap _ | exact ⟨by omega, by omega⟩)).mono ?_; rintro e w9 ⟨rfl, hb9⟩; have hk9 := HoldS.step1 (by assumption) hb9))
      refine phPost_normal ⟨⟨⟨_, (show HoldS _ _ _ from by assumption).1⟩, rfl⟩, ?_⟩
      first | refine wpPh_cons ?_ | refine wpPh_nil ?_
      simp only [pickOps, List.flatMap_cons, List.flatMap_nil, List.drop_succ_cons, List.drop_zero, List.take_succ_cons, List.take_zero, List.cons_append, List.nil_append, List.append_nil]
      repeat (go_big_quiet_step (exact rfl))
      refine wpQuiet_nil ?_)
    go_wp2_with fail
    go_ret
    exact ⟨ret_bool (by simp), (show HoldS _ _ _ from by assumption).2⟩
  · go_enter Try.func10, Try.ntmps10
    go_wp2_with (first
      | (go_at_call 22; refine (alive_any _).mono ?_; rintro e w1 ⟨rfl, hb1⟩; replace hu := hu.step hb1)
      | (go_at_call 21; refine (Timesr_any _ _ _ (by omega) (by omega) (by omega) (by omega)).mono ?_; rintro e w' ⟨rfl, rfl⟩; (first | rw [HX.out] | rw [HY.out]))
      | (go_at_call 31; refine (Equal_any _ _ _ _ _ _ _ ⟨by omega, by omega⟩ ⟨by omega, by omega⟩ ⟨by omega, by omega⟩ ⟨by omega, by omega⟩ ⟨by omega, by omega⟩ ⟨by omega, by omega⟩).mono ?_; rintro e w2 ⟨rfl, hb2⟩; rw [HC.out, HA.out]; have hu2 := hu.step hb2)
      | (refine wpList_store_row rfl 43 _ _ rfl w2.heap.size #[.int .u64 C, .int .u64 A] _ _ rfl rfl (Blk.new w2 _ _) (by rw [pv_size, pv_size]) (by rw [pv_size]; exact info_proof) (pv_one _ _) ?_; intro w3 hg3 hs3 hP3; have hu3 := hu2.store hg3; have hc0 : w3.cell? ⟨w2.heap.size, 0, none⟩ = some (.int .u64 C) := hP3.cell 0; have hc1 : w3.cell? ⟨w2.heap.size, 1, none⟩ = some (.int .u64 A) := hP3.cell 1; have hf0 := hP3.free 0; have hf1 := hP3.free 1; clear hg3 hs3))
    clear hc0 hc1 hf0 hf1
    have hk : HoldS (One w2.heap.size (C) (A)) w (_ : World).drew := ⟨hP3.drew, Below.drew hu3⟩
    have hS0 : ∀ e : InC (One w2.heap.size (C) (A)), e.u.cell? ⟨w2.heap.size, 0, none⟩ = some (.int .u64 (C)) := fun e => e.has.cell 0
    have hS1 : ∀ e : InC (One w2.heap.size (C) (A)), e.u.cell? ⟨w2.heap.size, 1, none⟩ = some (.int .u64 (A)) := fun e => e.has.cell 1
    change Code.wp _ _ _ (Act.mk _ _) _
    try change Code.wp _ _ _ (Act.mk _ _) _
    haveI hne_ : Nonempty (InC (One w2.heap.size (C) (A))) := ⟨⟨_, hk.1⟩⟩
    refine wp_region_ph (C := fun w_ => ∃ e_ : InC (One w2.heap.size (C) (A)), w_ = e_.u) [([0, 1, 2, 3, 4, 6, 7, 8, 9, 10], 5), ([], 11)] [12, 13] (by kernel_rfl) (by kernel_rfl) (fun _ _ _ _ hd_ h_ => ⟨hd_.symm.trans h_.1, h_.2⟩) ⟨⟨World.drew _, hk.1⟩, rfl⟩ ?_
    first | refine wpPh_cons ?_ | refine wpPh_nil ?_
    simp only [pickOps, List.flatMap_cons, List.flatMap_nil, List.drop_succ_cons, List.drop_zero, List.take_succ_cons, List.take_zero, List.cons_append, List.nil_append, List.append_nil]
    iterate 10 (go_big_quiet_step (exact rfl))
    refine wpQuiet_nil ?_
    iterate 2 (
      go_wp2_with (first
      | (go_at_call 34; refine (CheckEqual_any _ _ _ _ _ _ _ (by first | exact in64_wrap _ | exact ⟨by omega, by omega⟩) (by first | exact in64_wrap _ | exact ⟨by omega, by omega⟩) (by first | exact in64_wrap _ | exact ⟨by omega, by omega⟩) (by first | exact in64_wrap _ | exact ⟨by omega, by omega⟩) (by first | exact in64_wrap _ | exact ⟨by omega, by omega⟩) (by first | exact in64_wrap _ | exact ⟨by omega, by omega⟩)).mono ?_; rintro e w8 ⟨rfl, hb8⟩; have hk8 := HoldS.step1 (by assumption) hb8)
      | (go_at_call 35; refine (CheckEqualr_any _ _ _ _ _ _ _ (by first | exact in64_wrap _ | exact ⟨by omega, by omega⟩) (by first | exact in64_wrap _ | exact ⟨by omega, by omega⟩) (by first | exact in64_wrap _ | exact ⟨by omega, by omega⟩) (by first | exact in64_wrap _ | exact ⟨by omega, by omega⟩) (by first | exact in64_wrap _ | exact ⟨by omega, by omega⟩) (by first | exact in64_wrap _ | exact ⟨by omega, by omega⟩)).mono ?_; rintro e w9 ⟨rfl, hb9⟩; have hk9 := HoldS.step1 (by assumption) hb9))
      refine phPost_normal ⟨⟨⟨_, (show HoldS _ _ _ from by assumption).1⟩, rfl⟩, ?_⟩
      first | refine wpPh_cons ?_ | refine wpPh_nil ?_
      simp only [pickOps, List.flatMap_cons, List.flatMap_nil, List.drop_succ_cons, List.drop_zero, List.take_succ_cons, List.take_zero, List.cons_append, List.nil_append, List.append_nil]
      repeat (go_big_quiet_step (exact rfl))
      refine wpQuiet_nil ?_)
    go_wp2_with fail
    go_ret
    exact ⟨ret_bool (by simp), (show HoldS _ _ _ from by assumption).2⟩
  · go_enter Try.func10, Try.ntmps10
    go_wp2_with (first
      | (go_at_call 22; refine (alive_any _).mono ?_; rintro e w1 ⟨rfl, hb1⟩; replace hu := hu.step hb1)
      | (go_at_call 21; refine (Timesr_any _ _ _ (by omega) (by omega) (by omega) (by omega)).mono ?_; rintro e w' ⟨rfl, rfl⟩; (first | rw [HX.out] | rw [HY.out]))
      | (go_at_call 31; refine (Equal_any _ _ _ _ _ _ _ ⟨by omega, by omega⟩ ⟨by omega, by omega⟩ ⟨by omega, by omega⟩ ⟨by omega, by omega⟩ ⟨by omega, by omega⟩ ⟨by omega, by omega⟩).mono ?_; rintro e w2 ⟨rfl, hb2⟩; rw [HC.out, HA.out]; have hu2 := hu.step hb2)
      | (refine wpList_store_row rfl 43 _ _ rfl w2.heap.size #[.int .u64 C, .int .u64 A] _ _ rfl rfl (Blk.new w2 _ _) (by rw [pv_size, pv_size]) (by rw [pv_size]; exact info_proof) (pv_one _ _) ?_; intro w3 hg3 hs3 hP3; have hu3 := hu2.store hg3; have hc0 : w3.cell? ⟨w2.heap.size, 0, none⟩ = some (.int .u64 C) := hP3.cell 0; have hc1 : w3.cell? ⟨w2.heap.size, 1, none⟩ = some (.int .u64 A) := hP3.cell 1; have hf0 := hP3.free 0; have hf1 := hP3.free 1; clear hg3 hs3))
    clear hc0 hc1 hf0 hf1
    have hk : HoldS (One w2.heap.size (C) (A)) w (_ : World).drew := ⟨hP3.drew, Below.drew hu3⟩
    have hS0 : ∀ e : InC (One w2.heap.size (C) (A)), e.u.cell? ⟨w2.heap.size, 0, none⟩ = some (.int .u64 (C)) := fun e => e.has.cell 0
    have hS1 : ∀ e : InC (One w2.heap.size (C) (A)), e.u.cell? ⟨w2.heap.size, 1, none⟩ = some (.int .u64 (A)) := fun e => e.has.cell 1
    change Code.wp _ _ _ (Act.mk _ _) _
    try change Code.wp _ _ _ (Act.mk _ _) _
    haveI hne_ : Nonempty (InC (One w2.heap.size (C) (A))) := ⟨⟨_, hk.1⟩⟩
    refine wp_region_ph (C := fun w_ => ∃ e_ : InC (One w2.heap.size (C) (A)), w_ = e_.u) [([0, 1, 2, 3, 4, 6, 7, 8, 9, 10], 5), ([], 11)] [12, 13] (by kernel_rfl) (by kernel_rfl) (fun _ _ _ _ hd_ h_ => ⟨hd_.symm.trans h_.1, h_.2⟩) ⟨⟨World.drew _, hk.1⟩, rfl⟩ ?_
    first | refine wpPh_cons ?_ | refine wpPh_nil ?_
    simp only [pickOps, List.flatMap_cons, List.flatMap_nil, List.drop_succ_cons, List.drop_zero, List.take_succ_cons, List.take_zero, List.cons_append, List.nil_append, List.append_nil]
    iterate 10 (go_big_quiet_step (exact rfl))
    refine wpQuiet_nil ?_
    iterate 2 (
      go_wp2_with (first
      | (go_at_call 34; refine (CheckEqual_any _ _ _ _ _ _ _ (by first | exact in64_wrap _ | exact ⟨by omega, by omega⟩) (by first | exact in64_wrap _ | exact ⟨by omega, by omega⟩) (by first | exact in64_wrap _ | exact ⟨by omega, by omega⟩) (by first | exact in64_wrap _ | exact ⟨by omega, by omega⟩) (by first | exact in64_wrap _ | exact ⟨by omega, by omega⟩) (by first | exact in64_wrap _ | exact ⟨by omega, by omega⟩)).mono ?_; rintro e w8 ⟨rfl, hb8⟩; have hk8 := HoldS.step1 (by assumption) hb8)
      | (go_at_call 35; refine (CheckEqualr_any _ _ _ _ _ _ _ (by first | exact in64_wrap _ | exact ⟨by omega, by omega⟩) (by first | exact in64_wrap _ | exact ⟨by omega, by omega⟩) (by first | exact in64_wrap _ | exact ⟨by omega, by omega⟩) (by first | exact in64_wrap _ | exact ⟨by omega, by omega⟩) (by first | exact in64_wrap _ | exact ⟨by omega, by omega⟩) (by first | exact in64_wrap _ | exact ⟨by omega, by omega⟩)).mono ?_; rintro e w9 ⟨rfl, hb9⟩; have hk9 := HoldS.step1 (by assumption) hb9))
      refine phPost_normal ⟨⟨⟨_, (show HoldS _ _ _ from by assumption).1⟩, rfl⟩, ?_⟩
      first | refine wpPh_cons ?_ | refine wpPh_nil ?_
      simp only [pickOps, List.flatMap_cons, List.flatMap_nil, List.drop_succ_cons, List.drop_zero, List.take_succ_cons, List.take_zero, List.cons_append, List.nil_append, List.append_nil]
      repeat (go_big_quiet_step (exact rfl))
      refine wpQuiet_nil ?_)
    go_wp2_with fail
    go_ret
    exact ⟨ret_bool (by simp), (show HoldS _ _ _ from by assumption).2⟩
end Go.Proofs.Yteialfdhbfbkgaa
