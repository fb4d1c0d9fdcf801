/-
  The laws of chapter 9: ProofDraws.
-/
import Derived.Test.YteialfdhbfbkgaaLaw9b
namespace Go.Proofs.Yteialfdhbfbkgaa
set_option linter.unusedVariables false
set_option linter.unusedSimpArgs false
open Go Go.RowKit

theorem Up.store {w w2 w3 : World} {o : Obj} (h : Up w w2) (hg : (w2.alloc o).grownBy w3 (some w2.heap.size)) : Up w w3 :=
  Below.grown (Below.alloc h h.size o) hg (by simp only [World.size_alloc]; exact Nat.le_succ_of_le h.size) (fun k hk => by cases hk; exact h.size)
/-- What is held of the world, and nothing older is touched. -/
def HoldS (S : World → Prop) (w u : World) : Prop := S u ∧ Up w u
abbrev PB (u : World) (B : Nat) (c s : Int) : Prop := Blk u B #[.int .u64 c, .int .u64 s] 43

def Three (B1 : Nat) (C1 A1 : Int) (B2 : Nat) (C2 A2 : Int) (B3 : Nat) (C3 A3 : Int) (u : World) : Prop := PB u B1 C1 A1 ∧ PB u B2 C2 A2 ∧ PB u B3 C3 A3
theorem HoldS.step {w u u' : World} {B1 : Nat} {C1 A1 : Int} {B2 : Nat} {C2 A2 : Int} {B3 : Nat} {C3 A3 : Int} (h : HoldS (Three B1 C1 A1 B2 C2 A2 B3 C3 A3) w u) (hb : Below u.heap.size u u') : HoldS (Three B1 C1 A1 B2 C2 A2 B3 C3 A3) w u' :=
  ⟨⟨h.1.1.below hb, h.1.2.1.below hb, h.1.2.2.below hb⟩, h.2.step hb⟩

theorem mul_law {g a b : Int} (hg : okP g) (ha : in64 a) (hb : in64 b) : timesP g a * timesP g b % 2305843009213693951 = timesP g (addN a b) := by
  obtain ⟨g, rfl⟩ := Int.eq_ofNat_of_zero_le (Int.le_of_lt hg.1)
  obtain ⟨a, rfl⟩ := Int.eq_ofNat_of_zero_le ha.1
  obtain ⟨b, rfl⟩ := Int.eq_ofNat_of_zero_le hb.1
  have hp : PP = 2305843009213693951 := rfl
  have hn : NN = 2305843009213693950 := rfl
  have g0 : 0 < g := by have := hg.1; omega
  have g1 : g < PP := by have := hg.2; omega
  have hs : addN (a : Int) (b : Int) = (((a + b) % NN : Nat) : Int) := by unfold addN; rw [hn]; omega
  rw [hs, timesP_nat g a g0 g1, timesP_nat g b g0 g1, timesP_nat g _ g0 g1, pow_modN g (a + b) g0 g1, Nat.pow_add]
  have h2 := congrArg (fun n : Nat => (n : Int)) (Nat.mul_mod (g ^ a) (g ^ b) PP)
  rw [Int.natCast_emod ((g ^ a % PP) * (g ^ b % PP)) PP, Int.natCast_mul (g ^ a % PP) (g ^ b % PP)] at h2
  exact h2.symm

set_option maxHeartbeats 1000000 in
theorem ProofDraws_any (g a b d o : Int) (w : World) (hg : in64 g) (ha : in64 a) (hb : in64 b) (hd : in64 d) (ho : in64 o) :
    Calls Try.prog 6 #[.int .u64 g, .int .u64 a, .int .u64 b, .int .u64 d, .int .u64 o] w fun e w' => e = .returned (.bool true) ∧ Below w.heap.size w w' := by
  obtain ⟨t0, t1⟩ := addN_pos a b
  have HXY := Lib.hid (fun h => mul_law (g := g) h ha hb)
  have HK1 := Lib.hid (fun h => decide_eq_true (know_holds (g := g) h ha hd))
  have HK2 := Lib.hid (fun h => decide_eq_true (know_holds (g := g) h ha ho))
  have HK3 := Lib.hid (fun h => decide_eq_true (know_holds (g := g) (a := addN a b) h ⟨by omega, by omega⟩ hd))
  obtain ⟨g0, g1⟩ := hg; obtain ⟨a0, a1⟩ := ha; obtain ⟨b0, b1⟩ := hb; obtain ⟨d0, d1⟩ := hd; obtain ⟨o0, o1⟩ := ho
  have hu := Up.refl w
  by_cases hg : okP g
  · have hdg := decide_eq_true hg
    replace HXY := Lib.hid (HXY.out hg); replace HK1 := Lib.hid (HK1.out hg); replace HK2 := Lib.hid (HK2.out hg); replace HK3 := Lib.hid (HK3.out hg)
    clear hg
    obtain ⟨x0, x1⟩ := timesP_pos g a
    obtain ⟨y0, y1⟩ := timesP_pos g b
    obtain ⟨z0, z1⟩ := timesP_pos g (addN a b)
    generalize hz : timesP g (addN a b) = z at *
    generalize ht : addN a b = t at *
    generalize hx : timesP g a = x at *
    generalize hy : timesP g b = y at *
    have HX := Lib.hid hx; have HY := Lib.hid hy; have HT := Lib.hid ht; clear hx hy ht hz
    obtain ⟨c0, c1⟩ := knowC_pos g x d
    obtain ⟨s0, s1⟩ := ansP_pos (knowC g x d) a d
    obtain ⟨c2, c3⟩ := knowC_pos g x o
    obtain ⟨s2, s3⟩ := ansP_pos (knowC g x o) a o
    obtain ⟨c4, c5⟩ := knowC_pos g z d
    obtain ⟨s4, s5⟩ := ansP_pos (knowC g z d) t d
    go_enter Try.func6, Try.ntmps6
    go_wp2_with (first
      | (go_at_call 22; refine (alive_any _).mono ?_; rintro e w1 ⟨rfl, hb1⟩; replace hu := hu.step hb1)
      | (go_at_call 23; refine (Rightr_any _ _ (by omega) (by omega)).mono ?_; rintro e w' ⟨rfl, rfl⟩; rw [hdg])
      | (go_at_call 21; refine (Timesr_any _ _ _ (by omega) (by omega) (by omega) (by omega)).mono ?_; rintro e w' ⟨rfl, rfl⟩; (first | rw [HX.out] | rw [HY.out]))
      | (go_at_call 25; refine (MulP_any _ _ _ (by omega) (by omega) (by omega) (by omega)).mono ?_; rintro e w' ⟨rfl, rfl⟩; rw [HXY.out])
      | (go_at_call 26; refine (AddN_any _ _ _ (by omega) (by omega) (by omega) (by omega)).mono ?_; rintro e w' ⟨rfl, rfl⟩; rw [HT.out])
      | (go_at_call 24; have _k := hu5; refine (Know_any _ _ _ _ _ ⟨by omega, by omega⟩ ⟨by omega, by omega⟩ ⟨by omega, by omega⟩ ⟨by omega, by omega⟩).mono ?_; rintro e w6 ⟨rfl, hb6⟩; have hu6 := hu5.step hb6; have hP6 := hP5.below hb6; have hQ6 := hQ5.below hb6)
      | (go_at_call 24; have _k := hu3; refine (Know_any _ _ _ _ _ ⟨by omega, by omega⟩ ⟨by omega, by omega⟩ ⟨by omega, by omega⟩ ⟨by omega, by omega⟩).mono ?_; rintro e w4 ⟨rfl, hb4⟩; have hu4 := hu3.step hb4; have hP4 := hP3.below hb4)
      | (go_at_call 24; refine (Know_any _ _ _ _ _ ⟨by omega, by omega⟩ ⟨by omega, by omega⟩ ⟨by omega, by omega⟩ ⟨by omega, by omega⟩).mono ?_; rintro e w2 ⟨rfl, hb2⟩; have hu2 := hu.step hb2)
      | (have _k := hu6; refine wpList_store_row rfl 43 _ _ rfl w6.heap.size #[.int .u64 (knowC g z d), .int .u64 (ansP (knowC g z d) t d)] _ _ rfl rfl (Blk.new w6 _ _) (by rw [pv_size, pv_size]) (by rw [pv_size]; exact info_proof) (pv_one _ _) ?_; intro w7 hg7 hs7 hR7; have hu7 := hu6.store hg7; have hP7 := (hP6.alloc _).grownBy hg7 (some_ne (Nat.ne_of_lt hP6.lt)); have hQ7 := (hQ6.alloc _).grownBy hg7 (some_ne (Nat.ne_of_lt hQ6.lt)))
      | (have _k := hu4; refine wpList_store_row rfl 43 _ _ rfl w4.heap.size #[.int .u64 (knowC g x o), .int .u64 (ansP (knowC g x o) a o)] _ _ rfl rfl (Blk.new w4 _ _) (by rw [pv_size, pv_size]) (by rw [pv_size]; exact info_proof) (pv_one _ _) ?_; intro w5 hg5 hs5 hQ5; have hu5 := hu4.store hg5; have hP5 := (hP4.alloc _).grownBy hg5 (some_ne (Nat.ne_of_lt hP4.lt)))
      | (refine wpList_store_row rfl 43 _ _ rfl w2.heap.size #[.int .u64 (knowC g x d), .int .u64 (ansP (knowC g x d) a d)] _ _ rfl rfl (Blk.new w2 _ _) (by rw [pv_size, pv_size]) (by rw [pv_size]; exact info_proof) (pv_one _ _) ?_; intro w3 hg3 hs3 hP3; have hu3 := hu2.store hg3))
    clear hb1 hb2 hg3 hs3 hP3 hb4 hP4 hg5 hs5 hQ5 hP5 hb6 hP6 hQ6 hg7 hs7 hu hu2 hu3 hu4 hu5 hu6
    generalize ansP (knowC g x d) a d = A1 at *
    generalize knowC g x d = C1 at *
    generalize ansP (knowC g x o) a o = A2 at *
    generalize knowC g x o = C2 at *
    generalize ansP (knowC g z d) t d = A3 at *
    generalize knowC g z d = C3 at *
    generalize w2.heap.size = B1 at *
    generalize w4.heap.size = B2 at *
    generalize w6.heap.size = B3 at *
    have hk : HoldS (Three B1 C1 A1 B2 C2 A2 B3 C3 A3) w w7.drew := ⟨⟨hP7.drew, hQ7.drew, hR7.drew⟩, Below.drew hu7⟩
    have hS0 : ∀ e : InC (Three B1 C1 A1 B2 C2 A2 B3 C3 A3), e.u.cell? ⟨B1, 0, none⟩ = some (.int .u64 C1) := fun e => e.has.1.cell 0
    have hS1 : ∀ e : InC (Three B1 C1 A1 B2 C2 A2 B3 C3 A3), e.u.cell? ⟨B1, 1, none⟩ = some (.int .u64 A1) := fun e => e.has.1.cell 1
    have hS2 : ∀ e : InC (Three B1 C1 A1 B2 C2 A2 B3 C3 A3), e.u.cell? ⟨B2, 0, none⟩ = some (.int .u64 C2) := fun e => e.has.2.1.cell 0
    have hS3 : ∀ e : InC (Three B1 C1 A1 B2 C2 A2 B3 C3 A3), e.u.cell? ⟨B2, 1, none⟩ = some (.int .u64 A2) := fun e => e.has.2.1.cell 1
    have hS4 : ∀ e : InC (Three B1 C1 A1 B2 C2 A2 B3 C3 A3), e.u.cell? ⟨B3, 0, none⟩ = some (.int .u64 C3) := fun e => e.has.2.2.cell 0
    have hS5 : ∀ e : InC (Three B1 C1 A1 B2 C2 A2 B3 C3 A3), e.u.cell? ⟨B3, 1, none⟩ = some (.int .u64 A3) := fun e => e.has.2.2.cell 1
    clear hP7 hQ7 hR7
    change Code.wp _ _ _ (Act.mk _ _) _
    try change Code.wp _ _ _ (Act.mk _ _) _
    haveI hne_ : Nonempty (InC (Three B1 C1 A1 B2 C2 A2 B3 C3 A3)) := ⟨⟨_, hk.1⟩⟩
    refine wp_region_ph (C := fun w_ => ∃ e_ : InC (Three B1 C1 A1 B2 C2 A2 B3 C3 A3), w_ = e_.u) [([0, 1, 2], 3), ([4, 5, 6, 7], 8), ([], 9), ([10, 11, 12, 13, 15], 14), ([], 16), ([], 17)] [18] (by kernel_rfl) (by kernel_rfl) (fun _ _ _ _ hd_ h_ => ⟨hd_.symm.trans h_.1, h_.2⟩) ⟨⟨World.drew _, hk.1⟩, rfl⟩ ?_
    first | refine wpPh_cons ?_ | refine wpPh_nil ?_
    simp only [pickOps, List.flatMap_cons, List.flatMap_nil, List.drop_succ_cons, List.drop_zero, List.take_succ_cons, List.take_zero, List.cons_append, List.nil_append, List.append_nil]
    iterate 3 (go_big_quiet_step (exact rfl))
    refine wpQuiet_nil ?_
    iterate 6 (
      go_wp2_with (first
      | (go_at_call 25; refine (MulP_any _ _ _ (by omega) (by omega) (by omega) (by omega)).mono ?_; rintro e w' ⟨rfl, rfl⟩; rw [HXY.out])
      | (go_at_call 27; refine (CheckKnow_any _ _ _ _ _ ⟨by omega, by omega⟩ ⟨by omega, by omega⟩ ⟨by omega, by omega⟩ ⟨by omega, by omega⟩).mono ?_; rintro e w8 ⟨rfl, hb8⟩; (first | rw [HK1.out] | rw [HK2.out] | rw [HK3.out]); have hk8 := HoldS.step (by assumption) hb8))
      refine phPost_normal ⟨⟨⟨_, (show HoldS _ _ _ from by assumption).1⟩, rfl⟩, ?_⟩
      first | refine wpPh_cons ?_ | refine wpPh_nil ?_
      simp only [pickOps, List.flatMap_cons, List.flatMap_nil, List.drop_succ_cons, List.drop_zero, List.take_succ_cons, List.take_zero, List.cons_append, List.nil_append, List.append_nil]
      repeat (go_big_quiet_step (exact rfl))
      refine wpQuiet_nil ?_)
    go_wp2_with fail
    go_ret
    exact ⟨rfl, (show HoldS _ _ _ from by assumption).2⟩
  · have hdg := decide_eq_false hg
    clear HXY HK1 HK2 HK3 hg t0 t1
    go_enter Try.func6, Try.ntmps6
    go_wp2_with (first
      | (go_at_call 22; refine (alive_any _).mono ?_; rintro e w1 ⟨rfl, hb1⟩; replace hu := hu.step hb1)
      | (go_at_call 23; refine (Rightr_any _ _ (by omega) (by omega)).mono ?_; rintro e w' ⟨rfl, rfl⟩; rw [hdg]))
    go_ret
    exact ⟨rfl, hu⟩
end Go.Proofs.Yteialfdhbfbkgaa
