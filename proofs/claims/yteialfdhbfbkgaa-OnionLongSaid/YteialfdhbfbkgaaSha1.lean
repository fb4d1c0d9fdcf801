/-
  The rounds of SHA-256: both programs' rotations, the round and the block of the first program.
-/
import Derived.Test.YteialfdhbfbkgaaProg
import Derived.Test.YteialfdhbfbkgaaBase
import Derived.BigQuiet
import Derived.Deep.QuietTactic
namespace Go.Proofs.Yteialfdhbfbkgaa
set_option linter.unusedVariables false
set_option linter.unusedSimpArgs false
open Go Go.RowKit
attribute [local go_sem] bits32_and bits32_or bits32_xor bits32_not add32 add32' shr32_3 shr32_10 u32_unsigned

set_option maxHeartbeats 400000 in
theorem rot_any (x : BitVec 32) (n : Int) (w : World) (h0 : 0 < n) (h1 : n < 32) :
    Calls Try.prog 126 #[.int .u32 (N32 x), .int .i64 n] w fun e w' => e = .returned (.int .u32 (N32 (x.rotateRight n.toNat))) ∧ w' = w := by
  have hm : bits .and .u64 n 31 = n := by
    have := bits_mask .u64 64 (by decide) (fun m a b => by rw [IntKind.wrap_u64]; omega) 5 (by decide) n (by omega) (by omega)
    simp at this; rw [this]; omega
  have hn : bits .and .u64 (32 - n) 31 = 32 - n := by
    have := bits_mask .u64 64 (by decide) (fun m a b => by rw [IntKind.wrap_u64]; omega) 5 (by decide) (32 - n) (by omega) (by omega)
    simp at this; rw [this]; omega
  have hr := rot32 x n.toNat (by omega) (by omega)
  rw [show 32 - n.toNat = (32 - n).toNat from by omega] at hr
  go_enter Try.func126, Try.ntmps126
  go_wp2
  go_ret
  exact ⟨rfl, rfl⟩

set_option maxHeartbeats 400000 in
theorem rotr_any (x : BitVec 32) (n : Int) (w : World) (h0 : 0 < n) (h1 : n < 32) :
    Calls Try.prog 127 #[.int .u32 (N32 x), .int .i64 n] w fun e w' => e = .returned (.int .u32 (N32 (x.rotateRight n.toNat))) ∧ w' = w := by
  have hm : n % 32 = n := by omega
  have hn : (n + 32) % 32 = n := by omega
  have hz : (n == 0) = false := beq_eq_false_iff_ne.2 (by omega)
  have hr := rot32 x n.toNat (by omega) (by omega)
  rw [show 32 - n.toNat = (32 - n).toNat from by omega] at hr
  go_enter Try.func127, Try.ntmps127
  go_wp2
  go_ret
  exact ⟨rfl, rfl⟩

theorem turn_any (x : BitVec 32) (n : Int) (w : World) (h0 : 0 < n) (h1 : n < 32) :
    Calls Try.prog 118 #[.int .u32 (N32 x), .int .i64 n] w fun e w' => e = .returned (.int .u32 (N32 (x.rotateRight n.toNat))) ∧ w' = w := by
  go_enter Try.func118, Try.ntmps118
  go_wp2_with (go_at_call 127; refine (rotr_any _ _ _ (by omega) (by omega)).mono ?_; rintro e w' ⟨rfl, rfl⟩)
  go_ret
  exact ⟨rfl, rfl⟩

set_option maxHeartbeats 400000 in
theorem step_any (s : W8) (k : BitVec 32) (w : World) :
    Calls Try.prog 116 #[agg8 s, .int .u32 (N32 k)] w fun e w' => e = .returned (agg8 (shaStep s k)) ∧ Below w.heap.size w w' := by
  go_enter Try.func116, Try.ntmps116
  go_wp2_with fail
  go_quiet (fail)
  go_wp2_with (go_at_call 126; refine (rot_any _ _ _ (by omega) (by omega)).mono ?_; rintro e w' ⟨rfl, rfl⟩)
  exact bodyPost_ret (v := agg8 (shaStep s k)) (by simp [results, Try.results116, go_sem, shaStep]) rfl ⟨rfl, below_drewN (by go_grown) _⟩
end Go.Proofs.Yteialfdhbfbkgaa
