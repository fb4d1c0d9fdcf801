/-
  Numbers modulo P: reduce, multiply, raise to a power: both programs.
-/
import Derived.Test.YteialfdhbfbkgaaMem
import Derived.Test.YteialfdhbfbkgaaRegion
namespace Go.Proofs.Yteialfdhbfbkgaa
set_option linter.unusedVariables false
set_option linter.unusedSimpArgs false
open Go Go.RowKit

theorem ret_u64 {a b : Int} (h : a = b) : Ending.returned (.int .u64 a) = Ending.returned (.int .u64 b) := by rw [h]
theorem ret2_u64 {a b c d : Int} (h : a = c) (h' : b = d) : Ending.returned (.tuple #[.int .u64 a, .int .u64 b]) = Ending.returned (.tuple #[.int .u64 c, .int .u64 d]) := by rw [h, h']
theorem mask_P (x : Int) (h0 : 0 ≤ x) (h : x < 18446744073709551616) : bits .and .u64 x 2305843009213693951 = x % 2305843009213693952 := mask_u64 x 61 (by omega) h0 h

set_option maxHeartbeats 400000 in
theorem Reduce_any (x : Int) (w : World) (h0 : 0 ≤ x) (h : x < 18446744073709551616) :
    Calls Try.prog 110 #[.int .u64 x] w fun e w' => e = .returned (.int .u64 (x % 2305843009213693951)) ∧ w = w' := by
  have hm := mask_P x h0 h
  have h1 : x % 2305843009213693952 < 2305843009213693952 := by omega
  by_cases hc : x / 2305843009213693952 + x % 2305843009213693952 < 2305843009213693951
  · go_enter Try.func110, Try.ntmps110
    go_wp2
    go_ret
    exact ⟨ret_u64 (by omega), rfl⟩
  · go_enter Try.func110, Try.ntmps110
    go_wp2
    go_ret
    exact ⟨ret_u64 (by omega), rfl⟩

theorem expandI (a b c d B : Int) : (a * B + b) * (c * B + d) = a * c * (B * B) + (a * d + b * c) * B + b * d := by
  have e1 : a * B * (c * B) = a * c * (B * B) := by rw [Int.mul_assoc, Int.mul_left_comm B c B, ← Int.mul_assoc]
  have e2 : a * B * d = a * d * B := Int.mul_right_comm _ _ _
  have e3 : b * (c * B) = b * c * B := (Int.mul_assoc _ _ _).symm
  rw [Int.add_mul, Int.mul_add, Int.mul_add, e1, e2, e3, Int.add_mul]; omega
theorem mul_lt32i (a b : Int) (h0 : 0 ≤ a) (ha : a < 4294967296) (h1 : 0 ≤ b) (hb : b < 4294967296) : 0 ≤ a * b ∧ a * b ≤ 18446744065119617025 :=
  ⟨Int.mul_nonneg h0 h1, Int.le_trans (Int.mul_le_mul (show a ≤ 4294967295 by omega) (show b ≤ 4294967295 by omega) h1 (by decide)) (by decide)⟩
theorem mul_ltP (a b : Int) (h0 : 0 ≤ a) (ha : a < 2305843009213693952) (h1 : 0 ≤ b) (hb : b < 2305843009213693952) : 0 ≤ a * b ∧ a * b / 18446744073709551616 < 288230376151711744 := by
  refine ⟨Int.mul_nonneg h0 h1, ?_⟩
  have h : a * b ≤ 2305843009213693951 * 2305843009213693951 := Int.mul_le_mul (by omega) (by omega) h1 (by decide)
  have h2 : (2305843009213693951 * 2305843009213693951 : Int) = 5316911983139663487003542222693990401 := by decide
  omega
theorem Mul64_plaini (x y : Int) (hx0 : 0 ≤ x) (hx : x < 18446744073709551616) (hy0 : 0 ≤ y) (hy : y < 18446744073709551616) :
    (x / 4294967296) * (y / 4294967296) + ((x / 4294967296) * (y % 4294967296) + (x % 4294967296) * (y % 4294967296) / 4294967296) / 4294967296
      + (((x / 4294967296) * (y % 4294967296) + (x % 4294967296) * (y % 4294967296) / 4294967296) % 4294967296 + (x % 4294967296) * (y / 4294967296)) / 4294967296 = x * y / 18446744073709551616 := by
  have e : x * y = (x / 4294967296) * (y / 4294967296) * 18446744073709551616 + ((x / 4294967296) * (y % 4294967296) + (x % 4294967296) * (y / 4294967296)) * 4294967296 + (x % 4294967296) * (y % 4294967296) := by
    have h := expandI (x / 4294967296) (x % 4294967296) (y / 4294967296) (y % 4294967296) 4294967296
    rw [show x / 4294967296 * 4294967296 + x % 4294967296 = x from by omega, show y / 4294967296 * 4294967296 + y % 4294967296 = y from by omega] at h
    exact h
  rw [e]
  generalize (x / 4294967296) * (y / 4294967296) = p
  generalize (x / 4294967296) * (y % 4294967296) = q
  generalize (x % 4294967296) * (y / 4294967296) = r
  generalize (x % 4294967296) * (y % 4294967296) = s
  omega

set_option maxHeartbeats 400000 in
theorem Mul64_any (x y : Int) (w : World) (hx0 : 0 ≤ x) (hx : x < 18446744073709551616) (hy0 : 0 ≤ y) (hy : y < 18446744073709551616) :
    Calls Try.prog 113 #[.int .u64 x, .int .u64 y] w fun e w' => e = .returned (.tuple #[.int .u64 (x * y / 18446744073709551616), .int .u64 (x * y % 18446744073709551616)]) ∧ w = w' := by
  have m1 := mask_u64_32 x hx0 hx
  have m2 := mask_u64_32 y hy0 hy
  obtain ⟨p0, p1⟩ := mul_lt32i (x / 4294967296) (y / 4294967296) (by omega) (by omega) (by omega) (by omega)
  obtain ⟨q0, q1⟩ := mul_lt32i (x / 4294967296) (y % 4294967296) (by omega) (by omega) (by omega) (by omega)
  obtain ⟨r0, r1⟩ := mul_lt32i (x % 4294967296) (y / 4294967296) (by omega) (by omega) (by omega) (by omega)
  obtain ⟨s0, s1⟩ := mul_lt32i (x % 4294967296) (y % 4294967296) (by omega) (by omega) (by omega) (by omega)
  have m3 := mask_u64_32 (x / 4294967296 * (y % 4294967296) + x % 4294967296 * (y % 4294967296) / 4294967296) (by omega) (by omega)
  have hpl := Lib.hid (Mul64_plaini x y hx0 hx hy0 hy)
  go_enter Try.func113, Try.ntmps113
  go_wp2
  go_ret2
  exact ⟨ret2_u64 (by rw [← hpl.out]) (by rw [IntKind.wrap_u64]), rfl⟩

/-- The product, by halves: the reference. -/
theorem wide_plain (x y : Int) (hx0 : 0 ≤ x) (hx : x < 18446744073709551616) (hy0 : 0 ≤ y) (hy : y < 18446744073709551616) :
    ((x / 4294967296) * (y / 4294967296) + (x / 4294967296) * (y % 4294967296) / 4294967296 + (x % 4294967296) * (y / 4294967296) / 4294967296
      + ((x % 4294967296) * (y % 4294967296) / 4294967296 + (x / 4294967296) * (y % 4294967296) % 4294967296 + (x % 4294967296) * (y / 4294967296) % 4294967296) / 4294967296 = x * y / 18446744073709551616) ∧
    ((x % 4294967296) * (y % 4294967296) / 4294967296 + (x / 4294967296) * (y % 4294967296) % 4294967296 + (x % 4294967296) * (y / 4294967296) % 4294967296) * 4294967296 % 18446744073709551616 + (x % 4294967296) * (y % 4294967296) % 4294967296 = x * y % 18446744073709551616 := by
  have e : x * y = (x / 4294967296) * (y / 4294967296) * 18446744073709551616 + ((x / 4294967296) * (y % 4294967296) + (x % 4294967296) * (y / 4294967296)) * 4294967296 + (x % 4294967296) * (y % 4294967296) := by
    have h := expandI (x / 4294967296) (x % 4294967296) (y / 4294967296) (y % 4294967296) 4294967296
    rw [show x / 4294967296 * 4294967296 + x % 4294967296 = x from by omega, show y / 4294967296 * 4294967296 + y % 4294967296 = y from by omega] at h
    exact h
  rw [e]
  generalize (x / 4294967296) * (y / 4294967296) = p
  generalize (x / 4294967296) * (y % 4294967296) = q
  generalize (x % 4294967296) * (y / 4294967296) = r
  generalize (x % 4294967296) * (y % 4294967296) = s
  omega
theorem join64 (x y : Int) (i : Nat) (hx0 : 0 ≤ x) (hx : x % 2 ^ i = 0) (hx1 : x < 18446744073709551616) (hy0 : 0 ≤ y) (hy : y < 2 ^ i) (hy1 : y < 18446744073709551616) : bits .or .u64 x y = x + y :=
  bits_join .u64 64 (by decide) (fun m a b => by rw [IntKind.wrap_u64]; omega) i x y hx0 hx (by omega) hy0 hy (by omega)

set_option maxHeartbeats 400000 in
theorem wide_any (x y : Int) (w : World) (hx0 : 0 ≤ x) (hx : x < 18446744073709551616) (hy0 : 0 ≤ y) (hy : y < 18446744073709551616) :
    Calls Try.prog 52 #[.int .u64 x, .int .u64 y] w fun e w' => e = .returned (.tuple #[.int .u64 (x * y / 18446744073709551616), .int .u64 (x * y % 18446744073709551616)]) ∧ w = w' := by
  have m1 := mask_u64_32 x hx0 hx
  have m2 := mask_u64_32 y hy0 hy
  obtain ⟨p0, p1⟩ := mul_lt32i (x / 4294967296) (y / 4294967296) (by omega) (by omega) (by omega) (by omega)
  obtain ⟨q0, q1⟩ := mul_lt32i (x / 4294967296) (y % 4294967296) (by omega) (by omega) (by omega) (by omega)
  obtain ⟨r0, r1⟩ := mul_lt32i (x % 4294967296) (y / 4294967296) (by omega) (by omega) (by omega) (by omega)
  obtain ⟨s0, s1⟩ := mul_lt32i (x % 4294967296) (y % 4294967296) (by omega) (by omega) (by omega) (by omega)
  have m3 := mask_u64_32 (x / 4294967296 * (y % 4294967296)) (by omega) (by omega)
  have m4 := mask_u64_32 (x % 4294967296 * (y / 4294967296)) (by omega) (by omega)
  have m5 := mask_u64_32 (x % 4294967296 * (y % 4294967296)) (by omega) (by omega)
  have hpl := Lib.hid (wide_plain x y hx0 hx hy0 hy)
  go_enter Try.func52, Try.ntmps52
  go_wp2
  go_ret2
  refine ⟨ret2_u64 (by rw [← hpl.out.1]) (by
    rw [← hpl.out.2]
    rw [IntKind.wrap_u64]
    exact join64 _ _ 32 (by omega) (by omega) (by omega) (by omega) (by omega) (by omega)), rfl⟩
end Go.Proofs.Yteialfdhbfbkgaa
