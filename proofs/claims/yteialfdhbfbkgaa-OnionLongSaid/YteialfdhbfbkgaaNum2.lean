/-
  Products and powers modulo P: both programs.
-/
import Derived.Test.YteialfdhbfbkgaaNum1
import Derived.Test.YteialfdhbfbkgaaFermat
namespace Go.Proofs.Yteialfdhbfbkgaa
set_option linter.unusedVariables false
set_option linter.unusedSimpArgs false
open Go Go.RowKit

theorem modP_fold (m : Int) (h0 : 0 ≤ m) (hm : m / 18446744073709551616 < 288230376151711744) :
    (m / 18446744073709551616 * 8 + m % 18446744073709551616 / 2305843009213693952 + m % 2305843009213693952) % 2305843009213693951 = m % 2305843009213693951 := by omega

set_option maxHeartbeats 400000 in
theorem Mul_any (x y : Int) (w : World) (hx0 : 0 ≤ x) (hx : x < 18446744073709551616) (hy0 : 0 ≤ y) (hy : y < 18446744073709551616) :
    Calls Try.prog 111 #[.int .u64 x, .int .u64 y] w fun e w' => e = .returned (.int .u64 (x * y % 2305843009213693951)) ∧ w = w' := by
  have hf : (x % 2305843009213693951 * (y % 2305843009213693951)) % 2305843009213693951 = x * y % 2305843009213693951 := (Int.mul_emod x y _).symm
  have HF := Lib.hid hf; clear hf
  obtain ⟨b0, b1⟩ := mul_ltP (x % 2305843009213693951) (y % 2305843009213693951) (by omega) (by omega) (by omega) (by omega)
  have hm := mask_P (x % 2305843009213693951 * (y % 2305843009213693951) % 18446744073709551616) (by omega) (by omega)
  have hd := Lib.hid (modP_fold _ b0 b1)
  go_enter Try.func111, Try.ntmps111
  go_wp2_with (first
    | (go_at_call 113; refine (Mul64_any _ _ _ (by omega) (by omega) (by omega) (by omega)).mono ?_; rintro e w' ⟨rfl, rfl⟩)
    | (go_at_call 110; refine (Reduce_any _ _ (by omega) (by omega)).mono ?_; rintro e w' ⟨rfl, rfl⟩))
  go_ret
  exact ⟨ret_u64 (by rw [← HF.out, ← hd.out]), rfl⟩

set_option maxHeartbeats 400000 in
theorem MulP_any (x y : Int) (w : World) (hx0 : 0 ≤ x) (hx : x < 18446744073709551616) (hy0 : 0 ≤ y) (hy : y < 18446744073709551616) :
    Calls Try.prog 25 #[.int .u64 x, .int .u64 y] w fun e w' => e = .returned (.int .u64 (x * y % 2305843009213693951)) ∧ w = w' := by
  have hf : (x % 2305843009213693951 * (y % 2305843009213693951)) % 2305843009213693951 = x * y % 2305843009213693951 := (Int.mul_emod x y _).symm
  have HF := Lib.hid hf; clear hf
  obtain ⟨b0, b1⟩ := mul_ltP (x % 2305843009213693951) (y % 2305843009213693951) (by omega) (by omega) (by omega) (by omega)
  have hm := mask_P (x % 2305843009213693951 * (y % 2305843009213693951) % 18446744073709551616) (by omega) (by omega)
  have hj := join64 (x % 2305843009213693951 * (y % 2305843009213693951) / 18446744073709551616 * 8) (x % 2305843009213693951 * (y % 2305843009213693951) % 18446744073709551616 / 2305843009213693952) 3 (by omega) (by omega) (by omega) (by omega) (by omega) (by omega)
  have hd := Lib.hid (modP_fold _ b0 b1)
  go_enter Try.func25, Try.ntmps25
  go_wp2_with (go_at_call 52; refine (wide_any _ _ _ (by omega) (by omega) (by omega) (by omega)).mono ?_; rintro e w' ⟨rfl, rfl⟩)
  go_ret
  exact ⟨ret_u64 (by rw [← HF.out, ← hd.out]), rfl⟩

/-- x to the power e, modulo P. -/
def powP (x e : Int) : Int := ((x.toNat ^ e.toNat % PP : Nat) : Int)
theorem powP_nonneg (x e : Int) : 0 ≤ powP x e := by unfold powP; omega
theorem powP_lt (x e : Int) : powP x e < 2305843009213693951 := by
  unfold powP
  have := Nat.mod_lt (x.toNat ^ e.toNat) (show 0 < PP by decide)
  have h : PP = 2305843009213693951 := rfl
  omega
theorem pow_odd (o a k : Nat) (h : k % 2 = 1) : o * a ^ k % PP = (o * a % PP) * (a * a % PP) ^ (k / 2) % PP := by
  have e : a ^ k = a * (a * a) ^ (k / 2) := by
    rw [← Nat.pow_two, ← Nat.pow_mul, ← Nat.pow_succ', show (2 * (k / 2)).succ = k from by omega]
  rw [e, ← Nat.mul_assoc, Nat.mul_mod, Nat.pow_mod (a * a), Nat.mul_mod_mod]
theorem pow_even (o a k : Nat) (h : k % 2 = 0) : o * a ^ k % PP = o * (a * a % PP) ^ (k / 2) % PP := by
  have e : a ^ k = (a * a) ^ (k / 2) := by
    rw [← Nat.pow_two, ← Nat.pow_mul, show 2 * (k / 2) = k from by omega]
  rw [e, Nat.mul_mod, Nat.pow_mod (a * a), ← Nat.mul_mod]
theorem bit_u64 (x : Int) (h0 : 0 ≤ x) (h : x < 18446744073709551616) : bits .and .u64 x 1 = x % 2 := mask_u64 x 1 (by omega) h0 h

def PowRel (x e : Nat) (b i v : Value) : Prop :=
  ∃ o a k : Nat, v = .int .u64 o ∧ b = .int .u64 a ∧ i = .int .u64 k ∧ o < 2305843009213693951 ∧ a < 2305843009213693951 ∧ k < 18446744073709551616 ∧ Hid (o * a ^ k % PP = x ^ e % PP)

set_option maxHeartbeats 400000 in
theorem Pow_any (x e : Int) (w : World) (hx0 : 0 ≤ x) (hx : x < 18446744073709551616) (he0 : 0 ≤ e) (he : e < 18446744073709551616) :
    Calls Try.prog 83 #[.int .u64 x, .int .u64 e] w fun e_ w' => e_ = .returned (.int .u64 (powP x e)) ∧ w = w' := by
  obtain ⟨x, rfl⟩ := Int.eq_ofNat_of_zero_le hx0
  obtain ⟨e, rfl⟩ := Int.eq_ofNat_of_zero_le he0
  have HPW := Lib.hid (show powP x e = ((x ^ e % PP : Nat) : Int) from rfl)
  generalize powP x e = pw at *
  go_enter Try.func83, Try.ntmps83
  go_wp2_with (go_at_call 110; refine (Reduce_any _ _ (by omega) (by omega)).mono ?_; rintro e_ w' ⟨rfl, rfl⟩)
  go_loop [0, 1, 5] (fun b i v => PowRel x e b i v) (fun _ i _ => (intOf i).toNat)
  case atStart => exact ⟨1, x % 2305843009213693951, e, rfl, by simp, rfl, by omega, by omega, by omega, Lib.hid (by rw [Nat.one_mul]; exact (Nat.pow_mod x e PP).symm)⟩
  case round =>
    obtain ⟨o, a, k, rfl, rfl, rfl, ho, ha, hk, hi⟩ := hrel
    have hb := bit_u64 (k : Int) (by omega) (by omega)
    by_cases h0 : 0 < k
    · by_cases h1 : k % 2 = 1
      · have h1' : (k : Int) % 2 = 1 := by omega
        have H1 := Lib.hid h1; clear h1
        go_wp2_with (go_at_call 111; refine (Mul_any _ _ _ (by omega) (by omega) (by omega) (by omega)).mono ?_; rintro e_ w' ⟨rfl, rfl⟩)
        exact ⟨⟨o * a % 2305843009213693951, a * a % 2305843009213693951, k / 2, by simp, by simp, by simp, by omega, by omega, by omega, Lib.hid (by have := pow_odd o a k H1.out; rw [hi.out] at this; exact this.symm)⟩, by simp [intOf]; omega⟩
      · have h1' : (k : Int) % 2 = 0 := by omega
        have H1 := Lib.hid (show k % 2 = 0 by omega); clear h1
        go_wp2_with (go_at_call 111; refine (Mul_any _ _ _ (by omega) (by omega) (by omega) (by omega)).mono ?_; rintro e_ w' ⟨rfl, rfl⟩)
        exact ⟨⟨o, a * a % 2305843009213693951, k / 2, rfl, by simp, by simp, by omega, by omega, by omega, Lib.hid (by have := pow_even o a k H1.out; rw [hi.out] at this; exact this.symm)⟩, by simp [intOf]; omega⟩
    · obtain rfl : k = 0 := by omega
      have ho' : x ^ e % PP = o := by rw [← hi.out, Nat.pow_zero, Nat.mul_one]; exact Nat.mod_eq_of_lt ho
      have HO := Lib.hid ho'; clear ho'
      go_wp2
      go_ret
      exact ⟨ret_u64 (by rw [HPW.out, HO.out]), rfl⟩

theorem powP_step (x q o : Nat) (h : o = x ^ (q / 2) % PP) : (q % 2 = 1 → o * o % PP * (x % PP) % PP = x ^ q % PP) ∧ (q % 2 = 0 → o * o % PP = x ^ q % PP) := by
  subst h
  have e0 : x ^ (q / 2) % PP * (x ^ (q / 2) % PP) % PP = x ^ (2 * (q / 2)) % PP := by rw [← Nat.mul_mod, ← Nat.pow_add, ← Nat.two_mul]
  constructor
  · intro h
    rw [e0, ← Nat.mul_mod, ← Nat.pow_succ, show (2 * (q / 2)).succ = q from by omega]
  · intro h
    rw [e0, show 2 * (q / 2) = q from by omega]
def PowPRel (x e : Nat) (i v : Value) : Prop :=
  ∃ j o : Nat, j ≤ 64 ∧ i = .int .i64 ((j : Int) - 1) ∧ v = .int .u64 o ∧ o < 2305843009213693951 ∧ Hid (o = x ^ (e / 2 ^ j) % PP)

set_option maxHeartbeats 400000 in
theorem PowP_any (x e : Int) (w : World) (hx0 : 0 ≤ x) (hx : x < 18446744073709551616) (he0 : 0 ≤ e) (he : e < 18446744073709551616) :
    Calls Try.prog 49 #[.int .u64 x, .int .u64 e] w fun e_ w' => e_ = .returned (.int .u64 (powP x e)) ∧ w = w' := by
  obtain ⟨x, rfl⟩ := Int.eq_ofNat_of_zero_le hx0
  obtain ⟨e, rfl⟩ := Int.eq_ofNat_of_zero_le he0
  have HPW := Lib.hid (show powP x e = ((x ^ e % PP : Nat) : Int) from rfl)
  generalize powP x e = pw at *
  go_enter Try.func49, Try.ntmps49
  go_wp2_with fail
  go_loop [6, 5] (fun i v => PowPRel x e i v) (fun i _ => (intOf i + 1).toNat)
  case atStart =>
    refine ⟨64, 1, by omega, rfl, rfl, by omega, Lib.hid ?_⟩
    rw [Nat.div_eq_of_lt (by omega), Nat.pow_zero]; rfl
  case round =>
    obtain ⟨j, o, hj, rfl, rfl, ho, hi⟩ := hrel
    by_cases h0 : 0 < j
    · obtain ⟨n, rfl⟩ : ∃ n, j = n + 1 := ⟨j - 1, by omega⟩
      have hn : n < 64 := by omega
      have hqi : (e : Int) / 2 ^ n = ((e / 2 ^ n : Nat) : Int) := by simp
      have hq2 : e / 2 ^ n < 18446744073709551616 := Nat.lt_of_le_of_lt (Nat.div_le_self _ _) (by omega)
      have hqq : e / 2 ^ n / 2 = e / 2 ^ (n + 1) := by rw [Nat.div_div_eq_div_mul, ← Nat.pow_succ]
      rw [← hqq] at hi
      have e1 : (((n + 1 : Nat) : Int) - 1) = (n : Int) := by omega
      rw [e1]; clear e1 h0 hx0 he0 hqq he hx
      have hrel2 : ∀ o' : Nat, o' < 2305843009213693951 → o' = x ^ (e / 2 ^ n) % PP → PowPRel x e (.int .i64 ((n : Int) - 1)) (.int .u64 o') := fun o' h1 h2 => ⟨n, o', by omega, rfl, rfl, h1, Lib.hid h2⟩
      have HR := Lib.hid hrel2; clear hrel2
      generalize e / 2 ^ n = q at *
      have hb := bit_u64 (q : Int) (by omega) (by omega)
      have hpw := powP_step x q o hi.out
      have HP := Lib.hid hpw; clear hpw
      by_cases h1 : q % 2 = 1
      · have h1' : (q : Int) % 2 = 1 := by omega
        have H1 := Lib.hid h1; clear h1
        go_wp2_with (go_at_call 25; refine (MulP_any _ _ _ (by omega) (by omega) (by omega) (by omega)).mono ?_; rintro e_ w' ⟨rfl, rfl⟩)
        refine ⟨?_, by simp [intOf]⟩
        have h := HR.out (o * o % 2305843009213693951 * (x % 2305843009213693951) % 2305843009213693951) (Nat.mod_lt _ (by decide)) (HP.out.1 H1.out)
        rw [show ((o * o % 2305843009213693951 * (x % 2305843009213693951) % 2305843009213693951 : Nat) : Int) = (o : Int) * o % 2305843009213693951 * ((x : Int) % 2305843009213693951) % 2305843009213693951 from by rw [Int.natCast_emod, Int.natCast_mul, Int.natCast_emod, Int.natCast_emod, Int.natCast_mul]; rfl] at h
        exact h
      · have h1' : (q : Int) % 2 = 0 := by omega
        have H1 := Lib.hid (show q % 2 = 0 by omega); clear h1
        go_wp2_with (go_at_call 25; refine (MulP_any _ _ _ (by omega) (by omega) (by omega) (by omega)).mono ?_; rintro e_ w' ⟨rfl, rfl⟩)
        refine ⟨?_, by simp [intOf]⟩
        have h := HR.out (o * o % 2305843009213693951) (Nat.mod_lt _ (by decide)) (HP.out.2 H1.out)
        rw [show ((o * o % 2305843009213693951 : Nat) : Int) = (o : Int) * o % 2305843009213693951 from by simp] at h
        exact h
    · obtain rfl : j = 0 := by omega
      have ho' : o = x ^ e % PP := by rw [hi.out, Nat.pow_zero, Nat.div_one]
      have HO := Lib.hid ho'; clear ho' he hx
      go_wp2
      go_ret
      exact ⟨ret_u64 (by rw [HPW.out, HO.out]), rfl⟩
end Go.Proofs.Yteialfdhbfbkgaa
