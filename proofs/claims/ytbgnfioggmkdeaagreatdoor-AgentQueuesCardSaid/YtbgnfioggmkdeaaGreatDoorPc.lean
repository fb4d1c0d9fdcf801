/-
  Fermat's theorem for the prime 2^61 - 1, by a generator: 37 has the order 2^61 - 2, so its powers are all residues but 0.
  Numbers modulo P: reduce, multiply, raise to a power: both programs.
  Products and powers modulo P: both programs.
  A number of 128 bits modulo N: the library's division, at that divisor.
  Reckoning modulo N: both programs.
  The group: elements, powers, products: both programs.
  Slices of slices of bytes of a call's own; strings to bytes.
  Challenges: both programs.
-/
import Derived.KernelRfl
import Derived.Test.YtbgnfioggmkdeaaGreatDoorPa
import Derived.Laws.IdiomStrings
import Derived.Test.YtbgnfioggmkdeaaGreatDoorPb
namespace Go.Proofs.YtbgnfioggmkdeaaGreatDoor
set_option linter.unusedVariables false
set_option linter.unusedSimpArgs false

/-- An injection of the numbers below n into themselves meets each of them. -/
theorem surj_of_inj : ∀ (n : Nat) (f : Nat → Nat), (∀ i, i < n → f i < n) → (∀ i j, i < n → j < n → f i = f j → i = j) → ∀ y, y < n → ∃ i, i < n ∧ f i = y := by
  intro n
  induction n with
  | zero => intro f _ _ y hy; omega
  | succ n ih =>
    intro f hf hinj y hy
    -- g: f with the value n turned into f n
    let g : Nat → Nat := fun i => if f i = n then f n else f i
    have hg : ∀ i, i < n → g i < n := by
      intro i hi
      show (if f i = n then f n else f i) < n
      by_cases h : f i = n
      · rw [if_pos h]
        have h1 := hf n (by omega)
        have h2 : f n ≠ n := fun e => by have := hinj i n (by omega) (by omega) (by rw [h, e]); omega
        omega
      · rw [if_neg h]
        have h1 := hf i (by omega)
        omega
    have hgi : ∀ i j, i < n → j < n → g i = g j → i = j := by
      intro i j hi hj
      show (if f i = n then f n else f i) = (if f j = n then f n else f j) → i = j
      by_cases h1 : f i = n <;> by_cases h2 : f j = n
      · intro _; exact hinj i j (by omega) (by omega) (by rw [h1, h2])
      · rw [if_pos h1, if_neg h2]; intro e; have := hinj n j (by omega) (by omega) e; omega
      · rw [if_neg h1, if_pos h2]; intro e; have := hinj i n (by omega) (by omega) e; omega
      · rw [if_neg h1, if_neg h2]; intro e; exact hinj i j (by omega) (by omega) e
    by_cases hyn : f n = y
    · exact ⟨n, by omega, hyn⟩
    · by_cases hy2 : y = n
      · subst hy2
        -- some i < n has f i = n: else f n = n
        have h1 := hf y (by omega)
        obtain ⟨i, hi, he⟩ := ih g hg hgi (f y) (by omega)
        have he' : (if f i = y then f y else f i) = f y := he
        by_cases h : f i = y
        · exact ⟨i, by omega, h⟩
        · rw [if_neg h] at he'; have := hinj i y (by omega) (by omega) he'; omega
      · obtain ⟨i, hi, he⟩ := ih g hg hgi y (by omega)
        have he' : (if f i = n then f n else f i) = y := he
        by_cases h : f i = n
        · rw [if_pos h] at he'; exact absurd he' hyn
        · rw [if_neg h] at he'; exact ⟨i, by omega, he'⟩

def PP : Nat := 2305843009213693951
def NN : Nat := 2305843009213693950

/-- Powers modulo PP, by squaring (the first number: a bound on the rounds). -/
def powm : Nat → Nat → Nat → Nat
  | 0, _, _ => 1
  | f + 1, a, e => if e = 0 then 1 else
    let h := powm f (a * a % PP) (e / 2)
    if e % 2 = 1 then a * h % PP else h
theorem powm_eq : ∀ (f a e : Nat), e < 2 ^ f → powm f a e % PP = a ^ e % PP := by
  intro f
  induction f with
  | zero => intro a e he; have : e = 0 := by simpa using he
            subst this; rfl
  | succ f ih =>
    intro a e he
    unfold powm
    by_cases h0 : e = 0
    · rw [if_pos h0, h0]; rfl
    · rw [if_neg h0]
      have hh := ih (a * a % PP) (e / 2) (by rw [Nat.pow_succ] at he; omega)
      have hsq : (a * a % PP) ^ (e / 2) % PP = a ^ (2 * (e / 2)) % PP := by
        rw [← Nat.pow_mod, Nat.pow_mul, Nat.pow_two]
      rw [hsq] at hh
      by_cases h1 : e % 2 = 1
      · simp only [h1, if_true]
        rw [Nat.mod_mod, Nat.mul_mod, hh, ← Nat.mul_mod, ← Nat.pow_succ', show (2 * (e / 2)).succ = e from by omega]
      · simp only [h1, if_false]
        rw [hh, show 2 * (e / 2) = e from by omega]

theorem pow37 (e : Nat) (he : e < 2 ^ 62) : 37 ^ e % PP = powm 62 37 e % PP := (powm_eq 62 37 e he).symm
theorem pow37_N : 37 ^ NN % PP = 1 := by
  rw [pow37 NN (by decide)]; decide +kernel

def one (a : Nat) : Prop := 37 ^ a % PP = 1
theorem one_N : one NN := pow37_N
theorem one_mul {a : Nat} (h : one a) (k : Nat) : one (a * k) := by
  unfold one at *
  rw [Nat.pow_mul, Nat.pow_mod, h, Nat.one_pow]; decide
theorem one_of_add {a b : Nat} (h : one (a + b)) (hb : one b) : one a := by
  unfold one at *
  rw [Nat.pow_add, Nat.mul_mod, hb, Nat.mul_one, Nat.mod_mod] at h; exact h
theorem one_mod {a b : Nat} (ha : one a) (hb : one b) : one (a % b) := by
  have h : one (a % b + b * (a / b)) := by rw [Nat.mod_add_div]; exact ha
  exact one_of_add h (one_mul hb _)
theorem one_gcd (a b : Nat) (ha : one a) (hb : one b) : one (Nat.gcd a b) := by
  induction a, b using Nat.gcd.induction with
  | H0 n => rw [Nat.gcd_zero_left]; exact hb
  | H1 m n hm ih => rw [Nat.gcd_rec]; exact ih (one_mod hb ha) ha

/-- The primes of NN. -/
def qs : List Nat := [2, 3, 5, 7, 11, 13, 31, 41, 61, 151, 331, 1321]
theorem qs_pos : ∀ q ∈ qs, 0 < q := by decide
theorem not_one : ∀ q ∈ qs, ¬ one (NN / q) := by
  intro q hq
  unfold one
  rw [pow37 (NN / q) (Nat.lt_of_le_of_lt (Nat.div_le_self _ _) (by decide))]
  revert q
  decide +kernel
theorem q_prime : ∀ q ∈ qs, ∀ d, d ∣ q → d = 1 ∨ d = q := by
  have h : ∀ q ∈ qs, ∀ d, d < q + 1 → (q % d = 0 → d = 1 ∨ d = q) := by decide +kernel
  intro q hq d hd
  exact h q hq d (Nat.lt_succ_of_le (Nat.le_of_dvd (qs_pos q hq) hd)) (Nat.mod_eq_zero_of_dvd hd)
theorem qs_dvd : ∀ q ∈ qs, q ∣ NN := by decide +kernel
theorem coprime_of_not_dvd {k q : Nat} (hq : q ∈ qs) (h : ¬ q ∣ k) : Nat.Coprime k q := by
  rcases q_prime q hq (Nat.gcd k q) (Nat.gcd_dvd_right k q) with h1 | h1
  · exact h1
  · exact absurd (h1 ▸ Nat.gcd_dvd_left k q) h
theorem NN_fac : NN = 2 * (3 * (3 * (5 * (5 * (7 * (11 * (13 * (31 * (41 * (61 * (151 * (331 * 1321)))))))))))) := by decide +kernel
theorem some_q {k : Nat} (hk : k ∣ NN) (h1 : k ≠ 1) : ∃ q ∈ qs, q ∣ k := by
  refine Classical.byContradiction fun hn => ?_
  have hc : ∀ q ∈ qs, Nat.Coprime k q := fun q hq => coprime_of_not_dvd hq (fun hd => hn ⟨q, hq, hd⟩)
  have c : Nat.Coprime k NN := by
    rw [NN_fac]
    refine Nat.Coprime.mul_right (hc 2 (by decide)) ?_
    refine Nat.Coprime.mul_right (hc 3 (by decide)) ?_
    refine Nat.Coprime.mul_right (hc 3 (by decide)) ?_
    refine Nat.Coprime.mul_right (hc 5 (by decide)) ?_
    refine Nat.Coprime.mul_right (hc 5 (by decide)) ?_
    refine Nat.Coprime.mul_right (hc 7 (by decide)) ?_
    refine Nat.Coprime.mul_right (hc 11 (by decide)) ?_
    refine Nat.Coprime.mul_right (hc 13 (by decide)) ?_
    refine Nat.Coprime.mul_right (hc 31 (by decide)) ?_
    refine Nat.Coprime.mul_right (hc 41 (by decide)) ?_
    refine Nat.Coprime.mul_right (hc 61 (by decide)) ?_
    refine Nat.Coprime.mul_right (hc 151 (by decide)) ?_
    exact Nat.Coprime.mul_right (hc 331 (by decide)) (hc 1321 (by decide))
  exact h1 (Nat.Coprime.eq_one_of_dvd c hk)

theorem order_37 {m : Nat} (h0 : 0 < m) (hm : m < NN) : ¬ one m := by
  intro h
  have hg := one_gcd m NN h one_N
  have hd : Nat.gcd m NN ∣ NN := Nat.gcd_dvd_right m NN
  have hle : Nat.gcd m NN ≤ m := Nat.le_of_dvd h0 (Nat.gcd_dvd_left m NN)
  generalize Nat.gcd m NN = g at hg hd hle
  obtain ⟨k, hk⟩ := hd
  have hk1 : k ≠ 1 := fun e => by rw [e, Nat.mul_one] at hk; omega
  obtain ⟨q, hq, ⟨j, hj⟩⟩ := some_q ⟨g, by rw [hk, Nat.mul_comm]⟩ hk1
  have hqpos := qs_pos q hq
  refine not_one q hq ?_
  rw [hk, hj, show g * (q * j) = q * (g * j) from by rw [Nat.mul_left_comm], Nat.mul_div_cancel_left _ hqpos]
  exact one_mul hg j

theorem pow37_inv (i : Nat) (hi : i ≤ NN) : 37 ^ i % PP * (37 ^ (NN - i) % PP) % PP = 1 := by
  rw [← Nat.mul_mod, ← Nat.pow_add, show i + (NN - i) = NN from by omega]; exact pow37_N
theorem pow37_ne (i : Nat) (hi : i ≤ NN) : 37 ^ i % PP ≠ 0 := by
  intro e; have := pow37_inv i hi; rw [e, Nat.zero_mul] at this; revert this; decide
theorem pow37_inj {i j : Nat} (hij : i < j) (hj : j < NN) : 37 ^ i % PP ≠ 37 ^ j % PP := by
  intro e
  have h1 := pow37_inv i (by omega)
  refine order_37 (m := j - i) (by omega) (by omega) ?_
  have h2 : 37 ^ (j - i) % PP = (37 ^ (j - i) % PP) * (37 ^ i % PP * (37 ^ (NN - i) % PP) % PP) % PP := by rw [h1, Nat.mul_one, Nat.mod_mod]
  have h3 : 37 ^ (j - i) % PP * (37 ^ i % PP) % PP = 37 ^ j % PP := by rw [← Nat.mul_mod, ← Nat.pow_add, show j - i + i = j from by omega]
  unfold one
  rw [h2, Nat.mul_mod_mod, ← Nat.mul_assoc, Nat.mul_mod, h3, ← e, Nat.mod_mod, ← Nat.mul_mod]
  rw [Nat.mul_mod]; exact h1

/-- Every residue but 0 is a power of 37. -/
theorem gen_37 (y : Nat) (h0 : 0 < y) (h1 : y < PP) : ∃ i, i < NN ∧ 37 ^ i % PP = y := by
  have hP : NN + 1 = PP := rfl
  obtain ⟨i, hi, he⟩ := surj_of_inj NN (fun i => 37 ^ i % PP - 1) (fun i hi => by
      have := Nat.mod_lt (37 ^ i) (show 0 < PP by decide); show 37 ^ i % PP - 1 < NN
      have := pow37_ne i (by omega); omega) (fun i j hi hj e => by
      have a := pow37_ne i (by omega); have b := pow37_ne j (by omega)
      have e' : 37 ^ i % PP - 1 = 37 ^ j % PP - 1 := e
      have e2 : 37 ^ i % PP = 37 ^ j % PP := by omega
      rcases Nat.lt_trichotomy i j with h | h | h
      · exact absurd e2 (pow37_inj h hj)
      · exact h
      · exact absurd e2.symm (pow37_inj h hi)) (y - 1) (by omega)
  have he' : 37 ^ i % PP - 1 = y - 1 := he
  have := pow37_ne i (by omega)
  exact ⟨i, hi, by omega⟩

/-- Fermat: whatever is not 0 has the power NN = 1. -/
theorem fermat (y : Nat) (h0 : 0 < y) (h1 : y < PP) : y ^ NN % PP = 1 := by
  obtain ⟨i, _, rfl⟩ := gen_37 y h0 h1
  rw [← Nat.pow_mod, ← Nat.pow_mul, Nat.mul_comm, Nat.pow_mul, Nat.pow_mod, pow37_N, Nat.one_pow]; decide
theorem pow_modN (y e : Nat) (h0 : 0 < y) (h1 : y < PP) : y ^ (e % NN) % PP = y ^ e % PP := by
  have h : y ^ e % PP = y ^ (e % NN + NN * (e / NN)) % PP := by rw [Nat.mod_add_div]
  rw [h, Nat.pow_add, Nat.mul_mod, Nat.pow_mul, Nat.pow_mod (y ^ NN), fermat y h0 h1, Nat.one_pow, show 1 % PP = 1 from by decide, Nat.mul_one, Nat.mod_mod]
theorem pow_pos_mod (y e : Nat) (h0 : 0 < y) (h1 : y < PP) : 0 < y ^ e % PP := by
  rw [← pow_modN y e h0 h1]
  have hlt : e % NN < NN := Nat.mod_lt _ (by decide)
  generalize e % NN = k at hlt
  refine Nat.pos_of_ne_zero fun h => ?_
  have h2 : y ^ k % PP * (y ^ (NN - k) % PP) % PP = 1 := by rw [← Nat.mul_mod, ← Nat.pow_add, show k + (NN - k) = NN from by omega]; exact fermat y h0 h1
  rw [h, Nat.zero_mul] at h2; revert h2; decide
end Go.Proofs.YtbgnfioggmkdeaaGreatDoor
namespace Go.Proofs.YtbgnfioggmkdeaaGreatDoor
set_option linter.unusedVariables false
set_option linter.unusedSimpArgs false
open Go Go.RowKit

theorem ret_u64 {a b : Int} (h : a = b) : Ending.returned (.int .u64 a) = Ending.returned (.int .u64 b) := by rw [h]
theorem ret2_u64 {a b c d : Int} (h : a = c) (h' : b = d) : Ending.returned (.tuple #[.int .u64 a, .int .u64 b]) = Ending.returned (.tuple #[.int .u64 c, .int .u64 d]) := by rw [h, h']
theorem mask_P (x : Int) (h0 : 0 ≤ x) (h : x < 18446744073709551616) : bits .and .u64 x 2305843009213693951 = x % 2305843009213693952 := mask_u64 x 61 (by omega) h0 h

set_option maxHeartbeats 400000 in
theorem Reduce_any (x : Int) (w : World) (h0 : 0 ≤ x) (h : x < 18446744073709551616) :
    Calls Tryz.prog 190 #[.int .u64 x] w fun e w' => e = .returned (.int .u64 (x % 2305843009213693951)) ∧ w = w' := by
  have hm := mask_P x h0 h
  have h1 : x % 2305843009213693952 < 2305843009213693952 := by omega
  by_cases hc : x / 2305843009213693952 + x % 2305843009213693952 < 2305843009213693951
  · go_enter Tryz.func190, Tryz.ntmps190
    go_wp2
    go_ret
    exact ⟨ret_u64 (by omega), rfl⟩
  · go_enter Tryz.func190, Tryz.ntmps190
    go_wp2
    go_ret
    exact ⟨ret_u64 (by omega), rfl⟩

theorem expandI (a b c d B : Int) : (a * B + b) * (c * B + d) = a * c * (B * B) + (a * d + b * c) * B + b * d := by
  have e1 : a * B * (c * B) = a * c * (B * B) := by rw [Int.mul_assoc, Int.mul_left_comm B c B, ← Int.mul_assoc]
  have e2 : a * B * d = a * d * B := Int.mul_right_comm _ _ _
  have e3 : b * (c * B) = b * c * B := (Int.mul_assoc _ _ _).symm
  rw [Int.add_mul, Int.mul_add, Int.mul_add, e1, e2, e3, Int.add_mul]; omega
theorem mul_lt32i (a b : Int) (h0 : 0 ≤ a) (ha : a < 4294967296) (h1 : 0 ≤ b) (hb : b < 4294967296) : 0 ≤ a * b ∧ a * b ≤ 18446744065119617025 :=
  ⟨Int.mul_nonneg h0 h1, Int.le_trans (Int.mul_le_mul (show a ≤ 4294967295 by omega) (show b ≤ 4294967295 by omega) h1 (by decide)) (by decide)⟩
theorem mul_ltP (a b : Int) (h0 : 0 ≤ a) (ha : a < 2305843009213693952) (h1 : 0 ≤ b) (hb : b < 2305843009213693952) : 0 ≤ a * b ∧ a * b / 18446744073709551616 < 288230376151711744 := by
  refine ⟨Int.mul_nonneg h0 h1, ?_⟩
  have h : a * b ≤ 2305843009213693951 * 2305843009213693951 := Int.mul_le_mul (by omega) (by omega) h1 (by decide)
  have h2 : (2305843009213693951 * 2305843009213693951 : Int) = 5316911983139663487003542222693990401 := by decide
  omega
theorem Mul64_plaini (x y : Int) (hx0 : 0 ≤ x) (hx : x < 18446744073709551616) (hy0 : 0 ≤ y) (hy : y < 18446744073709551616) :
    (x / 4294967296) * (y / 4294967296) + ((x / 4294967296) * (y % 4294967296) + (x % 4294967296) * (y % 4294967296) / 4294967296) / 4294967296
      + (((x / 4294967296) * (y % 4294967296) + (x % 4294967296) * (y % 4294967296) / 4294967296) % 4294967296 + (x % 4294967296) * (y / 4294967296)) / 4294967296 = x * y / 18446744073709551616 := by
  have e : x * y = (x / 4294967296) * (y / 4294967296) * 18446744073709551616 + ((x / 4294967296) * (y % 4294967296) + (x % 4294967296) * (y / 4294967296)) * 4294967296 + (x % 4294967296) * (y % 4294967296) := by
    have h := expandI (x / 4294967296) (x % 4294967296) (y / 4294967296) (y % 4294967296) 4294967296
    rw [show x / 4294967296 * 4294967296 + x % 4294967296 = x from by omega, show y / 4294967296 * 4294967296 + y % 4294967296 = y from by omega] at h
    exact h
  rw [e]
  generalize (x / 4294967296) * (y / 4294967296) = p
  generalize (x / 4294967296) * (y % 4294967296) = q
  generalize (x % 4294967296) * (y / 4294967296) = r
  generalize (x % 4294967296) * (y % 4294967296) = s
  omega

set_option maxHeartbeats 400000 in
theorem Mul64_any (x y : Int) (w : World) (hx0 : 0 ≤ x) (hx : x < 18446744073709551616) (hy0 : 0 ≤ y) (hy : y < 18446744073709551616) :
    Calls Tryz.prog 189 #[.int .u64 x, .int .u64 y] w fun e w' => e = .returned (.tuple #[.int .u64 (x * y / 18446744073709551616), .int .u64 (x * y % 18446744073709551616)]) ∧ w = w' := by
  have m1 := mask_u64_32 x hx0 hx
  have m2 := mask_u64_32 y hy0 hy
  obtain ⟨p0, p1⟩ := mul_lt32i (x / 4294967296) (y / 4294967296) (by omega) (by omega) (by omega) (by omega)
  obtain ⟨q0, q1⟩ := mul_lt32i (x / 4294967296) (y % 4294967296) (by omega) (by omega) (by omega) (by omega)
  obtain ⟨r0, r1⟩ := mul_lt32i (x % 4294967296) (y / 4294967296) (by omega) (by omega) (by omega) (by omega)
  obtain ⟨s0, s1⟩ := mul_lt32i (x % 4294967296) (y % 4294967296) (by omega) (by omega) (by omega) (by omega)
  have m3 := mask_u64_32 (x / 4294967296 * (y % 4294967296) + x % 4294967296 * (y % 4294967296) / 4294967296) (by omega) (by omega)
  have hpl := Lib.hid (Mul64_plaini x y hx0 hx hy0 hy)
  go_enter Tryz.func189, Tryz.ntmps189
  go_wp2
  go_ret2
  exact ⟨ret2_u64 (by rw [← hpl.out]) (by rw [IntKind.wrap_u64]), rfl⟩

/-- The product, by halves: the reference. -/
theorem wide_plain (x y : Int) (hx0 : 0 ≤ x) (hx : x < 18446744073709551616) (hy0 : 0 ≤ y) (hy : y < 18446744073709551616) :
    ((x / 4294967296) * (y / 4294967296) + (x / 4294967296) * (y % 4294967296) / 4294967296 + (x % 4294967296) * (y / 4294967296) / 4294967296
      + ((x % 4294967296) * (y % 4294967296) / 4294967296 + (x / 4294967296) * (y % 4294967296) % 4294967296 + (x % 4294967296) * (y / 4294967296) % 4294967296) / 4294967296 = x * y / 18446744073709551616) ∧
    ((x % 4294967296) * (y % 4294967296) / 4294967296 + (x / 4294967296) * (y % 4294967296) % 4294967296 + (x % 4294967296) * (y / 4294967296) % 4294967296) * 4294967296 % 18446744073709551616 + (x % 4294967296) * (y % 4294967296) % 4294967296 = x * y % 18446744073709551616 := by
  have e : x * y = (x / 4294967296) * (y / 4294967296) * 18446744073709551616 + ((x / 4294967296) * (y % 4294967296) + (x % 4294967296) * (y / 4294967296)) * 4294967296 + (x % 4294967296) * (y % 4294967296) := by
    have h := expandI (x / 4294967296) (x % 4294967296) (y / 4294967296) (y % 4294967296) 4294967296
    rw [show x / 4294967296 * 4294967296 + x % 4294967296 = x from by omega, show y / 4294967296 * 4294967296 + y % 4294967296 = y from by omega] at h
    exact h
  rw [e]
  generalize (x / 4294967296) * (y / 4294967296) = p
  generalize (x / 4294967296) * (y % 4294967296) = q
  generalize (x % 4294967296) * (y / 4294967296) = r
  generalize (x % 4294967296) * (y % 4294967296) = s
  omega
theorem join64 (x y : Int) (i : Nat) (hx0 : 0 ≤ x) (hx : x % 2 ^ i = 0) (hx1 : x < 18446744073709551616) (hy0 : 0 ≤ y) (hy : y < 2 ^ i) (hy1 : y < 18446744073709551616) : bits .or .u64 x y = x + y :=
  bits_join .u64 64 (by decide) (fun m a b => by rw [IntKind.wrap_u64]; omega) i x y hx0 hx (by omega) hy0 hy (by omega)

set_option maxHeartbeats 400000 in
theorem wide_any (x y : Int) (w : World) (hx0 : 0 ≤ x) (hx : x < 18446744073709551616) (hy0 : 0 ≤ y) (hy : y < 18446744073709551616) :
    Calls Tryz.prog 174 #[.int .u64 x, .int .u64 y] w fun e w' => e = .returned (.tuple #[.int .u64 (x * y / 18446744073709551616), .int .u64 (x * y % 18446744073709551616)]) ∧ w = w' := by
  have m1 := mask_u64_32 x hx0 hx
  have m2 := mask_u64_32 y hy0 hy
  obtain ⟨p0, p1⟩ := mul_lt32i (x / 4294967296) (y / 4294967296) (by omega) (by omega) (by omega) (by omega)
  obtain ⟨q0, q1⟩ := mul_lt32i (x / 4294967296) (y % 4294967296) (by omega) (by omega) (by omega) (by omega)
  obtain ⟨r0, r1⟩ := mul_lt32i (x % 4294967296) (y / 4294967296) (by omega) (by omega) (by omega) (by omega)
  obtain ⟨s0, s1⟩ := mul_lt32i (x % 4294967296) (y % 4294967296) (by omega) (by omega) (by omega) (by omega)
  have m3 := mask_u64_32 (x / 4294967296 * (y % 4294967296)) (by omega) (by omega)
  have m4 := mask_u64_32 (x % 4294967296 * (y / 4294967296)) (by omega) (by omega)
  have m5 := mask_u64_32 (x % 4294967296 * (y % 4294967296)) (by omega) (by omega)
  have hpl := Lib.hid (wide_plain x y hx0 hx hy0 hy)
  go_enter Tryz.func174, Tryz.ntmps174
  go_wp2
  go_ret2
  refine ⟨ret2_u64 (by rw [← hpl.out.1]) (by
    rw [← hpl.out.2]
    rw [IntKind.wrap_u64]
    exact join64 _ _ 32 (by omega) (by omega) (by omega) (by omega) (by omega) (by omega)), rfl⟩
end Go.Proofs.YtbgnfioggmkdeaaGreatDoor
namespace Go.Proofs.YtbgnfioggmkdeaaGreatDoor
set_option linter.unusedVariables false
set_option linter.unusedSimpArgs false
open Go Go.RowKit

theorem modP_fold (m : Int) (h0 : 0 ≤ m) (hm : m / 18446744073709551616 < 288230376151711744) :
    (m / 18446744073709551616 * 8 + m % 18446744073709551616 / 2305843009213693952 + m % 2305843009213693952) % 2305843009213693951 = m % 2305843009213693951 := by omega

set_option maxHeartbeats 400000 in
theorem Mul_any (x y : Int) (w : World) (hx0 : 0 ≤ x) (hx : x < 18446744073709551616) (hy0 : 0 ≤ y) (hy : y < 18446744073709551616) :
    Calls Tryz.prog 168 #[.int .u64 x, .int .u64 y] w fun e w' => e = .returned (.int .u64 (x * y % 2305843009213693951)) ∧ w = w' := by
  have hf : (x % 2305843009213693951 * (y % 2305843009213693951)) % 2305843009213693951 = x * y % 2305843009213693951 := (Int.mul_emod x y _).symm
  have HF := Lib.hid hf; clear hf
  obtain ⟨b0, b1⟩ := mul_ltP (x % 2305843009213693951) (y % 2305843009213693951) (by omega) (by omega) (by omega) (by omega)
  have hm := mask_P (x % 2305843009213693951 * (y % 2305843009213693951) % 18446744073709551616) (by omega) (by omega)
  have hd := Lib.hid (modP_fold _ b0 b1)
  go_enter Tryz.func168, Tryz.ntmps168
  go_wp2_with (first
    | (go_at_call 189; refine (Mul64_any _ _ _ (by omega) (by omega) (by omega) (by omega)).mono ?_; rintro e w' ⟨rfl, rfl⟩)
    | (go_at_call 190; refine (Reduce_any _ _ (by omega) (by omega)).mono ?_; rintro e w' ⟨rfl, rfl⟩))
  go_ret
  exact ⟨ret_u64 (by rw [← HF.out, ← hd.out]), rfl⟩

set_option maxHeartbeats 400000 in
theorem MulP_any (x y : Int) (w : World) (hx0 : 0 ≤ x) (hx : x < 18446744073709551616) (hy0 : 0 ≤ y) (hy : y < 18446744073709551616) :
    Calls Tryz.prog 127 #[.int .u64 x, .int .u64 y] w fun e w' => e = .returned (.int .u64 (x * y % 2305843009213693951)) ∧ w = w' := by
  have hf : (x % 2305843009213693951 * (y % 2305843009213693951)) % 2305843009213693951 = x * y % 2305843009213693951 := (Int.mul_emod x y _).symm
  have HF := Lib.hid hf; clear hf
  obtain ⟨b0, b1⟩ := mul_ltP (x % 2305843009213693951) (y % 2305843009213693951) (by omega) (by omega) (by omega) (by omega)
  have hm := mask_P (x % 2305843009213693951 * (y % 2305843009213693951) % 18446744073709551616) (by omega) (by omega)
  have hj := join64 (x % 2305843009213693951 * (y % 2305843009213693951) / 18446744073709551616 * 8) (x % 2305843009213693951 * (y % 2305843009213693951) % 18446744073709551616 / 2305843009213693952) 3 (by omega) (by omega) (by omega) (by omega) (by omega) (by omega)
  have hd := Lib.hid (modP_fold _ b0 b1)
  go_enter Tryz.func127, Tryz.ntmps127
  go_wp2_with (go_at_call 174; refine (wide_any _ _ _ (by omega) (by omega) (by omega) (by omega)).mono ?_; rintro e w' ⟨rfl, rfl⟩)
  go_ret
  exact ⟨ret_u64 (by rw [← HF.out, ← hd.out]), rfl⟩

/-- x to the power e, modulo P. -/
def powP (x e : Int) : Int := ((x.toNat ^ e.toNat % PP : Nat) : Int)
theorem powP_nonneg (x e : Int) : 0 ≤ powP x e := by unfold powP; omega
theorem powP_lt (x e : Int) : powP x e < 2305843009213693951 := by
  unfold powP
  have := Nat.mod_lt (x.toNat ^ e.toNat) (show 0 < PP by decide)
  have h : PP = 2305843009213693951 := rfl
  omega
theorem pow_odd (o a k : Nat) (h : k % 2 = 1) : o * a ^ k % PP = (o * a % PP) * (a * a % PP) ^ (k / 2) % PP := by
  have e : a ^ k = a * (a * a) ^ (k / 2) := by
    rw [← Nat.pow_two, ← Nat.pow_mul, ← Nat.pow_succ', show (2 * (k / 2)).succ = k from by omega]
  rw [e, ← Nat.mul_assoc, Nat.mul_mod, Nat.pow_mod (a * a), Nat.mul_mod_mod]
theorem pow_even (o a k : Nat) (h : k % 2 = 0) : o * a ^ k % PP = o * (a * a % PP) ^ (k / 2) % PP := by
  have e : a ^ k = (a * a) ^ (k / 2) := by
    rw [← Nat.pow_two, ← Nat.pow_mul, show 2 * (k / 2) = k from by omega]
  rw [e, Nat.mul_mod, Nat.pow_mod (a * a), ← Nat.mul_mod]
theorem bit_u64 (x : Int) (h0 : 0 ≤ x) (h : x < 18446744073709551616) : bits .and .u64 x 1 = x % 2 := mask_u64 x 1 (by omega) h0 h

def PowRel (x e : Nat) (b i v : Value) : Prop :=
  ∃ o a k : Nat, v = .int .u64 o ∧ b = .int .u64 a ∧ i = .int .u64 k ∧ o < 2305843009213693951 ∧ a < 2305843009213693951 ∧ k < 18446744073709551616 ∧ Hid (o * a ^ k % PP = x ^ e % PP)

set_option maxHeartbeats 400000 in
theorem Pow_any (x e : Int) (w : World) (hx0 : 0 ≤ x) (hx : x < 18446744073709551616) (he0 : 0 ≤ e) (he : e < 18446744073709551616) :
    Calls Tryz.prog 175 #[.int .u64 x, .int .u64 e] w fun e_ w' => e_ = .returned (.int .u64 (powP x e)) ∧ w = w' := by
  obtain ⟨x, rfl⟩ := Int.eq_ofNat_of_zero_le hx0
  obtain ⟨e, rfl⟩ := Int.eq_ofNat_of_zero_le he0
  have HPW := Lib.hid (show powP x e = ((x ^ e % PP : Nat) : Int) from rfl)
  generalize powP x e = pw at *
  go_enter Tryz.func175, Tryz.ntmps175
  go_wp2_with (go_at_call 190; refine (Reduce_any _ _ (by omega) (by omega)).mono ?_; rintro e_ w' ⟨rfl, rfl⟩)
  go_loop [0, 1, 5] (fun b i v => PowRel x e b i v) (fun _ i _ => (intOf i).toNat)
  case atStart => exact ⟨1, x % 2305843009213693951, e, rfl, by simp, rfl, by omega, by omega, by omega, Lib.hid (by rw [Nat.one_mul]; exact (Nat.pow_mod x e PP).symm)⟩
  case round =>
    obtain ⟨o, a, k, rfl, rfl, rfl, ho, ha, hk, hi⟩ := hrel
    have hb := bit_u64 (k : Int) (by omega) (by omega)
    by_cases h0 : 0 < k
    · by_cases h1 : k % 2 = 1
      · have h1' : (k : Int) % 2 = 1 := by omega
        have H1 := Lib.hid h1; clear h1
        go_wp2_with (go_at_call 168; refine (Mul_any _ _ _ (by omega) (by omega) (by omega) (by omega)).mono ?_; rintro e_ w' ⟨rfl, rfl⟩)
        exact ⟨⟨o * a % 2305843009213693951, a * a % 2305843009213693951, k / 2, by simp, by simp, by simp, by omega, by omega, by omega, Lib.hid (by have := pow_odd o a k H1.out; rw [hi.out] at this; exact this.symm)⟩, by simp [intOf]; omega⟩
      · have h1' : (k : Int) % 2 = 0 := by omega
        have H1 := Lib.hid (show k % 2 = 0 by omega); clear h1
        go_wp2_with (go_at_call 168; refine (Mul_any _ _ _ (by omega) (by omega) (by omega) (by omega)).mono ?_; rintro e_ w' ⟨rfl, rfl⟩)
        exact ⟨⟨o, a * a % 2305843009213693951, k / 2, rfl, by simp, by simp, by omega, by omega, by omega, Lib.hid (by have := pow_even o a k H1.out; rw [hi.out] at this; exact this.symm)⟩, by simp [intOf]; omega⟩
    · obtain rfl : k = 0 := by omega
      have ho' : x ^ e % PP = o := by rw [← hi.out, Nat.pow_zero, Nat.mul_one]; exact Nat.mod_eq_of_lt ho
      have HO := Lib.hid ho'; clear ho'
      go_wp2
      go_ret
      exact ⟨ret_u64 (by rw [HPW.out, HO.out]), rfl⟩

theorem powP_step (x q o : Nat) (h : o = x ^ (q / 2) % PP) : (q % 2 = 1 → o * o % PP * (x % PP) % PP = x ^ q % PP) ∧ (q % 2 = 0 → o * o % PP = x ^ q % PP) := by
  subst h
  have e0 : x ^ (q / 2) % PP * (x ^ (q / 2) % PP) % PP = x ^ (2 * (q / 2)) % PP := by rw [← Nat.mul_mod, ← Nat.pow_add, ← Nat.two_mul]
  constructor
  · intro h
    rw [e0, ← Nat.mul_mod, ← Nat.pow_succ, show (2 * (q / 2)).succ = q from by omega]
  · intro h
    rw [e0, show 2 * (q / 2) = q from by omega]
def PowPRel (x e : Nat) (i v : Value) : Prop :=
  ∃ j o : Nat, j ≤ 64 ∧ i = .int .i64 ((j : Int) - 1) ∧ v = .int .u64 o ∧ o < 2305843009213693951 ∧ Hid (o = x ^ (e / 2 ^ j) % PP)

set_option maxHeartbeats 400000 in
theorem PowP_any (x e : Int) (w : World) (hx0 : 0 ≤ x) (hx : x < 18446744073709551616) (he0 : 0 ≤ e) (he : e < 18446744073709551616) :
    Calls Tryz.prog 78 #[.int .u64 x, .int .u64 e] w fun e_ w' => e_ = .returned (.int .u64 (powP x e)) ∧ w = w' := by
  obtain ⟨x, rfl⟩ := Int.eq_ofNat_of_zero_le hx0
  obtain ⟨e, rfl⟩ := Int.eq_ofNat_of_zero_le he0
  have HPW := Lib.hid (show powP x e = ((x ^ e % PP : Nat) : Int) from rfl)
  generalize powP x e = pw at *
  go_enter Tryz.func78, Tryz.ntmps78
  go_wp2_with fail
  go_loop [6, 5] (fun i v => PowPRel x e i v) (fun i _ => (intOf i + 1).toNat)
  case atStart =>
    refine ⟨64, 1, by omega, rfl, rfl, by omega, Lib.hid ?_⟩
    rw [Nat.div_eq_of_lt (by omega), Nat.pow_zero]; rfl
  case round =>
    obtain ⟨j, o, hj, rfl, rfl, ho, hi⟩ := hrel
    by_cases h0 : 0 < j
    · obtain ⟨n, rfl⟩ : ∃ n, j = n + 1 := ⟨j - 1, by omega⟩
      have hn : n < 64 := by omega
      have hqi : (e : Int) / 2 ^ n = ((e / 2 ^ n : Nat) : Int) := by simp
      have hq2 : e / 2 ^ n < 18446744073709551616 := Nat.lt_of_le_of_lt (Nat.div_le_self _ _) (by omega)
      have hqq : e / 2 ^ n / 2 = e / 2 ^ (n + 1) := by rw [Nat.div_div_eq_div_mul, ← Nat.pow_succ]
      rw [← hqq] at hi
      have e1 : (((n + 1 : Nat) : Int) - 1) = (n : Int) := by omega
      rw [e1]; clear e1 h0 hx0 he0 hqq he hx
      have hrel2 : ∀ o' : Nat, o' < 2305843009213693951 → o' = x ^ (e / 2 ^ n) % PP → PowPRel x e (.int .i64 ((n : Int) - 1)) (.int .u64 o') := fun o' h1 h2 => ⟨n, o', by omega, rfl, rfl, h1, Lib.hid h2⟩
      have HR := Lib.hid hrel2; clear hrel2
      generalize e / 2 ^ n = q at *
      have hb := bit_u64 (q : Int) (by omega) (by omega)
      have hpw := powP_step x q o hi.out
      have HP := Lib.hid hpw; clear hpw
      by_cases h1 : q % 2 = 1
      · have h1' : (q : Int) % 2 = 1 := by omega
        have H1 := Lib.hid h1; clear h1
        go_wp2_with (go_at_call 127; refine (MulP_any _ _ _ (by omega) (by omega) (by omega) (by omega)).mono ?_; rintro e_ w' ⟨rfl, rfl⟩)
        refine ⟨?_, by simp [intOf]⟩
        have h := HR.out (o * o % 2305843009213693951 * (x % 2305843009213693951) % 2305843009213693951) (Nat.mod_lt _ (by decide)) (HP.out.1 H1.out)
        rw [show ((o * o % 2305843009213693951 * (x % 2305843009213693951) % 2305843009213693951 : Nat) : Int) = (o : Int) * o % 2305843009213693951 * ((x : Int) % 2305843009213693951) % 2305843009213693951 from by rw [Int.natCast_emod, Int.natCast_mul, Int.natCast_emod, Int.natCast_emod, Int.natCast_mul]; rfl] at h
        exact h
      · have h1' : (q : Int) % 2 = 0 := by omega
        have H1 := Lib.hid (show q % 2 = 0 by omega); clear h1
        go_wp2_with (go_at_call 127; refine (MulP_any _ _ _ (by omega) (by omega) (by omega) (by omega)).mono ?_; rintro e_ w' ⟨rfl, rfl⟩)
        refine ⟨?_, by simp [intOf]⟩
        have h := HR.out (o * o % 2305843009213693951) (Nat.mod_lt _ (by decide)) (HP.out.2 H1.out)
        rw [show ((o * o % 2305843009213693951 : Nat) : Int) = (o : Int) * o % 2305843009213693951 from by simp] at h
        exact h
    · obtain rfl : j = 0 := by omega
      have ho' : o = x ^ e % PP := by rw [hi.out, Nat.pow_zero, Nat.div_one]
      have HO := Lib.hid ho'; clear ho' he hx
      go_wp2
      go_ret
      exact ⟨ret_u64 (by rw [HPW.out, HO.out]), rfl⟩
end Go.Proofs.YtbgnfioggmkdeaaGreatDoor
namespace Go.Proofs.YtbgnfioggmkdeaaGreatDoor
set_option linter.unusedVariables false
set_option linter.unusedSimpArgs false
open Go Go.RowKit

/-- One digit of the quotient: what its loop keeps. -/
structure Digit (u w y1 y0 q r : Int) : Prop where
  eq : u = q * y1 + r
  q0 : 0 ≤ q
  r0 : 0 ≤ r
  rb : r < 4294967296
  qb : q ≤ 4294967297
  top : ∀ k : Int, k * (y1 * 4294967296 + y0) ≤ u * 4294967296 + w → k ≤ q

theorem prod_eq {u y1 y0 q r : Int} (h : u = q * y1 + r) : q * (y1 * 4294967296 + y0) = (u - r) * 4294967296 + q * y0 := by
  rw [h, Int.mul_add, ← Int.mul_assoc, show q * y1 + r - r = q * y1 from by omega]

theorem digit_start {u w y1 y0 : Int} (hw0 : 0 ≤ w) (hw : w < 4294967296) (hu0 : 0 ≤ u) (hy1 : 2147483648 ≤ y1) (hy1b : y1 < 4294967296) (hy0 : 0 ≤ y0) (hy0b : y0 < 4294967296) (hu : u < y1 * 4294967296 + y0) :
    Digit u w y1 y0 (u / y1) (u % y1) := by
  have hpos : 0 < y1 := by omega
  have h1 := Int.emod_add_mul_ediv u y1
  have h2 := Int.emod_nonneg u (show y1 ≠ 0 by omega)
  have h3 := Int.emod_lt_of_pos u hpos
  refine ⟨by rw [Int.mul_comm]; omega, Int.ediv_nonneg hu0 (by omega), h2, by omega, ?_, ?_⟩
  · have : u / y1 < 4294967298 := by
      apply Int.ediv_lt_of_lt_mul hpos
      omega
    omega
  · intro k hk
    apply Int.le_ediv_of_mul_le hpos
    -- k * y1 ≤ u : else k * y1 ≥ u + 1
    by_cases hc : k * y1 ≤ u
    · exact hc
    · exfalso
      have e : k * (y1 * 4294967296 + y0) = k * y1 * 4294967296 + k * y0 := by rw [Int.mul_add, ← Int.mul_assoc]
      have hk0 : 0 ≤ k := by
        by_cases h : 0 ≤ k
        · exact h
        · have : k * y1 ≤ 0 := Int.mul_nonpos_of_nonpos_of_nonneg (by omega) (by omega)
          omega
      have hky := Int.mul_nonneg hk0 hy0
      omega

/-- The test says no: the digit is right. -/
theorem digit_done {u w y1 y0 q r : Int} (h : Digit u w y1 y0 q r) (hle : q * y0 ≤ 4294967296 * r + w) : q * (y1 * 4294967296 + y0) ≤ u * 4294967296 + w ∧ u * 4294967296 + w < (q + 1) * (y1 * 4294967296 + y0) := by
  have e := prod_eq (y0 := y0) h.eq
  refine ⟨by rw [e]; omega, ?_⟩
  by_cases hc : (q + 1) * (y1 * 4294967296 + y0) ≤ u * 4294967296 + w
  · have := h.top (q + 1) hc; omega
  · omega

/-- The test says yes: the digit is one too great at least. -/
theorem digit_step {u w y1 y0 q r : Int} (hw0 : 0 ≤ w) (hw : w < 4294967296) (hu : u < y1 * 4294967296 + y0) (hY : 0 < y1 * 4294967296 + y0) (hy1 : 2147483648 ≤ y1)
    (h : Digit u w y1 y0 q r) (ht : 4294967296 ≤ q ∨ 4294967296 * r + w < q * y0) :
    0 < q ∧ u = (q - 1) * y1 + (r + y1) ∧ ∀ k : Int, k * (y1 * 4294967296 + y0) ≤ u * 4294967296 + w → k ≤ q - 1 := by
  have hgt : u * 4294967296 + w < q * (y1 * 4294967296 + y0) := by
    rcases ht with ht | ht
    · have h1 : 4294967296 * (y1 * 4294967296 + y0) ≤ q * (y1 * 4294967296 + y0) := Int.mul_le_mul_of_nonneg_right ht (by omega)
      omega
    · rw [prod_eq (y0 := y0) h.eq]; omega
  have hq : 0 < q := by
    rcases Int.lt_or_le 0 q with h1 | h1
    · exact h1
    · have hq0 : q = 0 := by have := h.q0; omega
      rw [hq0] at ht; rcases ht with ht | ht
      · omega
      · have := h.r0; rw [Int.zero_mul] at ht
        have hb := hgt; rw [hq0, Int.zero_mul] at hb
        have := h.eq; rw [hq0, Int.zero_mul] at this
        omega
  refine ⟨hq, by rw [Int.sub_mul]; have := h.eq; omega, fun k hk => ?_⟩
  by_cases hc : k ≤ q - 1
  · exact hc
  · have : q * (y1 * 4294967296 + y0) ≤ k * (y1 * 4294967296 + y0) := Int.mul_le_mul_of_nonneg_right (by omega) (by omega)
    omega

/-- Behind such a step, r past the digit: the digit is right. -/
theorem digit_past {u w y1 y0 q r : Int} (hw0 : 0 ≤ w) (hy0 : 0 ≤ y0) (hy0b : y0 < 4294967296) (heq : u = q * y1 + r) (hq : q ≤ 4294967296) (hr : 4294967296 ≤ r)
    (top : ∀ k : Int, k * (y1 * 4294967296 + y0) ≤ u * 4294967296 + w → k ≤ q) : q * (y1 * 4294967296 + y0) ≤ u * 4294967296 + w ∧ u * 4294967296 + w < (q + 1) * (y1 * 4294967296 + y0) := by
  have e := prod_eq (y0 := y0) heq
  have h1 : q * y0 ≤ 4294967296 * y0 := Int.mul_le_mul_of_nonneg_right hq hy0
  refine ⟨by rw [e]; omega, ?_⟩
  by_cases hc : (q + 1) * (y1 * 4294967296 + y0) ≤ u * 4294967296 + w
  · have := top (q + 1) hc; omega
  · omega

theorem wrap_digit (u w qy : Int) (h0 : 0 ≤ u * 4294967296 + w - qy) (h1 : u * 4294967296 + w - qy < 18446744073709551616) :
    ((u * 4294967296 % 18446744073709551616 + w) % 18446744073709551616 - qy % 18446744073709551616) % 18446744073709551616 = u * 4294967296 + w - qy := by omega

set_option maxRecDepth 100000 in
set_option maxHeartbeats 400000 in
theorem Len64_N (w : World) : Calls Tryz.prog 208 #[.int .u64 2305843009213693950] w fun e w' => e = .returned (.int .i64 61) ∧ w = w' := by
  go_enter Tryz.func208, Tryz.ntmps208
  go_wp2
  go_ret
  refine ⟨?_, rfl⟩
  exact congrArg (fun x => Ending.returned (.int .i64 x)) (by decide +kernel)
theorem Lead_N (w : World) : Calls Tryz.prog 212 #[.int .u64 2305843009213693950] w fun e w' => e = .returned (.int .i64 3) ∧ w = w' := by
  go_enter Tryz.func212, Tryz.ntmps212
  go_wp2_with (go_at_call 208; refine (Len64_N _).mono ?_; rintro e w' ⟨rfl, rfl⟩)
  go_ret
  exact ⟨rfl, rfl⟩

def DivRel (u w : Int) (a b : Value) : Prop := ∃ q r : Int, Digit u w 4294967295 4294967280 q r ∧ a = .int .u64 q ∧ b = .int .u64 r

theorem divR (U L q1 R : Int) (hR : R = U * 4294967296 + L - q1 * 18446744073709551600) (h0 : 0 ≤ R) (h1 : R < 18446744073709551600) :
    IntKind.u64.wrap (IntKind.u64.wrap (IntKind.u64.wrap (U * 4294967296) + L) - IntKind.u64.wrap (q1 * 18446744073709551600)) = R := by
  simp only [IntKind.wrap_u64]; omega
theorem divQ (R : Int) (h0 : 0 ≤ R) (h1 : R < 18446744073709551600) : IntKind.u64.wrap (R.tdiv 4294967295) = R / 4294967295 := by
  rw [Int.tdiv_eq_ediv_of_nonneg h0, IntKind.wrap_u64]; omega
theorem divM (R : Int) (h0 : 0 ≤ R) (h1 : R < 18446744073709551600) : IntKind.u64.wrap (R - IntKind.u64.wrap (R / 4294967295 * 4294967295)) = R % 4294967295 := by
  rw [IntKind.wrap_u64, IntKind.wrap_u64]; omega
theorem divEnd (V U L q1 R q0 r0 : Int) (hV : V * 8 = U * 18446744073709551616 + L) (hR : R = U * 4294967296 + L / 4294967296 - q1 * 18446744073709551600)
    (h0 : r0 = R * 4294967296 + L % 4294967296 - q0 * 18446744073709551600) (h1 : 0 ≤ r0) (h2 : r0 < 18446744073709551600) : r0 / 8 = V % 2305843009213693950 := by omega


set_option maxHeartbeats 1000000 in
theorem Div64_N (hi lo : Int) (w : World) (h0 : 0 < hi) (h1 : hi < 2305843009213693950) (l0 : 0 ≤ lo) (l1 : lo < 18446744073709551616) :
    Calls Tryz.prog 206 #[.int .u64 hi, .int .u64 lo, .int .u64 2305843009213693950] w fun e w' => (∃ q : Int, e = .returned (.tuple #[.int .u64 q, .int .u64 ((hi * 18446744073709551616 + lo) % 2305843009213693950)])) ∧ w = w' := by
  have hj := join64 (hi * 8) (lo / 2305843009213693952) 3 (by omega) (by omega) (by omega) (by omega) (by omega) (by omega)
  have hz : (hi == 0) = false := beq_eq_false_iff_ne.2 (by omega)
  have hmm : bits .and .u64 18446744073709551600 4294967295 = 4294967280 := by decide
  have hm := mask_u64_32 (lo * 8 % 18446744073709551616) (by omega) (by omega)
  go_enter Tryz.func206, Tryz.ntmps206
  go_wp2_with (go_at_call 212; refine (Lead_N _).mono ?_; rintro e w' ⟨rfl, rfl⟩)
  clear hm hmm hz
  have hU : ∃ U, hi * 8 + lo / 2305843009213693952 = U := ⟨_, rfl⟩
  obtain ⟨U, hU⟩ := hU
  have hL : ∃ L, IntKind.u64.wrap (lo * 8) = L := ⟨_, rfl⟩
  obtain ⟨L, hL⟩ := hL
  have hm : bits .and .u64 L 4294967295 = L % 4294967296 := by
    rw [← hL, IntKind.wrap_u64]; exact mask_u64_32 _ (by omega) (by omega)
  rw [hL, hU, hm]
  have hL' : L = lo * 8 % 18446744073709551616 := by rw [← hL, IntKind.wrap_u64]
  have hV : Hid ((hi * 18446744073709551616 + lo) * 8 = U * 18446744073709551616 + L) := Lib.hid (by omega)
  have hU1 : 0 ≤ U := by omega
  have hU2 : U < 18446744073709551600 := by omega
  have hL1 : 0 ≤ L := by omega
  have hL2 : L < 18446744073709551616 := by omega
  clear hj hL hU hm hL'
  have hd0 := digit_start (w := L / 4294967296) (y1 := 4294967295) (y0 := 4294967280) (by omega) (by omega) hU1 (by decide) (by decide) (by decide) (by decide) (by omega)
  rw [show U - U / 4294967295 * 4294967295 = U % 4294967295 from by omega]
  go_loop [15, 16] (fun a b => DivRel U (L / 4294967296) a b) (fun a _ => (intOf a).toNat)
  case atStart => exact ⟨_, _, hd0, rfl, rfl⟩
  case round =>
    obtain ⟨q, r, hd, rfl, rfl⟩ := hrel
    clear hd0
    obtain ⟨g0, g1, g2, g3, g4⟩ : 0 ≤ q ∧ 0 ≤ r ∧ r < 4294967296 ∧ q ≤ 4294967297 ∧ True := ⟨hd.q0, hd.r0, hd.rb, hd.qb, trivial⟩
    clear g4
    have HD := Lib.hid hd; clear hd
    by_cases hc : 4294967296 ≤ q
    · have hst := digit_step (w := L / 4294967296) (by omega) (by omega) (by omega) (by decide) (by decide) HD.out (Or.inl hc)
      have HS := Lib.hid hst.2; have hq1 := hst.1; clear hst
      by_cases hr : 1 ≤ r
      · have hfin := digit_past (q := q - 1) (r := r + 4294967295) (w := L / 4294967296) (by omega) (by decide) (by decide) HS.out.1 (by omega) (by omega) HS.out.2
        have HF := Lib.hid hfin; clear hfin
        go_wp2
        obtain ⟨R, hR⟩ : ∃ R, R = U * 4294967296 + L / 4294967296 - (q - 1) * 18446744073709551600 := ⟨_, rfl⟩
        have hR0 : 0 ≤ R := by have := HF.out.1; omega
        have hR1 : R < 18446744073709551600 := by have := HF.out.2; omega
        rw [divR U (L / 4294967296) (q - 1) R hR hR0 hR1, divQ R hR0 hR1, divM R hR0 hR1]
        have HR := Lib.hid hR
        clear hR HF
        have hd1 := digit_start (w := L % 4294967296) (y1 := 4294967295) (y0 := 4294967280) (by omega) (by omega) hR0 (by decide) (by decide) (by decide) (by decide) (by omega)
        go_loop [18, 16] (fun a b => DivRel R (L % 4294967296) a b) (fun a _ => (intOf a).toNat)
        case atStart => exact ⟨_, _, hd1, rfl, rfl⟩
        case round =>
          obtain ⟨q0, r, hd, rfl, rfl⟩ := hrel
          clear hd1
          obtain ⟨f0, f1, f2, f3, f4⟩ : 0 ≤ q0 ∧ 0 ≤ r ∧ r < 4294967296 ∧ q0 ≤ 4294967297 ∧ True := ⟨hd.q0, hd.r0, hd.rb, hd.qb, trivial⟩
          clear f4
          have HE := Lib.hid hd; clear hd
          by_cases hc' : 4294967296 ≤ q0
          · have hst := digit_step (w := L % 4294967296) (by omega) (by omega) (by omega) (by decide) (by decide) HE.out (Or.inl hc')
            have HS := Lib.hid hst.2; have hq1 := hst.1; clear hst
            by_cases hr' : 1 ≤ r
            · have hfin := digit_past (q := q0 - 1) (r := r + 4294967295) (w := L % 4294967296) (by omega) (by decide) (by decide) HS.out.1 (by omega) (by omega) HS.out.2
              have HF := Lib.hid hfin; clear hfin
              go_wp2
              obtain ⟨r0, hr0⟩ : ∃ r0, r0 = R * 4294967296 + L % 4294967296 - (q0 - 1) * 18446744073709551600 := ⟨_, rfl⟩
              have hr1 : 0 ≤ r0 := by have := HF.out.1; omega
              have hr2 : r0 < 18446744073709551600 := by have := HF.out.2; omega
              have hEnd := divEnd (hi * 18446744073709551616 + lo) U L _ R _ r0 hV.out HR.out hr0 hr1 hr2
              go_ret2
              exact ⟨⟨_, ret2_u64 rfl (by rw [divR R (L % 4294967296) (q0 - 1) r0 hr0 hr1 hr2]; exact hEnd)⟩, rfl⟩
            · have hnx : Digit R (L % 4294967296) 4294967295 4294967280 (q0 - 1) (r + 4294967295) := ⟨HS.out.1, by omega, by omega, by omega, by omega, HS.out.2⟩
              have HX := Lib.hid hnx; clear hnx
              go_wp2
              exact ⟨⟨_, _, HX.out, rfl, rfl⟩, by simp only [intOf]; omega⟩
          · by_cases hc2' : 4294967296 * r + L % 4294967296 < q0 * 4294967280
            · have hst := digit_step (w := L % 4294967296) (by omega) (by omega) (by omega) (by decide) (by decide) HE.out (Or.inr hc2')
              have HS := Lib.hid hst.2; have hq1 := hst.1; clear hst
              by_cases hr' : 1 ≤ r
              · have hfin := digit_past (q := q0 - 1) (r := r + 4294967295) (w := L % 4294967296) (by omega) (by decide) (by decide) HS.out.1 (by omega) (by omega) HS.out.2
                have HF := Lib.hid hfin; clear hfin
                go_wp2
                obtain ⟨r0, hr0⟩ : ∃ r0, r0 = R * 4294967296 + L % 4294967296 - (q0 - 1) * 18446744073709551600 := ⟨_, rfl⟩
                have hr1 : 0 ≤ r0 := by have := HF.out.1; omega
                have hr2 : r0 < 18446744073709551600 := by have := HF.out.2; omega
                have hEnd := divEnd (hi * 18446744073709551616 + lo) U L _ R _ r0 hV.out HR.out hr0 hr1 hr2
                go_ret2
                exact ⟨⟨_, ret2_u64 rfl (by rw [divR R (L % 4294967296) (q0 - 1) r0 hr0 hr1 hr2]; exact hEnd)⟩, rfl⟩
              · have hnx : Digit R (L % 4294967296) 4294967295 4294967280 (q0 - 1) (r + 4294967295) := ⟨HS.out.1, by omega, by omega, by omega, by omega, HS.out.2⟩
                have HX := Lib.hid hnx; clear hnx
                go_wp2
                exact ⟨⟨_, _, HX.out, rfl, rfl⟩, by simp only [intOf]; omega⟩
            · have hfin := digit_done HE.out (by omega)
              have HF := Lib.hid hfin; clear hfin
              go_wp2
              obtain ⟨r0, hr0⟩ : ∃ r0, r0 = R * 4294967296 + L % 4294967296 - q0 * 18446744073709551600 := ⟨_, rfl⟩
              have hr1 : 0 ≤ r0 := by have := HF.out.1; omega
              have hr2 : r0 < 18446744073709551600 := by have := HF.out.2; omega
              have hEnd := divEnd (hi * 18446744073709551616 + lo) U L _ R _ r0 hV.out HR.out hr0 hr1 hr2
              go_ret2
              exact ⟨⟨_, ret2_u64 rfl (by rw [divR R (L % 4294967296) q0 r0 hr0 hr1 hr2]; exact hEnd)⟩, rfl⟩
      · have hnx : Digit U (L / 4294967296) 4294967295 4294967280 (q - 1) (r + 4294967295) := ⟨HS.out.1, by omega, by omega, by omega, by omega, HS.out.2⟩
        have HX := Lib.hid hnx; clear hnx
        go_wp2
        exact ⟨⟨_, _, HX.out, rfl, rfl⟩, by simp only [intOf]; omega⟩
    · by_cases hc2 : 4294967296 * r + L / 4294967296 < q * 4294967280
      · have hst := digit_step (w := L / 4294967296) (by omega) (by omega) (by omega) (by decide) (by decide) HD.out (Or.inr hc2)
        have HS := Lib.hid hst.2; have hq1 := hst.1; clear hst
        by_cases hr : 1 ≤ r
        · have hfin := digit_past (q := q - 1) (r := r + 4294967295) (w := L / 4294967296) (by omega) (by decide) (by decide) HS.out.1 (by omega) (by omega) HS.out.2
          have HF := Lib.hid hfin; clear hfin
          go_wp2
          obtain ⟨R, hR⟩ : ∃ R, R = U * 4294967296 + L / 4294967296 - (q - 1) * 18446744073709551600 := ⟨_, rfl⟩
          have hR0 : 0 ≤ R := by have := HF.out.1; omega
          have hR1 : R < 18446744073709551600 := by have := HF.out.2; omega
          rw [divR U (L / 4294967296) (q - 1) R hR hR0 hR1, divQ R hR0 hR1, divM R hR0 hR1]
          have HR := Lib.hid hR
          clear hR HF
          have hd1 := digit_start (w := L % 4294967296) (y1 := 4294967295) (y0 := 4294967280) (by omega) (by omega) hR0 (by decide) (by decide) (by decide) (by decide) (by omega)
          go_loop [18, 16] (fun a b => DivRel R (L % 4294967296) a b) (fun a _ => (intOf a).toNat)
          case atStart => exact ⟨_, _, hd1, rfl, rfl⟩
          case round =>
            obtain ⟨q0, r, hd, rfl, rfl⟩ := hrel
            clear hd1
            obtain ⟨f0, f1, f2, f3, f4⟩ : 0 ≤ q0 ∧ 0 ≤ r ∧ r < 4294967296 ∧ q0 ≤ 4294967297 ∧ True := ⟨hd.q0, hd.r0, hd.rb, hd.qb, trivial⟩
            clear f4
            have HE := Lib.hid hd; clear hd
            by_cases hc' : 4294967296 ≤ q0
            · have hst := digit_step (w := L % 4294967296) (by omega) (by omega) (by omega) (by decide) (by decide) HE.out (Or.inl hc')
              have HS := Lib.hid hst.2; have hq1 := hst.1; clear hst
              by_cases hr' : 1 ≤ r
              · have hfin := digit_past (q := q0 - 1) (r := r + 4294967295) (w := L % 4294967296) (by omega) (by decide) (by decide) HS.out.1 (by omega) (by omega) HS.out.2
                have HF := Lib.hid hfin; clear hfin
                go_wp2
                obtain ⟨r0, hr0⟩ : ∃ r0, r0 = R * 4294967296 + L % 4294967296 - (q0 - 1) * 18446744073709551600 := ⟨_, rfl⟩
                have hr1 : 0 ≤ r0 := by have := HF.out.1; omega
                have hr2 : r0 < 18446744073709551600 := by have := HF.out.2; omega
                have hEnd := divEnd (hi * 18446744073709551616 + lo) U L _ R _ r0 hV.out HR.out hr0 hr1 hr2
                go_ret2
                exact ⟨⟨_, ret2_u64 rfl (by rw [divR R (L % 4294967296) (q0 - 1) r0 hr0 hr1 hr2]; exact hEnd)⟩, rfl⟩
              · have hnx : Digit R (L % 4294967296) 4294967295 4294967280 (q0 - 1) (r + 4294967295) := ⟨HS.out.1, by omega, by omega, by omega, by omega, HS.out.2⟩
                have HX := Lib.hid hnx; clear hnx
                go_wp2
                exact ⟨⟨_, _, HX.out, rfl, rfl⟩, by simp only [intOf]; omega⟩
            · by_cases hc2' : 4294967296 * r + L % 4294967296 < q0 * 4294967280
              · have hst := digit_step (w := L % 4294967296) (by omega) (by omega) (by omega) (by decide) (by decide) HE.out (Or.inr hc2')
                have HS := Lib.hid hst.2; have hq1 := hst.1; clear hst
                by_cases hr' : 1 ≤ r
                · have hfin := digit_past (q := q0 - 1) (r := r + 4294967295) (w := L % 4294967296) (by omega) (by decide) (by decide) HS.out.1 (by omega) (by omega) HS.out.2
                  have HF := Lib.hid hfin; clear hfin
                  go_wp2
                  obtain ⟨r0, hr0⟩ : ∃ r0, r0 = R * 4294967296 + L % 4294967296 - (q0 - 1) * 18446744073709551600 := ⟨_, rfl⟩
                  have hr1 : 0 ≤ r0 := by have := HF.out.1; omega
                  have hr2 : r0 < 18446744073709551600 := by have := HF.out.2; omega
                  have hEnd := divEnd (hi * 18446744073709551616 + lo) U L _ R _ r0 hV.out HR.out hr0 hr1 hr2
                  go_ret2
                  exact ⟨⟨_, ret2_u64 rfl (by rw [divR R (L % 4294967296) (q0 - 1) r0 hr0 hr1 hr2]; exact hEnd)⟩, rfl⟩
                · have hnx : Digit R (L % 4294967296) 4294967295 4294967280 (q0 - 1) (r + 4294967295) := ⟨HS.out.1, by omega, by omega, by omega, by omega, HS.out.2⟩
                  have HX := Lib.hid hnx; clear hnx
                  go_wp2
                  exact ⟨⟨_, _, HX.out, rfl, rfl⟩, by simp only [intOf]; omega⟩
              · have hfin := digit_done HE.out (by omega)
                have HF := Lib.hid hfin; clear hfin
                go_wp2
                obtain ⟨r0, hr0⟩ : ∃ r0, r0 = R * 4294967296 + L % 4294967296 - q0 * 18446744073709551600 := ⟨_, rfl⟩
                have hr1 : 0 ≤ r0 := by have := HF.out.1; omega
                have hr2 : r0 < 18446744073709551600 := by have := HF.out.2; omega
                have hEnd := divEnd (hi * 18446744073709551616 + lo) U L _ R _ r0 hV.out HR.out hr0 hr1 hr2
                go_ret2
                exact ⟨⟨_, ret2_u64 rfl (by rw [divR R (L % 4294967296) q0 r0 hr0 hr1 hr2]; exact hEnd)⟩, rfl⟩
        · have hnx : Digit U (L / 4294967296) 4294967295 4294967280 (q - 1) (r + 4294967295) := ⟨HS.out.1, by omega, by omega, by omega, by omega, HS.out.2⟩
          have HX := Lib.hid hnx; clear hnx
          go_wp2
          exact ⟨⟨_, _, HX.out, rfl, rfl⟩, by simp only [intOf]; omega⟩
      · have hfin := digit_done HD.out (by omega)
        have HF := Lib.hid hfin; clear hfin
        go_wp2
        obtain ⟨R, hR⟩ : ∃ R, R = U * 4294967296 + L / 4294967296 - q * 18446744073709551600 := ⟨_, rfl⟩
        have hR0 : 0 ≤ R := by have := HF.out.1; omega
        have hR1 : R < 18446744073709551600 := by have := HF.out.2; omega
        rw [divR U (L / 4294967296) q R hR hR0 hR1, divQ R hR0 hR1, divM R hR0 hR1]
        have HR := Lib.hid hR
        clear hR HF
        have hd1 := digit_start (w := L % 4294967296) (y1 := 4294967295) (y0 := 4294967280) (by omega) (by omega) hR0 (by decide) (by decide) (by decide) (by decide) (by omega)
        go_loop [18, 16] (fun a b => DivRel R (L % 4294967296) a b) (fun a _ => (intOf a).toNat)
        case atStart => exact ⟨_, _, hd1, rfl, rfl⟩
        case round =>
          obtain ⟨q0, r, hd, rfl, rfl⟩ := hrel
          clear hd1
          obtain ⟨f0, f1, f2, f3, f4⟩ : 0 ≤ q0 ∧ 0 ≤ r ∧ r < 4294967296 ∧ q0 ≤ 4294967297 ∧ True := ⟨hd.q0, hd.r0, hd.rb, hd.qb, trivial⟩
          clear f4
          have HE := Lib.hid hd; clear hd
          by_cases hc' : 4294967296 ≤ q0
          · have hst := digit_step (w := L % 4294967296) (by omega) (by omega) (by omega) (by decide) (by decide) HE.out (Or.inl hc')
            have HS := Lib.hid hst.2; have hq1 := hst.1; clear hst
            by_cases hr' : 1 ≤ r
            · have hfin := digit_past (q := q0 - 1) (r := r + 4294967295) (w := L % 4294967296) (by omega) (by decide) (by decide) HS.out.1 (by omega) (by omega) HS.out.2
              have HF := Lib.hid hfin; clear hfin
              go_wp2
              obtain ⟨r0, hr0⟩ : ∃ r0, r0 = R * 4294967296 + L % 4294967296 - (q0 - 1) * 18446744073709551600 := ⟨_, rfl⟩
              have hr1 : 0 ≤ r0 := by have := HF.out.1; omega
              have hr2 : r0 < 18446744073709551600 := by have := HF.out.2; omega
              have hEnd := divEnd (hi * 18446744073709551616 + lo) U L _ R _ r0 hV.out HR.out hr0 hr1 hr2
              go_ret2
              exact ⟨⟨_, ret2_u64 rfl (by rw [divR R (L % 4294967296) (q0 - 1) r0 hr0 hr1 hr2]; exact hEnd)⟩, rfl⟩
            · have hnx : Digit R (L % 4294967296) 4294967295 4294967280 (q0 - 1) (r + 4294967295) := ⟨HS.out.1, by omega, by omega, by omega, by omega, HS.out.2⟩
              have HX := Lib.hid hnx; clear hnx
              go_wp2
              exact ⟨⟨_, _, HX.out, rfl, rfl⟩, by simp only [intOf]; omega⟩
          · by_cases hc2' : 4294967296 * r + L % 4294967296 < q0 * 4294967280
            · have hst := digit_step (w := L % 4294967296) (by omega) (by omega) (by omega) (by decide) (by decide) HE.out (Or.inr hc2')
              have HS := Lib.hid hst.2; have hq1 := hst.1; clear hst
              by_cases hr' : 1 ≤ r
              · have hfin := digit_past (q := q0 - 1) (r := r + 4294967295) (w := L % 4294967296) (by omega) (by decide) (by decide) HS.out.1 (by omega) (by omega) HS.out.2
                have HF := Lib.hid hfin; clear hfin
                go_wp2
                obtain ⟨r0, hr0⟩ : ∃ r0, r0 = R * 4294967296 + L % 4294967296 - (q0 - 1) * 18446744073709551600 := ⟨_, rfl⟩
                have hr1 : 0 ≤ r0 := by have := HF.out.1; omega
                have hr2 : r0 < 18446744073709551600 := by have := HF.out.2; omega
                have hEnd := divEnd (hi * 18446744073709551616 + lo) U L _ R _ r0 hV.out HR.out hr0 hr1 hr2
                go_ret2
                exact ⟨⟨_, ret2_u64 rfl (by rw [divR R (L % 4294967296) (q0 - 1) r0 hr0 hr1 hr2]; exact hEnd)⟩, rfl⟩
              · have hnx : Digit R (L % 4294967296) 4294967295 4294967280 (q0 - 1) (r + 4294967295) := ⟨HS.out.1, by omega, by omega, by omega, by omega, HS.out.2⟩
                have HX := Lib.hid hnx; clear hnx
                go_wp2
                exact ⟨⟨_, _, HX.out, rfl, rfl⟩, by simp only [intOf]; omega⟩
            · have hfin := digit_done HE.out (by omega)
              have HF := Lib.hid hfin; clear hfin
              go_wp2
              obtain ⟨r0, hr0⟩ : ∃ r0, r0 = R * 4294967296 + L % 4294967296 - q0 * 18446744073709551600 := ⟨_, rfl⟩
              have hr1 : 0 ≤ r0 := by have := HF.out.1; omega
              have hr2 : r0 < 18446744073709551600 := by have := HF.out.2; omega
              have hEnd := divEnd (hi * 18446744073709551616 + lo) U L _ R _ r0 hV.out HR.out hr0 hr1 hr2
              go_ret2
              exact ⟨⟨_, ret2_u64 rfl (by rw [divR R (L % 4294967296) q0 r0 hr0 hr1 hr2]; exact hEnd)⟩, rfl⟩
#print axioms Div64_N
end Go.Proofs.YtbgnfioggmkdeaaGreatDoor
namespace Go.Proofs.YtbgnfioggmkdeaaGreatDoor
set_option linter.unusedVariables false
set_option linter.unusedSimpArgs false
open Go Go.RowKit

/-- A call that gives one value and at most draws. -/
def RetQ (v : Value) (w : World) (e : Ending) (w' : World) : Prop := e = .returned v ∧ ∃ n, w' = w.drewN n
theorem retQ_same {f : FuncId} {args : Array Value} {w : World} {v : Value} (h : Calls Tryz.prog f args w fun e w' => e = .returned v ∧ w = w') : Calls Tryz.prog f args w (RetQ v w) :=
  h.mono fun _ _ ⟨he, hm⟩ => ⟨he, 0, hm.symm⟩
theorem quiet_same {f : FuncId} {args : Array Value} {w : World} {n : Nat} {v : Value} (h : Calls Tryz.prog f args (w.drewN n) fun e w' => e = .returned v ∧ w.drewN n = w') :
    Calls Tryz.prog f args (w.drewN n) fun e w'' => e = .returned v ∧ ∃ m, w'' = w.drewN m := h.mono fun _ _ ⟨he, hm⟩ => ⟨he, n, hm.symm⟩

theorem quiet_add' {f : FuncId} {args : Array Value} {w : World} {a n : Nat} {v : Value} (h : Calls Tryz.prog f args (w.drewN (a + n)) fun e w' => e = .returned v ∧ w.drewN (a + n) = w') :
    Calls Tryz.prog f args (w.drewN (a + n)) fun e w'' => e = .returned v ∧ ∃ m, w'' = w.drewN (a + m) := h.mono fun _ _ ⟨he, hm⟩ => ⟨he, n, hm.symm⟩

def mulN (x y : Int) : Int := x * y % 2305843009213693950
def addN (x y : Int) : Int := (x + y) % 2305843009213693950
def subN (x y : Int) : Int := (x - y) % 2305843009213693950
theorem mulN_pos (x y : Int) : 0 ≤ mulN x y ∧ mulN x y < 2305843009213693950 := by unfold mulN; omega
theorem addN_pos (x y : Int) : 0 ≤ addN x y ∧ addN x y < 2305843009213693950 := by unfold addN; omega
theorem subN_pos (x y : Int) : 0 ≤ subN x y ∧ subN x y < 2305843009213693950 := by unfold subN; omega
def ofN (l : List UInt8) : Int := ((beN l % 2305843009213693950 : Nat) : Int)
theorem ofN_pos (l : List UInt8) : 0 ≤ ofN l ∧ ofN l < 2305843009213693950 := by unfold ofN; omega
theorem ofN_snoc (l : List UInt8) (c : UInt8) : addN (mulN (ofN l) 256) c.toNat = ofN (l ++ [c]) := by
  unfold addN mulN ofN; rw [beN_snoc]; omega
theorem ret_same {a b : Int} (h : a = b) : Value.int .u64 a = Value.int .u64 b := by rw [h]

set_option maxHeartbeats 400000 in
theorem Div64_zero (lo : Int) (w : World) (l0 : 0 ≤ lo) (l1 : lo < 18446744073709551616) :
    Calls Tryz.prog 206 #[.int .u64 0, .int .u64 lo, .int .u64 2305843009213693950] w fun e w' => (∃ q : Int, e = .returned (.tuple #[.int .u64 q, .int .u64 (lo % 2305843009213693950)])) ∧ ∃ n, w' = w.drewN n := by
  go_enter Tryz.func206, Tryz.ntmps206
  go_wp2_with fail
  go_quiet (fail)
  go_wp2
  go_ret2
  exact ⟨⟨_, rfl⟩, _, rfl⟩
set_option maxHeartbeats 400000 in
theorem Rem64_N (hi lo : Int) (w : World) (h0 : 0 ≤ hi) (h1 : hi < 18446744073709551616) (l0 : 0 ≤ lo) (l1 : lo < 18446744073709551616) :
    Calls Tryz.prog 201 #[.int .u64 hi, .int .u64 lo, .int .u64 2305843009213693950] w (RetQ (.int .u64 ((hi * 18446744073709551616 + lo) % 2305843009213693950)) w) := by
  by_cases hc : hi % 2305843009213693950 = 0
  · have hf : (hi * 18446744073709551616 + lo) % 2305843009213693950 = lo % 2305843009213693950 := by omega
    rw [hf]; clear hf
    go_enter Tryz.func201, Tryz.ntmps201
    go_wp2_with (go_at_call 206; refine (Div64_zero _ _ (by omega) (by omega)).mono ?_; rintro e w' ⟨⟨q, rfl⟩, n, rfl⟩)
    go_ret
    exact ⟨rfl, _, rfl⟩
  · have hf : (hi * 18446744073709551616 + lo) % 2305843009213693950 = (hi % 2305843009213693950 * 18446744073709551616 + lo) % 2305843009213693950 := by omega
    rw [hf]; clear hf
    go_enter Tryz.func201, Tryz.ntmps201
    go_wp2_with (go_at_call 206; refine (Div64_N _ _ _ (by omega) (by omega) (by omega) (by omega)).mono ?_; rintro e w' ⟨⟨q, rfl⟩, rfl⟩)
    go_ret
    exact ⟨rfl, 0, rfl⟩

theorem ReduceN_any (x : Int) (w : World) (h0 : 0 ≤ x) (h : x < 18446744073709551616) :
    Calls Tryz.prog 41 #[.int .u64 x] w fun e w' => e = .returned (.int .u64 (x % 2305843009213693950)) ∧ w = w' := by
  go_enter Tryz.func41, Tryz.ntmps41
  go_wp2
  go_ret
  exact ⟨rfl, rfl⟩
set_option maxHeartbeats 400000 in
theorem Add_any (x y : Int) (w : World) (hx0 : 0 ≤ x) (hx : x < 18446744073709551616) (hy0 : 0 ≤ y) (hy : y < 18446744073709551616) :
    Calls Tryz.prog 200 #[.int .u64 x, .int .u64 y] w fun e w' => e = .returned (.int .u64 (addN x y)) ∧ w = w' := by
  have HF := Lib.hid (show addN x y = (x % 2305843009213693950 + y % 2305843009213693950) % 2305843009213693950 by unfold addN; omega)
  generalize addN x y = z at *
  go_enter Tryz.func200, Tryz.ntmps200
  go_wp2_with (go_at_call 41; refine (ReduceN_any _ _ (by omega) (by omega)).mono ?_; rintro e w' ⟨rfl, rfl⟩)
  go_ret
  exact ⟨ret_u64 (by rw [HF.out]; omega), rfl⟩
set_option maxHeartbeats 400000 in
theorem Sub_any (x y : Int) (w : World) (hx0 : 0 ≤ x) (hx : x < 18446744073709551616) (hy0 : 0 ≤ y) (hy : y < 18446744073709551616) :
    Calls Tryz.prog 195 #[.int .u64 x, .int .u64 y] w fun e w' => e = .returned (.int .u64 (subN x y)) ∧ w = w' := by
  have HF := Lib.hid (show subN x y = (x % 2305843009213693950 + 2305843009213693950 - y % 2305843009213693950) % 2305843009213693950 by unfold subN; omega)
  generalize subN x y = z at *
  go_enter Tryz.func195, Tryz.ntmps195
  go_wp2_with (go_at_call 41; refine (ReduceN_any _ _ (by omega) (by omega)).mono ?_; rintro e w' ⟨rfl, rfl⟩)
  go_ret
  exact ⟨ret_u64 (by rw [HF.out]; omega), rfl⟩
set_option maxHeartbeats 400000 in
theorem MulS_any (x y : Int) (w : World) (hx0 : 0 ≤ x) (hx : x < 18446744073709551616) (hy0 : 0 ≤ y) (hy : y < 18446744073709551616) :
    Calls Tryz.prog 196 #[.int .u64 x, .int .u64 y] w (RetQ (.int .u64 (mulN x y)) w) := by
  obtain ⟨b0, b1⟩ := mul_ltP (x % 2305843009213693950) (y % 2305843009213693950) (by omega) (by omega) (by omega) (by omega)
  have HF := Lib.hid (show mulN x y = (x % 2305843009213693950 * (y % 2305843009213693950) / 18446744073709551616 * 18446744073709551616 + x % 2305843009213693950 * (y % 2305843009213693950) % 18446744073709551616) % 2305843009213693950 by
    have h := Int.mul_emod x y 2305843009213693950
    unfold mulN; rw [h]; omega)
  generalize mulN x y = z at *
  go_enter Tryz.func196, Tryz.ntmps196
  go_wp2_with (first
    | (go_at_call 189; refine (Mul64_any _ _ _ (by omega) (by omega) (by omega) (by omega)).mono ?_; rintro e w' ⟨rfl, rfl⟩)
    | (go_at_call 41; refine (ReduceN_any _ _ (by omega) (by omega)).mono ?_; rintro e w' ⟨rfl, rfl⟩)
    | (go_at_call 201; refine (Rem64_N _ _ _ (by omega) (by omega) (by omega) (by omega)).mono ?_; rintro e w' ⟨rfl, n, rfl⟩))
  go_ret
  exact ⟨ret_u64 HF.out.symm, _, rfl⟩

set_option maxHeartbeats 400000 in
theorem AddN_any (x y : Int) (w : World) (hx0 : 0 ≤ x) (hx : x < 18446744073709551616) (hy0 : 0 ≤ y) (hy : y < 18446744073709551616) :
    Calls Tryz.prog 197 #[.int .u64 x, .int .u64 y] w fun e w' => e = .returned (.int .u64 (addN x y)) ∧ w = w' := by
  have HF := Lib.hid (show addN x y = (x % 2305843009213693950 + y % 2305843009213693950) % 2305843009213693950 by unfold addN; omega)
  generalize addN x y = z at *
  go_enter Tryz.func197, Tryz.ntmps197
  go_wp2
  go_ret
  exact ⟨ret_u64 HF.out.symm, rfl⟩
set_option maxHeartbeats 400000 in
theorem SubN_any (x y : Int) (w : World) (hx0 : 0 ≤ x) (hx : x < 18446744073709551616) (hy0 : 0 ≤ y) (hy : y < 18446744073709551616) :
    Calls Tryz.prog 181 #[.int .u64 x, .int .u64 y] w fun e w' => e = .returned (.int .u64 (subN x y)) ∧ w = w' := by
  have HF := Lib.hid (show subN x y = (x % 2305843009213693950 + 2305843009213693950 - y % 2305843009213693950) % 2305843009213693950 by unfold subN; omega)
  generalize subN x y = z at *
  go_enter Tryz.func181, Tryz.ntmps181
  go_wp2
  go_ret
  exact ⟨ret_u64 HF.out.symm, rfl⟩
set_option maxHeartbeats 400000 in
theorem MulN_any (x y : Int) (w : World) (hx0 : 0 ≤ x) (hx : x < 18446744073709551616) (hy0 : 0 ≤ y) (hy : y < 18446744073709551616) :
    Calls Tryz.prog 182 #[.int .u64 x, .int .u64 y] w fun e w' => e = .returned (.int .u64 (mulN x y)) ∧ w = w' := by
  obtain ⟨b0, b1⟩ := mul_ltP (x % 2305843009213693950) (y % 2305843009213693950) (by omega) (by omega) (by omega) (by omega)
  have hm := mask_P (x % 2305843009213693950 * (y % 2305843009213693950) % 18446744073709551616) (by omega) (by omega)
  have hj := join64 (x % 2305843009213693950 * (y % 2305843009213693950) / 18446744073709551616 * 8) (x % 2305843009213693950 * (y % 2305843009213693950) % 18446744073709551616 / 2305843009213693952) 3 (by omega) (by omega) (by omega) (by omega) (by omega) (by omega)
  have HF := Lib.hid (show mulN x y = (2 * (x % 2305843009213693950 * (y % 2305843009213693950) / 18446744073709551616 * 8 + x % 2305843009213693950 * (y % 2305843009213693950) % 18446744073709551616 / 2305843009213693952) + x % 2305843009213693950 * (y % 2305843009213693950) % 2305843009213693952) % 2305843009213693950 by
    have h := Int.mul_emod x y 2305843009213693950
    unfold mulN; rw [h]; omega)
  generalize mulN x y = z at *
  go_enter Tryz.func182, Tryz.ntmps182
  go_wp2_with (go_at_call 174; refine (wide_any _ _ _ (by omega) (by omega) (by omega) (by omega)).mono ?_; rintro e w' ⟨rfl, rfl⟩)
  go_ret
  exact ⟨ret_u64 (by rw [HF.out]), rfl⟩

def OfRel (w : World) (l : List UInt8) (i x : Value) (wr : World) : Prop := ∃ k n : Nat, k ≤ l.length ∧ i = .int .i64 k ∧ x = .int .u64 (ofN (l.take k)) ∧ wr = w.drewN n
theorem take_snoc (l : List UInt8) (k : Nat) (h : k < l.length) : l.take (k + 1) = l.take k ++ [l[k]] := List.take_succ_eq_append_getElem h

set_option maxHeartbeats 400000 in
theorem Of_any (w : World) (v : Value) (l : List UInt8) (hv : SeesB w v l) (hl : l.length ≤ 70368744177000) :
    Calls Tryz.prog 193 #[v] w (RetQ (.int .u64 (ofN l)) w) := by
  have HV := Lib.hid hv
  obtain ⟨a, c, rfl, hc, hm⟩ := sees_form hv
  clear hv
  go_enter Tryz.func193, Tryz.ntmps193
  go_wp2_with fail
  go_loopw [8, 3] (fun i x wr => OfRel w l i x wr) (fun i _ _ => l.length - (intOf i).toNat)
  case atStart => exact ⟨0, 0, by omega, rfl, rfl, rfl⟩
  case round =>
    obtain ⟨k, n, hk, rfl, rfl, rfl⟩ := hrel
    by_cases hlt : k < l.length
    · obtain ⟨b, o, c', he, _, _, hcell⟩ := seesB_open HV.out (by omega)
      cases he
      have hck : (w.drewN n).cell? ⟨b, o + k, none⟩ = some (BV l[k]) := by
        show w.cell? _ = _
        exact hcell k _ (by simp; exact ⟨_, List.getElem?_eq_getElem hlt, rfl⟩)
      clear hcell
      have HS := Lib.hid (show addN (mulN (ofN (l.take k)) 256) (l[k].toNat) = ofN (l.take (k + 1)) by rw [take_snoc l k hlt, ofN_snoc])
      obtain ⟨x0, x1⟩ := ofN_pos (l.take k)
      have hb8 : ((l[k]).toNat : Int) < 256 := by have := (l[k]).toNat_lt; omega
      generalize ofN (l.take k) = X at *
      generalize l[k] = cc at *
      obtain ⟨m0, m1⟩ := mulN_pos X 256
      generalize hm : mulN X 256 = M at *
      have HM := Lib.hid hm; clear hm
      go_wp2_with (first
        | (go_at_call 196; refine (MulS_any _ _ _ (by omega) (by omega) (by omega) (by omega)).mono ?_; rintro e w' ⟨rfl, n1, rfl⟩; rw [HM.out])
        | (go_at_call 200; refine (Add_any _ _ _ (by omega) (by omega) (by omega) (by omega)).mono ?_; rintro e w' ⟨rfl, rfl⟩; rw [HS.out]))
      go_roundw
      case rel => exact ⟨k + 1, n + n1, by omega, by go_num, rfl, rfl⟩
      case measure => simp [intOf]; omega
    · obtain rfl : k = l.length := by omega
      rw [List.take_length]
      go_wp2
      go_ret
      exact ⟨rfl, _, rfl⟩

set_option maxHeartbeats 400000 in
theorem OfN_any (w : World) (v : Value) (l : List UInt8) (hv : SeesB w v l) (hl : l.length ≤ 70368744177000) :
    Calls Tryz.prog 177 #[v] w (RetQ (.int .u64 (ofN l)) w) := by
  have HV := Lib.hid hv
  obtain ⟨a, c, rfl, hc, hm⟩ := sees_form hv
  clear hv
  go_enter Tryz.func177, Tryz.ntmps177
  go_wp2_with fail
  go_loopw [4, 3] (fun i x wr => OfRel w l i x wr) (fun i _ _ => l.length - (intOf i).toNat)
  case atStart => exact ⟨0, 0, by omega, rfl, rfl, rfl⟩
  case round =>
    obtain ⟨k, n, hk, rfl, rfl, rfl⟩ := hrel
    by_cases hlt : k < l.length
    · obtain ⟨b, o, c', he, _, _, hcell⟩ := seesB_open HV.out (by omega)
      cases he
      have hck : ∀ m, (w.drewN m).cell? ⟨b, o + k, none⟩ = some (BV l[k]) := by
        intro m; show w.cell? _ = _
        exact hcell k _ (by simp; exact ⟨_, List.getElem?_eq_getElem hlt, rfl⟩)
      clear hcell
      have HS := Lib.hid (show addN (mulN (ofN (l.take k)) 256) (l[k].toNat) = ofN (l.take (k + 1)) by rw [take_snoc l k hlt, ofN_snoc])
      obtain ⟨x0, x1⟩ := ofN_pos (l.take k)
      have hb8 : ((l[k]).toNat : Int) < 256 := by have := (l[k]).toNat_lt; omega
      generalize ofN (l.take k) = X at *
      generalize l[k] = cc at *
      obtain ⟨m0, m1⟩ := mulN_pos X 256
      go_wp2_with fail
      go_quiet ((first
        | (go_at_call 182; exact quiet_add' (MulN_any _ _ _ (by omega) (by omega) (by omega) (by omega)))
        | (go_at_call 197; exact quiet_add' (AddN_any _ _ _ (by omega) (by omega) (by omega) (by omega)))))
      rw [HS.out]
      go_wp2_with fail
      go_roundw
      case rel => exact ⟨k + 1, _, by omega, by go_num, rfl, rfl⟩
      case measure => simp [intOf]; omega
    · obtain rfl : k = l.length := by omega
      rw [List.take_length]
      go_wp2
      go_ret
      exact ⟨rfl, _, rfl⟩
end Go.Proofs.YtbgnfioggmkdeaaGreatDoor
namespace Go.Proofs.YtbgnfioggmkdeaaGreatDoor
set_option linter.unusedVariables false
set_option linter.unusedSimpArgs false
open Go Go.RowKit

def okP (x : Int) : Prop := 0 < x ∧ x < 2305843009213693951
instance (x : Int) : Decidable (okP x) := by unfold okP; infer_instance
def timesP (x e : Int) : Int := if okP x then powP x e else 0
theorem timesP_pos (x e : Int) : 0 ≤ timesP x e ∧ timesP x e < 2305843009213693951 := by
  unfold timesP; split
  · exact ⟨powP_nonneg _ _, powP_lt _ _⟩
  · decide
theorem ret_bool {a b : Bool} (h : a = b) : Ending.returned (.bool a) = Ending.returned (.bool b) := by rw [h]

set_option maxHeartbeats 400000 in
theorem Right_any (x : Int) (w : World) (hx0 : 0 ≤ x) (hx : x < 18446744073709551616) :
    Calls Tryz.prog 42 #[.int .u64 x] w fun e w' => e = .returned (.bool (decide (okP x))) ∧ w = w' := by
  unfold okP
  by_cases h0 : 0 < x
  · by_cases h1 : x < 2305843009213693951
    · have hb := Lib.hid (show decide (0 < x ∧ x < 2305843009213693951) = true by simp [h0, h1])
      generalize decide (0 < x ∧ x < 2305843009213693951) = b at *
      go_enter Tryz.func42, Tryz.ntmps42
      go_wp2
      go_ret
      exact ⟨ret_bool hb.out.symm, rfl⟩
    · have hb := Lib.hid (show decide (0 < x ∧ x < 2305843009213693951) = false by simp [h1])
      generalize decide (0 < x ∧ x < 2305843009213693951) = b at *
      go_enter Tryz.func42, Tryz.ntmps42
      go_wp2
      go_ret
      exact ⟨ret_bool hb.out.symm, rfl⟩
  · have hb := Lib.hid (show decide (0 < x ∧ x < 2305843009213693951) = false by simp [h0])
    generalize decide (0 < x ∧ x < 2305843009213693951) = b at *
    go_enter Tryz.func42, Tryz.ntmps42
    go_wp2
    go_ret
    exact ⟨ret_bool hb.out.symm, rfl⟩
set_option maxHeartbeats 400000 in
theorem Rightr_any (x : Int) (w : World) (hx0 : 0 ≤ x) (hx : x < 18446744073709551616) :
    Calls Tryz.prog 18 #[.int .u64 x] w fun e w' => e = .returned (.bool (decide (okP x))) ∧ w = w' := by
  unfold okP
  by_cases h0 : 0 < x
  · by_cases h1 : x < 2305843009213693951
    · have hb := Lib.hid (show decide (0 < x ∧ x < 2305843009213693951) = true by simp [h0, h1])
      generalize decide (0 < x ∧ x < 2305843009213693951) = b at *
      go_enter Tryz.func18, Tryz.ntmps18
      go_wp2
      go_ret
      exact ⟨ret_bool hb.out.symm, rfl⟩
    · have hb := Lib.hid (show decide (0 < x ∧ x < 2305843009213693951) = false by simp [h1])
      generalize decide (0 < x ∧ x < 2305843009213693951) = b at *
      go_enter Tryz.func18, Tryz.ntmps18
      go_wp2
      go_ret
      exact ⟨ret_bool hb.out.symm, rfl⟩
  · have hb := Lib.hid (show decide (0 < x ∧ x < 2305843009213693951) = false by simp [h0])
    generalize decide (0 < x ∧ x < 2305843009213693951) = b at *
    go_enter Tryz.func18, Tryz.ntmps18
    go_wp2
    go_ret
    exact ⟨ret_bool hb.out.symm, rfl⟩

set_option maxHeartbeats 400000 in
theorem Times_any (x e : Int) (w : World) (hx0 : 0 ≤ x) (hx : x < 18446744073709551616) (he0 : 0 ≤ e) (he : e < 18446744073709551616) :
    Calls Tryz.prog 128 #[.int .u64 x, .int .u64 e] w fun e_ w' => e_ = .returned (.int .u64 (timesP x e)) ∧ w = w' := by
  by_cases h : okP x
  · have hf : timesP x e = powP x e := by unfold timesP; rw [if_pos h]
    rw [hf]; clear hf
    have hd := decide_eq_true h
    go_enter Tryz.func128, Tryz.ntmps128
    go_wp2_with (first
      | (go_at_call 42; refine (Right_any _ _ (by omega) (by omega)).mono ?_; rintro e_ w' ⟨rfl, rfl⟩)
      | (go_at_call 175; refine (Pow_any _ _ _ (by omega) (by omega) (by omega) (by omega)).mono ?_; rintro e_ w' ⟨rfl, rfl⟩))
    go_ret
    exact ⟨rfl, rfl⟩
  · have hf : timesP x e = 0 := by unfold timesP; rw [if_neg h]
    rw [hf]; clear hf
    have hd := decide_eq_false h
    go_enter Tryz.func128, Tryz.ntmps128
    go_wp2_with (go_at_call 42; refine (Right_any _ _ (by omega) (by omega)).mono ?_; rintro e_ w' ⟨rfl, rfl⟩)
    go_ret
    exact ⟨rfl, rfl⟩
set_option maxHeartbeats 400000 in
theorem Timesr_any (x e : Int) (w : World) (hx0 : 0 ≤ x) (hx : x < 18446744073709551616) (he0 : 0 ≤ e) (he : e < 18446744073709551616) :
    Calls Tryz.prog 46 #[.int .u64 x, .int .u64 e] w fun e_ w' => e_ = .returned (.int .u64 (timesP x e)) ∧ w = w' := by
  by_cases h : okP x
  · have hf : timesP x e = powP x e := by unfold timesP; rw [if_pos h]
    rw [hf]; clear hf
    have hd := decide_eq_true h
    go_enter Tryz.func46, Tryz.ntmps46
    go_wp2_with (first
      | (go_at_call 18; refine (Rightr_any _ _ (by omega) (by omega)).mono ?_; rintro e_ w' ⟨rfl, rfl⟩)
      | (go_at_call 78; refine (PowP_any _ _ _ (by omega) (by omega) (by omega) (by omega)).mono ?_; rintro e_ w' ⟨rfl, rfl⟩))
    go_ret
    exact ⟨rfl, rfl⟩
  · have hf : timesP x e = 0 := by unfold timesP; rw [if_neg h]
    rw [hf]; clear hf
    have hd := decide_eq_false h
    go_enter Tryz.func46, Tryz.ntmps46
    go_wp2_with (go_at_call 18; refine (Rightr_any _ _ (by omega) (by omega)).mono ?_; rintro e_ w' ⟨rfl, rfl⟩)
    go_ret
    exact ⟨rfl, rfl⟩
set_option maxHeartbeats 400000 in
theorem Base_any (e : Int) (w : World) (he0 : 0 ≤ e) (he : e < 18446744073709551616) :
    Calls Tryz.prog 79 #[.int .u64 e] w fun e_ w' => e_ = .returned (.int .u64 (timesP 37 e)) ∧ w = w' := by
  go_enter Tryz.func79, Tryz.ntmps79
  go_wp2_with (go_at_call 128; refine (Times_any _ _ _ (by omega) (by omega) (by omega) (by omega)).mono ?_; rintro e_ w' ⟨rfl, rfl⟩)
  go_ret
  exact ⟨rfl, rfl⟩
set_option maxHeartbeats 400000 in
theorem Baser_any (e : Int) (w : World) (he0 : 0 ≤ e) (he : e < 18446744073709551616) :
    Calls Tryz.prog 19 #[.int .u64 e] w fun e_ w' => e_ = .returned (.int .u64 (timesP 37 e)) ∧ w = w' := by
  go_enter Tryz.func19, Tryz.ntmps19
  go_wp2_with (go_at_call 46; refine (Timesr_any _ _ _ (by omega) (by omega) (by omega) (by omega)).mono ?_; rintro e_ w' ⟨rfl, rfl⟩)
  go_ret
  exact ⟨rfl, rfl⟩
set_option maxHeartbeats 400000 in
theorem Bytes_any (x : Int) (w : World) (hx0 : 0 ≤ x) (hx : x < 18446744073709551616) : Calls Tryz.prog 69 #[.int .u64 x] w (RetB (put64 x.toNat) w) := by
  go_enter Tryz.func69, Tryz.ntmps69
  go_wp2_with (go_at_call 110; refine (Put64_any _ _ [] _ (Sees.nil _ _) (by omega) (by omega) (by simp)).mono ?_; rintro e_ w' ⟨v', rfl, h1, h2⟩)
  go_ret
  exact RetB.mk h1 h2
set_option maxHeartbeats 400000 in
theorem Bytesr_any (x : Int) (w : World) (hx0 : 0 ≤ x) (hx : x < 18446744073709551616) : Calls Tryz.prog 83 #[.int .u64 x] w (RetB (put64 x.toNat) w) := by
  go_enter Tryz.func83, Tryz.ntmps83
  go_wp2_with (go_at_call 91; refine (Put64r_any _ _ [] _ (Sees.nil _ _) (by omega) (by omega) (by simp)).mono ?_; rintro e_ w' ⟨v', rfl, h1, h2⟩)
  go_ret
  exact RetB.mk h1 h2

/-- Numbers of 64 bits in a slice. -/
abbrev UV (x : Int) : Value := .int .u64 x
abbrev SeesU (w : World) (v : Value) (l : List Int) : Prop := Sees w 1 v l.length (l.map UV)
def in64 (x : Int) : Prop := 0 ≤ x ∧ x < 18446744073709551616

def prodP : List Int → Int → Int
  | [], o => o
  | x :: l, o => if okP x then prodP l (o * x % 2305843009213693951) else 0
def ProdRel (l : List Int) (i x : Value) : Prop := ∃ (k : Nat) (o : Int), k ≤ l.length ∧ i = .int .i64 k ∧ x = .int .u64 o ∧ 0 ≤ o ∧ o < 2305843009213693951 ∧ Hid (prodP l 1 = prodP (l.drop k) o)
set_option maxHeartbeats 400000 in
theorem Product_any (w : World) (v : Value) (l : List Int) (hv : SeesU w v l) (hl : ∀ x ∈ l, in64 x) :
    Calls Tryz.prog 123 #[v] w fun e w' => e = .returned (.int .u64 (prodP l 1)) ∧ w = w' := by
  have HV := Lib.hid hv
  obtain ⟨a, c, rfl, hc, hm⟩ := sees_form hv
  clear hv
  generalize hp : prodP l 1 = p
  have HPP := Lib.hid hp; clear hp
  go_enter Tryz.func123, Tryz.ntmps123
  go_wp2_with fail
  go_loop [8, 3] (fun i x => ProdRel l i x) (fun i _ => l.length - (intOf i).toNat)
  case atStart => exact ⟨0, 1, by omega, rfl, rfl, by omega, by omega, Lib.hid rfl⟩
  case round =>
    obtain ⟨k, o, hk, rfl, rfl, ho0, ho, hP⟩ := hrel
    by_cases hlt : k < l.length
    · obtain ⟨hl1, a1, c1, he1, hn1, hm1, hnc1, hcellx⟩ := HV.out
      cases he1
      obtain ⟨b, o1, rfl, hcell⟩ := hcellx (by omega)
      have hck := hcell k (UV l[k]) (by simp only [List.getElem?_map, List.getElem?_eq_getElem hlt]; rfl)
      clear hcellx hl1 hm1 hn1 hnc1 hcell
      have hin := hl l[k] (List.getElem_mem hlt)
      obtain ⟨z0, z1⟩ := hin
      have hdr : l.drop k = l[k] :: l.drop (k + 1) := List.drop_eq_getElem_cons hlt
      have hP2 := hP.out
      rw [hdr, prodP] at hP2
      clear hdr hP
      generalize l[k] = z at *
      by_cases hz : okP z
      · have hd := decide_eq_true hz
        rw [if_pos hz] at hP2
        have HP := Lib.hid hP2; clear hP2
        clear hz
        go_wp2_with (first
          | (go_at_call 42; refine (Right_any _ _ (by omega) (by omega)).mono ?_; rintro e_ w' ⟨rfl, rfl⟩)
          | (go_at_call 168; refine (Mul_any _ _ _ (by omega) (by omega) (by omega) (by omega)).mono ?_; rintro e_ w' ⟨rfl, rfl⟩))
        go_round
        case rel => exact ⟨k + 1, _, by omega, by go_num, rfl, by omega, by omega, HP⟩
        case measure => simp [intOf]; omega
      · have hd := decide_eq_false hz
        rw [if_neg hz] at hP2
        have HP := Lib.hid hP2; clear hP2
        clear hz
        go_wp2_with (go_at_call 42; refine (Right_any _ _ (by omega) (by omega)).mono ?_; rintro e_ w' ⟨rfl, rfl⟩)
        go_ret
        exact ⟨ret_u64 (HP.out.symm.trans HPP.out), rfl⟩
    · obtain rfl : k = l.length := by omega
      have hP2 := hP.out
      rw [List.drop_length, prodP] at hP2
      have HP := Lib.hid hP2; clear hP2 hP
      go_wp2
      go_ret
      exact ⟨ret_u64 (HP.out.symm.trans HPP.out), rfl⟩
end Go.Proofs.YtbgnfioggmkdeaaGreatDoor
namespace Go.Proofs.YtbgnfioggmkdeaaGreatDoor
set_option linter.unusedVariables false
set_option linter.unusedSimpArgs false
open Go Go.RowKit

/-- Bytes seen, in a block of bytes. -/
def SeesT (w : World) (u : Value) (l : List UInt8) : Prop := SeesB w u l ∧ ∀ g, u.ownBlock = some g → ∃ cs fr, w.heap[g]? = some (.cells cs 5 fr)
theorem SeesT.own {w : World} {B : Nat} {u : Value} {l : List UInt8} (h : OwnB w B u l) : SeesT w u l := ⟨sees_of_owns h, fun g hg => by
  rcases h.2 with ⟨rfl, _⟩ | ⟨g', cap, cur, rfl, _, hh, _⟩
  · cases hg
  · cases hg; exact ⟨_, _, hh⟩⟩
theorem SeesT.below {w w' : World} {u : Value} {l : List UInt8} (h : SeesT w u l) (hb : Below w.heap.size w w') : SeesT w' u l :=
  ⟨h.1.below hb (by decide), fun g hg => by obtain ⟨cs, fr, e⟩ := h.2 g hg; exact ⟨cs, fr, (hb.block g (lt_of_block e)).trans e⟩⟩
theorem SeesT.alloc {w : World} {u : Value} {l : List UInt8} (h : SeesT w u l) (o : Obj) : SeesT (w.alloc o) u l := h.below (by go_grown)
theorem SeesT.grown {w w' : World} {u : Value} {l : List UInt8} {row : Option Nat} (h : SeesT w u l) (hg : w.grownBy w' row)
    (hr : ∀ g, row = some g → ∃ cs fr, w.heap[g]? = some (.cells cs 44 fr)) : SeesT w' u l := by
  have hne : ∀ g, u.ownBlock = some g → some g ≠ row := fun g hu e => by
    obtain ⟨cs, fr, e1⟩ := h.2 g hu
    obtain ⟨cs', fr', e2⟩ := hr g e.symm
    rw [e1] at e2
    injection e2 with e3
    injection e3 with _ e4 _
    exact absurd e4 (by decide)
  refine ⟨h.1.grownBy hg (by decide) ?_, fun g hu => ?_⟩
  · cases hb : u.ownBlock with
    | none => exact .inl rfl
    | some g => exact .inr (hne g hb)
  · obtain ⟨cs, fr, e⟩ := h.2 g hu
    exact ⟨cs, fr, (hg.block g (lt_of_block e) (hne g hu)).trans e⟩
/-- Parts in a row of the call's own. -/
def OwnBB (w : World) (B : Nat) (v : Value) (ll : List (List UInt8)) : Prop :=
  ∃ vs : List Value, w.ownsRow B 44 1 v ll.length vs ∧ ∀ (i : Nat) (l : List UInt8) (u : Value), ll[i]? = some l → vs[i]? = some u → SeesT w u l
theorem OwnBB.sees {w : World} {B : Nat} {v : Value} {ll : List (List UInt8)} (h : OwnBB w B v ll) : SeesBB w v ll := by
  obtain ⟨vs, h1, h2⟩ := h
  exact ⟨vs, sees_of_owns h1, fun i l u hl hu => (h2 i l u hl hu).1⟩
theorem OwnBB.below {w w' : World} {B : Nat} {v : Value} {ll : List (List UInt8)} (h : OwnBB w B v ll) (hb : Below w.heap.size w w') : OwnBB w' B v ll := by
  obtain ⟨vs, h1, h2⟩ := h
  exact ⟨vs, owns_below h1 hb, fun i l u hl hu => (h2 i l u hl hu).below hb⟩
theorem OwnBB.one {w : World} {B : Nat} {u : Value} {l : List UInt8} (h : SeesT w u l) (hB : B ≤ w.heap.size) : OwnBB (w.alloc (.cells #[u] 44)) B (.slice (some ⟨w.heap.size, 0, none⟩) 1 1) [l] :=
  ⟨[u], ⟨rfl, .inr ⟨w.heap.size, 1, #[u], rfl, hB, heap_alloc_new w _, Nat.le_refl 1, by decide, rfl, rfl⟩⟩, fun i l' u' hl hu => by
    cases i with
    | zero => cases hl; cases hu; exact h.alloc _
    | succ i => simp at hl⟩
theorem OwnBB.form {w : World} {B : Nat} {v : Value} {ll : List (List UInt8)} (h : OwnBB w B v ll) : ∃ a c, v = .slice a ll.length c ∧ ll.length ≤ c ∧ c ≤ 9223372036854775807 := by
  obtain ⟨vs, h1, _⟩ := h; exact owns_form h1
theorem info_bb : (Tryz.prog.info? 44).map (fun i => (i.zero, i.size, i.bytes)) = some (some (.slice none 0 0), 1, 24) := by kernel_rfl
theorem appBB {W w : World} {ops : Array Oper} {rest : List Oper} {o : Oper} {a : Act} {Q : Exit → Act → World → Prop} (hgd : o.guard = none) (s x : Operand)
    (ho : o.op = .call { callee := .builtin .append, args := #[s, x], argTypes := #[165, 165] })
    (v : Value) (ll : List (List UInt8)) (hs : a.eval s = v) (hown : OwnBB w W.heap.size v ll) (vx u : Value) (l : List UInt8) (hx : a.eval x = vx) (hsee : Sees w 1 vx 1 [u]) (hu : SeesT w u l) (hu1 : u.oneCell' = true)
    (hb : ll.length ≤ 1000000000) (hW : Below W.heap.size W w)
    (h : ∀ v' w', OwnBB w' W.heap.size v' (ll ++ [l]) → w.grownBy w' v.ownBlock → Below W.heap.size W w' → wpList Tryz.prog ops Q rest (a.put o.dst v') w') : wpList Tryz.prog ops Q (o :: rest) a w := by
  obtain ⟨vs, h1, h2⟩ := hown
  have hlen : vs.length = ll.length := by have := h1.1; omega
  refine wpList_app hgd s x _ ho W.heap.size 44 (.slice none 0 0) 1 24 Tryz.underlying165 info_bb rfl (by decide) v _ _ hs h1 vx _ _ hx hsee (by simpa using hu1) (by omega) hW.size
    (fun v' w' g1 g2 _ => h v' w' ⟨vs ++ [u], by simpa using g1, fun i l' u' hl hu' => ?_⟩ g2 (hW.grown g2 hW.size (fun k hk => (h1.lt k hk).1)))
  have hr : ∀ g, v.ownBlock = some g → ∃ cs fr, w.heap[g]? = some (.cells cs 44 fr) := fun g hg => by
    rcases h1.2 with ⟨rfl, _⟩ | ⟨g', cap, cur, rfl, _, hh, _⟩
    · cases hg
    · cases hg; exact ⟨_, _, hh⟩
  by_cases hi : i < ll.length
  · rw [List.getElem?_append_left hi] at hl
    rw [List.getElem?_append_left (by omega)] at hu'
    exact (h2 i l' u' hl hu').grown g2 hr
  · rw [List.getElem?_append_right (by omega)] at hl
    rw [List.getElem?_append_right (by omega), hlen] at hu'
    cases hk : i - ll.length with
    | zero => rw [hk] at hl hu'; cases hl; cases hu'; exact hu.grown g2 hr
    | succ j => rw [hk] at hl; simp at hl
/-- The bytes of a string, behind '[]byte(s)'. -/
theorem seesT_string (w : World) (s : ByteArray) (cap : Nat) (fr : Nat × Nat) (hc : s.size ≤ cap) (hm : cap ≤ maxLen) :
    SeesT (w.alloc (.cells (bytesRow s cap) 5 fr)) (.slice (some ⟨w.heap.size, 0, none⟩) s.size cap) s.data.toList := by
  have hh := heap_alloc_new w (.cells (bytesRow s cap) 5 fr)
  have hsz : s.data.toList.length = s.size := Array.length_toList
  refine ⟨⟨by rw [List.length_map, Nat.mul_one], _, cap, by rw [hsz], by rw [hsz]; exact hc, hm, fun h => (by cases h), fun _ => ⟨_, _, rfl, fun j u hj => ?_⟩⟩, fun g hg => by cases hg; exact ⟨_, _, hh⟩⟩
  rw [Nat.zero_add, cell_of_row _ _ j _ _ fr hh]
  have hjlt : j < s.data.size := by
    have := (List.getElem?_eq_some_iff.1 hj).1; simpa using this
  simp only [bytesRow]
  rw [Array.getElem?_append_left (by simpa using hjlt)]
  simpa using hj
end Go.Proofs.YtbgnfioggmkdeaaGreatDoor
namespace Go.Proofs.YtbgnfioggmkdeaaGreatDoor
set_option linter.unusedVariables false
set_option linter.unusedSimpArgs false
open Go Go.RowKit

def chalL (s : ByteArray) (l : List Int) : List (List UInt8) := s.data.toList :: l.map (fun x => put64 x.toNat)
def chal (s : ByteArray) (l : List Int) : Int := ofN (parts (chalL s l))
theorem chal_pos (s : ByteArray) (l : List Int) : 0 ≤ chal s l ∧ chal s l < 2305843009213693950 := ofN_pos _
theorem length_chalL (s : ByteArray) (l : List Int) : (flatP (chalL s l)).length = s.size + 8 + 16 * l.length := by
  have h : ∀ l : List Int, (flatP (l.map (fun x => put64 x.toNat))).length = 16 * l.length := by
    intro l; induction l with
    | nil => rfl
    | cons x l ih =>
      have : flatP ((x :: l).map (fun x => put64 x.toNat)) = put64 (put64 x.toNat).length ++ put64 x.toNat ++ flatP (l.map (fun x => put64 x.toNat)) := by simp [flatP]
      rw [this]; simp only [List.length_append, length_put64, ih, List.length_cons]; omega
  have h2 : flatP (chalL s l) = put64 s.data.toList.length ++ s.data.toList ++ flatP (l.map (fun x => put64 x.toNat)) := by simp [flatP, chalL]
  rw [h2]; simp only [List.length_append, length_put64, h]
  have : s.data.toList.length = s.size := Array.length_toList
  omega
theorem length_parts (ll : List (List UInt8)) : (parts ll).length = 32 := length_sha _
theorem u_string : Tryz.prog.underlying 9 = some .string := Tryz.underlying9
theorem u_bytes : Tryz.prog.underlying 44 = some (.slice 5) := Tryz.underlying44
theorem u_byte : Tryz.prog.underlying 5 = some (.int .u8) := Tryz.underlying5

def ChalRel (w : World) (s : ByteArray) (l : List Int) (i v : Value) (wr : World) : Prop :=
  ∃ k : Nat, k ≤ l.length ∧ i = .int .i64 k ∧ OwnBB wr w.heap.size v (chalL s (l.take k)) ∧ Below w.heap.size w wr
theorem chalL_snoc (s : ByteArray) (l : List Int) (k : Nat) (h : k < l.length) : chalL s (l.take (k + 1)) = chalL s (l.take k) ++ [put64 (l[k]).toNat] := by
  rw [List.take_succ_eq_append_getElem h]; simp only [chalL, List.map_append, List.map_cons, List.map_nil, List.cons_append]

set_option maxRecDepth 100000 in
set_option maxHeartbeats 1000000 in
theorem Challenge_any (w : World) (s : ByteArray) (v : Value) (l : List Int) (hv : SeesU w v l) (hin : ∀ x ∈ l, in64 x) (hs : s.size ≤ 1000000) (hl : l.length ≤ 1000000) :
    Calls Tryz.prog 172 #[.string s, v] w fun e w' => e = .returned (.int .u64 (chal s l)) ∧ Below w.heap.size w w' := by
  have HV := Lib.hid hv
  obtain ⟨a0, c0, rfl, hac0, hc0⟩ := sees_form hv
  clear hv
  have hlen := Lib.hid (length_chalL s l)
  have HCH := Lib.hid (show chal s l = ofN (parts (chalL s l)) from rfl)
  generalize chal s l = ch at *
  have kc := fun (W : World) => run_bytes_of_string W 9 44 5 s u_string u_bytes u_byte
  go_enter Tryz.func172, Tryz.ntmps172
  go_wp2_with fail
  have hnm : SeesT (w.alloc (.cells (bytesRow s (grownCap w s.size 0 5)) 5 ((bytesRow s (grownCap w s.size 0 5)).size, (bytesRow s (grownCap w s.size 0 5)).size + 1))) _ _ :=
    seesT_string w s _ _ (grownCap_ge _ _ _ _) (grownCap_le_maxLen _ _ _ _ (by unfold maxLen; omega))
  have hone := OwnBB.one (B := w.heap.size) hnm (by simp only [World.size_alloc]; omega)
  simp only [World.size_alloc] at hone
  clear kc hnm
  generalize grownCap w s.size 0 5 = cap at *
  go_loopw [14, 5] (fun i v wr => ChalRel w s l i v wr) (fun i _ _ => l.length - (intOf i).toNat)
  case atStart => exact ⟨0, by omega, rfl, hone.below (by go_grown), by go_grown⟩
  case round =>
    clear hone
    obtain ⟨k, hk, rfl, hb, hbel⟩ := hrel
    obtain ⟨a1, c1, rfl, hac1, hc1⟩ := hb.form
    by_cases hlt : k < l.length
    · obtain ⟨hl1, a2, c2, he2, hn2, hm2, hnc2, hcellx⟩ := HV.out.below hbel (by decide)
      cases he2
      obtain ⟨b, o1, rfl, hcell⟩ := hcellx (by omega)
      have hck := hcell k (UV l[k]) (by simp only [List.getElem?_map, List.getElem?_eq_getElem hlt]; rfl)
      clear hcellx hl1 hm2 hn2 hnc2 hcell
      obtain ⟨z0, z1⟩ := hin l[k] (List.getElem_mem hlt)
      have hsn := Lib.hid (chalL_snoc s l k hlt)
      have hlk : (chalL s (l.take k)).length = k + 1 := by simp [chalL]; omega
      have HLK := Lib.hid hlk; clear hlk
      generalize l[k] = z at *
      go_wp2_with (first
        | (go_at_call 69; refine (Bytes_any _ _ (by omega) (by omega)).mono ?_; rintro e w5 ⟨v6, rfl, hown6, hb6⟩; obtain ⟨a6, c6, rfl, hac6, hc6⟩ := owns_form hown6; have hbel5 := hbel.trans (hb6.mono hbel.size))
        | (at_builtin; refine appBB (W := w) rfl _ _ rfl _ _ rfl ((hb.below hb6).below (by go_grown)) _ (.slice a6 _ c6) _ rfl (sees_new _ 1 #[.slice a6 _ c6] _ 1 rfl (by decide)) ((SeesT.own hown6).alloc _) rfl (by rw [HLK.out]; omega) (hbel5.alloc hbel5.size _) ?_; intro v7 w7 hown7 hgr7 hb7))
      go_roundw
      case rel => exact ⟨k + 1, by omega, by go_num, by rw [hsn.out]; exact hown7, hb7⟩
      case measure => simp [intOf]; omega
    · obtain rfl : k = l.length := by omega
      rw [List.take_length] at hb
      have hbs := hb.sees
      have hfl : (flatP (chalL s l)).length ≤ 70368744177000 := by rw [hlen.out]; omega
      go_wp2_with (first
        | (go_at_call 157; refine (Parts_any _ _ (chalL s l) hbs hfl).mono ?_; rintro e w5 ⟨rfl, hb5⟩; have hbel5 := hbel.trans (hb5.mono hbel.size))
        | (refine wpList_store_row rfl 24 _ _ rfl w5.heap.size (keyA (parts (chalL s l))) _ _ rfl rfl (Blk.new _ _ _) (by rw [keyA_size, length_parts]; rfl) (by rw [keyA_size, length_parts]; exact info_key) (keyA_one _) ?_; intro w7 hg7 hs7 hR7))
      have hsee : SeesB w7 (.slice (some ⟨w5.heap.size, 0, none⟩) (parts (chalL s l)).length (parts (chalL s l)).length) (parts (chalL s l)) := by
        have h := sees_block hR7 1 (parts (chalL s l)).length (by rw [keyA_size, Nat.mul_one]) (by rw [length_parts]; decide)
        rwa [keyA, List.toList_toArray] at h
      have h32 := length_parts (chalL s l)
      rw [h32] at hsee
      have hbel7 : Below w.heap.size w w7 := (hbel5.alloc hbel5.size _).grown hg7 (by simp only [World.size_alloc]; exact Nat.le_succ_of_le hbel5.size) (fun k hk => by cases hk; exact hbel5.size)
      clear hg7 hs7 hR7 hbs hb
      have HP := Lib.hid h32; clear h32
      refine (Of_any _ _ (parts (chalL s l)) hsee (by rw [HP.out]; decide)).mono ?_
      rintro e w8 ⟨rfl, n8, rfl⟩
      go_wp2_with fail
      go_ret
      exact ⟨ret_u64 HCH.out.symm, below_drewN hbel7 _⟩
set_option maxRecDepth 100000 in
set_option maxHeartbeats 1000000 in
theorem Challenger_any (w : World) (s : ByteArray) (v : Value) (l : List Int) (hv : SeesU w v l) (hin : ∀ x ∈ l, in64 x) (hs : s.size ≤ 1000000) (hl : l.length ≤ 1000000) :
    Calls Tryz.prog 152 #[.string s, v] w fun e w' => e = .returned (.int .u64 (chal s l)) ∧ Below w.heap.size w w' := by
  have HV := Lib.hid hv
  obtain ⟨a0, c0, rfl, hac0, hc0⟩ := sees_form hv
  clear hv
  have hlen := Lib.hid (length_chalL s l)
  have HCH := Lib.hid (show chal s l = ofN (parts (chalL s l)) from rfl)
  generalize chal s l = ch at *
  have kc := fun (W : World) => run_bytes_of_string W 9 44 5 s u_string u_bytes u_byte
  go_enter Tryz.func152, Tryz.ntmps152
  go_wp2_with fail
  have hnm : SeesT (w.alloc (.cells (bytesRow s (grownCap w s.size 0 5)) 5 ((bytesRow s (grownCap w s.size 0 5)).size, (bytesRow s (grownCap w s.size 0 5)).size + 1))) _ _ :=
    seesT_string w s _ _ (grownCap_ge _ _ _ _) (grownCap_le_maxLen _ _ _ _ (by unfold maxLen; omega))
  have hone := OwnBB.one (B := w.heap.size) hnm (by simp only [World.size_alloc]; omega)
  simp only [World.size_alloc] at hone
  clear kc hnm
  generalize grownCap w s.size 0 5 = cap at *
  go_loopw [6, 5] (fun i v wr => ChalRel w s l i v wr) (fun i _ _ => l.length - (intOf i).toNat)
  case atStart => exact ⟨0, by omega, rfl, hone.below (by go_grown), by go_grown⟩
  case round =>
    clear hone
    obtain ⟨k, hk, rfl, hb, hbel⟩ := hrel
    obtain ⟨a1, c1, rfl, hac1, hc1⟩ := hb.form
    by_cases hlt : k < l.length
    · obtain ⟨hl1, a2, c2, he2, hn2, hm2, hnc2, hcellx⟩ := HV.out.below hbel (by decide)
      cases he2
      obtain ⟨b, o1, rfl, hcell⟩ := hcellx (by omega)
      have hck := hcell k (UV l[k]) (by simp only [List.getElem?_map, List.getElem?_eq_getElem hlt]; rfl)
      clear hcellx hl1 hm2 hn2 hnc2 hcell
      obtain ⟨z0, z1⟩ := hin l[k] (List.getElem_mem hlt)
      have hsn := Lib.hid (chalL_snoc s l k hlt)
      have hlk : (chalL s (l.take k)).length = k + 1 := by simp [chalL]; omega
      have HLK := Lib.hid hlk; clear hlk
      generalize l[k] = z at *
      go_wp2_with (first
        | (go_at_call 83; refine (Bytesr_any _ _ (by omega) (by omega)).mono ?_; rintro e w5 ⟨v6, rfl, hown6, hb6⟩; obtain ⟨a6, c6, rfl, hac6, hc6⟩ := owns_form hown6; have hbel5 := hbel.trans (hb6.mono hbel.size))
        | (at_builtin; refine appBB (W := w) rfl _ _ rfl _ _ rfl ((hb.below hb6).below (by go_grown)) _ (.slice a6 _ c6) _ rfl (sees_new _ 1 #[.slice a6 _ c6] _ 1 rfl (by decide)) ((SeesT.own hown6).alloc _) rfl (by rw [HLK.out]; omega) (hbel5.alloc hbel5.size _) ?_; intro v7 w7 hown7 hgr7 hb7))
      go_roundw
      case rel => exact ⟨k + 1, by omega, by go_num, by rw [hsn.out]; exact hown7, hb7⟩
      case measure => simp [intOf]; omega
    · obtain rfl : k = l.length := by omega
      rw [List.take_length] at hb
      have hbs := hb.sees
      have hfl : (flatP (chalL s l)).length ≤ 70368744177000 := by rw [hlen.out]; omega
      go_wp2_with (first
        | (go_at_call 102; refine (Partsr_any _ _ (chalL s l) hbs hfl).mono ?_; rintro e w5 ⟨rfl, hb5⟩; have hbel5 := hbel.trans (hb5.mono hbel.size))
        | (refine wpList_store_row rfl 24 _ _ rfl w5.heap.size (keyA (parts (chalL s l))) _ _ rfl rfl (Blk.new _ _ _) (by rw [keyA_size, length_parts]; rfl) (by rw [keyA_size, length_parts]; exact info_key) (keyA_one _) ?_; intro w7 hg7 hs7 hR7))
      have hsee : SeesB w7 (.slice (some ⟨w5.heap.size, 0, none⟩) (parts (chalL s l)).length (parts (chalL s l)).length) (parts (chalL s l)) := by
        have h := sees_block hR7 1 (parts (chalL s l)).length (by rw [keyA_size, Nat.mul_one]) (by rw [length_parts]; decide)
        rwa [keyA, List.toList_toArray] at h
      have h32 := length_parts (chalL s l)
      rw [h32] at hsee
      have hbel7 : Below w.heap.size w w7 := (hbel5.alloc hbel5.size _).grown hg7 (by simp only [World.size_alloc]; exact Nat.le_succ_of_le hbel5.size) (fun k hk => by cases hk; exact hbel5.size)
      clear hg7 hs7 hR7 hbs hb
      have HP := Lib.hid h32; clear h32
      refine (OfN_any _ _ (parts (chalL s l)) hsee (by rw [HP.out]; decide)).mono ?_
      rintro e w8 ⟨rfl, n8, rfl⟩
      go_wp2_with fail
      go_ret
      exact ⟨ret_u64 HCH.out.symm, below_drewN hbel7 _⟩
end Go.Proofs.YtbgnfioggmkdeaaGreatDoor
