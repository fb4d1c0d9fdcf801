/-
  Fermat's theorem for the prime 2^61 - 1, by a generator: 37 has the order 2^61 - 2, so its powers are all residues but 0.
-/
import Derived.KernelRfl
namespace Go.Proofs.Yteialfdhbfbkgaa
set_option linter.unusedVariables false
set_option linter.unusedSimpArgs false

/-- An injection of the numbers below n into themselves meets each of them. -/
theorem surj_of_inj : ∀ (n : Nat) (f : Nat → Nat), (∀ i, i < n → f i < n) → (∀ i j, i < n → j < n → f i = f j → i = j) → ∀ y, y < n → ∃ i, i < n ∧ f i = y := by
  intro n
  induction n with
  | zero => intro f _ _ y hy; omega
  | succ n ih =>
    intro f hf hinj y hy
    -- g: f with the value n turned into f n
    let g : Nat → Nat := fun i => if f i = n then f n else f i
    have hg : ∀ i, i < n → g i < n := by
      intro i hi
      show (if f i = n then f n else f i) < n
      by_cases h : f i = n
      · rw [if_pos h]
        have h1 := hf n (by omega)
        have h2 : f n ≠ n := fun e => by have := hinj i n (by omega) (by omega) (by rw [h, e]); omega
        omega
      · rw [if_neg h]
        have h1 := hf i (by omega)
        omega
    have hgi : ∀ i j, i < n → j < n → g i = g j → i = j := by
      intro i j hi hj
      show (if f i = n then f n else f i) = (if f j = n then f n else f j) → i = j
      by_cases h1 : f i = n <;> by_cases h2 : f j = n
      · intro _; exact hinj i j (by omega) (by omega) (by rw [h1, h2])
      · rw [if_pos h1, if_neg h2]; intro e; have := hinj n j (by omega) (by omega) e; omega
      · rw [if_neg h1, if_pos h2]; intro e; have := hinj i n (by omega) (by omega) e; omega
      · rw [if_neg h1, if_neg h2]; intro e; exact hinj i j (by omega) (by omega) e
    by_cases hyn : f n = y
    · exact ⟨n, by omega, hyn⟩
    · by_cases hy2 : y = n
      · subst hy2
        -- some i < n has f i = n: else f n = n
        have h1 := hf y (by omega)
        obtain ⟨i, hi, he⟩ := ih g hg hgi (f y) (by omega)
        have he' : (if f i = y then f y else f i) = f y := he
        by_cases h : f i = y
        · exact ⟨i, by omega, h⟩
        · rw [if_neg h] at he'; have := hinj i y (by omega) (by omega) he'; omega
      · obtain ⟨i, hi, he⟩ := ih g hg hgi y (by omega)
        have he' : (if f i = n then f n else f i) = y := he
        by_cases h : f i = n
        · rw [if_pos h] at he'; exact absurd he' hyn
        · rw [if_neg h] at he'; exact ⟨i, by omega, he'⟩

def PP : Nat := 2305843009213693951
def NN : Nat := 2305843009213693950

/-- Powers modulo PP, by squaring (the first number: a bound on the rounds). -/
def powm : Nat → Nat → Nat → Nat
  | 0, _, _ => 1
  | f + 1, a, e => if e = 0 then 1 else
    let h := powm f (a * a % PP) (e / 2)
    if e % 2 = 1 then a * h % PP else h
theorem powm_eq : ∀ (f a e : Nat), e < 2 ^ f → powm f a e % PP = a ^ e % PP := by
  intro f
  induction f with
  | zero => intro a e he; have : e = 0 := by simpa using he
            subst this; rfl
  | succ f ih =>
    intro a e he
    unfold powm
    by_cases h0 : e = 0
    · rw [if_pos h0, h0]; rfl
    · rw [if_neg h0]
      have hh := ih (a * a % PP) (e / 2) (by rw [Nat.pow_succ] at he; omega)
      have hsq : (a * a % PP) ^ (e / 2) % PP = a ^ (2 * (e / 2)) % PP := by
        rw [← Nat.pow_mod, Nat.pow_mul, Nat.pow_two]
      rw [hsq] at hh
      by_cases h1 : e % 2 = 1
      · simp only [h1, if_true]
        rw [Nat.mod_mod, Nat.mul_mod, hh, ← Nat.mul_mod, ← Nat.pow_succ', show (2 * (e / 2)).succ = e from by omega]
      · simp only [h1, if_false]
        rw [hh, show 2 * (e / 2) = e from by omega]

theorem pow37 (e : Nat) (he : e < 2 ^ 62) : 37 ^ e % PP = powm 62 37 e % PP := (powm_eq 62 37 e he).symm
theorem pow37_N : 37 ^ NN % PP = 1 := by
  rw [pow37 NN (by decide)]; decide +kernel

def one (a : Nat) : Prop := 37 ^ a % PP = 1
theorem one_N : one NN := pow37_N
theorem one_mul {a : Nat} (h : one a) (k : Nat) : one (a * k) := by
  unfold one at *
  rw [Nat.pow_mul, Nat.pow_mod, h, Nat.one_pow]; decide
theorem one_of_add {a b : Nat} (h : one (a + b)) (hb : one b) : one a := by
  unfold one at *
  rw [Nat.pow_add, Nat.mul_mod, hb, Nat.mul_one, Nat.mod_mod] at h; exact h
theorem one_mod {a b : Nat} (ha : one a) (hb : one b) : one (a % b) := by
  have h : one (a % b + b * (a / b)) := by rw [Nat.mod_add_div]; exact ha
  exact one_of_add h (one_mul hb _)
theorem one_gcd (a b : Nat) (ha : one a) (hb : one b) : one (Nat.gcd a b) := by
  induction a, b using Nat.gcd.induction with
  | H0 n => rw [Nat.gcd_zero_left]; exact hb
  | H1 m n hm ih => rw [Nat.gcd_rec]; exact ih (one_mod hb ha) ha

/-- The primes of NN. -/
def qs : List Nat := [2, 3, 5, 7, 11, 13, 31, 41, 61, 151, 331, 1321]
theorem qs_pos : ∀ q ∈ qs, 0 < q := by decide
theorem not_one : ∀ q ∈ qs, ¬ one (NN / q) := by
  intro q hq
  unfold one
  rw [pow37 (NN / q) (Nat.lt_of_le_of_lt (Nat.div_le_self _ _) (by decide))]
  revert q
  decide +kernel
theorem q_prime : ∀ q ∈ qs, ∀ d, d ∣ q → d = 1 ∨ d = q := by
  have h : ∀ q ∈ qs, ∀ d, d < q + 1 → (q % d = 0 → d = 1 ∨ d = q) := by decide +kernel
  intro q hq d hd
  exact h q hq d (Nat.lt_succ_of_le (Nat.le_of_dvd (qs_pos q hq) hd)) (Nat.mod_eq_zero_of_dvd hd)
theorem qs_dvd : ∀ q ∈ qs, q ∣ NN := by decide +kernel
theorem coprime_of_not_dvd {k q : Nat} (hq : q ∈ qs) (h : ¬ q ∣ k) : Nat.Coprime k q := by
  rcases q_prime q hq (Nat.gcd k q) (Nat.gcd_dvd_right k q) with h1 | h1
  · exact h1
  · exact absurd (h1 ▸ Nat.gcd_dvd_left k q) h
theorem NN_fac : NN = 2 * (3 * (3 * (5 * (5 * (7 * (11 * (13 * (31 * (41 * (61 * (151 * (331 * 1321)))))))))))) := by decide +kernel
theorem some_q {k : Nat} (hk : k ∣ NN) (h1 : k ≠ 1) : ∃ q ∈ qs, q ∣ k := by
  refine Classical.byContradiction fun hn => ?_
  have hc : ∀ q ∈ qs, Nat.Coprime k q := fun q hq => coprime_of_not_dvd hq (fun hd => hn ⟨q, hq, hd⟩)
  have c : Nat.Coprime k NN := by
    rw [NN_fac]
    refine Nat.Coprime.mul_right (hc 2 (by decide)) ?_
    refine Nat.Coprime.mul_right (hc 3 (by decide)) ?_
    refine Nat.Coprime.mul_right (hc 3 (by decide)) ?_
    refine Nat.Coprime.mul_right (hc 5 (by decide)) ?_
    refine Nat.Coprime.mul_right (hc 5 (by decide)) ?_
    refine Nat.Coprime.mul_right (hc 7 (by decide)) ?_
    refine Nat.Coprime.mul_right (hc 11 (by decide)) ?_
    refine Nat.Coprime.mul_right (hc 13 (by decide)) ?_
    refine Nat.Coprime.mul_right (hc 31 (by decide)) ?_
    refine Nat.Coprime.mul_right (hc 41 (by decide)) ?_
    refine Nat.Coprime.mul_right (hc 61 (by decide)) ?_
    refine Nat.Coprime.mul_right (hc 151 (by decide)) ?_
    exact Nat.Coprime.mul_right (hc 331 (by decide)) (hc 1321 (by decide))
  exact h1 (Nat.Coprime.eq_one_of_dvd c hk)

theorem order_37 {m : Nat} (h0 : 0 < m) (hm : m < NN) : ¬ one m := by
  intro h
  have hg := one_gcd m NN h one_N
  have hd : Nat.gcd m NN ∣ NN := Nat.gcd_dvd_right m NN
  have hle : Nat.gcd m NN ≤ m := Nat.le_of_dvd h0 (Nat.gcd_dvd_left m NN)
  generalize Nat.gcd m NN = g at hg hd hle
  obtain ⟨k, hk⟩ := hd
  have hk1 : k ≠ 1 := fun e => by rw [e, Nat.mul_one] at hk; omega
  obtain ⟨q, hq, ⟨j, hj⟩⟩ := some_q ⟨g, by rw [hk, Nat.mul_comm]⟩ hk1
  have hqpos := qs_pos q hq
  refine not_one q hq ?_
  rw [hk, hj, show g * (q * j) = q * (g * j) from by rw [Nat.mul_left_comm], Nat.mul_div_cancel_left _ hqpos]
  exact one_mul hg j

theorem pow37_inv (i : Nat) (hi : i ≤ NN) : 37 ^ i % PP * (37 ^ (NN - i) % PP) % PP = 1 := by
  rw [← Nat.mul_mod, ← Nat.pow_add, show i + (NN - i) = NN from by omega]; exact pow37_N
theorem pow37_ne (i : Nat) (hi : i ≤ NN) : 37 ^ i % PP ≠ 0 := by
  intro e; have := pow37_inv i hi; rw [e, Nat.zero_mul] at this; revert this; decide
theorem pow37_inj {i j : Nat} (hij : i < j) (hj : j < NN) : 37 ^ i % PP ≠ 37 ^ j % PP := by
  intro e
  have h1 := pow37_inv i (by omega)
  refine order_37 (m := j - i) (by omega) (by omega) ?_
  have h2 : 37 ^ (j - i) % PP = (37 ^ (j - i) % PP) * (37 ^ i % PP * (37 ^ (NN - i) % PP) % PP) % PP := by rw [h1, Nat.mul_one, Nat.mod_mod]
  have h3 : 37 ^ (j - i) % PP * (37 ^ i % PP) % PP = 37 ^ j % PP := by rw [← Nat.mul_mod, ← Nat.pow_add, show j - i + i = j from by omega]
  unfold one
  rw [h2, Nat.mul_mod_mod, ← Nat.mul_assoc, Nat.mul_mod, h3, ← e, Nat.mod_mod, ← Nat.mul_mod]
  rw [Nat.mul_mod]; exact h1

/-- Every residue but 0 is a power of 37. -/
theorem gen_37 (y : Nat) (h0 : 0 < y) (h1 : y < PP) : ∃ i, i < NN ∧ 37 ^ i % PP = y := by
  have hP : NN + 1 = PP := rfl
  obtain ⟨i, hi, he⟩ := surj_of_inj NN (fun i => 37 ^ i % PP - 1) (fun i hi => by
      have := Nat.mod_lt (37 ^ i) (show 0 < PP by decide); show 37 ^ i % PP - 1 < NN
      have := pow37_ne i (by omega); omega) (fun i j hi hj e => by
      have a := pow37_ne i (by omega); have b := pow37_ne j (by omega)
      have e' : 37 ^ i % PP - 1 = 37 ^ j % PP - 1 := e
      have e2 : 37 ^ i % PP = 37 ^ j % PP := by omega
      rcases Nat.lt_trichotomy i j with h | h | h
      · exact absurd e2 (pow37_inj h hj)
      · exact h
      · exact absurd e2.symm (pow37_inj h hi)) (y - 1) (by omega)
  have he' : 37 ^ i % PP - 1 = y - 1 := he
  have := pow37_ne i (by omega)
  exact ⟨i, hi, by omega⟩

/-- Fermat: whatever is not 0 has the power NN = 1. -/
theorem fermat (y : Nat) (h0 : 0 < y) (h1 : y < PP) : y ^ NN % PP = 1 := by
  obtain ⟨i, _, rfl⟩ := gen_37 y h0 h1
  rw [← Nat.pow_mod, ← Nat.pow_mul, Nat.mul_comm, Nat.pow_mul, Nat.pow_mod, pow37_N, Nat.one_pow]; decide
theorem pow_modN (y e : Nat) (h0 : 0 < y) (h1 : y < PP) : y ^ (e % NN) % PP = y ^ e % PP := by
  have h : y ^ e % PP = y ^ (e % NN + NN * (e / NN)) % PP := by rw [Nat.mod_add_div]
  rw [h, Nat.pow_add, Nat.mul_mod, Nat.pow_mul, Nat.pow_mod (y ^ NN), fermat y h0 h1, Nat.one_pow, show 1 % PP = 1 from by decide, Nat.mul_one, Nat.mod_mod]
theorem pow_pos_mod (y e : Nat) (h0 : 0 < y) (h1 : y < PP) : 0 < y ^ e % PP := by
  rw [← pow_modN y e h0 h1]
  have hlt : e % NN < NN := Nat.mod_lt _ (by decide)
  generalize e % NN = k at hlt
  refine Nat.pos_of_ne_zero fun h => ?_
  have h2 : y ^ k % PP * (y ^ (NN - k) % PP) % PP = 1 := by rw [← Nat.mul_mod, ← Nat.pow_add, show k + (NN - k) = NN from by omega]; exact fermat y h0 h1
  rw [h, Nat.zero_mul] at h2; revert h2; decide
end Go.Proofs.Yteialfdhbfbkgaa
