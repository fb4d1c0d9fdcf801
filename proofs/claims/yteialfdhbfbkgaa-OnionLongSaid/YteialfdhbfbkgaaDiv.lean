/-
  A number of 128 bits modulo N: the library's division, at that divisor.
-/
import Derived.Test.YteialfdhbfbkgaaNum1
namespace Go.Proofs.Yteialfdhbfbkgaa
set_option linter.unusedVariables false
set_option linter.unusedSimpArgs false
open Go Go.RowKit

/-- One digit of the quotient: what its loop keeps. -/
structure Digit (u w y1 y0 q r : Int) : Prop where
  eq : u = q * y1 + r
  q0 : 0 ≤ q
  r0 : 0 ≤ r
  rb : r < 4294967296
  qb : q ≤ 4294967297
  top : ∀ k : Int, k * (y1 * 4294967296 + y0) ≤ u * 4294967296 + w → k ≤ q

theorem prod_eq {u y1 y0 q r : Int} (h : u = q * y1 + r) : q * (y1 * 4294967296 + y0) = (u - r) * 4294967296 + q * y0 := by
  rw [h, Int.mul_add, ← Int.mul_assoc, show q * y1 + r - r = q * y1 from by omega]

theorem digit_start {u w y1 y0 : Int} (hw0 : 0 ≤ w) (hw : w < 4294967296) (hu0 : 0 ≤ u) (hy1 : 2147483648 ≤ y1) (hy1b : y1 < 4294967296) (hy0 : 0 ≤ y0) (hy0b : y0 < 4294967296) (hu : u < y1 * 4294967296 + y0) :
    Digit u w y1 y0 (u / y1) (u % y1) := by
  have hpos : 0 < y1 := by omega
  have h1 := Int.emod_add_mul_ediv u y1
  have h2 := Int.emod_nonneg u (show y1 ≠ 0 by omega)
  have h3 := Int.emod_lt_of_pos u hpos
  refine ⟨by rw [Int.mul_comm]; omega, Int.ediv_nonneg hu0 (by omega), h2, by omega, ?_, ?_⟩
  · have : u / y1 < 4294967298 := by
      apply Int.ediv_lt_of_lt_mul hpos
      omega
    omega
  · intro k hk
    apply Int.le_ediv_of_mul_le hpos
    -- k * y1 ≤ u : else k * y1 ≥ u + 1
    by_cases hc : k * y1 ≤ u
    · exact hc
    · exfalso
      have e : k * (y1 * 4294967296 + y0) = k * y1 * 4294967296 + k * y0 := by rw [Int.mul_add, ← Int.mul_assoc]
      have hk0 : 0 ≤ k := by
        by_cases h : 0 ≤ k
        · exact h
        · have : k * y1 ≤ 0 := Int.mul_nonpos_of_nonpos_of_nonneg (by omega) (by omega)
          omega
      have hky := Int.mul_nonneg hk0 hy0
      omega

/-- The test says no: the digit is right. -/
theorem digit_done {u w y1 y0 q r : Int} (h : Digit u w y1 y0 q r) (hle : q * y0 ≤ 4294967296 * r + w) : q * (y1 * 4294967296 + y0) ≤ u * 4294967296 + w ∧ u * 4294967296 + w < (q + 1) * (y1 * 4294967296 + y0) := by
  have e := prod_eq (y0 := y0) h.eq
  refine ⟨by rw [e]; omega, ?_⟩
  by_cases hc : (q + 1) * (y1 * 4294967296 + y0) ≤ u * 4294967296 + w
  · have := h.top (q + 1) hc; omega
  · omega

/-- The test says yes: the digit is one too great at least. -/
theorem digit_step {u w y1 y0 q r : Int} (hw0 : 0 ≤ w) (hw : w < 4294967296) (hu : u < y1 * 4294967296 + y0) (hY : 0 < y1 * 4294967296 + y0) (hy1 : 2147483648 ≤ y1)
    (h : Digit u w y1 y0 q r) (ht : 4294967296 ≤ q ∨ 4294967296 * r + w < q * y0) :
    0 < q ∧ u = (q - 1) * y1 + (r + y1) ∧ ∀ k : Int, k * (y1 * 4294967296 + y0) ≤ u * 4294967296 + w → k ≤ q - 1 := by
  have hgt : u * 4294967296 + w < q * (y1 * 4294967296 + y0) := by
    rcases ht with ht | ht
    · have h1 : 4294967296 * (y1 * 4294967296 + y0) ≤ q * (y1 * 4294967296 + y0) := Int.mul_le_mul_of_nonneg_right ht (by omega)
      omega
    · rw [prod_eq (y0 := y0) h.eq]; omega
  have hq : 0 < q := by
    rcases Int.lt_or_le 0 q with h1 | h1
    · exact h1
    · have hq0 : q = 0 := by have := h.q0; omega
      rw [hq0] at ht; rcases ht with ht | ht
      · omega
      · have := h.r0; rw [Int.zero_mul] at ht
        have hb := hgt; rw [hq0, Int.zero_mul] at hb
        have := h.eq; rw [hq0, Int.zero_mul] at this
        omega
  refine ⟨hq, by rw [Int.sub_mul]; have := h.eq; omega, fun k hk => ?_⟩
  by_cases hc : k ≤ q - 1
  · exact hc
  · have : q * (y1 * 4294967296 + y0) ≤ k * (y1 * 4294967296 + y0) := Int.mul_le_mul_of_nonneg_right (by omega) (by omega)
    omega

/-- Behind such a step, r past the digit: the digit is right. -/
theorem digit_past {u w y1 y0 q r : Int} (hw0 : 0 ≤ w) (hy0 : 0 ≤ y0) (hy0b : y0 < 4294967296) (heq : u = q * y1 + r) (hq : q ≤ 4294967296) (hr : 4294967296 ≤ r)
    (top : ∀ k : Int, k * (y1 * 4294967296 + y0) ≤ u * 4294967296 + w → k ≤ q) : q * (y1 * 4294967296 + y0) ≤ u * 4294967296 + w ∧ u * 4294967296 + w < (q + 1) * (y1 * 4294967296 + y0) := by
  have e := prod_eq (y0 := y0) heq
  have h1 : q * y0 ≤ 4294967296 * y0 := Int.mul_le_mul_of_nonneg_right hq hy0
  refine ⟨by rw [e]; omega, ?_⟩
  by_cases hc : (q + 1) * (y1 * 4294967296 + y0) ≤ u * 4294967296 + w
  · have := top (q + 1) hc; omega
  · omega

theorem wrap_digit (u w qy : Int) (h0 : 0 ≤ u * 4294967296 + w - qy) (h1 : u * 4294967296 + w - qy < 18446744073709551616) :
    ((u * 4294967296 % 18446744073709551616 + w) % 18446744073709551616 - qy % 18446744073709551616) % 18446744073709551616 = u * 4294967296 + w - qy := by omega

set_option maxRecDepth 100000 in
set_option maxHeartbeats 400000 in
theorem Len64_N (w : World) : Calls Try.prog 130 #[.int .u64 2305843009213693950] w fun e w' => e = .returned (.int .i64 61) ∧ w = w' := by
  go_enter Try.func130, Try.ntmps130
  go_wp2
  go_ret
  refine ⟨?_, rfl⟩
  exact congrArg (fun x => Ending.returned (.int .i64 x)) (by decide +kernel)
theorem Lead_N (w : World) : Calls Try.prog 128 #[.int .u64 2305843009213693950] w fun e w' => e = .returned (.int .i64 3) ∧ w = w' := by
  go_enter Try.func128, Try.ntmps128
  go_wp2_with (go_at_call 130; refine (Len64_N _).mono ?_; rintro e w' ⟨rfl, rfl⟩)
  go_ret
  exact ⟨rfl, rfl⟩

def DivRel (u w : Int) (a b : Value) : Prop := ∃ q r : Int, Digit u w 4294967295 4294967280 q r ∧ a = .int .u64 q ∧ b = .int .u64 r

theorem divR (U L q1 R : Int) (hR : R = U * 4294967296 + L - q1 * 18446744073709551600) (h0 : 0 ≤ R) (h1 : R < 18446744073709551600) :
    IntKind.u64.wrap (IntKind.u64.wrap (IntKind.u64.wrap (U * 4294967296) + L) - IntKind.u64.wrap (q1 * 18446744073709551600)) = R := by
  simp only [IntKind.wrap_u64]; omega
theorem divQ (R : Int) (h0 : 0 ≤ R) (h1 : R < 18446744073709551600) : IntKind.u64.wrap (R.tdiv 4294967295) = R / 4294967295 := by
  rw [Int.tdiv_eq_ediv_of_nonneg h0, IntKind.wrap_u64]; omega
theorem divM (R : Int) (h0 : 0 ≤ R) (h1 : R < 18446744073709551600) : IntKind.u64.wrap (R - IntKind.u64.wrap (R / 4294967295 * 4294967295)) = R % 4294967295 := by
  rw [IntKind.wrap_u64, IntKind.wrap_u64]; omega
theorem divEnd (V U L q1 R q0 r0 : Int) (hV : V * 8 = U * 18446744073709551616 + L) (hR : R = U * 4294967296 + L / 4294967296 - q1 * 18446744073709551600)
    (h0 : r0 = R * 4294967296 + L % 4294967296 - q0 * 18446744073709551600) (h1 : 0 ≤ r0) (h2 : r0 < 18446744073709551600) : r0 / 8 = V % 2305843009213693950 := by omega


set_option maxHeartbeats 1000000 in
theorem Div64_N (hi lo : Int) (w : World) (h0 : 0 < hi) (h1 : hi < 2305843009213693950) (l0 : 0 ≤ lo) (l1 : lo < 18446744073709551616) :
    Calls Try.prog 124 #[.int .u64 hi, .int .u64 lo, .int .u64 2305843009213693950] w fun e w' => (∃ q : Int, e = .returned (.tuple #[.int .u64 q, .int .u64 ((hi * 18446744073709551616 + lo) % 2305843009213693950)])) ∧ w = w' := by
  have hj := join64 (hi * 8) (lo / 2305843009213693952) 3 (by omega) (by omega) (by omega) (by omega) (by omega) (by omega)
  have hz : (hi == 0) = false := beq_eq_false_iff_ne.2 (by omega)
  have hmm : bits .and .u64 18446744073709551600 4294967295 = 4294967280 := by decide
  have hm := mask_u64_32 (lo * 8 % 18446744073709551616) (by omega) (by omega)
  go_enter Try.func124, Try.ntmps124
  go_wp2_with (go_at_call 128; refine (Lead_N _).mono ?_; rintro e w' ⟨rfl, rfl⟩)
  clear hm hmm hz
  have hU : ∃ U, hi * 8 + lo / 2305843009213693952 = U := ⟨_, rfl⟩
  obtain ⟨U, hU⟩ := hU
  have hL : ∃ L, IntKind.u64.wrap (lo * 8) = L := ⟨_, rfl⟩
  obtain ⟨L, hL⟩ := hL
  have hm : bits .and .u64 L 4294967295 = L % 4294967296 := by
    rw [← hL, IntKind.wrap_u64]; exact mask_u64_32 _ (by omega) (by omega)
  rw [hL, hU, hm]
  have hL' : L = lo * 8 % 18446744073709551616 := by rw [← hL, IntKind.wrap_u64]
  have hV : Hid ((hi * 18446744073709551616 + lo) * 8 = U * 18446744073709551616 + L) := Lib.hid (by omega)
  have hU1 : 0 ≤ U := by omega
  have hU2 : U < 18446744073709551600 := by omega
  have hL1 : 0 ≤ L := by omega
  have hL2 : L < 18446744073709551616 := by omega
  clear hj hL hU hm hL'
  have hd0 := digit_start (w := L / 4294967296) (y1 := 4294967295) (y0 := 4294967280) (by omega) (by omega) hU1 (by decide) (by decide) (by decide) (by decide) (by omega)
  rw [show U - U / 4294967295 * 4294967295 = U % 4294967295 from by omega]
  go_loop [15, 16] (fun a b => DivRel U (L / 4294967296) a b) (fun a _ => (intOf a).toNat)
  case atStart => exact ⟨_, _, hd0, rfl, rfl⟩
  case round =>
    obtain ⟨q, r, hd, rfl, rfl⟩ := hrel
    clear hd0
    obtain ⟨g0, g1, g2, g3, g4⟩ : 0 ≤ q ∧ 0 ≤ r ∧ r < 4294967296 ∧ q ≤ 4294967297 ∧ True := ⟨hd.q0, hd.r0, hd.rb, hd.qb, trivial⟩
    clear g4
    have HD := Lib.hid hd; clear hd
    by_cases hc : 4294967296 ≤ q
    · have hst := digit_step (w := L / 4294967296) (by omega) (by omega) (by omega) (by decide) (by decide) HD.out (Or.inl hc)
      have HS := Lib.hid hst.2; have hq1 := hst.1; clear hst
      by_cases hr : 1 ≤ r
      · have hfin := digit_past (q := q - 1) (r := r + 4294967295) (w := L / 4294967296) (by omega) (by decide) (by decide) HS.out.1 (by omega) (by omega) HS.out.2
        have HF := Lib.hid hfin; clear hfin
        go_wp2
        obtain ⟨R, hR⟩ : ∃ R, R = U * 4294967296 + L / 4294967296 - (q - 1) * 18446744073709551600 := ⟨_, rfl⟩
        have hR0 : 0 ≤ R := by have := HF.out.1; omega
        have hR1 : R < 18446744073709551600 := by have := HF.out.2; omega
        rw [divR U (L / 4294967296) (q - 1) R hR hR0 hR1, divQ R hR0 hR1, divM R hR0 hR1]
        have HR := Lib.hid hR
        clear hR HF
        have hd1 := digit_start (w := L % 4294967296) (y1 := 4294967295) (y0 := 4294967280) (by omega) (by omega) hR0 (by decide) (by decide) (by decide) (by decide) (by omega)
        go_loop [18, 16] (fun a b => DivRel R (L % 4294967296) a b) (fun a _ => (intOf a).toNat)
        case atStart => exact ⟨_, _, hd1, rfl, rfl⟩
        case round =>
          obtain ⟨q0, r, hd, rfl, rfl⟩ := hrel
          clear hd1
          obtain ⟨f0, f1, f2, f3, f4⟩ : 0 ≤ q0 ∧ 0 ≤ r ∧ r < 4294967296 ∧ q0 ≤ 4294967297 ∧ True := ⟨hd.q0, hd.r0, hd.rb, hd.qb, trivial⟩
          clear f4
          have HE := Lib.hid hd; clear hd
          by_cases hc' : 4294967296 ≤ q0
          · have hst := digit_step (w := L % 4294967296) (by omega) (by omega) (by omega) (by decide) (by decide) HE.out (Or.inl hc')
            have HS := Lib.hid hst.2; have hq1 := hst.1; clear hst
            by_cases hr' : 1 ≤ r
            · have hfin := digit_past (q := q0 - 1) (r := r + 4294967295) (w := L % 4294967296) (by omega) (by decide) (by decide) HS.out.1 (by omega) (by omega) HS.out.2
              have HF := Lib.hid hfin; clear hfin
              go_wp2
              obtain ⟨r0, hr0⟩ : ∃ r0, r0 = R * 4294967296 + L % 4294967296 - (q0 - 1) * 18446744073709551600 := ⟨_, rfl⟩
              have hr1 : 0 ≤ r0 := by have := HF.out.1; omega
              have hr2 : r0 < 18446744073709551600 := by have := HF.out.2; omega
              have hEnd := divEnd (hi * 18446744073709551616 + lo) U L _ R _ r0 hV.out HR.out hr0 hr1 hr2
              go_ret2
              exact ⟨⟨_, ret2_u64 rfl (by rw [divR R (L % 4294967296) (q0 - 1) r0 hr0 hr1 hr2]; exact hEnd)⟩, rfl⟩
            · have hnx : Digit R (L % 4294967296) 4294967295 4294967280 (q0 - 1) (r + 4294967295) := ⟨HS.out.1, by omega, by omega, by omega, by omega, HS.out.2⟩
              have HX := Lib.hid hnx; clear hnx
              go_wp2
              exact ⟨⟨_, _, HX.out, rfl, rfl⟩, by simp only [intOf]; omega⟩
          · by_cases hc2' : 4294967296 * r + L % 4294967296 < q0 * 4294967280
            · have hst := digit_step (w := L % 4294967296) (by omega) (by omega) (by omega) (by decide) (by decide) HE.out (Or.inr hc2')
              have HS := Lib.hid hst.2; have hq1 := hst.1; clear hst
              by_cases hr' : 1 ≤ r
              · have hfin := digit_past (q := q0 - 1) (r := r + 4294967295) (w := L % 4294967296) (by omega) (by decide) (by decide) HS.out.1 (by omega) (by omega) HS.out.2
                have HF := Lib.hid hfin; clear hfin
                go_wp2
                obtain ⟨r0, hr0⟩ : ∃ r0, r0 = R * 4294967296 + L % 4294967296 - (q0 - 1) * 18446744073709551600 := ⟨_, rfl⟩
                have hr1 : 0 ≤ r0 := by have := HF.out.1; omega
                have hr2 : r0 < 18446744073709551600 := by have := HF.out.2; omega
                have hEnd := divEnd (hi * 18446744073709551616 + lo) U L _ R _ r0 hV.out HR.out hr0 hr1 hr2
                go_ret2
                exact ⟨⟨_, ret2_u64 rfl (by rw [divR R (L % 4294967296) (q0 - 1) r0 hr0 hr1 hr2]; exact hEnd)⟩, rfl⟩
              · have hnx : Digit R (L % 4294967296) 4294967295 4294967280 (q0 - 1) (r + 4294967295) := ⟨HS.out.1, by omega, by omega, by omega, by omega, HS.out.2⟩
                have HX := Lib.hid hnx; clear hnx
                go_wp2
                exact ⟨⟨_, _, HX.out, rfl, rfl⟩, by simp only [intOf]; omega⟩
            · have hfin := digit_done HE.out (by omega)
              have HF := Lib.hid hfin; clear hfin
              go_wp2
              obtain ⟨r0, hr0⟩ : ∃ r0, r0 = R * 4294967296 + L % 4294967296 - q0 * 18446744073709551600 := ⟨_, rfl⟩
              have hr1 : 0 ≤ r0 := by have := HF.out.1; omega
              have hr2 : r0 < 18446744073709551600 := by have := HF.out.2; omega
              have hEnd := divEnd (hi * 18446744073709551616 + lo) U L _ R _ r0 hV.out HR.out hr0 hr1 hr2
              go_ret2
              exact ⟨⟨_, ret2_u64 rfl (by rw [divR R (L % 4294967296) q0 r0 hr0 hr1 hr2]; exact hEnd)⟩, rfl⟩
      · have hnx : Digit U (L / 4294967296) 4294967295 4294967280 (q - 1) (r + 4294967295) := ⟨HS.out.1, by omega, by omega, by omega, by omega, HS.out.2⟩
        have HX := Lib.hid hnx; clear hnx
        go_wp2
        exact ⟨⟨_, _, HX.out, rfl, rfl⟩, by simp only [intOf]; omega⟩
    · by_cases hc2 : 4294967296 * r + L / 4294967296 < q * 4294967280
      · have hst := digit_step (w := L / 4294967296) (by omega) (by omega) (by omega) (by decide) (by decide) HD.out (Or.inr hc2)
        have HS := Lib.hid hst.2; have hq1 := hst.1; clear hst
        by_cases hr : 1 ≤ r
        · have hfin := digit_past (q := q - 1) (r := r + 4294967295) (w := L / 4294967296) (by omega) (by decide) (by decide) HS.out.1 (by omega) (by omega) HS.out.2
          have HF := Lib.hid hfin; clear hfin
          go_wp2
          obtain ⟨R, hR⟩ : ∃ R, R = U * 4294967296 + L / 4294967296 - (q - 1) * 18446744073709551600 := ⟨_, rfl⟩
          have hR0 : 0 ≤ R := by have := HF.out.1; omega
          have hR1 : R < 18446744073709551600 := by have := HF.out.2; omega
          rw [divR U (L / 4294967296) (q - 1) R hR hR0 hR1, divQ R hR0 hR1, divM R hR0 hR1]
          have HR := Lib.hid hR
          clear hR HF
          have hd1 := digit_start (w := L % 4294967296) (y1 := 4294967295) (y0 := 4294967280) (by omega) (by omega) hR0 (by decide) (by decide) (by decide) (by decide) (by omega)
          go_loop [18, 16] (fun a b => DivRel R (L % 4294967296) a b) (fun a _ => (intOf a).toNat)
          case atStart => exact ⟨_, _, hd1, rfl, rfl⟩
          case round =>
            obtain ⟨q0, r, hd, rfl, rfl⟩ := hrel
            clear hd1
            obtain ⟨f0, f1, f2, f3, f4⟩ : 0 ≤ q0 ∧ 0 ≤ r ∧ r < 4294967296 ∧ q0 ≤ 4294967297 ∧ True := ⟨hd.q0, hd.r0, hd.rb, hd.qb, trivial⟩
            clear f4
            have HE := Lib.hid hd; clear hd
            by_cases hc' : 4294967296 ≤ q0
            · have hst := digit_step (w := L % 4294967296) (by omega) (by omega) (by omega) (by decide) (by decide) HE.out (Or.inl hc')
              have HS := Lib.hid hst.2; have hq1 := hst.1; clear hst
              by_cases hr' : 1 ≤ r
              · have hfin := digit_past (q := q0 - 1) (r := r + 4294967295) (w := L % 4294967296) (by omega) (by decide) (by decide) HS.out.1 (by omega) (by omega) HS.out.2
                have HF := Lib.hid hfin; clear hfin
                go_wp2
                obtain ⟨r0, hr0⟩ : ∃ r0, r0 = R * 4294967296 + L % 4294967296 - (q0 - 1) * 18446744073709551600 := ⟨_, rfl⟩
                have hr1 : 0 ≤ r0 := by have := HF.out.1; omega
                have hr2 : r0 < 18446744073709551600 := by have := HF.out.2; omega
                have hEnd := divEnd (hi * 18446744073709551616 + lo) U L _ R _ r0 hV.out HR.out hr0 hr1 hr2
                go_ret2
                exact ⟨⟨_, ret2_u64 rfl (by rw [divR R (L % 4294967296) (q0 - 1) r0 hr0 hr1 hr2]; exact hEnd)⟩, rfl⟩
              · have hnx : Digit R (L % 4294967296) 4294967295 4294967280 (q0 - 1) (r + 4294967295) := ⟨HS.out.1, by omega, by omega, by omega, by omega, HS.out.2⟩
                have HX := Lib.hid hnx; clear hnx
                go_wp2
                exact ⟨⟨_, _, HX.out, rfl, rfl⟩, by simp only [intOf]; omega⟩
            · by_cases hc2' : 4294967296 * r + L % 4294967296 < q0 * 4294967280
              · have hst := digit_step (w := L % 4294967296) (by omega) (by omega) (by omega) (by decide) (by decide) HE.out (Or.inr hc2')
                have HS := Lib.hid hst.2; have hq1 := hst.1; clear hst
                by_cases hr' : 1 ≤ r
                · have hfin := digit_past (q := q0 - 1) (r := r + 4294967295) (w := L % 4294967296) (by omega) (by decide) (by decide) HS.out.1 (by omega) (by omega) HS.out.2
                  have HF := Lib.hid hfin; clear hfin
                  go_wp2
                  obtain ⟨r0, hr0⟩ : ∃ r0, r0 = R * 4294967296 + L % 4294967296 - (q0 - 1) * 18446744073709551600 := ⟨_, rfl⟩
                  have hr1 : 0 ≤ r0 := by have := HF.out.1; omega
                  have hr2 : r0 < 18446744073709551600 := by have := HF.out.2; omega
                  have hEnd := divEnd (hi * 18446744073709551616 + lo) U L _ R _ r0 hV.out HR.out hr0 hr1 hr2
                  go_ret2
                  exact ⟨⟨_, ret2_u64 rfl (by rw [divR R (L % 4294967296) (q0 - 1) r0 hr0 hr1 hr2]; exact hEnd)⟩, rfl⟩
                · have hnx : Digit R (L % 4294967296) 4294967295 4294967280 (q0 - 1) (r + 4294967295) := ⟨HS.out.1, by omega, by omega, by omega, by omega, HS.out.2⟩
                  have HX := Lib.hid hnx; clear hnx
                  go_wp2
                  exact ⟨⟨_, _, HX.out, rfl, rfl⟩, by simp only [intOf]; omega⟩
              · have hfin := digit_done HE.out (by omega)
                have HF := Lib.hid hfin; clear hfin
                go_wp2
                obtain ⟨r0, hr0⟩ : ∃ r0, r0 = R * 4294967296 + L % 4294967296 - q0 * 18446744073709551600 := ⟨_, rfl⟩
                have hr1 : 0 ≤ r0 := by have := HF.out.1; omega
                have hr2 : r0 < 18446744073709551600 := by have := HF.out.2; omega
                have hEnd := divEnd (hi * 18446744073709551616 + lo) U L _ R _ r0 hV.out HR.out hr0 hr1 hr2
                go_ret2
                exact ⟨⟨_, ret2_u64 rfl (by rw [divR R (L % 4294967296) q0 r0 hr0 hr1 hr2]; exact hEnd)⟩, rfl⟩
        · have hnx : Digit U (L / 4294967296) 4294967295 4294967280 (q - 1) (r + 4294967295) := ⟨HS.out.1, by omega, by omega, by omega, by omega, HS.out.2⟩
          have HX := Lib.hid hnx; clear hnx
          go_wp2
          exact ⟨⟨_, _, HX.out, rfl, rfl⟩, by simp only [intOf]; omega⟩
      · have hfin := digit_done HD.out (by omega)
        have HF := Lib.hid hfin; clear hfin
        go_wp2
        obtain ⟨R, hR⟩ : ∃ R, R = U * 4294967296 + L / 4294967296 - q * 18446744073709551600 := ⟨_, rfl⟩
        have hR0 : 0 ≤ R := by have := HF.out.1; omega
        have hR1 : R < 18446744073709551600 := by have := HF.out.2; omega
        rw [divR U (L / 4294967296) q R hR hR0 hR1, divQ R hR0 hR1, divM R hR0 hR1]
        have HR := Lib.hid hR
        clear hR HF
        have hd1 := digit_start (w := L % 4294967296) (y1 := 4294967295) (y0 := 4294967280) (by omega) (by omega) hR0 (by decide) (by decide) (by decide) (by decide) (by omega)
        go_loop [18, 16] (fun a b => DivRel R (L % 4294967296) a b) (fun a _ => (intOf a).toNat)
        case atStart => exact ⟨_, _, hd1, rfl, rfl⟩
        case round =>
          obtain ⟨q0, r, hd, rfl, rfl⟩ := hrel
          clear hd1
          obtain ⟨f0, f1, f2, f3, f4⟩ : 0 ≤ q0 ∧ 0 ≤ r ∧ r < 4294967296 ∧ q0 ≤ 4294967297 ∧ True := ⟨hd.q0, hd.r0, hd.rb, hd.qb, trivial⟩
          clear f4
          have HE := Lib.hid hd; clear hd
          by_cases hc' : 4294967296 ≤ q0
          · have hst := digit_step (w := L % 4294967296) (by omega) (by omega) (by omega) (by decide) (by decide) HE.out (Or.inl hc')
            have HS := Lib.hid hst.2; have hq1 := hst.1; clear hst
            by_cases hr' : 1 ≤ r
            · have hfin := digit_past (q := q0 - 1) (r := r + 4294967295) (w := L % 4294967296) (by omega) (by decide) (by decide) HS.out.1 (by omega) (by omega) HS.out.2
              have HF := Lib.hid hfin; clear hfin
              go_wp2
              obtain ⟨r0, hr0⟩ : ∃ r0, r0 = R * 4294967296 + L % 4294967296 - (q0 - 1) * 18446744073709551600 := ⟨_, rfl⟩
              have hr1 : 0 ≤ r0 := by have := HF.out.1; omega
              have hr2 : r0 < 18446744073709551600 := by have := HF.out.2; omega
              have hEnd := divEnd (hi * 18446744073709551616 + lo) U L _ R _ r0 hV.out HR.out hr0 hr1 hr2
              go_ret2
              exact ⟨⟨_, ret2_u64 rfl (by rw [divR R (L % 4294967296) (q0 - 1) r0 hr0 hr1 hr2]; exact hEnd)⟩, rfl⟩
            · have hnx : Digit R (L % 4294967296) 4294967295 4294967280 (q0 - 1) (r + 4294967295) := ⟨HS.out.1, by omega, by omega, by omega, by omega, HS.out.2⟩
              have HX := Lib.hid hnx; clear hnx
              go_wp2
              exact ⟨⟨_, _, HX.out, rfl, rfl⟩, by simp only [intOf]; omega⟩
          · by_cases hc2' : 4294967296 * r + L % 4294967296 < q0 * 4294967280
            · have hst := digit_step (w := L % 4294967296) (by omega) (by omega) (by omega) (by decide) (by decide) HE.out (Or.inr hc2')
              have HS := Lib.hid hst.2; have hq1 := hst.1; clear hst
              by_cases hr' : 1 ≤ r
              · have hfin := digit_past (q := q0 - 1) (r := r + 4294967295) (w := L % 4294967296) (by omega) (by decide) (by decide) HS.out.1 (by omega) (by omega) HS.out.2
                have HF := Lib.hid hfin; clear hfin
                go_wp2
                obtain ⟨r0, hr0⟩ : ∃ r0, r0 = R * 4294967296 + L % 4294967296 - (q0 - 1) * 18446744073709551600 := ⟨_, rfl⟩
                have hr1 : 0 ≤ r0 := by have := HF.out.1; omega
                have hr2 : r0 < 18446744073709551600 := by have := HF.out.2; omega
                have hEnd := divEnd (hi * 18446744073709551616 + lo) U L _ R _ r0 hV.out HR.out hr0 hr1 hr2
                go_ret2
                exact ⟨⟨_, ret2_u64 rfl (by rw [divR R (L % 4294967296) (q0 - 1) r0 hr0 hr1 hr2]; exact hEnd)⟩, rfl⟩
              · have hnx : Digit R (L % 4294967296) 4294967295 4294967280 (q0 - 1) (r + 4294967295) := ⟨HS.out.1, by omega, by omega, by omega, by omega, HS.out.2⟩
                have HX := Lib.hid hnx; clear hnx
                go_wp2
                exact ⟨⟨_, _, HX.out, rfl, rfl⟩, by simp only [intOf]; omega⟩
            · have hfin := digit_done HE.out (by omega)
              have HF := Lib.hid hfin; clear hfin
              go_wp2
              obtain ⟨r0, hr0⟩ : ∃ r0, r0 = R * 4294967296 + L % 4294967296 - q0 * 18446744073709551600 := ⟨_, rfl⟩
              have hr1 : 0 ≤ r0 := by have := HF.out.1; omega
              have hr2 : r0 < 18446744073709551600 := by have := HF.out.2; omega
              have hEnd := divEnd (hi * 18446744073709551616 + lo) U L _ R _ r0 hV.out HR.out hr0 hr1 hr2
              go_ret2
              exact ⟨⟨_, ret2_u64 rfl (by rw [divR R (L % 4294967296) q0 r0 hr0 hr1 hr2]; exact hEnd)⟩, rfl⟩
#print axioms Div64_N
end Go.Proofs.Yteialfdhbfbkgaa
