/-
  What a proof made with the secret gives; alive.
-/
import Derived.Test.YteialfdhbfbkgaaProof3
namespace Go.Proofs.Yteialfdhbfbkgaa
set_option linter.unusedVariables false
set_option linter.unusedSimpArgs false
open Go Go.RowKit

instance (x : Int) : Decidable (in64 x) := by unfold in64; infer_instance
theorem timesP_nat (g e : Nat) (h0 : 0 < g) (h1 : g < PP) : timesP (g : Int) (e : Int) = ((g ^ e % PP : Nat) : Int) := by
  have hp : PP = 2305843009213693951 := rfl
  unfold timesP
  rw [if_pos (show okP (g : Int) from ⟨by omega, by omega⟩)]
  simp only [powP, Int.toNat_natCast]
theorem sum_modN (d p : Nat) (s : Nat) (hs : (s : Int) = ((d : Int) - (p : Int) % 2305843009213693950) % 2305843009213693950) : (s + p) % NN = d % NN := by
  have hn : NN = 2305843009213693950 := rfl
  rw [hn]; omega
theorem back_holds {g a d c : Int} (hg : okP g) (ha : in64 a) (hd : in64 d) (hc : 0 ≤ c) : okP (timesP g a) ∧ backP g (timesP g a) c (ansP c a d) = timesP g d := by
  obtain ⟨g, rfl⟩ := Int.eq_ofNat_of_zero_le (Int.le_of_lt hg.1)
  obtain ⟨a, rfl⟩ := Int.eq_ofNat_of_zero_le ha.1
  obtain ⟨d, rfl⟩ := Int.eq_ofNat_of_zero_le hd.1
  obtain ⟨c, rfl⟩ := Int.eq_ofNat_of_zero_le hc
  have hp : PP = 2305843009213693951 := rfl
  have g0 : 0 < g := by have := hg.1; omega
  have g1 : g < PP := by have := hg.2; omega
  obtain ⟨s0, s1⟩ := ansP_pos (c : Int) a d
  obtain ⟨s, hs⟩ := Int.eq_ofNat_of_zero_le s0
  have hx0 := pow_pos_mod g a g0 g1
  have hx1 : g ^ a % PP < PP := Nat.mod_lt _ (by decide)
  rw [hs, timesP_nat g a g0 g1]
  refine ⟨⟨by omega, by omega⟩, ?_⟩
  unfold backP
  rw [timesP_nat g s g0 g1, timesP_nat (g ^ a % PP) c hx0 hx1, timesP_nat g d g0 g1]
  have hsum : (s + c * a) % NN = d % NN := by
    apply sum_modN
    rw [← hs]; unfold ansP subN mulN
    rw [Int.natCast_mul]
  have h1 : (g ^ s % PP) * ((g ^ a % PP) ^ c % PP) % PP = g ^ d % PP := by
    rw [← Nat.pow_mod, ← Nat.mul_mod, ← Nat.pow_mul, ← Nat.pow_add, Nat.mul_comm a c, ← pow_modN g (s + c * a) g0 g1, hsum, pow_modN g d g0 g1]
  have h2 := congrArg (fun n : Nat => (n : Int)) h1
  rw [Int.natCast_emod ((g ^ s % PP) * ((g ^ a % PP) ^ c % PP)) PP, Int.natCast_mul (g ^ s % PP) ((g ^ a % PP) ^ c % PP)] at h2
  exact h2
theorem know_holds {g a d : Int} (hg : okP g) (ha : in64 a) (hd : in64 d) : knowOk g (timesP g a) (knowC g (timesP g a) d) (ansP (knowC g (timesP g a) d) a d) := by
  obtain ⟨c0, c1⟩ := chal_pos knowS [g, timesP g a, timesP g d]
  obtain ⟨h1, h2⟩ := back_holds (c := knowC g (timesP g a) d) hg ha hd c0
  exact ⟨hg, h1, ⟨c1, (ansP_pos _ _ _).2⟩, by rw [h2]; rfl⟩
theorem equal_holds {g h a d : Int} (hg : okP g) (hh : okP h) (ha : in64 a) (hd : in64 d) :
    equalOk g (timesP g a) h (timesP h a) (equalC g (timesP g a) h (timesP h a) d) (ansP (equalC g (timesP g a) h (timesP h a) d) a d) := by
  obtain ⟨c0, c1⟩ := chal_pos equalS [g, timesP g a, h, timesP h a, timesP g d, timesP h d]
  obtain ⟨h1, h2⟩ := back_holds (c := equalC g (timesP g a) h (timesP h a) d) hg ha hd c0
  obtain ⟨h3, h4⟩ := back_holds (c := equalC g (timesP g a) h (timesP h a) d) hh ha hd c0
  exact ⟨hg, h1, hh, h3, ⟨c1, (ansP_pos _ _ _).2⟩, by rw [h2, h4]; rfl⟩

theorem knowC_pos (g x d : Int) : 0 ≤ knowC g x d ∧ knowC g x d < 2305843009213693950 := chal_pos _ _
theorem equalC_pos (g x h y d : Int) : 0 ≤ equalC g x h y d ∧ equalC g x h y d < 2305843009213693950 := chal_pos _ _
/-- Nothing older is touched. -/
def Up (w w' : World) : Prop := Below w.heap.size w w'
theorem Up.refl (w : World) : Up w w := Below.refl _ _
theorem Up.step {w w1 w2 : World} (h : Up w w1) (hb : Below w1.heap.size w1 w2) : Up w w2 := Below.trans h (hb.mono h.size)

set_option maxHeartbeats 400000 in
theorem alive_any (w : World) : Calls Try.prog 22 #[] w fun e w' => e = .returned (.bool true) ∧ Below w.heap.size w w' := by
  have hx : timesP 37 2 = 1369 := by decide
  have hk := know_holds (g := 37) (a := 2) (d := 9) (by decide) (by decide) (by decide)
  rw [hx] at hk
  obtain ⟨c0, c1⟩ := knowC_pos 37 1369 9
  generalize hC : knowC 37 1369 9 = C at *
  have HC := Lib.hid hC; clear hC
  obtain ⟨s0, s1⟩ := ansP_pos C 2 9
  generalize hA : ansP C 2 9 = A at *
  have HA := Lib.hid hA; clear hA
  have hd1 := decide_eq_true hk
  have hd0 : decide (knowOk 37 0 0 0) = false := decide_eq_false (fun h => absurd h.2.1.1 (by decide))
  have HD1 := Lib.hid hd1; have HD0 := Lib.hid hd0
  clear hk hx hd1 hd0
  have hu := Up.refl w
  go_enter Try.func22, Try.ntmps22
  go_wp2_with (first
    | (go_at_call 27; refine (CheckKnow_any _ _ _ _ _ ⟨by omega, by omega⟩ ⟨by omega, by omega⟩ ⟨by omega, by omega⟩ ⟨by omega, by omega⟩).mono ?_; rintro e w1 ⟨rfl, hb1⟩; (first | rw [HD0.out] | rw [HD1.out]); replace hu := hu.step hb1)
    | (go_at_call 24; refine (Know_any 37 1369 2 9 _ (by decide) (by decide) (by decide) (by decide)).mono ?_; rintro e w2 ⟨rfl, hb2⟩; rw [HC.out, HA.out]; replace hu := hu.step hb2))
  go_ret
  exact ⟨rfl, hu⟩
end Go.Proofs.Yteialfdhbfbkgaa
