/-
  The laws of chapter 9: the walks.
-/
import Derived.Test.YteialfdhbfbkgaaLaw9a
namespace Go.Proofs.Yteialfdhbfbkgaa
set_option linter.unusedVariables false
set_option linter.unusedSimpArgs false
open Go Go.RowKit

set_option maxHeartbeats 1000000 in
theorem ProofHolds_any (g h a d : Int) (w : World) (hg : in64 g) (hh : in64 h) (ha : in64 a) (hd : in64 d) :
    Calls Try.prog 9 #[.int .u64 g, .int .u64 h, .int .u64 a, .int .u64 d] w fun e w' => e = .returned (.bool true) ∧ Below w.heap.size w w' := by
  have hKH := know_holds (g := g) (a := a) (d := d)
  have hEH := equal_holds (g := g) (h := h) (a := a) (d := d)
  have HKH := Lib.hid (fun h1 => decide_eq_true (hKH h1 ha hd))
  have HEH := Lib.hid (fun h1 h2 => decide_eq_true (hEH h1 h2 ha hd))
  clear hKH hEH
  obtain ⟨g0, g1⟩ := hg; obtain ⟨h0, h1⟩ := hh; obtain ⟨a0, a1⟩ := ha; obtain ⟨d0, d1⟩ := hd
  have hu := Up.refl w
  by_cases hg : okP g
  · have hdg := decide_eq_true hg
    by_cases hh : okP h
    · have hdh := decide_eq_true hh
      have HK := Lib.hid (HKH.out hg)
      have HE := Lib.hid (HEH.out hg hh)
      clear HKH HEH hg hh
      obtain ⟨x0, x1⟩ := timesP_pos g a
      obtain ⟨y0, y1⟩ := timesP_pos h a
      generalize hx : timesP g a = x at *
      generalize hy : timesP h a = y at *
      have HX := Lib.hid hx; have HY := Lib.hid hy; clear hx hy
      obtain ⟨c0, c1⟩ := knowC_pos g x d
      obtain ⟨s0, s1⟩ := ansP_pos (knowC g x d) a d
      obtain ⟨c2, c3⟩ := equalC_pos g x h y d
      obtain ⟨s2, s3⟩ := ansP_pos (equalC g x h y d) a d
      go_enter Try.func9, Try.ntmps9
      go_wp2_with (first
        | (go_at_call 22; refine (alive_any _).mono ?_; rintro e w1 ⟨rfl, hb1⟩; replace hu := hu.step hb1)
        | (go_at_call 23; refine (Rightr_any _ _ (by omega) (by omega)).mono ?_; rintro e w' ⟨rfl, rfl⟩; (first | rw [hdg] | rw [hdh]))
        | (go_at_call 21; refine (Timesr_any _ _ _ (by omega) (by omega) (by omega) (by omega)).mono ?_; rintro e w' ⟨rfl, rfl⟩; (first | rw [HX.out] | rw [HY.out]))
        | (go_at_call 24; refine (Know_any _ _ _ _ _ ⟨by omega, by omega⟩ ⟨by omega, by omega⟩ ⟨by omega, by omega⟩ ⟨by omega, by omega⟩).mono ?_; rintro e w2 ⟨rfl, hb2⟩; replace hu := hu.step hb2)
        | (go_at_call 27; refine (CheckKnow_any _ _ _ _ _ ⟨by omega, by omega⟩ ⟨by omega, by omega⟩ ⟨by omega, by omega⟩ ⟨by omega, by omega⟩).mono ?_; rintro e w3 ⟨rfl, hb3⟩; rw [HK.out]; replace hu := hu.step hb3)
        | (go_at_call 31; refine (Equal_any _ _ _ _ _ _ _ ⟨by omega, by omega⟩ ⟨by omega, by omega⟩ ⟨by omega, by omega⟩ ⟨by omega, by omega⟩ ⟨by omega, by omega⟩ ⟨by omega, by omega⟩).mono ?_; rintro e w4 ⟨rfl, hb4⟩; replace hu := hu.step hb4)
        | (go_at_call 34; refine (CheckEqual_any _ _ _ _ _ _ _ ⟨by omega, by omega⟩ ⟨by omega, by omega⟩ ⟨by omega, by omega⟩ ⟨by omega, by omega⟩ ⟨by omega, by omega⟩ ⟨by omega, by omega⟩).mono ?_; rintro e w5 ⟨rfl, hb5⟩; rw [HE.out]; replace hu := hu.step hb5))
      go_ret
      exact ⟨rfl, hu⟩
    · have hdh := decide_eq_false hh
      clear HKH HEH hg hh
      go_enter Try.func9, Try.ntmps9
      go_wp2_with (first
        | (go_at_call 22; refine (alive_any _).mono ?_; rintro e w1 ⟨rfl, hb1⟩; replace hu := hu.step hb1)
        | (go_at_call 23; refine (Rightr_any _ _ (by omega) (by omega)).mono ?_; rintro e w' ⟨rfl, rfl⟩; (first | rw [hdg] | rw [hdh])))
      go_ret
      exact ⟨rfl, hu⟩
  · have hdg := decide_eq_false hg
    clear HKH HEH hg
    go_enter Try.func9, Try.ntmps9
    go_wp2_with (first
      | (go_at_call 22; refine (alive_any _).mono ?_; rintro e w1 ⟨rfl, hb1⟩; replace hu := hu.step hb1)
      | (go_at_call 23; refine (Rightr_any _ _ (by omega) (by omega)).mono ?_; rintro e w' ⟨rfl, rfl⟩; rw [hdg]))
    go_ret
    exact ⟨rfl, hu⟩
end Go.Proofs.Yteialfdhbfbkgaa
