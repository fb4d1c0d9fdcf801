/-
  The laws of chapter 9: ProofTells.
-/
import Derived.Test.YteialfdhbfbkgaaLaw9e
import Derived.Test.YteialfdhbfbkgaaEqP
namespace Go.Proofs.Yteialfdhbfbkgaa
set_option linter.unusedVariables false
set_option linter.unusedSimpArgs false
open Go Go.RowKit

set_option maxHeartbeats 2000000 in
theorem ProofTells_any (s : ByteArray) (v : Value) (l : List Int) (g x h y a d : Int) (w : World) (hv : SeesU w v l) (hin : ∀ z ∈ l, in64 z) (hs : s.size ≤ 9223372036854775807)
    (hg : in64 g) (hx : in64 x) (hh : in64 h) (hy : in64 y) (ha : in64 a) (hd : in64 d) :
    Calls Try.prog 7 #[.string s, v, .int .u64 g, .int .u64 x, .int .u64 h, .int .u64 y, .int .u64 a, .int .u64 d] w fun e w' => e = .returned (.bool true) ∧ Below w.heap.size w w' := by
  obtain ⟨g0, g1⟩ := hg; obtain ⟨x0, x1⟩ := hx; obtain ⟨h0, h1⟩ := hh; obtain ⟨y0, y1⟩ := hy; obtain ⟨a0, a1⟩ := ha; obtain ⟨d0, d1⟩ := hd
  have HV := Lib.hid hv
  obtain ⟨ad, cc, rfl, hc, hm⟩ := sees_form hv
  clear hv
  have hu := Up.refl w
  obtain ⟨ch0, ch1⟩ := chal_pos s l
  generalize hCh : chal s l = ch at *
  have HCH := Lib.hid hCh; clear hCh
  obtain ⟨c0, c1⟩ := knowC_pos g x d
  generalize hC : knowC g x d = C at *
  have HC := Lib.hid hC; clear hC
  obtain ⟨s0, s1⟩ := ansP_pos C a d
  generalize hA : ansP C a d = A at *
  have HA := Lib.hid hA; clear hA
  obtain ⟨c2, c3⟩ := equalC_pos g x h y d
  generalize hC2 : equalC g x h y d = C2 at *
  have HC2 := Lib.hid hC2; clear hC2
  obtain ⟨s2, s3⟩ := ansP_pos C2 a d
  generalize hA2 : ansP C2 a d = A2 at *
  have HA2 := Lib.hid hA2; clear hA2
  by_cases hl : 20 < l.length
  · go_enter Try.func7, Try.ntmps7
    go_wp2_with (go_at_call 22; refine (alive_any _).mono ?_; rintro e w1 ⟨rfl, hb1⟩; replace hu := hu.step hb1)
    go_ret
    exact ⟨rfl, hu⟩
  by_cases hn : 50 < s.size
  · go_enter Try.func7, Try.ntmps7
    go_wp2_with (go_at_call 22; refine (alive_any _).mono ?_; rintro e w1 ⟨rfl, hb1⟩; replace hu := hu.step hb1)
    go_ret
    exact ⟨rfl, hu⟩
  go_enter Try.func7, Try.ntmps7
  go_wp2_with (first
    | (go_at_call 22; refine (alive_any _).mono ?_; rintro e w1 ⟨rfl, hb1⟩; replace hu := hu.step hb1)
    | (refine wpList_eqP rfl _ _ rfl _ _ _ _ rfl rfl ?_; simp only [beq_self_eq_true, Bool.and_self])
    | (go_at_call 28; refine (Challenge_any _ s _ l (HV.out.below hu (by decide)) hin (by omega) (by omega)).mono ?_; rintro e w2 ⟨rfl, hb2⟩; rw [HCH.out]; replace hu := hu.step hb2)
    | (go_at_call 29; refine (Challenger_any _ s _ l (HV.out.below hu (by decide)) hin (by omega) (by omega)).mono ?_; rintro e w3 ⟨rfl, hb3⟩; rw [HCH.out]; replace hu := hu.step hb3)
    | (go_at_call 24; refine (Know_any _ _ _ _ _ ⟨by omega, by omega⟩ ⟨by omega, by omega⟩ ⟨by omega, by omega⟩ ⟨by omega, by omega⟩).mono ?_; rintro e w4 ⟨rfl, hb4⟩; rw [HC.out, HA.out]; replace hu := hu.step hb4)
    | (go_at_call 30; refine (Knowr_any _ _ _ _ _ ⟨by omega, by omega⟩ ⟨by omega, by omega⟩ ⟨by omega, by omega⟩ ⟨by omega, by omega⟩).mono ?_; rintro e w5 ⟨rfl, hb5⟩; rw [HC.out, HA.out]; replace hu := hu.step hb5)
    | (go_at_call 31; refine (Equal_any _ _ _ _ _ _ _ ⟨by omega, by omega⟩ ⟨by omega, by omega⟩ ⟨by omega, by omega⟩ ⟨by omega, by omega⟩ ⟨by omega, by omega⟩ ⟨by omega, by omega⟩).mono ?_; rintro e w6 ⟨rfl, hb6⟩; rw [HC2.out, HA2.out]; replace hu := hu.step hb6)
    | (go_at_call 32; refine (Equalr_any _ _ _ _ _ _ _ ⟨by omega, by omega⟩ ⟨by omega, by omega⟩ ⟨by omega, by omega⟩ ⟨by omega, by omega⟩ ⟨by omega, by omega⟩ ⟨by omega, by omega⟩).mono ?_; rintro e w7 ⟨rfl, hb7⟩; rw [HC2.out, HA2.out]; replace hu := hu.step hb7))
  go_ret
  exact ⟨rfl, hu⟩
end Go.Proofs.Yteialfdhbfbkgaa
