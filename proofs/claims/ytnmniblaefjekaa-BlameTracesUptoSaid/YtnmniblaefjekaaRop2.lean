/-
  A hop's entry opened: the reference.
-/
import Derived.Test.YtnmniblaefjekaaRop1
namespace Go.Proofs.Ytnmniblaefjekaa
set_option linter.unusedVariables false
set_option linter.unusedSimpArgs false
open Go Go.RowKit
set_option maxHeartbeats 1000000 in
theorem placeI_any (n : Int) (w : World) :
    Calls Try.prog 69 #[.int .i64 n] w (RetB (besL n) w) := by
  have HB := Lib.hid (show besL n = put64 (u64of n).toNat from rfl)
  obtain ⟨m0, m1⟩ := in64_u64of n
  have hA := fun w' : World => Put64r_any w' (.slice none 0 0) [] (u64of n) (Sees.nil _ _) m0 m1 (by simp)
  unfold u64of at hA HB
  have HA := Lib.hid hA; clear hA m0 m1
  go_enter Try.func69, Try.ntmps69
  go_wp2_with (go_at_call 62; refine (HA.out _).mono ?_; rintro e w1 ⟨v1, rfl, hown1, hb1⟩; rw [List.nil_append] at hown1)
  go_ret
  exact RetB.mk (by rw [HB.out]; exact hown1) hb1
set_option maxRecDepth 100000 in
set_option maxHeartbeats 1000000 in
theorem peeled_any (s at_ : Int) (box : List UInt8) (v : Value) (w : World) (hs : in64 s) (hv : SeesB w v box) (hl : box.length ≤ 20000000000000) :
    Calls Try.prog 40 #[.int .u64 s, .int .i64 at_, v] w (RetO (openL (hopK s) (besL at_) box) w) := by
  obtain ⟨a0, c0, rfl, -, -⟩ := sees_form hv
  have HKL := Lib.hid (length_hopK s)
  have HH := Lib.hid (fun w' => HopKeyr_any s w' hs)
  have HBL := Lib.hid (length_besL at_)
  generalize hopK s = K at *
  generalize hbe : besL at_ = be at *
  have HBE := Lib.hid hbe
  have HV := Lib.hid hv
  clear hbe hv
  go_enter Try.func40, Try.ntmps40
  go_wp2_with (first
    | (go_at_call 68; refine (HH.out _).mono ?_; rintro e x1 ⟨rfl, hb1⟩; have e1 : Ext w x1 := hb1)
    | (go_at_call 69; refine (placeI_any at_ _).mono ?_; rintro e x2 ⟨v2, rfl, hown2, hb2⟩; rw [HBE.out] at hown2; have e2 : Ext w x2 := e1.tr hb2)
    | (go_at_call 67; refine (Openr_any K be box _ _ _ HKL.out (sees_of_owns hown2) (HV.out.below e2 (by decide)) (by rw [HBL.out]; decide) hl).mono ?_; rintro e x3 ⟨v3, rfl, hown3, hb3⟩; have e3 : Ext w x3 := e2.tr hb3))
  go_ret2
  exact ⟨_, rfl, owns_mono hown3 (Below.size e2), e3⟩
end Go.Proofs.Ytnmniblaefjekaa
