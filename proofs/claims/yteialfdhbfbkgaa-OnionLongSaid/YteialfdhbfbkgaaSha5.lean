/-
  The padding: the first program.
-/
import Derived.Test.YteialfdhbfbkgaaWords
namespace Go.Proofs.Yteialfdhbfbkgaa
set_option linter.unusedVariables false
set_option linter.unusedSimpArgs false
open Go Go.RowKit

theorem seesB_one (w : World) (b : UInt8) (t : TypeId) : SeesB (w.alloc (.cells #[BV b] t)) (.slice (some ⟨w.heap.size, 0, none⟩) 1 1) [b] :=
  seesB_lit w [BV b] t [b] 1 rfl rfl (by decide)

def PadRel (w : World) (l : List UInt8) (v : Value) (wr : World) : Prop :=
  ∃ z : Nat, z ≤ padN l.length ∧ OwnB wr w.heap.size v (l ++ [128] ++ List.replicate z 0) ∧ Below w.heap.size w wr

set_option maxRecDepth 100000 in
set_option maxHeartbeats 1000000 in
theorem padded_any (w : World) (v : Value) (l : List UInt8) (hv : SeesB w v l) (hl : l.length ≤ 70368744177000) :
    Calls Try.prog 95 #[v] w (RetB (shaPad l) w) := by
  obtain ⟨a0, c0, rfl, hac0, hc0⟩ := sees_form hv
  go_enter Try.func95, Try.ntmps95
  go_wp2_with (at_builtin; first
    | (refine appB (W := w) rfl _ _ rfl v1 l rfl (hown1.alloc _) _ [128] rfl (seesB_one _ 128 _) (by simp only [List.length_cons, List.length_nil]; omega) (hb1.alloc hb1.size _) ?_; intro v2 w2 hown2 hgr2 hb2)
    | (refine appB (W := w) rfl _ _ rfl (.slice none 0 0) [] rfl (ownB_nil _ _) _ l rfl hv (by simp only [List.length_nil]; omega) (Below.refl _ _) ?_; intro v1 w1 hown1 hgr1 hb1))
  go_loopw [3] (fun v wr => PadRel w l v wr) (fun v _ => 70368744177664 - lenV v)
  case atStart => exact ⟨0, by omega, by simpa using hown2, hb2⟩
  case round =>
    clear hown1 hown2 hgr1 hgr2 hb1 hb2
    obtain ⟨z, hz, hown, hbel⟩ := hrel
    obtain ⟨a, c, rfl, hac, hc⟩ := owns_form hown
    have HO := Lib.hid hown; clear hown
    have hN2 : (l ++ [128] ++ List.replicate z 0).length = l.length + 1 + z := by simp; omega
    have hp : padN l.length = (119 - l.length % 64) % 64 := rfl
    generalize hN : (l ++ [128] ++ List.replicate z 0).length = N at hN2 hac ⊢
    have HN := Lib.hid hN; clear hN
    have hb : N < 70368744177200 := by omega
    by_cases hlt : z < padN l.length
    · have ht : ((N : Int) % 64 != 56) = true := by rw [bne_iff_ne]; omega
      have HN2 := Lib.hid hN2; have HP := Lib.hid hp; clear hN2 hp
      go_wp2_with (at_builtin; refine appB (W := w) rfl _ _ rfl (.slice a N c) (l ++ [128] ++ List.replicate z 0) rfl (by rw [← HN.out]; exact HO.out.alloc _) _ [0] rfl (seesB_one _ 0 _) (by rw [HN.out]; simp only [List.length_cons, List.length_nil]; omega) (hbel.alloc hbel.size _) ?_; intro v3 w3 hown3 hgr3 hb3)
      have hfin : PadRel w l v3 w3 := ⟨z + 1, by omega, by
        rw [show l ++ [128] ++ List.replicate (z + 1) 0 = l ++ [128] ++ List.replicate z 0 ++ [0] from by rw [List.replicate_succ', List.append_assoc]; simp [List.append_assoc]]
        exact hown3, hb3⟩
      obtain ⟨a3, c3, rfl, hac3, hc3⟩ := owns_form hown3
      refine ⟨hfin, ?_⟩
      show 70368744177664 - (l ++ [128] ++ List.replicate z 0 ++ [0]).length < 70368744177664 - N
      rw [List.length_append, HN.out]; simp only [List.length_cons, List.length_nil]; omega
    · obtain rfl : z = padN l.length := by omega
      have ht : ((N : Int) % 64 != 56) = false := by rw [bne_eq_false_iff_eq]; omega
      have HN2 := Lib.hid hN2; have HP := Lib.hid hp; clear hN2 hp
      go_wp2_with fail
      refine (Put64_any _ _ (l ++ [128] ++ List.replicate (padN l.length) 0) _ (by rw [← HN.out]; exact sees_of_owns HO.out) (by omega) (by omega) (by rw [HN.out]; omega)).mono ?_
      rintro e w2 ⟨v2, rfl, hown2, hb2⟩
      go_wp2_with fail
      go_ret
      refine ⟨v2, rfl, ?_, hbel.trans (hb2.mono hbel.size)⟩
      have := owns_mono hown2 hbel.size
      unfold shaPad
      rwa [show ((l.length : Int) * 8).toNat = l.length * 8 from by omega] at this
end Go.Proofs.Yteialfdhbfbkgaa
