/-
  What a hop answers in a blame: the reference.
-/
import Derived.Test.YtbgnfioggmkdeaaGreatDoorBl10
namespace Go.Proofs.YtbgnfioggmkdeaaGreatDoor
set_option linter.unusedVariables false
set_option linter.unusedSimpArgs false
open Go Go.RowKit

/-- A value made of another one, of which something is known. -/
def Ph.map {R : World → World → Prop} (f : Value → Value) (φ : Ph R) : Ph R := ⟨fun v u => ∃ v', v = f v' ∧ φ.p v' u, fun _ _ _ ⟨v', h1, h2⟩ e => ⟨v', h1, φ.st v' _ _ h2 e⟩⟩
abbrev StpP (frm x : Int) (v : Value) (sh bc bs mc ms : Int) : Array Value := #[.int .i64 frm, .int .u64 x, v, .int .u64 sh, .int .u64 bc, .int .u64 bs, .int .u64 mc, .int .u64 ms]
theorem one_stp (frm x : Int) (a : Option Addr) (n c : Nat) (sh bc bs mc ms : Int) : ∀ v ∈ (StpP frm x (.slice a n c) sh bc bs mc ms).toList, v.oneCell' = true := by
  intro v hv; simp at hv; rcases hv with rfl | rfl | rfl | rfl | rfl | rfl | rfl | rfl <;> rfl
end Go.Proofs.YtbgnfioggmkdeaaGreatDoor
