/-
  What the laws of the hops share.
-/
import Derived.Test.YtmbgcjfmfkddpaaGreatHrun
namespace Go.Proofs.YtmbgcjfmfkddpaaGreat
set_option linter.unusedVariables false
set_option linter.unusedSimpArgs false
open Go Go.RowKit

theorem run_allocPas2 (w : World) : (Instr.alloc 45 true (.tuple #[])).run Tryz.prog w = .ok (.pointer (some ⟨w.heap.size, 0, none⟩)) (w.alloc (.cells PasZ 45)) := by simp [go_sem]
theorem one_pas2 (a : Option Addr) (n c : Nat) (x y : Int) : ∀ v ∈ (#[Value.slice a n c, .int .u64 x, .int .u64 y] : Array Value).toList, v.oneCell' = true := by
  intro v hv; simp at hv; rcases hv with rfl | rfl | rfl <;> rfl
end Go.Proofs.YtmbgcjfmfkddpaaGreat
