/-
  BlameTraces: walked.
-/
import Derived.Test.YtmbgcjfmfkddpaaGreatBl7
namespace Go.Proofs.YtmbgcjfmfkddpaaGreat
set_option linter.unusedVariables false
set_option linter.unusedSimpArgs false
open Go Go.RowKit

def zeroPub : Pub := ⟨0, 0, 0, 0, 0, 0, 0, 0, 0, 0⟩
theorem okZero : zeroPub.ok := by refine ⟨?_, ?_, ?_, ?_, ?_, ?_, ?_, ?_, ?_, ?_⟩ <;> exact ⟨by decide, by decide⟩
theorem trace_nil : traceL [] [] 0 [] = (0, 0) := rfl
theorem trace_one : traceL [zeroPub] [[⟨1, []⟩]] 0 [] = (2, 0) := rfl
end Go.Proofs.YtmbgcjfmfkddpaaGreat
