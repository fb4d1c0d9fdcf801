/-
  Facts behind the blame laws with honest servers.
-/
import Derived.Test.YtmbgcjfmfkddpaaGreatMade
import Derived.Test.YtmbgcjfmfkddpaaGreatHop3
import Derived.Test.YtmbgcjfmfkddpaaGreatHon
namespace Go.Proofs.YtmbgcjfmfkddpaaGreat
set_option linter.unusedVariables false
set_option linter.unusedSimpArgs false
open Go Go.RowKit

theorem made_good {ss : List Sec} {dd : List (List Int)} {H : Nat} {from_ : Int} : ∀ n, ∀ e ∈ madeL (chainL ss dd) from_ n, Good ss dd H 0 e
  | 0, e, h => by cases h
  | n + 1, e, h => by
    rw [madeL] at h
    rcases List.mem_append.1 h with h | h
    · exact made_good n e h
    · rw [List.mem_singleton] at h; subst h
      exact ⟨madeX from_ n, put64 n, -1, madeX_in _ _, by rw [length_put64]; decide, fun j _ => by omega, rfl⟩
theorem answerL_ok {s : Sec} {p : Pub} {j : Nat} {e : Ent} {a b : Int} (hj : j ≤ 1000) (he : e.ok) : (answerL s p j e a b).ok :=
  ⟨⟨by show (-9223372036854775808 : Int) ≤ (j : Int); omega, by show (j : Int) ≤ 9223372036854775807; omega⟩, he, in64_P (timesP_pos _ _), equalP_ok _ _ _ _ _ _, equalP_ok _ _ _ _ _ _⟩
theorem run_allocPas (w : World) : (Instr.alloc 45 true (.tuple #[])).run Tryz.prog w = .ok (.pointer (some ⟨w.heap.size, 0, none⟩)) (w.alloc (.cells PasZ 45)) := by simp [go_sem]
theorem one_pas (a : Option Addr) (n c : Nat) (x y : Int) : ∀ v ∈ (#[Value.slice a n c, .int .u64 x, .int .u64 y] : Array Value).toList, v.oneCell' = true := by
  intro v hv; simp at hv; rcases hv with rfl | rfl | rfl <;> rfl
end Go.Proofs.YtmbgcjfmfkddpaaGreat
