/-
  Orders: RightOrder of the reference.
-/
import Derived.Test.YtmbgcjfmfkddpaaGreatHopL
import Derived.Test.YtmbgcjfmfkddpaaGreatInts
import Derived.Test.YtmbgcjfmfkddpaaGreatSpec
namespace Go.Proofs.YtmbgcjfmfkddpaaGreat
set_option linter.unusedVariables false
set_option linter.unusedSimpArgs false
open Go Go.RowKit

/-- The first n of a list are so that it may be an order. -/
def permN (p : List Int) (n : Nat) : Prop := (∀ x ∈ p.take n, 0 ≤ x ∧ x < p.length) ∧ (p.take n).Nodup
theorem permN_zero (p : List Int) : permN p 0 := ⟨fun x h => by simp at h, by simp⟩
theorem permN_full (p : List Int) : permN p p.length ↔ permOk p := by unfold permN permOk; rw [List.take_length]
theorem permN_step {p : List Int} {n : Nat} {x : Int} (h : permN p n) (hx : p[n]? = some x) (h0 : 0 ≤ x) (h1 : x < p.length) (hd : ∀ j, j < n → p[j]? ≠ some x) : permN p (n + 1) := by
  obtain ⟨hn, rfl⟩ := List.getElem?_eq_some_iff.1 hx
  unfold permN
  rw [List.take_succ_eq_append_getElem hn]
  refine ⟨fun y hy => ?_, ?_⟩
  · rcases List.mem_append.1 hy with hy | hy
    · exact h.1 y hy
    · rw [List.mem_singleton] at hy; subst hy; exact ⟨h0, h1⟩
  · rw [List.nodup_append]
    refine ⟨h.2, by simp, fun a ha b hb => ?_⟩
    rw [List.mem_singleton] at hb; subst hb
    intro e; subst e
    obtain ⟨j, hj, he⟩ := List.getElem_of_mem ha
    rw [List.length_take] at hj
    rw [List.getElem_take] at he
    exact hd j (by omega) (by rw [List.getElem?_eq_getElem (by omega), he])
theorem not_perm_range {p : List Int} {n : Nat} {x : Int} (hx : p[n]? = some x) (h : ¬ (0 ≤ x ∧ x < p.length)) : ¬ permOk p := fun hp => h (hp.1 x (List.mem_of_getElem? hx))
theorem not_perm_twice {p : List Int} {m n : Nat} {x : Int} (hmn : m < n) (hm : p[m]? = some x) (hn : p[n]? = some x) : ¬ permOk p := fun hp => by
  obtain ⟨h1, e1⟩ := List.getElem?_eq_some_iff.1 hm
  obtain ⟨h2, e2⟩ := List.getElem?_eq_some_iff.1 hn
  exact List.pairwise_iff_getElem.1 hp.2 m n h1 h2 hmn (e1.trans e2.symm)
end Go.Proofs.YtmbgcjfmfkddpaaGreat
