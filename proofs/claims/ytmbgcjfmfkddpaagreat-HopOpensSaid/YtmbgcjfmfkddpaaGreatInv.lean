/-
  Orders undone: Inverse of the reference.
-/
import Derived.Test.YtmbgcjfmfkddpaaGreatHop2
import Derived.Test.YtmbgcjfmfkddpaaGreatPr
namespace Go.Proofs.YtmbgcjfmfkddpaaGreat
set_option linter.unusedVariables false
set_option linter.unusedSimpArgs false
open Go Go.RowKit

def invN (p : List Int) : Nat → List Int
  | 0 => List.replicate p.length 0
  | n + 1 => match p[n]? with
    | some x => (invN p n).set x.toNat n
    | none => invN p n
def invL (p : List Int) : List Int := invN p p.length
theorem length_invN (p : List Int) : ∀ n, (invN p n).length = p.length
  | 0 => by rw [invN, List.length_replicate]
  | n + 1 => by
    rw [invN]
    split
    · rw [List.length_set]; exact length_invN p n
    · exact length_invN p n
theorem invN_succ {p : List Int} {n k : Nat} (h : p[n]? = some (k : Int)) : invN p (n + 1) = (invN p n).set k n := by rw [invN, h]; simp
theorem invN_get {p : List Int} (hp : permOk p) : ∀ (n : Nat) (i k : Nat), i < n → p[i]? = some (k : Int) → (invN p n)[k]? = some (i : Int)
  | 0, _, _, h, _ => absurd h (Nat.not_lt_zero _)
  | n + 1, i, k, h, hk => by
    have hkr := hp.1 k (List.mem_of_getElem? hk)
    by_cases hn : n < p.length
    · obtain ⟨x, hx⟩ : ∃ x, p[n]? = some x := ⟨_, List.getElem?_eq_getElem hn⟩
      have hxr := hp.1 x (List.mem_of_getElem? hx)
      obtain ⟨m, rfl⟩ : ∃ m : Nat, x = m := ⟨x.toNat, by omega⟩
      rw [invN_succ hx]
      by_cases e : i = n
      · subst e
        rw [hx] at hk
        obtain rfl : m = k := by injection hk with hk; omega
        rw [List.getElem?_set_self (by rw [length_invN]; omega)]
      · have hmk : m ≠ k := fun e2 => by
          subst e2
          exact (not_perm_twice (show i < n by omega) hk hx) hp
        rw [List.getElem?_set_ne hmk]
        exact invN_get hp n i k (by omega) hk
    · have : i < p.length := (List.getElem?_eq_some_iff.1 hk).1
      have hpn : p[n]? = none := List.getElem?_eq_none (by omega)
      simp only [invN, hpn]
      exact invN_get hp n i k (by omega) hk
/-- An order undone. -/
theorem invL_get {p : List Int} (hp : permOk p) {i k : Nat} (h : p[i]? = some (k : Int)) : (invL p)[k]? = some (i : Int) := invN_get hp _ i k (List.getElem?_eq_some_iff.1 h).1 h
end Go.Proofs.YtmbgcjfmfkddpaaGreat
