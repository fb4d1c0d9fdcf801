/-
  Orders drawn: each number once, and in range.
-/
import Derived.Test.YtmbgcjfmfkddpaaDoorOne
namespace Go.Proofs.YtmbgcjfmfkddpaaDoor
set_option linter.unusedVariables false
set_option linter.unusedSimpArgs false
open Go Go.RowKit

/-- Each number stands at one place. -/
def InjL (l : List Int) : Prop := ∀ (i j : Nat) (x : Int), l[i]? = some x → l[j]? = some x → i = j
def InR (n : Nat) (l : List Int) : Prop := ∀ (i : Nat) (x : Int), l[i]? = some x → 0 ≤ x ∧ x < n
def swI (i j k : Nat) : Nat := if k = j then i else if k = i then j else k
theorem swI_inj {i j k m : Nat} (h : swI i j k = swI i j m) : k = m := by
  unfold swI at h
  split at h <;> split at h <;> (try split at h) <;> (try split at h) <;> omega
theorem swL_get {l : List Int} {i j : Nat} (hi : i < l.length) (hj : j < l.length) (k : Nat) : (swL l i j)[k]? = l[swI i j k]? := by
  have h1 : l[i]? = some l[i] := List.getElem?_eq_getElem hi
  have h2 : l[j]? = some l[j] := List.getElem?_eq_getElem hj
  rw [swL_of h1 h2]
  unfold swI
  rw [List.getElem?_set, List.getElem?_set, List.length_set]
  by_cases e : j = k
  · subst e; simp [hj]
  · have e' : ¬ k = j := fun h => e h.symm
    by_cases e2 : i = k
    · subst e2; simp [e, e', hi]
    · have e2' : ¬ k = i := fun h => e2 h.symm
      simp [e, e', e2, e2']
theorem swL_inj {l : List Int} {i j : Nat} (hi : i < l.length) (hj : j < l.length) (h : InjL l) : InjL (swL l i j) := fun a b x ha hb => by
  rw [swL_get hi hj] at ha hb
  exact swI_inj (h _ _ x ha hb)
theorem swL_inr {n : Nat} {l : List Int} {i j : Nat} (hi : i < l.length) (hj : j < l.length) (h : InR n l) : InR n (swL l i j) := fun a x ha => by
  rw [swL_get hi hj] at ha
  exact h _ x ha
theorem idL_get {n i : Nat} {x : Int} (h : (idL n)[i]? = some x) : x = i ∧ i < n := by
  unfold idL at h
  rw [List.getElem?_map] at h
  by_cases hi : i < n
  · rw [List.getElem?_range hi] at h; exact ⟨(Option.some.inj h).symm, hi⟩
  · rw [List.getElem?_eq_none (by rw [List.length_range]; omega)] at h; cases h
theorem idL_inj (n : Nat) : InjL (idL n) := fun i j x h1 h2 => by
  have := (idL_get h1).1; have := (idL_get h2).1; omega
theorem idL_inr (n : Nat) : InR n (idL n) := fun i x h => by
  have := idL_get h; omega
theorem ordF_ok (seed name : List UInt8) (n : Nat) : ∀ (i : Nat) (l : List Int) (pos : Int) (r : List Int), i < l.length → i < 60 → InjL l → InR n l → (ordF seed name i l pos).1 = some r → InjL r ∧ InR n r
  | 0, l, pos, r, _, _, hj, hr, h => by unfold ordF at h; cases h; exact ⟨hj, hr⟩
  | i + 1, l, pos, r, hl, h60, hj, hr, h => by
    unfold ordF at h
    split at h
    · cases h
    · rename_i x p e
      have hx := nextN_lt seed name (i + 2) (by omega) 64 pos x (by rw [e])
      have hxl : x.toNat < l.length := by omega
      refine ordF_ok seed name n i _ _ r (by rw [length_swL]; omega) (by omega) (swL_inj hl hxl hj) (swL_inr hl hxl hr) h
theorem drawO_ok {seed name : List UInt8} {n : Nat} {r : List Int} (h1 : 1 ≤ n) (h60 : n ≤ 60) (h : drawO seed name n = some r) : InjL r ∧ InR n r :=
  ordF_ok seed name n _ _ _ r (by rw [length_idL]; omega) (by omega) (idL_inj n) (idL_inr n) h
theorem InjL.take {l : List Int} (h : InjL l) (k : Nat) : InjL (l.take k) := fun i j x hi hj => by
  rw [List.getElem?_take] at hi hj
  split at hi
  · split at hj
    · exact h _ _ _ hi hj
    · cases hj
  · cases hi
theorem InR.take {n : Nat} {l : List Int} (h : InR n l) (k : Nat) : InR n (l.take k) := fun i x hi => by
  rw [List.getElem?_take] at hi
  split at hi
  · exact h _ _ hi
  · cases hi
end Go.Proofs.YtmbgcjfmfkddpaaDoor
