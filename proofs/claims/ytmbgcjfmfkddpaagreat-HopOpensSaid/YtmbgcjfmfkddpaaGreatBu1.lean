/-
  What each place had of a spoiled onion: walked.
-/
import Derived.Test.YtmbgcjfmfkddpaaGreatBh0
import Derived.Test.YtmbgcjfmfkddpaaGreatSet
import Derived.Test.YtmbgcjfmfkddpaaGreatInv
namespace Go.Proofs.YtmbgcjfmfkddpaaGreat
set_option linter.unusedVariables false
set_option linter.unusedSimpArgs false
open Go Go.RowKit

theorem flatten_put {β : Type} {sz : Nat} (c' : List β) : ∀ (l : List (List β)), (∀ c ∈ l, c.length = sz) → ∀ (i : Nat), i < l.length → (l.set i c').flatten = l.flatten.take (i * sz) ++ c' ++ l.flatten.drop (i * sz + sz)
  | [], _, i, h => by simp at h
  | x :: l, hl, 0, h => by
    have hx := hl x (by simp)
    rw [List.set_cons_zero, List.flatten_cons, List.flatten_cons, Nat.zero_mul, Nat.zero_add, List.take_zero, List.nil_append, ← hx, List.drop_left]
  | x :: l, hl, i + 1, h => by
    have hx := hl x (by simp)
    rw [List.set_cons_succ, List.flatten_cons, List.flatten_cons, flatten_put c' l (fun c hc => hl c (by simp [hc])) i (by simpa using h)]
    rw [show (i + 1) * sz = x.length + i * sz from by rw [hx, Nat.succ_mul]; omega, List.take_length_add_append, show x.length + i * sz + sz = x.length + (i * sz + sz) from by omega, List.drop_length_add_append]
    simp
theorem put_at {β : Type} (A c' D : List β) (a k : Nat) (hA : A.length = a) (hc : c'.length = k) (j : Nat) : (A ++ c' ++ D)[j]? = if j < a then A[j]? else if j < a + k then c'[j - a]? else D[j - (a + k)]? := by
  by_cases h1 : j < a
  · rw [if_pos h1, List.append_assoc, List.getElem?_append_left (by omega)]
  · rw [if_neg h1, List.append_assoc, List.getElem?_append_right (by omega), hA]
    by_cases h2 : j < a + k
    · rw [if_pos h2, List.getElem?_append_left (by omega)]
    · rw [if_neg h2, List.getElem?_append_right (by omega), hc, show j - a - k = j - (a + k) from by omega]
/-- One element of a row of the call's own is put anew. -/
theorem OwR.put {α : Type} {R : Rp α} {B B0 : Nat} {w w' : World} {g n cap : Nat} {l : List α} {cur : Array Value} (h : OwR R B B0 w (.slice (some ⟨g, 0, none⟩) n cap) l) (hcur : Blk w g cur R.ty) {i : Nat} (hi : i < l.length) {c' : List Value} {a' : α}
    (hg : w.grownBy w' (some g)) (hb : Blk w' g (cur.toList.take (i * R.sz) ++ c' ++ cur.toList.drop (i * R.sz + c'.length)).toArray R.ty) (hrel : R.rel B w' c' a') (hn : R.ty ∉ R.T) (hB : B ≤ B0) :
    OwR R B B0 w' (.slice (some ⟨g, 0, none⟩) n cap) (l.set i a') := by
  obtain ⟨chs, h1, hl, h2⟩ := h
  rcases h2 with ⟨e, _⟩ | ⟨g', cap', cur', e, hg', hh, hcap, hmax, hsz, htake⟩
  · cases e
  · obtain ⟨rfl, rfl, rfl⟩ : g = g' ∧ n = l.length ∧ cap = cap' := by cases e; exact ⟨rfl, rfl, rfl⟩
    obtain rfl : cur = cur' := by
      have h3 := Option.some.inj (hcur.symm.trans hh)
      injection h3
    have hS : Same B R.T w w' := Same.grown hg (RowT.blk hh) hn (fun k hk => by cases hk; omega)
    have h1' := h1.keep hS
    have hc := R.len hrel
    have hil : i < chs.length := by have := h1.1; omega
    have hf := flatten_put c' chs h1.lens i hil
    have hll : chs.flatten.length = l.length * R.sz := hl
    have hle : i * R.sz + R.sz ≤ l.length * R.sz := by rw [← Nat.succ_mul]; exact Nat.mul_le_mul_right _ hi
    have h5 : cur.toList.length = cap * R.sz := hsz
    have hcl : l.length * R.sz ≤ cur.toList.length := by rw [h5]; exact Nat.mul_le_mul_right _ hcap
    refine ⟨chs.set i c', ⟨by rw [List.length_set, List.length_set, h1.1], fun k c b hck hbk => ?_⟩, by rw [hf, List.length_set]; simp only [List.length_append, List.length_take, List.length_drop, hll, hc]; omega, .inr ⟨g, cap, _, by rw [List.length_set], hg', hb, by rw [List.length_set]; exact hcap, hmax, by simp only [List.size_toArray, List.length_append, List.length_take, List.length_drop, h5, hc]; omega, ?_⟩⟩
    · by_cases hk : i = k
      · subst hk
        rw [List.getElem?_set_self hil] at hck
        rw [List.getElem?_set_self hi] at hbk
        cases hck; cases hbk
        exact hrel
      · rw [List.getElem?_set_ne hk] at hck hbk
        exact h1'.2 k c b hck hbk
    · rw [hf, ← htake, List.length_set]
      simp only [hc]
      generalize hcl2 : cur.toList = cl at *
      have L := hc
      apply List.ext_getElem?
      intro j
      by_cases hj : j < l.length * R.sz
      · have hx : List.take (l.length * R.sz) (List.take (i * R.sz) cl ++ c' ++ List.drop (i * R.sz + R.sz) cl) = List.take (l.length * R.sz) (List.take (i * R.sz) cl ++ c' ++ List.drop (i * R.sz + R.sz) cl) := rfl
        rw [List.getElem?_take_of_lt hj, put_at _ _ _ (i * R.sz) R.sz (by simp only [List.length_take]; omega) hc, put_at _ _ _ (i * R.sz) R.sz (by simp only [List.length_take]; omega) hc]
        by_cases hj1 : j < i * R.sz
        · rw [if_pos hj1, if_pos hj1, List.getElem?_take_of_lt hj1, List.getElem?_take_of_lt hj1, List.getElem?_take_of_lt hj]
        · rw [if_neg hj1, if_neg hj1]
          by_cases hj2 : j < i * R.sz + R.sz
          · rw [if_pos hj2, if_pos hj2]
          · rw [if_neg hj2, if_neg hj2, List.getElem?_drop, List.getElem?_drop, List.getElem?_take_of_lt (by omega)]
      · rw [List.getElem?_eq_none (by simp only [List.length_append, List.length_take, List.length_drop, List.size_toArray]; omega), List.getElem?_eq_none (by simp only [List.length_append, List.length_take, List.length_drop]; omega)]
end Go.Proofs.YtmbgcjfmfkddpaaGreat
