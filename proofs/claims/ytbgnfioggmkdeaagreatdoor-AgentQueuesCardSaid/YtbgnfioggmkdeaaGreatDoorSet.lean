/-
  One cell of a row of the call's own is set.
-/
import Derived.Test.YtbgnfioggmkdeaaGreatDoorRep
namespace Go.Proofs.YtbgnfioggmkdeaaGreatDoor
set_option linter.unusedVariables false
set_option linter.unusedSimpArgs false
open Go Go.RowKit

theorem flatten_set {β : Type} {sz : Nat} (v : β) : ∀ (l : List (List β)), (∀ c ∈ l, c.length = sz) → ∀ (i j : Nat) (c : List β), l[i]? = some c → j < sz → (l.set i (c.set j v)).flatten = l.flatten.set (i * sz + j) v
  | [], _, i, j, c, h, _ => by simp at h
  | x :: l, hl, 0, j, c, h, hj => by
    cases h
    rw [List.set_cons_zero, List.flatten_cons, List.flatten_cons, Nat.zero_mul, Nat.zero_add, List.set_append_left _ _ (by rw [hl x (by simp)]; exact hj)]
  | x :: l, hl, i + 1, j, c, h, hj => by
    have hx := hl x (by simp)
    rw [List.set_cons_succ, List.flatten_cons, List.flatten_cons, List.set_append_right _ _ (by rw [hx, Nat.succ_mul]; omega), hx, show (i + 1) * sz + j - sz = i * sz + j from by rw [Nat.succ_mul]; omega]
    rw [flatten_set v l (fun c hc => hl c (by simp [hc])) i j c (by simpa using h) hj]
theorem grownBy_cell (w : World) (g k : Nat) (v : Value) : w.grownBy (w.setCell ⟨g, k, none⟩ v) (some g) := grownBy_set ⟨rfl, rfl, rfl, Nat.le_refl _, fun _ _ _ => rfl⟩ k v
theorem OwR.setAt {α : Type} {R : Rp α} {B B0 : Nat} {w : World} {g o n cap : Nat} {l : List α} (h : OwR R B B0 w (.slice (some ⟨g, o, none⟩) n cap) l) {i j : Nat} {a a' : α} (ha : l[i]? = some a) (hj : j < R.sz) (v : Value)
    (hrel : ∀ cs, R.rel B (w.setCell ⟨g, o + i * R.sz + j, none⟩ v) cs a → R.rel B (w.setCell ⟨g, o + i * R.sz + j, none⟩ v) (cs.set j v) a') (hn : R.ty ∉ R.T) (hB : B ≤ B0) :
    OwR R B B0 (w.setCell ⟨g, o + i * R.sz + j, none⟩ v) (.slice (some ⟨g, o, none⟩) n cap) (l.set i a') := by
  obtain ⟨chs, h1, hl, h2⟩ := h
  rcases h2 with ⟨e, _⟩ | ⟨g', cap', cur, e, hg, hh, hcap, hmax, hsz, htake⟩
  · cases e
  · obtain ⟨rfl, rfl, rfl, rfl⟩ : g = g' ∧ o = 0 ∧ n = l.length ∧ cap = cap' := by cases e; exact ⟨rfl, rfl, rfl, rfl⟩
    rw [Nat.zero_add] at hrel ⊢
    have hG := grownBy_cell w g (i * R.sz + j) v
    have hS : Same B R.T w (w.setCell ⟨g, i * R.sz + j, none⟩ v) := Same.grown hG (RowT.blk hh) hn (fun k hk => by cases hk; omega)
    have hil := (List.getElem?_eq_some_iff.1 ha).1
    obtain ⟨c0, hc0⟩ : ∃ c, chs[i]? = some c := ⟨_, List.getElem?_eq_getElem (by have := h1.1; omega)⟩
    have hf := flatten_set v chs h1.lens i j c0 hc0 hj
    have h1' := h1.keep hS
    refine ⟨chs.set i (c0.set j v), ⟨by rw [List.length_set, List.length_set, h1.1], fun k c b hc hb => ?_⟩, by rw [hf, List.length_set, List.length_set]; exact hl, .inr ⟨g, cap, cur.setIfInBounds (i * R.sz + j) v, by rw [List.length_set], hg, Blk.set hh _ _, by rw [List.length_set]; exact hcap, hmax, by rw [Array.size_setIfInBounds]; exact hsz, ?_⟩⟩
    · by_cases hk : i = k
      · subst hk
        rw [List.getElem?_set_self (by have := h1.1; omega)] at hc
        rw [List.getElem?_set_self hil] at hb
        cases hc; cases hb
        exact hrel c0 (h1'.2 i c0 a hc0 ha)
      · rw [List.getElem?_set_ne hk] at hc hb
        exact h1'.2 k c b hc hb
    · rw [hf, Array.toList_setIfInBounds, List.length_set, List.take_set, htake]
theorem ext_rowK {w x u : World} {g : Nat} (e : Ext w x) (hg : x.grownBy u (some g)) (h : w.heap.size ≤ g) : Ext w u := Below.grown e hg (Below.size e) (fun k hk => by cases hk; exact h)
theorem range_ext {w u : World} {b o : Nat} {cs : List Value} (h : w.rangeAt b o cs) (hb : Ext w u) : u.rangeAt b o cs := fun j v hj => by
  have := h j v hj
  exact (Below.cell hb (World.block_lt_of_cell? w _ this)).trans this
theorem Blk.grownT {w w' : World} {g : Nat} {cs : Array Value} {t t' : TypeId} {r : Option Nat} (h : Blk w g cs t) (hg : w.grownBy w' r) (hr : RowT w r t') (hne : t ≠ t') : Blk w' g cs t :=
  h.grownBy hg ((RowT.blk h).ne hr hne g rfl)
end Go.Proofs.YtbgnfioggmkdeaaGreatDoor
