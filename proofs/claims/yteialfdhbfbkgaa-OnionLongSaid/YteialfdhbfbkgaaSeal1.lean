/-
  Closed bytes: what they are.
-/
import Derived.Test.YteialfdhbfbkgaaDer3
import Derived.Laws.OwnMore
namespace Go.Proofs.Yteialfdhbfbkgaa
set_option linter.unusedVariables false
set_option linter.unusedSimpArgs false
open Go Go.RowKit

def strm (key : List UInt8) (i : Nat) : UInt8 := (mac key ([115] ++ put64 (i / 32))).getD (i % 32) 0
def turnTo (key b : List UInt8) (n : Nat) : List UInt8 := (List.range b.length).map fun i => if i < n then b.getD i 0 ^^^ strm key i else b.getD i 0
def turnL (key b : List UInt8) : List UInt8 := turnTo key b b.length
theorem length_turnTo (key b : List UInt8) (n : Nat) : (turnTo key b n).length = b.length := by simp [turnTo]
theorem length_turnL (key b : List UInt8) : (turnL key b).length = b.length := length_turnTo _ _ _
theorem turnTo_get (key b : List UInt8) (n i : Nat) (h : i < b.length) : (turnTo key b n)[i]? = some (if i < n then b.getD i 0 ^^^ strm key i else b.getD i 0) := by simp [turnTo, h]
theorem turnTo_zero (key b : List UInt8) : turnTo key b 0 = b := by
  apply List.ext_getElem?
  intro i
  by_cases h : i < b.length
  · rw [turnTo_get _ _ _ _ h, if_neg (by omega), List.getElem?_eq_getElem h, List.getD_eq_getElem?_getD, List.getElem?_eq_getElem h]; rfl
  · rw [List.getElem?_eq_none (by rw [length_turnTo]; omega), List.getElem?_eq_none (by omega)]
theorem turnTo_ge (key b : List UInt8) (n : Nat) (hn : b.length ≤ n) : turnTo key b n = turnL key b := by
  unfold turnL turnTo
  apply List.map_congr_left
  intro i hi
  have := List.mem_range.1 hi
  rw [if_pos (by omega), if_pos this]
theorem turnTo_set (key b : List UInt8) (k : Nat) : (turnTo key b k).set k (b.getD k 0 ^^^ strm key k) = turnTo key b (k + 1) := by
  apply List.ext_getElem?
  intro i
  by_cases h : i < b.length
  · rw [turnTo_get _ _ _ _ h, List.getElem?_set, turnTo_get _ _ _ _ h, length_turnTo]
    by_cases e : k = i
    · subst e; rw [if_pos rfl, if_pos h, if_pos (by omega)]
    · rw [if_neg e]
      by_cases e2 : i < k
      · rw [if_pos e2, if_pos (by omega)]
      · rw [if_neg e2, if_neg (by omega)]
  · rw [List.getElem?_eq_none (by rw [List.length_set, length_turnTo]; omega), List.getElem?_eq_none (by rw [length_turnTo]; omega)]
theorem turnL_turnL (key b : List UInt8) : turnL key (turnL key b) = b := by
  apply List.ext_getElem?
  intro i
  by_cases h : i < b.length
  · have h2 : i < (turnL key b).length := by rw [length_turnL]; exact h
    have e1 : (turnL key b).getD i 0 = b.getD i 0 ^^^ strm key i := by
      rw [List.getD_eq_getElem?_getD]; unfold turnL; rw [turnTo_get _ _ _ _ h, if_pos h]; rfl
    have e2 : (turnL key (turnL key b))[i]? = some ((turnL key b).getD i 0 ^^^ strm key i) := by
      rw [turnL, turnTo_get _ _ _ _ h2, if_pos h2]
    rw [e2, e1, UInt8.xor_assoc, UInt8.xor_self, UInt8.xor_zero, List.getD_eq_getElem?_getD, List.getElem?_eq_getElem h]; rfl
  · rw [List.getElem?_eq_none (by rw [length_turnL, length_turnL]; omega), List.getElem?_eq_none (by omega)]
def tagL (key beside c : List UInt8) : List UInt8 := (mac key (([116] ++ put64 beside.length) ++ beside ++ c)).take 16
theorem length_tagL (key beside c : List UInt8) : (tagL key beside c).length = 16 := by rw [tagL, List.length_take, length_mac]; rfl
def sealL (key beside plain : List UInt8) : List UInt8 := turnL key plain ++ tagL key beside (turnL key plain)
theorem length_sealL (key beside plain : List UInt8) : (sealL key beside plain).length = plain.length + 16 := by rw [sealL, List.length_append, length_turnL, length_tagL]
def openL (key beside b : List UInt8) : Option (List UInt8) :=
  if b.length < 16 then none
  else if tagL key beside (b.take (b.length - 16)) = b.drop (b.length - 16) then some (turnL key (b.take (b.length - 16))) else none
theorem openL_sealL (key beside plain : List UInt8) : openL key beside (sealL key beside plain) = some plain := by
  unfold openL
  rw [if_neg (by rw [length_sealL]; omega), length_sealL, Nat.add_sub_cancel]
  have e1 : (sealL key beside plain).take plain.length = turnL key plain := by
    unfold sealL; rw [List.take_append_of_le_length (by rw [length_turnL]; exact Nat.le_refl _)]; exact List.take_of_length_le (by rw [length_turnL]; exact Nat.le_refl _)
  have e2 : (sealL key beside plain).drop plain.length = tagL key beside (turnL key plain) := by
    unfold sealL; rw [← length_turnL key plain, List.drop_left]
  rw [e1, e2, if_pos rfl, turnL_turnL]
/-- A byte stored in a row of one's own. -/
theorem own_set {w : World} {B g c n : Nat} {l : List UInt8} (h : w.ownsRow B 5 1 (.slice (some ⟨g, 0, none⟩) n c) n (l.map BV)) (j : Nat) (x : UInt8) :
    (w.setCell ⟨g, j, none⟩ (BV x)).ownsRow B 5 1 (.slice (some ⟨g, 0, none⟩) n c) n ((l.set j x).map BV) := by
  rw [List.map_set]; exact (h.stored j (BV x)).1
theorem own_cell {w : World} {B g c n : Nat} {l : List UInt8} (h : w.ownsRow B 5 1 (.slice (some ⟨g, 0, none⟩) n c) n (l.map BV)) (j : Nat) (x : UInt8) (hx : l[j]? = some x) : w.cell? ⟨g, j, none⟩ = some (BV x) ∧ w.frozen? ⟨g, j, none⟩ = false := by
  rcases h.2 with ⟨h', _⟩ | ⟨g', cap, cur, h', hb, hg, hnc, hcm, hcs, htake⟩
  · simp at h'
  · simp only [Value.slice.injEq, Option.some.injEq, Addr.mk.injEq, and_true, true_and] at h'
    obtain ⟨rfl, rfl⟩ := h'
    refine ⟨?_, frozen_of_row w g j cur _ hg⟩
    rw [cell_of_row w g j cur _ (0, 0) hg, ← Array.getElem?_toList]
    have hj : (l.map BV)[j]? = some (BV x) := by rw [List.getElem?_map, hx]; rfl
    rw [← htake, List.getElem?_take] at hj
    split at hj
    · exact hj
    · cases hj
end Go.Proofs.Yteialfdhbfbkgaa
