/-
  Bytes as a string; parts of what is seen.
-/
import Derived.Test.YteialfdhbfbkgaaPh
import Derived.Laws.BytesArg
namespace Go.Proofs.Yteialfdhbfbkgaa
set_option linter.unusedVariables false
set_option linter.unusedSimpArgs false
open Go Go.RowKit

/-- 'string(b)' -/
theorem conv_str (w : World) (v : Value) (l : List UInt8) (h : SeesB w v l) : (convert 25 9 v).run Try.prog w = .ok (.string ⟨l.toArray⟩) w := by
  obtain ⟨hl, a, c, rfl, hc, hm, hnc, hb⟩ := h
  by_cases h0 : l.length = 0
  · obtain rfl : l = [] := List.eq_nil_of_length_eq_zero h0
    cases a with
    | none => exact run_convert_bytes_nil w _ _ u_bytes u_byte _ _ _ u_string
    | some a => exact run_convert_bytes_back w _ _ _ a c [] u_bytes u_byte u_string (fun j hj => by simp at hj)
  · obtain ⟨b, o, rfl, hcell⟩ := hb (by omega)
    exact run_convert_bytes_back w _ _ _ ⟨b, o, none⟩ c l u_bytes u_byte u_string (fun j hj => by
      have := hcell j (BV l[j]) (by rw [List.getElem?_map, List.getElem?_eq_getElem hj]; rfl)
      have e : (Addr.mk b o none).add j = ⟨b, o + j, none⟩ := by unfold Addr.add; split <;> simp_all
      rw [e]; exact this)

/-- The first k bytes. -/
theorem seesB_take {w : World} {a : Option Addr} {n c : Nat} {l : List UInt8} (h : SeesB w (.slice a n c) l) (k : Nat) (hk : k ≤ l.length) : SeesB w (.slice a k c) (l.take k) := by
  obtain ⟨h1, a', c', he, hc, hm, hnc, hb⟩ := h
  injection he with e1 e2 e3
  subst e1; subst e3
  have hl : (l.take k).length = k := by rw [List.length_take]; omega
  unfold SeesB; rw [hl]
  refine ⟨by rw [List.length_map, hl, Nat.mul_one], _, c, rfl, by omega, hm, hnc, fun h0 => ?_⟩
  obtain ⟨b, o, e, hcell⟩ := hb (by omega)
  refine ⟨b, o, e, fun j u hj => hcell j u ?_⟩
  rw [List.getElem?_map] at hj ⊢
  rw [List.getElem?_take] at hj
  split at hj
  · exact hj
  · cases hj
/-- A call that hands back bytes of its own, or none, and whether it has. -/
def RetO (o : Option (List UInt8)) (w : World) (e : Ending) (w' : World) : Prop := ∃ v', e = .returned (.tuple #[v', .bool o.isSome]) ∧ OwnB w' w.heap.size v' (o.getD []) ∧ Below w.heap.size w w'
/-- A call that hands back an entry whose box is the call's own, or none, and whether it has. -/
def RetOE (o : Option (Int × List UInt8)) (w : World) (e : Ending) (w' : World) : Prop := ∃ v', e = .returned (.tuple #[.agg #[.int .u64 (o.getD (0, [])).1, v'], .bool o.isSome]) ∧ OwnB w' w.heap.size v' (o.getD (0, [])).2 ∧ Below w.heap.size w w'
def openE (blind mix : Int) (at_ : Nat) (x : Int) (box : List UInt8) : Option (Int × List UInt8) :=
  if okP x then (openL (hopK (timesP x mix)) (put64 at_) box).map (fun b => (timesP x blind, b)) else none
end Go.Proofs.Yteialfdhbfbkgaa
