/-
  Bytes as a string; parts of what is seen.
-/
import Derived.Test.YtbgnfioggmkdeaaGreatDoorPh
import Derived.Laws.BytesArg
namespace Go.Proofs.YtbgnfioggmkdeaaGreatDoor
set_option linter.unusedVariables false
set_option linter.unusedSimpArgs false
open Go Go.RowKit

/-- 'string(b)' -/
theorem conv_str (w : World) (v : Value) (l : List UInt8) (h : SeesB w v l) : (convert 44 9 v).run Tryz.prog w = .ok (.string ⟨l.toArray⟩) w := by
  obtain ⟨hl, a, c, rfl, hc, hm, hnc, hb⟩ := h
  by_cases h0 : l.length = 0
  · obtain rfl : l = [] := List.eq_nil_of_length_eq_zero h0
    cases a with
    | none => exact run_convert_bytes_nil w _ _ u_bytes u_byte _ _ _ u_string
    | some a => exact run_convert_bytes_back w _ _ _ a c [] u_bytes u_byte u_string (fun j hj => by simp at hj)
  · obtain ⟨b, o, rfl, hcell⟩ := hb (by omega)
    exact run_convert_bytes_back w _ _ _ ⟨b, o, none⟩ c l u_bytes u_byte u_string (fun j hj => by
      have := hcell j (BV l[j]) (by rw [List.getElem?_map, List.getElem?_eq_getElem hj]; rfl)
      have e : (Addr.mk b o none).add j = ⟨b, o + j, none⟩ := by unfold Addr.add; split <;> simp_all
      rw [e]; exact this)

/-- The first k bytes. -/
theorem seesB_take {w : World} {a : Option Addr} {n c : Nat} {l : List UInt8} (h : SeesB w (.slice a n c) l) (k : Nat) (hk : k ≤ l.length) : SeesB w (.slice a k c) (l.take k) := by
  obtain ⟨h1, a', c', he, hc, hm, hnc, hb⟩ := h
  injection he with e1 e2 e3
  subst e1; subst e3
  have hl : (l.take k).length = k := by rw [List.length_take]; omega
  unfold SeesB; rw [hl]
  refine ⟨by rw [List.length_map, hl, Nat.mul_one], _, c, rfl, by omega, hm, hnc, fun h0 => ?_⟩
  obtain ⟨b, o, e, hcell⟩ := hb (by omega)
  refine ⟨b, o, e, fun j u hj => hcell j u ?_⟩
  rw [List.getElem?_map] at hj ⊢
  rw [List.getElem?_take] at hj
  split at hj
  · exact hj
  · cases hj
/-- A call that hands back bytes of its own, or none, and whether it has. -/
def RetO (o : Option (List UInt8)) (w : World) (e : Ending) (w' : World) : Prop := ∃ v', e = .returned (.tuple #[v', .bool o.isSome]) ∧ OwnB w' w.heap.size v' (o.getD []) ∧ Below w.heap.size w w'
/-- A call that hands back an entry whose box is the call's own, or none, and whether it has. -/
def RetOE (o : Option (Int × List UInt8)) (w : World) (e : Ending) (w' : World) : Prop := ∃ v', e = .returned (.tuple #[.agg #[.int .u64 (o.getD (0, [])).1, v'], .bool o.isSome]) ∧ OwnB w' w.heap.size v' (o.getD (0, [])).2 ∧ Below w.heap.size w w'
/-- What stands beside what is closed for a place, whatever number it is. -/
def besL (at_ : Int) : List UInt8 := put64 (u64of at_).toNat
theorem length_besL (at_ : Int) : (besL at_).length = 8 := rfl
theorem besL_nat (n : Nat) (h : n < 18446744073709551616) : besL n = put64 n := by unfold besL; rw [u64of_nat n h, Int.toNat_natCast]
def openE (blind mix : Int) (at_ : Int) (x : Int) (box : List UInt8) : Option (Int × List UInt8) :=
  if okP x then (openL (hopK (timesP x mix)) (besL at_) box).map (fun b => (timesP x blind, b)) else none
theorem length_openL {key beside b l : List UInt8} (h : openL key beside b = some l) : l.length + 16 = b.length := by
  unfold openL at h
  split at h
  · cases h
  · split at h
    · cases h; rw [length_turnL, List.length_take]; omega
    · cases h
theorem sees_cell {w : World} {sz b o m c n : Nat} {xs : List Value} (h : Sees w sz (.slice (some ⟨b, o, none⟩) m c) n xs) (hn : 0 < n) (j : Nat) (u : Value) (hj : xs[j]? = some u) : w.cell? ⟨b, o + j, none⟩ = some u := by
  obtain ⟨hl, a', c', he, hc, hm, hnc, hb⟩ := h
  injection he with e1 e2 e3
  subst e1
  obtain ⟨b', o', e, hcell⟩ := hb hn
  cases e
  exact hcell j u hj
/-- One element of a row of structs, k cells each. -/
theorem sees_elem {α : Type} {f : α → List Value} {k : Nat} (hk : ∀ a, (f a).length = k) {w : World} {sz b o m c n : Nat} {l : List α} (h : Sees w sz (.slice (some ⟨b, o, none⟩) m c) n (l.flatMap f)) (hn : 0 < n) (i : Nat) (a : α) (hi : l[i]? = some a) :
    w.rangeAt b (o + i * k) (f a) := fun j u hu => by
  have hj : j < k := by have := (List.getElem?_eq_some_iff.1 hu).1; rw [hk] at this; exact this
  rw [Nat.add_assoc]
  exact sees_cell h hn (i * k + j) u (by rw [flatMap_at hk l i j a hi hj]; exact hu)
theorem seesS_at {w : World} {b o m c n : Nat} {l : List Sec} (h : Sees w 3 (.slice (some ⟨b, o, none⟩) m c) n (l.flatMap Sec.cells)) (hn : 0 < n) (i : Nat) (s : Sec) (hi : l[i]? = some s) : w.rangeAt b (o + i * 3) s.cells := sees_elem Sec.length_cells h hn i s hi
theorem seesP_at {w : World} {b o m c n : Nat} {l : List Pub} (h : Sees w 10 (.slice (some ⟨b, o, none⟩) m c) n (l.flatMap Pub.cells)) (hn : 0 < n) (i : Nat) (p : Pub) (hi : l[i]? = some p) : w.rangeAt b (o + i * 10) p.cells := sees_elem Pub.length_cells h hn i p hi
/-- A struct of several cells loaded out of a row, in the head of a drawn region. -/
theorem wpQuiet_load_mid {P : Program} {ops : Array Oper} {C : World → Prop} {rest : List Oper} {o : Oper} {a : Act} {Q : Act → Prop} (hgd : o.guard = none) (ty : TypeId) (x : Operand) (ho : o.op = .load ty x)
    (b off : Nat) (hx : a.eval x = .pointer (some ⟨b, off, none⟩)) (cs : List Value) (d : TypeDesc) (hc : ∀ w', C w' → w'.rangeAt b off cs)
    (hu : P.underlying ty = some d) (hd : d.isRow = true) (hi : (P.info? ty).map (·.size) = some cs.length)
    (h : wpQuiet P ops C Q rest (a.put o.dst (.agg cs.toArray))) : wpQuiet P ops C Q (o :: rest) a := by
  unfold wpQuiet
  have hw : Region.wanted o (yielded ops a.tmps) = true := by simp [Region.wanted, hgd]
  rw [if_pos hw]
  refine ⟨.agg cs.toArray, fun w' hw' => ?_, h⟩
  unfold Oper.quietAt execOp
  simp only [ho, hx, Instr.loadAt, Instr.sureAddr, Sem.run_bind, Sem.run_pure, Result.andThen_ok, run_loadVar_mid w' b off ty cs d (hc w' hw') hu hd hi, Oper.quietUpon]
  simp
end Go.Proofs.YtbgnfioggmkdeaaGreatDoor
