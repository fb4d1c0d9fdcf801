/-
  A pass of a hop: the reference.
-/
import Derived.Test.YtmbgcjfmfkddpaaGreatHop2
namespace Go.Proofs.YtmbgcjfmfkddpaaGreat
set_option linter.unusedVariables false
set_option linter.unusedSimpArgs false
open Go Go.RowKit

def HRel1 (w : World) (SC PC : Array Value) (s : Sec) (at_ : Int) (es : List Ent) (vo vb i : Value) (wr : World) : Prop :=
  ∃ n : Nat, n ≤ es.length ∧ i = .int .i64 n ∧ OwR entR 0 w.heap.size wr vo (opened s at_ (es.take n)) ∧ OwR intR 0 w.heap.size wr vb (failsN s at_ es n) ∧ HoC w SC PC wr ∧ Ext w wr
def HRel2 (w wr : World) (G : Nat) (O : List Ent) (i : Value) (wq : World) : Prop :=
  ∃ (n : Nat) (vE : Value), n ≤ O.length ∧ i = .int .i64 n ∧ Blk wq G #[vE, .int .u64 0, .int .u64 0] 45 ∧ OwR entR 0 wr.heap.size wq vE (O.take n) ∧ Ext wr wq
theorem length_orderL (es : List Ent) (order : List Int) : (orderL es order).length = es.length := by
  unfold orderL
  split
  · rename_i h; rw [List.length_map]; exact h.1
  · rfl
theorem orderL_ok {es : List Ent} {order : List Int} (h : ∀ e ∈ es, e.ok) : ∀ e ∈ orderL es order, e.ok := by
  unfold orderL
  split
  · rename_i ho
    intro e he
    obtain ⟨i, hi, rfl⟩ := List.mem_map.1 he
    have h1 := ho.2.1 i hi
    rw [List.getD_eq_getElem?_getD, List.getElem?_eq_getElem (by rw [← ho.1]; omega)]
    exact h _ (List.getElem_mem _)
  · exact h
theorem opened_ok {s : Sec} {at_ : Int} {es : List Ent} : ∀ e ∈ opened s at_ es, e.ok := by
  intro e he
  obtain ⟨e0, _, rfl⟩ := List.mem_map.1 he
  cases h : opE s at_ e0 with
  | none => exact ⟨Int.le_refl _, by decide⟩
  | some e' => exact (opE_ok h).1
theorem run_allocEnt (w : World) : (Instr.alloc 36 true (.tuple #[])).run Tryz.prog w = .ok (.pointer (some ⟨w.heap.size, 0, none⟩)) (w.alloc (.cells #[.int .u64 0, .slice none 0 0] 36)) := by simp [go_sem]
end Go.Proofs.YtmbgcjfmfkddpaaGreat
