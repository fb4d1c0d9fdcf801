/-
  What a hop answers in a blame: the program.
-/
import Derived.Test.YtbgnfioggmkdeaaGreatDoorBl4
import Derived.Laws.Cover3
namespace Go.Proofs.YtbgnfioggmkdeaaGreatDoor
set_option linter.unusedVariables false
set_option linter.unusedSimpArgs false
open Go Go.RowKit

theorem ext_row {w x u : World} {g : Nat} (e : Ext w x) (hg : x.grownBy u (some g)) (h : w.heap.size ≤ g) : Ext w u := Below.grown e hg (Below.size e) (fun k hk => by cases hk; exact h)
theorem ownB_lit0 (w : World) : OwnB (w.alloc (.cells #[] 5)) w.heap.size (.slice (some ⟨w.heap.size, 0, none⟩) 0 0) [] :=
  ⟨rfl, .inr ⟨w.heap.size, 0, #[], rfl, Nat.le_refl _, heap_alloc_new _ _, Nat.le_refl _, by decide, rfl, rfl⟩⟩
theorem run_eql_bytes_nil (a : Option Addr) (n c : Nat) (w : World) : (binOp .eql 44 (.slice a n c) (.slice none 0 0)).run Tryz.prog w = .ok (.bool a.isNone) w := by
  have h := run_equal_slice_nil (P := Tryz.prog) w 44 5 a n c u_bytes
  simp [binOp, h]
/-- A step whose box is the call's own. -/
def RetSt (t : Stp) (w : World) (e : Ending) (w' : World) : Prop := ∃ v', e = .returned (.agg (stpC t v')) ∧ OwnB w' w.heap.size v' t.e.box ∧ Below w.heap.size w w'
theorem sec_cell {w : World} {g : Nat} {s : Sec} {t : TypeId} (h : Blk w g s.cells.toArray t) : w.cell? ⟨g, 0, none⟩ = some (.int .u64 s.blind) ∧ w.cell? ⟨g, 1, none⟩ = some (.int .u64 s.mix) ∧ w.cell? ⟨g, 2, none⟩ = some (.int .u64 s.inner) :=
  ⟨by rw [h.cell]; rfl, by rw [h.cell]; rfl, by rw [h.cell]; rfl⟩
abbrev StpZ : Array Value := #[.int .i64 0, .int .u64 0, .slice none 0 0, .int .u64 0, .int .u64 0, .int .u64 0, .int .u64 0, .int .u64 0]
end Go.Proofs.YtbgnfioggmkdeaaGreatDoor
