/-
  Passed of both programs.
-/
import Derived.Test.YtbgnfioggmkdeaaGreatDoorBl3
namespace Go.Proofs.YtbgnfioggmkdeaaGreatDoor
set_option linter.unusedVariables false
set_option linter.unusedSimpArgs false
open Go Go.RowKit

theorem pub_cell {w : World} {g : Nat} {p : Pub} {t : TypeId} (h : Blk w g p.cells.toArray t) : w.cell? ⟨g, 0, none⟩ = some (.int .u64 p.base) ∧ w.cell? ⟨g, 1, none⟩ = some (.int .u64 p.blind) ∧ w.cell? ⟨g, 2, none⟩ = some (.int .u64 p.mix) :=
  ⟨by rw [h.cell]; rfl, by rw [h.cell]; rfl, by rw [h.cell]; rfl⟩
theorem stp_cell {w : World} {g : Nat} {s : Stp} {vb : Value} {t : TypeId} (h : Blk w g (stpC s vb) t) : w.cell? ⟨g, 0, none⟩ = some (.int .i64 s.frm) ∧ w.cell? ⟨g, 1, none⟩ = some (.int .u64 s.e.x) ∧ w.cell? ⟨g, 2, none⟩ = some vb ∧ w.cell? ⟨g, 3, none⟩ = some (.int .u64 s.shared) ∧
    w.cell? ⟨g, 4, none⟩ = some (.int .u64 s.b.c) ∧ w.cell? ⟨g, 5, none⟩ = some (.int .u64 s.b.s) ∧ w.cell? ⟨g, 6, none⟩ = some (.int .u64 s.m.c) ∧ w.cell? ⟨g, 7, none⟩ = some (.int .u64 s.m.s) :=
  ⟨by rw [h.cell]; rfl, by rw [h.cell]; rfl, by rw [h.cell]; rfl, by rw [h.cell]; rfl, by rw [h.cell]; rfl, by rw [h.cell]; rfl, by rw [h.cell]; rfl, by rw [h.cell]; rfl⟩
theorem ent_cell {w : World} {g : Nat} {x : Int} {vb : Value} {t : TypeId} (h : Blk w g #[.int .u64 x, vb] t) : w.cell? ⟨g, 0, none⟩ = some (.int .u64 x) ∧ w.cell? ⟨g, 1, none⟩ = some vb := ⟨by rw [h.cell]; rfl, by rw [h.cell]; rfl⟩
theorem slE_at {B : Nat} {w : World} {b o m c : Nat} {l : List Ent} (h : SlR entR B w (.slice (some ⟨b, o, none⟩) m c) l) (i : Nat) (e : Ent) (hi : l[i]? = some e) :
    ∃ v, w.rangeAt b (o + i * 2) [.int .u64 e.x, v] ∧ SeesB w v e.box := by
  obtain ⟨ch, ⟨v, rfl, hv⟩, _, hr⟩ := h.at i e hi
  exact ⟨v, hr, hv.bytes⟩

end Go.Proofs.YtbgnfioggmkdeaaGreatDoor
