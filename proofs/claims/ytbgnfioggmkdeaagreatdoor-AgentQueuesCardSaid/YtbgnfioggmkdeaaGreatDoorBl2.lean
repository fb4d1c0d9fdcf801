/-
  Steps of a blame: their cells; what they share is proved.
-/
import Derived.Test.YtbgnfioggmkdeaaGreatDoorBl1
namespace Go.Proofs.YtbgnfioggmkdeaaGreatDoor
set_option linter.unusedVariables false
set_option linter.unusedSimpArgs false
open Go Go.RowKit

def stpC (t : Stp) (vb : Value) : Array Value := #[.int .i64 t.frm, .int .u64 t.e.x, vb, .int .u64 t.shared, .int .u64 t.b.c, .int .u64 t.b.s, .int .u64 t.m.c, .int .u64 t.m.s]
abbrev EntC2 (e : Ent) (v : Value) : Array Value := #[.int .u64 e.x, v]
theorem range_below {w u : World} {b o : Nat} {cs : List Value} (h : w.rangeAt b o cs) (hb : Ext w u) : u.rangeAt b o cs := fun j v hj => by
  have := h j v hj
  exact (Below.cell hb (World.block_lt_of_cell? w _ this)).trans this
theorem stp_m {w : World} {g : Nat} {t : Stp} {vb : Value} {ty : TypeId} (h : Blk w g (stpC t vb) ty) : w.rangeAt g 6 [.int .u64 t.m.c, .int .u64 t.m.s] := blk_range h 6 _ (fun j u hj => by
  match j, hj with
  | 0, hj => exact hj
  | 1, hj => exact hj)
theorem stp_b {w : World} {g : Nat} {t : Stp} {vb : Value} {ty : TypeId} (h : Blk w g (stpC t vb) ty) : w.rangeAt g 4 [.int .u64 t.b.c, .int .u64 t.b.s] := blk_range h 4 _ (fun j u hj => by
  match j, hj with
  | 0, hj => exact hj
  | 1, hj => exact hj)
theorem stp_e {w : World} {g : Nat} {t : Stp} {vb : Value} {ty : TypeId} (h : Blk w g (stpC t vb) ty) : w.rangeAt g 1 [.int .u64 t.e.x, vb] := blk_range h 1 _ (fun j u hj => by
  match j, hj with
  | 0, hj => exact hj
  | 1, hj => exact hj)
end Go.Proofs.YtbgnfioggmkdeaaGreatDoor
