/-
  Steps of a blame: their cells; what they share is proved.
-/
import Derived.Test.YtnmniblaefjekaaGreatBl1
namespace Go.Proofs.YtnmniblaefjekaaGreat
set_option linter.unusedVariables false
set_option linter.unusedSimpArgs false
open Go Go.RowKit

def stpC (t : Stp) (vb : Value) : Array Value := #[.int .i64 t.frm, .int .u64 t.e.x, vb, .int .u64 t.shared, .int .u64 t.b.c, .int .u64 t.b.s, .int .u64 t.m.c, .int .u64 t.m.s]
abbrev EntC2 (e : Ent) (v : Value) : Array Value := #[.int .u64 e.x, v]
theorem info_stp : (Tryz.prog.info? 57).map (·.size) = some 8 := by kernel_rfl
theorem range_below {w u : World} {b o : Nat} {cs : List Value} (h : w.rangeAt b o cs) (hb : Ext w u) : u.rangeAt b o cs := fun j v hj => by
  have := h j v hj
  exact (Below.cell hb (World.block_lt_of_cell? w _ this)).trans this
theorem stp_m {w : World} {g : Nat} {t : Stp} {vb : Value} {ty : TypeId} (h : Blk w g (stpC t vb) ty) : w.rangeAt g 6 [.int .u64 t.m.c, .int .u64 t.m.s] := blk_range h 6 _ (fun j u hj => by
  match j, hj with
  | 0, hj => exact hj
  | 1, hj => exact hj)
theorem stp_b {w : World} {g : Nat} {t : Stp} {vb : Value} {ty : TypeId} (h : Blk w g (stpC t vb) ty) : w.rangeAt g 4 [.int .u64 t.b.c, .int .u64 t.b.s] := blk_range h 4 _ (fun j u hj => by
  match j, hj with
  | 0, hj => exact hj
  | 1, hj => exact hj)
theorem stp_e {w : World} {g : Nat} {t : Stp} {vb : Value} {ty : TypeId} (h : Blk w g (stpC t vb) ty) : w.rangeAt g 1 [.int .u64 t.e.x, vb] := blk_range h 1 _ (fun j u hj => by
  match j, hj with
  | 0, hj => exact hj
  | 1, hj => exact hj)
set_option maxRecDepth 100000 in
set_option maxHeartbeats 1000000 in
theorem bmixed_any (p : Pub) (t : Stp) (vb : Value) (w : World) (hp : p.ok) (ht : t.ok) (h1 : vb.oneCell' = true) :
    Calls Tryz.prog 62 #[.agg p.cells.toArray, .agg (stpC t vb)] w fun e w' => e = .returned (.bool (decide (mixedOk p t))) ∧ Below w.heap.size w w' := by
  have hA := Lib.hid fun w' : World => CheckEqual_any p.base p.mix t.e.x t.shared t.m.c t.m.s w' hp.1 hp.2.2.1 ht.2.1 ht.2.2.1 ht.2.2.2.2.1 ht.2.2.2.2.2
  have hM : decide (equalOk p.base p.mix t.e.x t.shared t.m.c t.m.s) = decide (mixedOk p t) := by unfold mixedOk; rfl
  rw [hM] at hA
  generalize decide (mixedOk p t) = D at *
  have hB1 := Lib.hid (Blk.new2 w (.cells p.cells.toArray 60) (stpC t vb) 57)
  have hb0 := Lib.hid (show Below w.heap.size w ((w.alloc (.cells p.cells.toArray 60)).alloc (.cells (stpC t vb) 57)) by go_grown)
  have hP := Lib.hid ((Blk.new w p.cells.toArray 60).alloc (.cells (stpC t vb) 57))
  have c0 : ((w.alloc (.cells p.cells.toArray 60)).alloc (.cells (stpC t vb) 57)).cell? ⟨w.heap.size, 0, none⟩ = some (.int .u64 p.base) := by rw [hP.out.cell]; rfl
  have c1 : ((w.alloc (.cells p.cells.toArray 60)).alloc (.cells (stpC t vb) 57)).cell? ⟨w.heap.size, 2, none⟩ = some (.int .u64 p.mix) := by rw [hP.out.cell]; rfl
  have c2 : ((w.alloc (.cells p.cells.toArray 60)).alloc (.cells (stpC t vb) 57)).cell? ⟨w.heap.size + 1, 1, none⟩ = some (.int .u64 t.e.x) := by rw [hB1.out.cell]; rfl
  have c3 : ((w.alloc (.cells p.cells.toArray 60)).alloc (.cells (stpC t vb) 57)).cell? ⟨w.heap.size + 1, 3, none⟩ = some (.int .u64 t.shared) := by rw [hB1.out.cell]; rfl
  have hm := Lib.hid (stp_m hB1.out)
  clear hp ht
  generalize p.cells.toArray = PC at *
  generalize stpC t vb = TC at *
  generalize t.m.c = mc at *
  generalize t.m.s = ms at *
  generalize t.e.x = X at *
  generalize t.shared = SH at *
  generalize p.base = pb at *
  generalize p.mix = pm at *
  go_enter Tryz.func62, Tryz.ntmps62
  go_wp2_with (first
    | (refine wpList_load_mid rfl 34 _ rfl (w.heap.size + 1) 6 rfl _ _ hm.out Tryz.underlying34 rfl info_proof ?_)
    | (go_at_call 65; refine (hA.out _).mono ?_; rintro e x1 ⟨rfl, hb1⟩))
  go_ret
  exact ⟨rfl, hb0.out.trans (hb1.mono hb0.out.size)⟩
end Go.Proofs.YtnmniblaefjekaaGreat
