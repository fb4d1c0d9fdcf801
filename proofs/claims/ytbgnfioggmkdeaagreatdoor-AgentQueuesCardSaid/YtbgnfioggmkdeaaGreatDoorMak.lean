/-
  A server's secrets made: the program.
-/
import Derived.Test.YtbgnfioggmkdeaaGreatDoorNam
import Derived.Test.YtbgnfioggmkdeaaGreatDoorKc
import Derived.Great.BuildSlice
namespace Go.Proofs.YtbgnfioggmkdeaaGreatDoor
set_option linter.unusedVariables false
set_option linter.unusedSimpArgs false
open Go Go.RowKit

theorem wpList_litI {ops : Array Oper} {rest : List Oper} {o : Oper} {a : Act} {w : World} {Q : Exit → Act → World → Prop} (hgd : o.guard = none) (x y z : Operand) (ho : o.op = .buildSlice 38 3 #[(0, x), (1, y), (2, z)])
    (a1 a2 a3 : Int) (hx : a.eval x = IV a1) (hy : a.eval y = IV a2) (hz : a.eval z = IV a3)
    (h : ∀ w' B, SeesI w' (.slice (some ⟨B, 0, none⟩) 3 3) [a1, a2, a3] → Ext w w' → wpList Tryz.prog ops Q rest (a.put o.dst (.slice (some ⟨B, 0, none⟩) 3 3)) w') : wpList Tryz.prog ops Q (o :: rest) a w := by
  have hrun : (Instr.buildSlice 38 3 #[(0, IV a1), (1, IV a2), (2, IV a3)]).run Tryz.prog w = .ok (.slice (some ⟨w.heap.size, 0, none⟩) 3 3) (w.alloc (.cells #[IV a1, IV a2, IV a3] 3)) := by simp [go_sem]
  refine wpList_plain hgd fun K hK => ?_
  unfold Oper.wp
  simp only [execOp, ho, List.map_toArray, List.map_cons, List.map_nil, hx, hy, hz, Sem.run_bind, hrun, Result.andThen_ok, Sem.run_pure]
  exact hK _ _ (h _ _ (sees_new w 1 #[IV a1, IV a2, IV a3] _ 3 rfl (by decide)) (Ext.alloc _ _))
theorem info_bptr : (Tryz.prog.info? 182).map (·.size) = some 1 := by kernel_rfl
theorem run_allocBP (w : World) : (Instr.alloc 182 true (.tuple #[])).run Tryz.prog w = .ok (.pointer (some ⟨w.heap.size, 0, none⟩)) (w.alloc (.cells #[.pointer none] 182)) := by simp [go_sem]
theorem wpList_store1 {P : Program} {ops : Array Oper} {rest : List Oper} {op : Oper} {a : Act} {w : World} {Q : Exit → Act → World → Prop} (hgd : op.guard = none) (ty : TypeId) (x y : Operand) (ho : op.op = .store ty x y) (hd : op.dst = none)
    (g : Nat) (v old : Value) (t : TypeId) (hx : a.eval x = .pointer (some ⟨g, 0, none⟩)) (hy : a.eval y = v) (h1 : v.oneCell' = true) (hb : Blk w g #[old] t) (hi : (P.info? ty).map (·.size) = some 1)
    (h : ∀ w', w.grownBy w' (some g) → w'.heap.size = w.heap.size → Blk w' g #[v] t → wpList P ops Q rest a w') : wpList P ops Q (op :: rest) a w :=
  wpList_store_oneTo hgd ty x y ho hd g v hx hy h1 t old hb hi (h _ ⟨rfl, rfl, rfl, by simp [World.setRow], fun k _ hne => setRow_other w g k _ (fun e => hne (by rw [e]))⟩ (by simp [World.setRow]) (setRow_heap w g _ _ t _ hb))
theorem exI {w w' : World} {v : Value} {l : List Int} (h : SeesI w v l) (e : Ext w w' := by first | with_reducible exact Ext.refl _ | solve_by_elim (maxDepth := 30) [Ext.tr]) : SeesI w' v l := h.below e (by decide)
theorem exS {w w' : World} {g : Nat} {seed name : List UInt8} {i : Int} (h : BB g seed name i w) (e : Ext w w' := by first | with_reducible exact Ext.refl _ | solve_by_elim (maxDepth := 30) [Ext.tr]) : BB g seed name i w' := h.below e
theorem BB.ne {g A : Nat} {seed name : List UInt8} {i : Int} {w : World} {cs : Array Value} (h : BB g seed name i w) (hA : Blk w A cs 182) : A ≠ g := fun e => by
  obtain ⟨cs', hb⟩ := h.blk
  subst e
  exact (RowT.blk hA).ne (RowT.blk hb) (by decide) A rfl rfl
theorem BB.neH {S : World → Prop} {w u : World} {g A : Nat} {seed name : List UInt8} {i : Int} {cs : Array Value} (hk : HoldT S w u) (h : BB g seed name i u) (hA : Blk u A cs 182) : A ≠ g := h.ne hA
theorem BB.grownH {g : Nat} {seed name : List UInt8} {i : Int} {u u' : World} {r : Option Nat} (hg : u.grownBy u' r) (h : BB g seed name i u) (hn : some g ≠ r) : BB g seed name i u' := h.grownBy hg hn
/-- What the loop keeps. -/
def MakRel (w : World) (seed nm : List UInt8) (A g C : Nat) (k0 k1 k2 : Int) (KS : List Int) (l i : Value) (wr : World) : Prop :=
  ∃ k : Nat, k ≤ 3 ∧ i = .int .i64 k ∧ OwnU wr w.heap.size l (KS.take k) ∧ BB g seed nm (3 + k) wr ∧ Blk wr A #[.pointer (some ⟨g, 0, none⟩)] 182 ∧
    Blk wr C (SecC k0 k1 k2) 86 ∧ Blk wr (w.heap.size + 1) (SecC 0 0 0) 86 ∧ Below w.heap.size w wr
end Go.Proofs.YtbgnfioggmkdeaaGreatDoor
