/-
  Arms for walks: what an operation makes, under a name; worlds that follow one another.
-/
import Derived.Test.YteialfdhbfbkgaaTree
import Derived.Test.YteialfdhbfbkgaaSha5
namespace Go.Proofs.Yteialfdhbfbkgaa
set_option linter.unusedVariables false
set_option linter.unusedSimpArgs false
open Go Go.RowKit

/-- From w to u nothing that w has is touched. -/
def Ext (w u : World) : Prop := Below w.heap.size w u
theorem Ext.refl (w : World) : Ext w w := Below.refl _ _
theorem Ext.tr {a b c : World} (h : Ext a b) (k : Ext b c) : Ext a c := Below.trans h (Below.mono k (Below.size h))
/-- From w to u nothing that w has is touched but the block g. -/
def ExtG (g : Option Nat) (w u : World) : Prop := w.grownBy u g
theorem ExtG.refl (g : Option Nat) (w : World) : ExtG g w w := grownBy_refl _ _
theorem ExtG.tr {g : Option Nat} {a b c : World} (h : ExtG g a b) (k : ExtG g b c) : ExtG g a c :=
  ⟨k.os.trans h.os, k.tape.trans h.tape, k.output.trans h.output, Nat.le_trans h.size k.size, fun i hi hne => (k.block i (Nat.lt_of_lt_of_le hi h.size) hne).trans (h.block i hi hne)⟩
theorem Ext.g {w u : World} (h : Ext w u) (g : Option Nat) : ExtG g w u := ⟨h.os, h.tape, h.output, h.size, fun k hk _ => h.block k hk⟩
theorem Ext.alloc (w : World) (o : Obj) : Ext w (w.alloc o) := show Below _ _ _ from by go_grown
theorem Ext.drew (w : World) : Ext w w.drew := Below.drew (Below.refl _ _)

/-- From w to u every key's block is as it was. -/
def KeepK (w u : World) : Prop := ∀ g cs, Blk w g cs 23 → Blk u g cs 23
theorem KeepK.refl (w : World) : KeepK w w := fun _ _ h => h
theorem KeepK.tr {a b c : World} (h : KeepK a b) (k : KeepK b c) : KeepK a c := fun g cs x => k g cs (h g cs x)
theorem Ext.k {w u : World} (h : Ext w u) : KeepK w u := fun _ _ x => x.below h
theorem KeepK.app {w u : World} {B : Nat} {v : Value} {l : List UInt8} (hown : OwnB w B v l) (hg : w.grownBy u v.ownBlock) : KeepK w u := fun g cs x => x.grownBy hg (fun e => by
  rcases hown.2 with ⟨rfl, _⟩ | ⟨g', cap, cur, rfl, _, hh, _⟩
  · cases e
  · have : g = g' := Option.some.inj e
    subst this
    unfold Blk at x
    rw [x] at hh
    injection hh with h1
    injection h1 with _ h2 _
    exact absurd h2 (by decide))
/-- A new variable, its block named. -/
theorem wpList_allocB {P : Program} {ops : Array Oper} {rest : List Oper} {o : Oper} {a : Act} {w : World} {Q : Exit → Act → World → Prop} (hgd : o.guard = none) (ty : TypeId) (ho : o.op = .alloc ty)
    (cs : Array Value) (hrun : ∀ w : World, (Instr.alloc ty true (.tuple #[])).run P w = .ok (.pointer (some ⟨w.heap.size, 0, none⟩)) (w.alloc (.cells cs ty)))
    (h : ∀ w' B, Blk w' B cs ty → w.heap.size ≤ B → Ext w w' → wpList P ops Q rest (a.put o.dst (.pointer (some ⟨B, 0, none⟩))) w') : wpList P ops Q (o :: rest) a w := by
  refine wpList_plain hgd fun K hK => ?_
  unfold Oper.wp
  simp only [execOp, ho, Sem.run_bind, hrun, Result.andThen_ok, Sem.run_pure]
  exact hK _ _ (h _ _ (Blk.new _ _ _) (Nat.le_refl _) (Ext.alloc _ _))
theorem run_allocKey (w : World) : (Instr.alloc 23 true (.tuple #[])).run Try.prog w = .ok (.pointer (some ⟨w.heap.size, 0, none⟩)) (w.alloc (.cells (keyA (List.replicate 32 0)) 23)) := by
  rw [keyA_zero]; simp [go_sem]
/-- A literal of one byte, its block named. -/
theorem wpList_lit1 {ops : Array Oper} {rest : List Oper} {o : Oper} {a : Act} {w : World} {Q : Exit → Act → World → Prop} (hgd : o.guard = none) (x : Operand) (ho : o.op = .buildSlice 25 1 #[(0, x)]) (b : UInt8) (hx : a.eval x = BV b)
    (h : ∀ w' B, SeesB w' (.slice (some ⟨B, 0, none⟩) 1 1) [b] → w.heap.size ≤ B → Ext w w' → wpList Try.prog ops Q rest (a.put o.dst (.slice (some ⟨B, 0, none⟩) 1 1)) w') : wpList Try.prog ops Q (o :: rest) a w := by
  have hrun : (Instr.buildSlice 25 1 #[(0, BV b)]).run Try.prog w = .ok (.slice (some ⟨w.heap.size, 0, none⟩) 1 1) (w.alloc (.cells #[BV b] 5)) := by simp [go_sem]
  refine wpList_plain hgd fun K hK => ?_
  unfold Oper.wp
  simp only [execOp, ho, List.map_toArray, List.map_cons, List.map_nil, hx, Sem.run_bind, hrun, Result.andThen_ok, Sem.run_pure]
  exact hK _ _ (h _ _ (seesB_one _ _ _) (Nat.le_refl _) (Ext.alloc _ _))
end Go.Proofs.Yteialfdhbfbkgaa
