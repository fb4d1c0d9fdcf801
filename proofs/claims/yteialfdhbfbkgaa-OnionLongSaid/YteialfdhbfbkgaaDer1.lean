/-
  Keys derived: both programs.
-/
import Derived.Test.YteialfdhbfbkgaaMac3
import Derived.Test.YteialfdhbfbkgaaTree
import Derived.Test.YteialfdhbfbkgaaSign1
import Derived.Lib.AppendStr
namespace Go.Proofs.Yteialfdhbfbkgaa
set_option linter.unusedVariables false
set_option linter.unusedSimpArgs false
open Go Go.RowKit

theorem strCells_map (s : ByteArray) : Lib.strCells s = s.data.toList.map BV := rfl
/-- append(b, s...) of a string. -/
theorem appS {W w : World} {ops : Array Oper} {rest : List Oper} {o : Oper} {a : Act} {Q : Exit → Act → World → Prop} (hgd : o.guard = none) (s x : Operand)
    (ho : o.op = .call { callee := .builtin .append, args := #[s, x], argTypes := #[25, 9] })
    (v : Value) (l : List UInt8) (hs : a.eval s = v) (hown : OwnB w W.heap.size v l) (str : ByteArray) (hx : a.eval x = .string str)
    (hb : l.length + str.size ≤ 70368744177664) (hW : Below W.heap.size W w)
    (h : ∀ v' w', OwnB w' W.heap.size v' (l ++ str.data.toList) → w.grownBy w' v.ownBlock → Below W.heap.size W w' → wpList Try.prog ops Q rest (a.put o.dst v') w') : wpList Try.prog ops Q (o :: rest) a w := by
  obtain ⟨i, hi, hz, hsize, hby⟩ := info_parts info_u8
  refine Lib.wpList_append_own_string w hgd s x _ _ ho W.heap.size 5 i Try.underlying25 u_string hi hz hsize hby v l.length (l.map BV) hs hown str hx (by unfold maxLen; omega) (by omega) hW.size
    (fun v' w' h1 h2 _ => h v' w' ?_ h2 (hW.grown h2 hW.size (fun k hk => (hown.lt k hk).1)))
  rw [strCells_map, ← List.map_append] at h1
  have hl : (l ++ str.data.toList).length = l.length + str.size := by rw [List.length_append]; congr 1
  unfold OwnB; rw [hl]; exact h1
/-- A call that hands back bytes in blocks of its own. -/
def RetS (l : List UInt8) (w : World) (e : Ending) (w' : World) : Prop := ∃ v', e = .returned v' ∧ SeesB w' v' l ∧ (∀ g, v'.ownBlock = some g → w.heap.size ≤ g) ∧ Below w.heap.size w w'
theorem run_sliceB_to3 (a : Option Addr) (n c k : Nat) (hk : k ≤ c) (W : World) :
    (Instr.sliceAt 25 (.slice a n c) none (some (.int .i64 k)) (some (.int .i64 k))).run Try.prog W = .ok (.slice (if k = 0 then a else Option.map (fun x => x.add 0) a) k k) W := by
  obtain ⟨i, hi, hz, hsize, hby⟩ := info_parts info_u8
  have h1 : (k : Int) ≤ (c : Int) := by omega
  simp [Instr.sliceAt, Instr.slice, Instr.sliceBounds, Instr.sliceBound, run_underlying Try.underlying25, sizeOf, typeInfo, hi, hsize, go_sem, h1, hk]
def exp32 (key info : List UInt8) : List UInt8 := mac key (info ++ [1])
theorem length_exp32 (key info : List UInt8) : (exp32 key info).length = 32 := length_mac _ _
def ExpRel (w : World) (key E : List UInt8) (out last i : Value) (wr : World) : Prop :=
  (i = .int .i64 1 ∧ OwnB wr w.heap.size out [] ∧ SeesB wr last [] ∧ Blk wr w.heap.size (keyA key) 23 ∧ Below w.heap.size w wr) ∨
  (i = .int .i64 2 ∧ OwnB wr w.heap.size out E ∧ Below w.heap.size w wr)
end Go.Proofs.Yteialfdhbfbkgaa
