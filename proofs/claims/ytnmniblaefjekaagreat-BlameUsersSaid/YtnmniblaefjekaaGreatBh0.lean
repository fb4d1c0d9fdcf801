/-
  Lists of entries and of steps that grow.
-/
import Derived.Test.YtnmniblaefjekaaGreatMade
import Derived.Test.YtnmniblaefjekaaGreatHop3
import Derived.Test.YtnmniblaefjekaaGreatHon2
import Derived.Test.YtnmniblaefjekaaGreatBl8
import Derived.Test.YtnmniblaefjekaaGreatBfa
namespace Go.Proofs.YtnmniblaefjekaaGreat
set_option linter.unusedVariables false
set_option linter.unusedSimpArgs false
open Go Go.RowKit

theorem info_lst3 : (Tryz.prog.info? 55).map (fun i => (i.zero, i.size, i.bytes)) = some (some (.slice none 0 0), 1, 24) := by kernel_rfl
theorem info_stp3 : (Tryz.prog.info? 57).map (fun i => (i.zero, i.size, i.bytes)) = some (some (.agg StpZ), 8, 80) := by kernel_rfl
theorem appL {W w : World} {ops : Array Oper} {rest : List Oper} {o : Oper} {a : Act} {Q : Exit → Act → World → Prop} (hgd : o.guard = none) (s x : Operand)
    (ho : o.op = .call { callee := .builtin .append, args := #[s, x], argTypes := #[48, 48] })
    {B : Nat} (hBW : B ≤ W.heap.size) (v : Value) (l : List (List Ent)) (hs : a.eval s = v) (hown : OwR entsR B W.heap.size w v l) (vx : Value) (l' : List (List Ent)) (hx : a.eval x = vx) (hsee : SlR entsR B w vx l')
    (hl : l.length + l'.length ≤ 1000000000) (hW : Below W.heap.size W w)
    (h : ∀ v' w', OwR entsR B W.heap.size w' v' (l ++ l') → w.grownBy w' v.ownBlock → Below W.heap.size W w' → wpList Tryz.prog ops Q rest (a.put o.dst v') w') : wpList Tryz.prog ops Q (o :: rest) a w :=
  appR entsR hgd s x 48 ho Tryz.underlying48 info_lst3 rfl (by decide) (by decide) hBW v l hs hown vx l' hx hsee hl hW h
theorem appT {W w : World} {ops : Array Oper} {rest : List Oper} {o : Oper} {a : Act} {Q : Exit → Act → World → Prop} (hgd : o.guard = none) (s x : Operand)
    (ho : o.op = .call { callee := .builtin .append, args := #[s, x], argTypes := #[61, 61] })
    {B : Nat} (hBW : B ≤ W.heap.size) (v : Value) (l : List Stp) (hs : a.eval s = v) (hown : OwR stpR B W.heap.size w v l) (vx : Value) (l' : List Stp) (hx : a.eval x = vx) (hsee : SlR stpR B w vx l')
    (hl : l.length + l'.length ≤ 1000000000) (hW : Below W.heap.size W w)
    (h : ∀ v' w', OwR stpR B W.heap.size w' v' (l ++ l') → w.grownBy w' v.ownBlock → Below W.heap.size W w' → wpList Tryz.prog ops Q rest (a.put o.dst v') w') : wpList Tryz.prog ops Q (o :: rest) a w :=
  appR stpR hgd s x 61 ho Tryz.underlying61 info_stp3 rfl (by decide) (by decide) hBW v l hs hown vx l' hx hsee hl hW h
/-- A literal of one. -/
theorem OwR.lit1 {α : Type} {R : Rp α} {B B0 : Nat} {w : World} {c : List Value} {y : α} (h : R.rel B w c y) (hB : B0 ≤ w.heap.size) : OwR R B B0 (w.alloc (.cells c.toArray R.ty)) (.slice (some ⟨w.heap.size, 0, none⟩) 1 1) [y] := by
  refine ⟨[c], ElR.one_of (R.keep h ((Ext.alloc w _).same _ _)), ?_⟩
  have hc := R.len h
  refine ⟨by simp [hc], .inr ⟨w.heap.size, 1, c.toArray, rfl, hB, Blk.new _ _ _, Nat.le_refl _, by decide, by simp [hc], ?_⟩⟩
  simp [hc, List.take_of_length_le]
/-- A literal of one step. -/
def Ph.slT (t : Stp) : Ph Ext := ⟨fun v u => (∃ g, v = .slice (some ⟨g, 0, none⟩) 1 1) ∧ SlR stpR 0 u v [t], fun _ _ _ h e => ⟨h.1, h.2.ext e⟩⟩
end Go.Proofs.YtnmniblaefjekaaGreat
