/-
  Proofs and keys compared, in a walk and in a drawn region.
-/
import Derived.Test.YteialfdhbfbkgaaEqP
import Derived.Test.YteialfdhbfbkgaaSign1
import Derived.Stop.BytesEq
import Derived.BigQuiet
namespace Go.Proofs.Yteialfdhbfbkgaa
set_option linter.unusedVariables false
set_option linter.unusedSimpArgs false
open Go Go.RowKit

theorem run_eqKey (a b : List UInt8) (ha : a.length = 32) (hb : b.length = 32) (w : World) : (binOp .eql 23 (.agg (keyA a)) (.agg (keyA b))).run Try.prog w = .ok (.bool (a == b)) w := by
  have h1 : (Try.prog.info? 5).map (·.size) = some 1 := by kernel_rfl
  obtain ⟨ti, hti, hsz⟩ := Option.map_eq_some_iff.1 h1
  exact run_eql_bytes w 23 5 32 under_key u_byte (fun w => by simp [sizeOf, typeInfo, hti, hsz]) a b ha hb
theorem guard_key : Try.prog.eqGuardType Try.prog.depth 23 = false := by kernel_rfl
theorem quiet_eql {P : Program} {C : World → Prop} {o : Oper} {a : Act} {K : Act → Prop} (ty : TypeId) (x y : Operand) (ho : o.op = .binOp .eql ty x y ty) (xs ys : Array Value) (v : Value) (hx : a.eval x = .agg xs) (hy : a.eval y = .agg ys)
    (hg : P.eqGuardType P.depth ty = false) (hr : ∀ w, (binOp .eql ty (.agg xs) (.agg ys)).run P w = .ok v w) (hk : K (a.put o.dst v)) : o.quiet P a C K :=
  ⟨v, fun w _ => by
    unfold Oper.quietAt
    simp only [execOp, ho, hx, hy, Sem.run_bind, run_eqGuard_agg w .eql ty x y xs ys hg, Result.andThen_ok, hr w]
    exact ⟨rfl, rfl⟩, hk⟩
theorem wpList_eql {P : Program} {ops : Array Oper} {rest : List Oper} {o : Oper} {a : Act} {w : World} {Q : Exit → Act → World → Prop} (hgd : Region.wanted o (yielded ops a.tmps) = true) (ty : TypeId) (x y : Operand)
    (ho : o.op = .binOp .eql ty x y ty) (xs ys : Array Value) (v : Value) (hx : a.eval x = .agg xs) (hy : a.eval y = .agg ys) (hg : P.eqGuardType P.depth ty = false) (hr : ∀ w, (binOp .eql ty (.agg xs) (.agg ys)).run P w = .ok v w)
    (h : wpList P ops Q rest (a.put o.dst v) w) : wpList P ops Q (o :: rest) a w := by
  unfold wpList
  rw [if_pos hgd]
  refine .inl ?_
  unfold Oper.wp
  simp only [execOp, ho, hx, hy, Sem.run_bind, run_eqGuard_agg w .eql ty x y xs ys hg, Result.andThen_ok, hr w]
  exact h
end Go.Proofs.Yteialfdhbfbkgaa
