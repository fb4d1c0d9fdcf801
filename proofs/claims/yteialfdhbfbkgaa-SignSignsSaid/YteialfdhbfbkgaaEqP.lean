/-
  Two proofs compared.
-/
import Derived.Test.YteialfdhbfbkgaaProof1
import Derived.Laws.StructEq
namespace Go.Proofs.Yteialfdhbfbkgaa
set_option linter.unusedVariables false
set_option linter.unusedSimpArgs false
open Go Go.RowKit
theorem stood_proof : Try.prog.stoodInHeld 43 = false := by kernel_rfl
theorem guard_proof : Try.prog.eqGuardType Try.prog.depth 43 = false := by kernel_rfl
theorem fields_proof : Try.prog.underlying 43 = some (.struct (Try.prog.fieldsOf 43)) := by kernel_rfl
theorem run_eqP (c s c' s' : Int) (w : World) : (binOp .eql 43 (PV c s) (PV c' s')).run Try.prog w = .ok (.bool (c == c' && s == s')) w := by
  unfold PV
  rw [run_eql_struct, run_equalIn_agg w 9999 _ _ _ fields_proof stood_proof]
  unfold Program.fieldsOf
  rw [Try.underlying43]
  have h1 : (Try.prog.info? 24).map (·.size) = some 1 := by kernel_rfl
  obtain ⟨ti, hti, hsz⟩ := Option.map_eq_some_iff.1 h1
  have e (a b : Int) := run_equalIn_int (P := Try.prog) w 9998 24 .u64 .u64 a b Try.underlying24
  simp [Op.eqFields, part, sizeOf, typeInfo, hti, hsz, e, go_sem]
  by_cases h : c = c' <;> by_cases k : s = s' <;> simp [h, k]
theorem wpList_eqP {ops : Array Oper} {rest : List Oper} {o : Oper} {a : Act} {w : World} {Q : Exit → Act → World → Prop} (hgd : Region.wanted o (yielded ops a.tmps) = true) (x y : Operand)
    (ho : o.op = .binOp .eql 43 x y 43) (c s c' s' : Int) (hx : a.eval x = PV c s) (hy : a.eval y = PV c' s')
    (h : wpList Try.prog ops Q rest (a.put o.dst (.bool (c == c' && s == s'))) w) : wpList Try.prog ops Q (o :: rest) a w := by
  unfold wpList
  rw [if_pos hgd]
  have hrun := run_eqP c s c' s' w
  have hgu := run_eqGuard_agg w .eql 43 x y #[.int .u64 c, .int .u64 s] #[.int .u64 c', .int .u64 s'] guard_proof
  refine .inl ?_
  unfold Oper.wp
  simp only [execOp, ho, hx, hy]
  simp only [Sem.run_bind, PV, hgu, Result.andThen_ok]
  simp only [PV] at hrun
  rw [hrun]
  exact h
end Go.Proofs.Yteialfdhbfbkgaa
