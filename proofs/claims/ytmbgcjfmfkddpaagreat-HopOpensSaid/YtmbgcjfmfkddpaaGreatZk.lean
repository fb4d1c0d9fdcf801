/-
  A key of zeros, built.
-/
import Derived.Test.YtmbgcjfmfkddpaaGreatPf
namespace Go.Proofs.YtmbgcjfmfkddpaaGreat
set_option linter.unusedVariables false
set_option linter.unusedSimpArgs false
open Go Go.RowKit

theorem wpList_build0 {P : Program} {ops : Array Oper} {rest : List Oper} {o : Oper} {a : Act} {w : World} {Q : Exit → Act → World → Prop} (hgd : o.guard = none) (ty : TypeId) (ho : o.op = .build ty #[])
    (r : Value) (hrun : (Instr.build ty #[]).run P w = .ok r w) (h : wpList P ops Q rest (a.put o.dst r) w) : wpList P ops Q (o :: rest) a w := by
  refine wpList_plain hgd fun K hK => ?_
  unfold Oper.wp
  simp only [execOp, ho, List.map_toArray, List.map_nil, Sem.run_bind, hrun, Result.andThen_ok, Sem.run_pure]
  exact hK _ _ h
abbrev zKey : List UInt8 := List.replicate 32 0
theorem run_buildKey0 (w : World) : (Instr.build 23 #[]).run Tryz.prog w = .ok (.agg (keyA zKey)) w := by simp [go_sem] <;> rfl
end Go.Proofs.YtmbgcjfmfkddpaaGreat
