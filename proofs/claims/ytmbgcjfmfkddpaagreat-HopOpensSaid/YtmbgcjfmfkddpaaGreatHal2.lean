/-
  The laws' example of hops.
-/
import Derived.Test.YtmbgcjfmfkddpaaGreatHal
import Derived.Test.YtmbgcjfmfkddpaaGreatZk
namespace Go.Proofs.YtmbgcjfmfkddpaaGreat
set_option linter.unusedVariables false
set_option linter.unusedSimpArgs false
open Go Go.RowKit

abbrev secZ : Sec := ⟨0, 0, 0⟩
abbrev pubZ : Pub := ⟨0, 0, 0, 0, 0, 0, 0, 0, 0, 0⟩
theorem secZ_ok : secZ.ok := by unfold Sec.ok in64; decide
theorem pubZ_ok : pubZ.ok := by unfold Pub.ok in64; decide
theorem run_buildSec0 (w : World) : (Instr.build 41 #[]).run Tryz.prog w = .ok (.agg secZ.cells.toArray) w := by simp [go_sem] <;> rfl
theorem run_buildPub0 (w : World) : (Instr.build 49 #[]).run Tryz.prog w = .ok (.agg pubZ.cells.toArray) w := by simp [go_sem] <;> rfl
theorem run_buildEnt1 (w : World) : (Instr.build 36 #[(0, .int .u64 1)]).run Tryz.prog w = .ok (.agg #[.int .u64 1, .slice none 0 0]) w := by simp [go_sem] <;> rfl
theorem wpList_build1 {P : Program} {ops : Array Oper} {rest : List Oper} {o : Oper} {a : Act} {w : World} {Q : Exit → Act → World → Prop} (hgd : o.guard = none) (ty : TypeId) (i : Nat) (x : Operand) (ho : o.op = .build ty #[(i, x)])
    (u r : Value) (hx : a.eval x = u) (hrun : (Instr.build ty #[(i, u)]).run P w = .ok r w) (h : wpList P ops Q rest (a.put o.dst r) w) : wpList P ops Q (o :: rest) a w := by
  refine wpList_plain hgd fun K hK => ?_
  unfold Oper.wp
  simp only [execOp, ho, List.map_toArray, List.map_cons, List.map_nil, hx, Sem.run_bind, hrun, Result.andThen_ok, Sem.run_pure]
  exact hK _ _ h
theorem runZ : runL secZ pubZ 0 [] [] 0 = ⟨[], equalP 0 0 1 1 0 0⟩ := rfl
theorem failsZ : failsL secZ 0 [] = [] := rfl
theorem failsZ1 : failsL secZ 0 [⟨1, []⟩] = [0] := by
  have h : opE secZ 0 ⟨1, []⟩ = none := by
    unfold opE openE
    split
    · rw [openL_short (by simp)]; rfl
    · rfl
  show [] ++ (match ([(⟨1, []⟩ : Ent)] : List Ent)[0]? with | some e => if (opE secZ 0 e).isNone then [(((0 : Nat)) : Int)] else [] | none => []) = [0]
  rw [show ([(⟨1, []⟩ : Ent)] : List Ent)[0]? = some ⟨1, []⟩ from rfl]
  simp only [h]; rfl
set_option maxRecDepth 100000 in
set_option maxHeartbeats 4000000 in
theorem alive19_any (w : World) : Calls Tryz.prog 6 #[] w fun e w' => e = .returned (.bool true) ∧ Below w.heap.size w w' := by
  have H1 := Lib.hid fun (u : World) => (show Calls Tryz.prog 11 #[.agg secZ.cells.toArray, .agg pubZ.cells.toArray, .int .i64 0, .slice none 0 0, .slice none 0 0, .int .u64 0] u _ from
    HRun_any secZ pubZ 0 [] [] 0 0 _ _ u secZ_ok pubZ_ok (by decide) (SlR.nil _ _) (SlR.nil _ _) (fun e h => by cases h) (by decide) (by decide))
  have H2 := Lib.hid fun (u : World) (v : Value) (h : SlR entR 0 u v [⟨1, []⟩]) => (show Calls Tryz.prog 11 #[.agg secZ.cells.toArray, .agg pubZ.cells.toArray, .int .i64 0, v, .slice none 0 0, .int .u64 0] u _ from
    HRun_any secZ pubZ 0 [⟨1, []⟩] [] 0 0 _ _ u secZ_ok pubZ_ok (by decide) h (SlR.nil _ _) (fun e h => by rw [List.mem_singleton] at h; subst h; exact ⟨⟨by decide, by decide⟩, by decide⟩) (by decide) (by decide))
  unfold RetH at H1 H2
  rw [runZ, failsZ] at H1
  rw [failsZ1] at H2
  generalize runL secZ pubZ 0 [⟨1, []⟩] [] 0 = R2 at *
  generalize equalP 0 0 1 1 0 0 = E1 at *
  have HZ1 := Lib.hid fun (W : World) => run_buildSec0 W
  have HZ2 := Lib.hid fun (W : World) => run_buildPub0 W
  generalize secZ.cells.toArray = SZ at *
  generalize pubZ.cells.toArray = PZ at *
  have tok := Lib.hid trivial
  have tok2 := Lib.hid trivial
  go_enter Tryz.func6, Tryz.ntmps6
  go_wp2_with (first
    | (refine wpList_build0 rfl 41 rfl _ (HZ1.out _) ?_)
    | (refine wpList_build0 rfl 49 rfl _ (HZ2.out _) ?_)
    | (have _t := tok.out; go_at_call 11; refine (H1.out _).mono ?_; rintro e x1 ⟨vE1, vB1, rfl, hE1, hB1, hb1⟩; obtain ⟨aE1, cE1, rfl, -, -⟩ := hE1.form; obtain ⟨aB1, cB1, rfl, -, -⟩ := hB1.form; have e1 : Ext w x1 := hb1; clear _t tok)
    | (have _t := tok2.out; refine wpList_allocB rfl _ rfl PasZ run_allocPas2 ?_; intro x2 B2 hh2 hB2 e2; clear _t tok2)
    | (refine wpList_store_row rfl 45 (.tmp 1) _ rfl B2 #[.slice aE1 0 cE1, .int .u64 E1.c, .int .u64 E1.s] _ _ rfl rfl hh2 rfl info_pas (one_pas2 _ _ _ _ _) ?_; intro x3 hg3 hs3 hR3
       have e3 : Ext w x3 := Ext.tr e1 (ext_rowK e2 hg3 hB2)
       clear hs3 hh2)
    | (go_at_call 11; refine (H2.out _ _ (SlR.lit1 (R := entR) (y := ⟨1, []⟩) (c := [.int .u64 1, .slice none 0 0]) ⟨_, rfl, SlR.nil _ _⟩)).mono ?_; rintro e x4 ⟨vE4, vB4, rfl, hE4, hB4, hb4⟩; obtain ⟨aE4, cE4, rfl, -, -⟩ := hE4.form; obtain ⟨aB4, cB4, rfl, -, -⟩ := hB4.form; have e34 : Ext x3 x4 := Ext.tr (Ext.alloc _ _) hb4; have e4 : Ext w x4 := Ext.tr e3 e34)
    | (refine wpList_allocB rfl _ rfl PasZ run_allocPas2 ?_; intro x5 B5 hh5 hB5 e5)
    | (refine wpList_store_row rfl 45 (.tmp 3) _ rfl B5 #[.slice aE4 R2.es.length cE4, .int .u64 R2.p.c, .int .u64 R2.p.s] _ _ rfl rfl hh5 rfl info_pas (one_pas2 _ _ _ _ _) ?_; intro x6 hg6 hs6 hR6
       have e46 : Ext x4 x6 := ext_rowK e5 hg6 hB5
       have e6 : Ext w x6 := Ext.tr e4 e46
       have hq6 : x6.cell? ⟨B2, 0, none⟩ = some (.slice aE1 0 cE1) := (by rw [(hR3.below (Ext.tr e34 e46)).cell]; rfl)
       clear hs6 hh5)
    | (refine wpList_build1 rfl 36 0 (.const (.int .u64 1)) (by with_reducible rfl) (.int .u64 1) _ rfl (run_buildEnt1 _) ?_))
  go_ret
  exact ⟨rfl, e6⟩
end Go.Proofs.YtmbgcjfmfkddpaaGreat
