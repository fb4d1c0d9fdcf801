/-
  Arguments opened: entries, submissions.
-/
import Derived.Test.YtmbgcjfmfkddpaaGreatPr
import Derived.Test.YtmbgcjfmfkddpaaGreatSub
namespace Go.Proofs.YtmbgcjfmfkddpaaGreat
set_option linter.unusedVariables false
set_option linter.unusedSimpArgs false
open Go Go.RowKit Go.ChangeShapes Go.WideShapes Go.ChangeAt

theorem rd_entry {w : World} {cs : List Value} (h : Rd Tryz.prog w 36 cs) : ∃ (e : Ent) (v : Value), cs = [.int .u64 e.x, v] ∧ e.ok ∧ SeesB w v e.box := by
  obtain ⟨hl, _⟩ := rd_struct Tryz.underlying36 h
  rw [show Tryz.prog.cellsOf 36 = 2 from by kernel_rfl] at hl
  obtain ⟨x, h0, q0⟩ := rd_u64 (rd_field Tryz.underlying36 h 0 (off := 0) rfl cellsOf_u64)
  obtain ⟨v, l, h1, q1⟩ := rd_bytes (rd_field Tryz.underlying36 h 1 (off := 1) rfl (show Tryz.prog.cellsOf 34 = 1 from by kernel_rfl))
  clear h
  obtain ⟨c0, r0, rfl, l0⟩ := cons_of hl
  obtain ⟨c1, r1, rfl, l1⟩ := cons_of l0
  obtain rfl := List.eq_nil_of_length_eq_zero l1
  simp only [List.drop_zero, List.take_succ_cons, List.take_zero, List.drop_succ_cons, List.cons.injEq, and_true] at h0 h1
  subst h0 h1
  exact ⟨⟨x, l⟩, _, rfl, q0, q1⟩
section
variable {H : Type} {enc : TypeId × Value → H} {w : World} {v : Value} {d : DataW H} {p : List MemPlace} {base : Nat}
set_option maxRecDepth 100000 in
theorem openA_entry (hv : Value.okWide Tryz.prog w .any base 36 v) (h : DataW.Trod enc Tryz.prog w 0 (fun _ => true) true 36 v d p) : ∃ (e : Ent) (u : Value), v = .agg #[.int .u64 e.x, u] ∧ e.ok ∧ SeesB w u e.box := by
  obtain ⟨e, u, h1, h2, h3⟩ := rd_entry (rd_of h)
  exact ⟨e, u, cells_agg (by kernel_rfl) hv h1, h2, h3⟩
end
end Go.Proofs.YtmbgcjfmfkddpaaGreat
