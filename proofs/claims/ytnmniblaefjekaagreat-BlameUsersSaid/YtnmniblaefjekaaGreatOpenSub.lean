/-
  Arguments opened: entries, submissions.
-/
import Derived.Test.YtnmniblaefjekaaGreatPr
import Derived.Test.YtnmniblaefjekaaGreatSub
namespace Go.Proofs.YtnmniblaefjekaaGreat
set_option linter.unusedVariables false
set_option linter.unusedSimpArgs false
open Go Go.RowKit Go.ChangeShapes Go.WideShapes Go.ChangeAt

theorem rd_entry {w : World} {cs : List Value} (h : Rd Tryz.prog w 32 cs) : ∃ (e : Ent) (v : Value), cs = [.int .u64 e.x, v] ∧ e.ok ∧ SeesB w v e.box := by
  obtain ⟨hl, _⟩ := rd_struct Tryz.underlying32 h
  rw [show Tryz.prog.cellsOf 32 = 2 from by kernel_rfl] at hl
  obtain ⟨x, h0, q0⟩ := rd_u64 (rd_field Tryz.underlying32 h 0 (off := 0) rfl cellsOf_u64)
  obtain ⟨v, l, h1, q1⟩ := rd_bytes (rd_field Tryz.underlying32 h 1 (off := 1) rfl (show Tryz.prog.cellsOf 25 = 1 from by kernel_rfl))
  clear h
  obtain ⟨c0, r0, rfl, l0⟩ := cons_of hl
  obtain ⟨c1, r1, rfl, l1⟩ := cons_of l0
  obtain rfl := List.eq_nil_of_length_eq_zero l1
  simp only [List.drop_zero, List.take_succ_cons, List.take_zero, List.drop_succ_cons, List.cons.injEq, and_true] at h0 h1
  subst h0 h1
  exact ⟨⟨x, l⟩, _, rfl, q0, q1⟩
theorem rd_sub {w : World} {cs : List Value} (h : Rd Tryz.prog w 36 cs) : ∃ (s : Sub) (v : Value), cs = s.cells v ∧ s.ok ∧ SeesB w v s.e.box := by
  obtain ⟨hl, _⟩ := rd_struct Tryz.underlying36 h
  rw [show Tryz.prog.cellsOf 36 = 38 from by kernel_rfl] at hl
  obtain ⟨u, q0, h0⟩ := rd_key (rd_field Tryz.underlying36 h 0 (off := 0) rfl cellsOf_key)
  obtain ⟨e, v, h1, q1, q2⟩ := rd_entry (rd_field Tryz.underlying36 h 1 (off := 32) rfl (show Tryz.prog.cellsOf 32 = 2 from by kernel_rfl))
  obtain ⟨c, s, h2, q3, q4⟩ := rd_proof (rd_field Tryz.underlying36 h 2 (off := 34) rfl cellsOf_proof)
  obtain ⟨c', s', h3, q5, q6⟩ := rd_proof (rd_field Tryz.underlying36 h 3 (off := 36) rfl cellsOf_proof)
  clear h
  refine ⟨⟨u, e, ⟨c, s⟩, ⟨c', s'⟩⟩, v, ?_, ⟨q0, q1, ⟨q3, q4⟩, ⟨q5, q6⟩⟩, q2⟩
  rw [List.drop_zero] at h0
  have e0 : cs = cs.take 32 ++ ((cs.drop 32).take 2 ++ ((cs.drop 34).take 2 ++ (cs.drop 36).take 2)) := by
    have a1 : (cs.drop 36).take 2 = cs.drop 36 := List.take_of_length_le (by rw [List.length_drop]; omega)
    have a2 : (cs.drop 34).take 2 ++ cs.drop 36 = cs.drop 34 := by rw [show cs.drop 36 = (cs.drop 34).drop 2 from by rw [List.drop_drop], List.take_append_drop]
    have a3 : (cs.drop 32).take 2 ++ cs.drop 34 = cs.drop 32 := by rw [show cs.drop 34 = (cs.drop 32).drop 2 from by rw [List.drop_drop], List.take_append_drop]
    rw [a1, a2, a3, List.take_append_drop]
  rw [e0, h0, h1, h2, h3]; rfl
section
variable {H : Type} {enc : TypeId × Value → H} {w : World} {v : Value} {d : DataW H} {p : List MemPlace} {base : Nat}
set_option maxRecDepth 100000 in
theorem openA_entry (hv : Value.okWide Tryz.prog w .any base 32 v) (h : DataW.Trod enc Tryz.prog w 0 (fun _ => true) true 32 v d p) : ∃ (e : Ent) (u : Value), v = .agg #[.int .u64 e.x, u] ∧ e.ok ∧ SeesB w u e.box := by
  obtain ⟨e, u, h1, h2, h3⟩ := rd_entry (rd_of h)
  exact ⟨e, u, cells_agg (by kernel_rfl) hv h1, h2, h3⟩
set_option maxRecDepth 100000 in
theorem openA_sub (hv : Value.okWide Tryz.prog w .any base 36 v) (h : DataW.Trod enc Tryz.prog w 0 (fun _ => true) true 36 v d p) : ∃ (s : Sub) (u : Value), v = .agg (subC s u) ∧ s.ok ∧ SeesB w u s.e.box := by
  obtain ⟨s, u, h1, h2, h3⟩ := rd_sub (rd_of h)
  exact ⟨s, u, cells_agg (by kernel_rfl) hv h1, h2, h3⟩
end
end Go.Proofs.YtnmniblaefjekaaGreat
