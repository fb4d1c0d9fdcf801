/-
  Arguments opened: secrets, draws.
-/
import Derived.Test.YtngkjngfiakmaaaDoorPr
import Derived.Test.YtngkjngfiakmaaaDoorPh
namespace Go.Proofs.YtngkjngfiakmaaaDoor
set_option linter.unusedVariables false
set_option linter.unusedSimpArgs false
open Go Go.RowKit Go.ChangeShapes Go.WideShapes Go.ChangeAt

theorem cellsOf_secK : Tryd.prog.cellsOf 27 = 3 := by kernel_rfl
theorem cellsOf_u64s : Tryd.prog.cellsOf 28 = 1 := by kernel_rfl
theorem rd_secK {w : World} {cs : List Value} (h : Rd Tryd.prog w 27 cs) : ∃ s : Sec, cs = s.cells ∧ s.ok := by
  obtain ⟨hl, _⟩ := rd_struct Tryd.underlying27 h
  rw [cellsOf_secK] at hl
  obtain ⟨a0, h0, q0⟩ := rd_u64 (rd_field Tryd.underlying27 h 0 (off := 0) rfl cellsOf_u64)
  obtain ⟨a1, h1, q1⟩ := rd_u64 (rd_field Tryd.underlying27 h 1 (off := 1) rfl cellsOf_u64)
  obtain ⟨a2, h2, q2⟩ := rd_u64 (rd_field Tryd.underlying27 h 2 (off := 2) rfl cellsOf_u64)
  clear h
  obtain ⟨c0, r0, rfl, l0⟩ := cons_of hl
  obtain ⟨c1, r1, rfl, l1⟩ := cons_of l0
  obtain ⟨c2, r2, rfl, l2⟩ := cons_of l1
  obtain rfl := List.eq_nil_of_length_eq_zero l2
  simp only [List.drop_zero, List.take_succ_cons, List.take_zero, List.drop_succ_cons, List.cons.injEq, and_true] at h0 h1 h2
  subst h0 h1 h2
  exact ⟨⟨a0, a1, a2⟩, rfl, q0, q1, q2⟩
theorem rd_secs {w : World} {cs : List Value} (h : Rd Tryd.prog w 33 cs) : ∃ (v : Value) (l : List Sec), cs = [v] ∧ SeesS w v l ∧ ∀ s ∈ l, s.ok := by
  obtain ⟨v, chs, h1, h2, h3⟩ := rd_slice Tryd.underlying33 cellsOf_secK (by decide) h
  obtain ⟨l, rfl, hq⟩ := reps_of (f := Sec.cells) (q := Sec.ok) chs (fun c hc => rd_secK (h3 c hc).2)
  refine ⟨v, l, h1, ?_, hq⟩
  rw [List.length_map, ← List.flatMap_def] at h2
  exact h2
theorem uus_of {w : World} : ∀ chs : List (List Value), (∀ c ∈ chs, ∃ u l, c = [u] ∧ SeesU w u l ∧ ∀ x ∈ l, in64 x) →
    ∃ dd : List (List Int), dd.length = chs.length ∧ (∀ (i : Nat) (l : List Int) (u : Value), dd[i]? = some l → chs.flatten[i]? = some u → SeesU w u l) ∧ ∀ l ∈ dd, ∀ x ∈ l, in64 x
  | [], _ => ⟨[], rfl, fun i l u h => by simp at h, fun l h => by cases h⟩
  | c :: chs, h => by
    obtain ⟨dd, h1, h2, h3⟩ := uus_of chs (fun c hc => h c (List.mem_cons_of_mem _ hc))
    obtain ⟨u, l, rfl, g1, g2⟩ := h c List.mem_cons_self
    refine ⟨l :: dd, by rw [List.length_cons, List.length_cons, h1], fun i l' u' hl hu => ?_, fun l' hl => ?_⟩
    · cases i with
      | zero => cases hl; cases hu; exact g1
      | succ i => exact h2 i l' u' hl hu
    · rcases List.mem_cons.1 hl with rfl | hl
      · exact g2
      · exact h3 l' hl
theorem rd_uus {w : World} {cs : List Value} (h : Rd Tryd.prog w 45 cs) : ∃ (v : Value) (dd : List (List Int)), cs = [v] ∧ SeesUU w v dd ∧ ∀ l ∈ dd, ∀ x ∈ l, in64 x := by
  obtain ⟨v, chs, h1, h2, h3⟩ := rd_slice Tryd.underlying45 cellsOf_u64s (by decide) h
  obtain ⟨dd, g1, g2, g3⟩ := uus_of (w := w) chs (fun c hc => rd_u64s (h3 c hc).2)
  exact ⟨v, dd, h1, ⟨chs.flatten, by rw [g1]; exact h2, g2⟩, g3⟩
section
variable {H : Type} {enc : TypeId × Value → H} {w : World} {v : Value} {d : DataW H} {p : List MemPlace} {base : Nat}
set_option maxRecDepth 100000 in
theorem openA_secs (hv : Value.okWide Tryd.prog w .any base 33 v) (h : DataW.Trod enc Tryd.prog w 0 (fun _ => true) true 33 v d p) : ∃ a, SeesS w v a ∧ ∀ s ∈ a, s.ok := by
  obtain ⟨u, l, h1, h2, h3⟩ := rd_secs (rd_of h)
  obtain rfl := cells_slice Tryd.underlying33 hv h1
  exact ⟨l, h2, h3⟩
set_option maxRecDepth 100000 in
theorem openA_uus (hv : Value.okWide Tryd.prog w .any base 45 v) (h : DataW.Trod enc Tryd.prog w 0 (fun _ => true) true 45 v d p) : ∃ a, SeesUU w v a ∧ ∀ l ∈ a, ∀ x ∈ l, in64 x := by
  obtain ⟨u, l, h1, h2, h3⟩ := rd_uus (rd_of h)
  obtain rfl := cells_slice Tryd.underlying45 hv h1
  exact ⟨l, h2, h3⟩
end
end Go.Proofs.YtngkjngfiakmaaaDoor
