/-
  Arguments opened: numbers, bytes, keys, proofs.
-/
import Derived.Test.YteialfdhbfbkgaaRd
import Derived.Test.YteialfdhbfbkgaaProof1
import Derived.Test.YteialfdhbfbkgaaRow
namespace Go.Proofs.Yteialfdhbfbkgaa
set_option linter.unusedVariables false
set_option linter.unusedSimpArgs false
open Go Go.RowKit Go.ChangeShapes Go.WideShapes Go.ChangeAt

theorem laidOut : laidOutB Try.prog = true := by kernel_rfl
theorem own : ownKnob Try.prog.godebug = none := by kernel_rfl
theorem rd_u64 {w : World} {cs : List Value} (h : Rd Try.prog w 24 cs) : ∃ n, cs = [UV n] ∧ in64 n := by
  obtain ⟨n, h1, h2⟩ := rd_int Try.underlying24 h
  exact ⟨n, h1, wf_u64 h2⟩
theorem rd_u8 {w : World} {cs : List Value} (h : Rd Try.prog w 5 cs) : ∃ b : UInt8, cs = [BV b] := by
  obtain ⟨n, h1, h2⟩ := rd_int Try.underlying5 h
  have hb := bounds_u8 h2
  refine ⟨UInt8.ofNat n.toNat, ?_⟩
  rw [h1]
  have : ((UInt8.ofNat n.toNat).toNat : Int) = n := by simp; omega
  simp only [BV, this]
theorem cellsOf_u8 : Try.prog.cellsOf 5 = 1 := by kernel_rfl
theorem cellsOf_u64 : Try.prog.cellsOf 24 = 1 := by kernel_rfl
theorem flatten_one {α β : Type} (f : α → β) (l : List α) : (l.map fun x => [f x]).flatten = l.map f := by
  induction l with
  | nil => rfl
  | cons a l ih => simp [ih]
theorem rd_bytes {w : World} {cs : List Value} (h : Rd Try.prog w 25 cs) : ∃ (v : Value) (l : List UInt8), cs = [v] ∧ SeesB w v l := by
  obtain ⟨v, chs, h1, h2, h3⟩ := rd_slice Try.underlying25 cellsOf_u8 (by decide) h
  obtain ⟨l, rfl, _⟩ := reps_of (f := fun b : UInt8 => [BV b]) (q := fun _ => True) chs (fun c hc => by
    obtain ⟨b, hb⟩ := rd_u8 (h3 c hc).2; exact ⟨b, hb, trivial⟩)
  refine ⟨v, l, h1, ?_⟩
  rw [flatten_one, List.length_map] at h2
  exact h2
theorem rd_u64s {w : World} {cs : List Value} (h : Rd Try.prog w 50 cs) : ∃ (v : Value) (l : List Int), cs = [v] ∧ SeesU w v l ∧ ∀ x ∈ l, in64 x := by
  obtain ⟨v, chs, h1, h2, h3⟩ := rd_slice Try.underlying50 cellsOf_u64 (by decide) h
  obtain ⟨l, rfl, hq⟩ := reps_of (f := fun n : Int => [UV n]) (q := in64) chs (fun c hc => rd_u64 (h3 c hc).2)
  refine ⟨v, l, h1, ?_, hq⟩
  rw [flatten_one, List.length_map] at h2
  exact h2
/-- Cells of bytes. -/
theorem rd_cells_u8 {w : World} {cs : List Value} {n : Nat} (hl : cs.length = n) (h : ∀ i, i < n → Rd Try.prog w 5 ((cs.drop (i * 1)).take 1)) : ∃ l : List UInt8, l.length = n ∧ cs = l.map BV := by
  obtain ⟨l, h1, h2⟩ := list_of (p := fun i (b : UInt8) => cs[i]? = some (BV b)) n (fun i hi => by
    obtain ⟨b, hb⟩ := rd_u8 (h i hi)
    refine ⟨b, ?_⟩
    have := congrArg (fun l => l[0]?) hb
    simpa [List.getElem?_take, List.getElem?_drop] using this)
  refine ⟨l, h1, ?_⟩
  apply List.ext_getElem?
  intro i
  by_cases hi : i < n
  · rw [h2 i l[i] (List.getElem?_eq_getElem (by omega)), List.getElem?_map, List.getElem?_eq_getElem (by omega)]; rfl
  · rw [List.getElem?_eq_none (by omega), List.getElem?_eq_none (by simp; omega)]
theorem cellsOf_key : Try.prog.cellsOf 23 = 32 := by kernel_rfl
theorem rd_key {w : World} {cs : List Value} (h : Rd Try.prog w 23 cs) : ∃ l : List UInt8, l.length = 32 ∧ cs = l.map BV := by
  obtain ⟨hl, he⟩ := rd_array (n := 32) (e := 5) Try.underlying23 h
  rw [cellsOf_u8] at he
  exact rd_cells_u8 (by rw [hl, cellsOf_key]) he
theorem cons_of {α : Type} {l : List α} {n : Nat} (h : l.length = n + 1) : ∃ a r, l = a :: r ∧ r.length = n := by
  cases l with
  | nil => simp at h
  | cons a r => exact ⟨a, r, rfl, by simpa using h⟩
theorem cellsOf_proof : Try.prog.cellsOf 43 = 2 := by kernel_rfl
theorem rd_proof {w : World} {cs : List Value} (h : Rd Try.prog w 43 cs) : ∃ c s : Int, cs = [UV c, UV s] ∧ in64 c ∧ in64 s := by
  obtain ⟨hl, _⟩ := rd_struct Try.underlying43 h
  rw [cellsOf_proof] at hl
  obtain ⟨c, h1, h2⟩ := rd_u64 (rd_field Try.underlying43 h 0 (off := 0) rfl cellsOf_u64)
  obtain ⟨s, h3, h4⟩ := rd_u64 (rd_field Try.underlying43 h 1 (off := 1) rfl cellsOf_u64)
  obtain ⟨a, cs1, rfl, hl1⟩ := cons_of hl
  obtain ⟨b, cs2, rfl, hl2⟩ := cons_of hl1
  obtain rfl := List.eq_nil_of_length_eq_zero hl2
  simp only [List.drop_zero, List.take_succ_cons, List.take_zero, List.drop_succ_cons, List.cons.injEq, and_true] at h1 h3
  exact ⟨c, s, by rw [h1, h3], h2, h4⟩

set_option maxRecDepth 100000 in
theorem cells_slice {t e : TypeId} {w : World} {v u : Value} {base : Nat} (ht : Try.prog.underlying t = some (.slice e)) (hv : Value.okWide Try.prog w .any base t v) (h : v.cells.toList = [u]) : v = u := by
  obtain ⟨a, len, cap, rfl⟩ := okWide_slice ht hv
  simpa [Value.cells] using h
set_option maxRecDepth 100000 in
theorem cells_agg {t : TypeId} {w : World} {v : Value} {l : List Value} {base : Nat} (ht : (match Try.prog.underlying t with | some (.struct _) | some (.array _ _) => true | _ => false) = true) (hv : Value.okWide Try.prog w .any base t v) (h : v.cells.toList = l) : v = .agg l.toArray := by
  unfold Value.okWide at hv
  split at hv
  · obtain ⟨cs, rfl, _⟩ := hv; simp [Value.cells] at h; rw [← h]
  · obtain ⟨cs, rfl, _⟩ := hv; simp [Value.cells] at h; rw [← h]
  · split at ht <;> simp_all
section
variable {H : Type} {enc : TypeId × Value → H} {w : World} {v : Value} {d : DataW H} {p : List MemPlace} {base : Nat}
set_option maxRecDepth 100000 in
theorem openA_u64 (hv : Value.okWide Try.prog w .any base 24 v) (h : DataW.Trod enc Try.prog w 0 (fun _ => true) true 24 v d p) : ∃ a, v = .int .u64 a ∧ in64 a := by
  obtain ⟨a, h1, _, _, h2⟩ := open_int Try.underlying24 hv h; exact ⟨a, h1, wf_u64 h2⟩
set_option maxRecDepth 100000 in
theorem openA_i64 (hv : Value.okWide Try.prog w .any base 3 v) (h : DataW.Trod enc Try.prog w 0 (fun _ => true) true 3 v d p) : ∃ a, v = .int .i64 a ∧ -9223372036854775808 ≤ a ∧ a ≤ 9223372036854775807 := by
  obtain ⟨a, h1, _, _, h2⟩ := open_int Try.underlying3 hv h; exact ⟨a, h1, wf_i64 h2⟩
set_option maxRecDepth 100000 in
theorem openA_string (hv : Value.okWide Try.prog w .any base 9 v) (h : DataW.Trod enc Try.prog w 0 (fun _ => true) true 9 v d p) : ∃ a, v = .string a ∧ a.size ≤ 9223372036854775807 := by
  obtain ⟨a, h1, _, _, h2⟩ := Go.ChangeMaps.open_string Try.underlying9 hv h; exact ⟨a, h1, by unfold maxLen at h2; omega⟩
set_option maxRecDepth 100000 in
theorem openA_bytes (hv : Value.okWide Try.prog w .any base 25 v) (h : DataW.Trod enc Try.prog w 0 (fun _ => true) true 25 v d p) : ∃ a, SeesB w v a := by
  obtain ⟨u, l, h1, h2⟩ := rd_bytes (rd_of h)
  obtain rfl := cells_slice Try.underlying25 hv h1
  exact ⟨l, h2⟩
set_option maxRecDepth 100000 in
theorem openA_u64s (hv : Value.okWide Try.prog w .any base 50 v) (h : DataW.Trod enc Try.prog w 0 (fun _ => true) true 50 v d p) : ∃ a, SeesU w v a ∧ ∀ x ∈ a, in64 x := by
  obtain ⟨u, l, h1, h2, h3⟩ := rd_u64s (rd_of h)
  obtain rfl := cells_slice Try.underlying50 hv h1
  exact ⟨l, h2, h3⟩
set_option maxRecDepth 100000 in
theorem openA_key (hv : Value.okWide Try.prog w .any base 23 v) (h : DataW.Trod enc Try.prog w 0 (fun _ => true) true 23 v d p) : ∃ a, v = .agg (keyA a) ∧ a.length = 32 := by
  obtain ⟨l, h1, h2⟩ := rd_key (rd_of h)
  exact ⟨l, cells_agg (by kernel_rfl) hv h2, h1⟩
set_option maxRecDepth 100000 in
theorem openA_proof (hv : Value.okWide Try.prog w .any base 43 v) (h : DataW.Trod enc Try.prog w 0 (fun _ => true) true 43 v d p) : ∃ c s, v = PV c s ∧ in64 c ∧ in64 s := by
  obtain ⟨c, s, h1, h2, h3⟩ := rd_proof (rd_of h)
  exact ⟨c, s, cells_agg (by kernel_rfl) hv h1, h2, h3⟩
end
end Go.Proofs.Yteialfdhbfbkgaa
