/-
  Arguments opened: publics, secrets, steps, lists of entries.
-/
import Derived.Test.YtmbgcjfmfkddpaaGreatOpenSub
import Derived.Test.YtmbgcjfmfkddpaaGreatBl6
import Derived.Test.YtmbgcjfmfkddpaaGreatRows
namespace Go.Proofs.YtmbgcjfmfkddpaaGreat
set_option linter.unusedVariables false
set_option linter.unusedSimpArgs false
open Go Go.RowKit Go.ChangeShapes Go.WideShapes Go.ChangeAt

theorem rd_i64 {w : World} {cs : List Value} (h : Rd Tryz.prog w 3 cs) : ∃ n, cs = [.int .i64 n] ∧ inI n := by
  obtain ⟨n, h1, h2⟩ := rd_int Tryz.underlying3 h
  refine ⟨n, h1, ?_⟩
  have h3 : IntKind.i64.min ≤ n ∧ n ≤ IntKind.i64.max := by simpa [Lit.wf] using h2
  rw [show IntKind.i64.min = -9223372036854775808 from rfl, show IntKind.i64.max = 9223372036854775807 from rfl] at h3
  exact h3
theorem rd_sec {w : World} {cs : List Value} (h : Rd Tryz.prog w 41 cs) : ∃ s : Sec, cs = s.cells ∧ s.ok := by
  obtain ⟨hl, _⟩ := rd_struct Tryz.underlying41 h
  rw [show Tryz.prog.cellsOf 41 = 3 from by kernel_rfl] at hl
  obtain ⟨a0, h0, q0⟩ := rd_u64 (rd_field Tryz.underlying41 h 0 (off := 0) rfl cellsOf_u64)
  obtain ⟨a1, h1, q1⟩ := rd_u64 (rd_field Tryz.underlying41 h 1 (off := 1) rfl cellsOf_u64)
  obtain ⟨a2, h2, q2⟩ := rd_u64 (rd_field Tryz.underlying41 h 2 (off := 2) rfl cellsOf_u64)
  clear h
  obtain ⟨c0, r0, rfl, l0⟩ := cons_of hl
  obtain ⟨c1, r1, rfl, l1⟩ := cons_of l0
  obtain ⟨c2, r2, rfl, l2⟩ := cons_of l1
  obtain rfl := List.eq_nil_of_length_eq_zero l2
  simp only [List.drop_zero, List.take_succ_cons, List.take_zero, List.drop_succ_cons, List.cons.injEq, and_true] at h0 h1 h2
  subst h0 h1 h2
  exact ⟨⟨a0, a1, a2⟩, rfl, q0, q1, q2⟩
/-- The elements of a row, all of a kind. -/
theorem elR_of {α : Type} {R : Rp α} {B : Nat} {w : World} {q : α → Prop} : ∀ chs : List (List Value), (∀ c ∈ chs, ∃ a, R.rel B w c a ∧ q a) → ∃ l, ElR R B w chs l ∧ ∀ a ∈ l, q a
  | [], _ => ⟨[], ElR.nil _ _, fun _ h => nomatch h⟩
  | c :: chs, h => by
    obtain ⟨a, h1, h2⟩ := h c (by simp)
    obtain ⟨l, h3, h4⟩ := elR_of chs (fun c hc => h c (by simp [hc]))
    exact ⟨a :: l, ElR.append (ElR.one_of h1) h3, fun x hx => by rcases List.mem_cons.1 hx with rfl | hx; exact h2; exact h4 x hx⟩
theorem slR_of {α : Type} {R : Rp α} {w : World} {q : α → Prop} {v : Value} {chs : List (List Value)} (hs : Sees w R.sz v chs.length chs.flatten) (h : ∀ c ∈ chs, ∃ a, R.rel w.heap.size w c a ∧ q a) : ∃ l, SlR R w.heap.size w v l ∧ l.length = chs.length ∧ ∀ a ∈ l, q a := by
  obtain ⟨l, h1, h2⟩ := elR_of chs h
  exact ⟨l, ⟨chs, h1, by rw [← h1.1]; exact SeesZ.old hs R.pos (Nat.le_refl _)⟩, h1.1.symm, h2⟩
theorem rd_entries {w : World} {cs : List Value} (h : Rd Tryz.prog w 31 cs) : ∃ (v : Value) (l : List Ent), cs = [v] ∧ SlR entR w.heap.size w v l ∧ ∀ e ∈ l, e.ok := by
  obtain ⟨v, chs, h1, h2, h3⟩ := rd_slice Tryz.underlying31 (show Tryz.prog.cellsOf 36 = 2 from by kernel_rfl) (by decide) h
  obtain ⟨l, h4, -, h5⟩ := slR_of (R := entR) h2 (fun c hc => by
    obtain ⟨e, u, rfl, q1, q2⟩ := rd_entry (h3 c hc).2
    exact ⟨e, ⟨u, rfl, slB_old q2 (Nat.le_refl _)⟩, q1⟩)
  exact ⟨v, l, h1, h4, h5⟩
theorem rd_ints {w : World} {cs : List Value} (h : Rd Tryz.prog w 33 cs) : ∃ (v : Value) (l : List Int), cs = [v] ∧ SlR intR w.heap.size w v l := by
  obtain ⟨v, chs, h1, h2, h3⟩ := rd_slice Tryz.underlying33 (show Tryz.prog.cellsOf 3 = 1 from by kernel_rfl) (by decide) h
  obtain ⟨l, h4, -, h5⟩ := slR_of (R := intR) (q := fun n => inI n) h2 (fun c hc => by
    obtain ⟨n, rfl, q1⟩ := rd_i64 (h3 c hc).2
    exact ⟨n, rfl, q1⟩)
  exact ⟨v, l, h1, h4⟩

/-! ### Where what is read is bounded -/
/-- These cells read as a value of type t, of bulk at most n. -/
def RdU (P : Program) (w : World) (t : TypeId) (cs : List Value) (n : Nat) : Prop :=
  ∃ (H : Type) (enc : TypeId × Value → H) (k : Nat) (x : DataW H × List MemPlace), DataW.trod enc P w 0 (fun _ => true) true k t cs = some x ∧ Rows.uptoBulk x.1 ≤ n
theorem RdU.rd {P : Program} {w : World} {t : TypeId} {cs : List Value} {n : Nat} (h : RdU P w t cs n) : Rd P w t cs := by
  obtain ⟨H, enc, k, x, h, _⟩ := h; exact ⟨H, enc, k, x, h⟩
theorem bulk_pos {H : Type} (d : DataW H) : 1 ≤ Rows.uptoBulk d := by
  cases d with
  | lit l => cases l <;> simp [Rows.uptoBulk]
  | _ => simp [Rows.uptoBulk]
theorem bulk_mem {H : Type} : ∀ (l : List (DataW H)) (d : DataW H), d ∈ l → Rows.uptoBulk d ≤ Rows.uptoBulkAll l
  | [], _, h => nomatch h
  | x :: l, d, h => by
    rw [Rows.uptoBulkAll]
    rcases List.mem_cons.1 h with rfl | h
    · omega
    · have := bulk_mem l d h; omega
theorem bulk_len {H : Type} : ∀ (l : List (DataW H)), l.length ≤ Rows.uptoBulkAll l
  | [] => Nat.zero_le _
  | x :: l => by
    rw [Rows.uptoBulkAll, List.length_cons]
    have := bulk_len l; have := bulk_pos x; omega
theorem rdU_field {P : Program} {w : World} {t : TypeId} {cs : List Value} {n : Nat} {fs : Array Field} (ht : P.underlying t = some (.struct fs)) (h : RdU P w t cs n) (i : Nat) {ft : TypeId} {off sz : Nat}
    (hf : (fs[i]?).map (fun f => (f.type, f.offset)) = some (ft, off)) (hsz : P.cellsOf ft = sz) : RdU P w ft ((cs.drop off).take sz) n := by
  obtain ⟨f, h1, h2⟩ := Option.map_eq_some_iff.1 hf
  obtain ⟨H, enc, k, x, h, hb⟩ := h
  obtain ⟨xs, m, _, rfl, _, hx, hfs⟩ := DataW.trod_struct ht h
  have hlt : i < xs.length := by rw [hx]; exact (Array.getElem?_eq_some_iff.1 h1).1
  have h3 := (hfs i f h1).trans (List.getElem?_eq_getElem hlt)
  cases h2
  rw [hsz] at h3
  refine ⟨H, enc, m, xs[i], h3, ?_⟩
  have := bulk_mem (xs.map (·.1)) xs[i].1 (List.mem_map_of_mem (List.getElem_mem hlt))
  have hb' : Rows.uptoBulkAll (xs.map (·.1)) + 1 ≤ n := by simpa [Rows.uptoBulk] using hb
  omega
theorem rdU_slice {P : Program} {w : World} {t e : TypeId} {cs : List Value} {n sz : Nat} (ht : P.underlying t = some (.slice e)) (hsz : P.cellsOf e = sz) (h0 : 0 < sz) (h : RdU P w t cs n) :
    ∃ (v : Value) (chs : List (List Value)), cs = [v] ∧ Sees w sz v chs.length chs.flatten ∧ chs.length ≤ n ∧ ∀ c ∈ chs, c.length = sz ∧ RdU P w e c n := by
  obtain ⟨v, chs, h1, h2, h3⟩ := rd_slice ht hsz h0 h.rd
  obtain ⟨H, enc, k, x, h, hb⟩ := h
  rcases DataW.trod_slice ht h with ⟨rfl, rfl⟩ | ⟨a, len, cap, elems, rest, m, _, rfl, rfl, _, hlc, hcm, hlen, hel, _, _⟩
  · cases h1
    have hz : chs.length = 0 := by
      obtain ⟨_, a', c', he, _⟩ := h2
      injection he with _ e2 _
      exact e2.symm
    obtain rfl := List.eq_nil_of_length_eq_zero hz
    exact ⟨_, [], rfl, h2, Nat.zero_le _, fun _ h => nomatch h⟩
  · cases h1
    have hb' : Rows.uptoBulkAll (elems.map (·.1)) + Rows.uptoBulkAll (rest.map (·.1)) + 1 ≤ n := by simpa [Rows.uptoBulk] using hb
    have h2' := h2
    obtain ⟨hl, a', c', he, hc, hm, hnc, hcell⟩ := h2
    injection he with e1 e2 e3
    refine ⟨_, chs, rfl, h2', ?_, fun c hcm => ⟨(h3 c hcm).1, ?_⟩⟩
    · have := bulk_len (elems.map (·.1)); rw [List.length_map] at this; omega
    · obtain ⟨i, hi, rfl⟩ := List.getElem_of_mem hcm
      have hil : i < elems.length := by omega
      have h4 := hel i (by omega)
      rw [List.getElem?_eq_getElem hil, hsz, Option.bind_eq_some_iff] at h4
      obtain ⟨cs', h5, h6⟩ := h4
      have hcs : cs' = chs[i] := by
        obtain ⟨b, o, hb1, hb2⟩ := hcell (by omega)
        have ha : a = ⟨b, o, none⟩ := by have := e1.trans hb1; injection this
        subst ha
        have hl1 := (World.cells?_some h5).2.1
        have hl2 := (h3 _ hcm).1
        apply List.ext_getElem?
        intro j
        by_cases hj : j < sz
        · have g1 := (World.cells?_some h5).2.2 j hj
          have g2 := hb2 (i * sz + j) ((chs[i])[j]'(by omega)) (by
            have := flatten_at chs (fun c hc => (h3 c hc).1) i j chs[i] (List.getElem?_eq_getElem hi) hj
            rw [this]; exact List.getElem?_eq_getElem _)
          rw [addr_add, addr_add, Nat.add_assoc, g2] at g1
          rw [← g1, List.getElem?_eq_getElem]
        · rw [List.getElem?_eq_none (by omega), List.getElem?_eq_none (by omega)]
      rw [hcs] at h6
      refine ⟨H, enc, m, elems[i], h6, ?_⟩
      have := bulk_mem (elems.map (·.1)) elems[i].1 (List.mem_map_of_mem (List.getElem_mem hil))
      omega
theorem rdU_bytes {w : World} {cs : List Value} {n : Nat} (h : RdU Tryz.prog w 34 cs n) : ∃ (v : Value) (l : List UInt8), cs = [v] ∧ SeesB w v l ∧ l.length ≤ n := by
  obtain ⟨v, chs, h1, h2, h3, h4⟩ := rdU_slice Tryz.underlying34 cellsOf_u8 (by decide) h
  obtain ⟨v', l, g1, g2⟩ := rd_bytes h.rd
  rw [h1] at g1; cases g1
  refine ⟨v, l, h1, g2, ?_⟩
  obtain ⟨_, a, c, e1, _⟩ := h2
  obtain ⟨_, a', c', e2, _⟩ := g2
  rw [e1] at e2; injection e2 with _ e _
  omega
theorem rdU_entry {w : World} {cs : List Value} {n : Nat} (h : RdU Tryz.prog w 36 cs n) : ∃ (e : Ent) (v : Value), cs = [.int .u64 e.x, v] ∧ e.ok ∧ SeesB w v e.box ∧ e.box.length ≤ n := by
  obtain ⟨e, v, h1, h2, h3⟩ := rd_entry h.rd
  obtain ⟨v', l, g1, g2, g3⟩ := rdU_bytes (rdU_field Tryz.underlying36 h 1 (off := 1) rfl (show Tryz.prog.cellsOf 34 = 1 from by kernel_rfl))
  refine ⟨e, v, h1, h2, h3, ?_⟩
  rw [h1] at g1
  simp only [List.take_succ_cons, List.take_zero, List.drop_succ_cons, List.drop_zero, List.cons.injEq, and_true] at g1
  subst g1
  obtain ⟨_, a, c, e1, _⟩ := h3
  obtain ⟨_, a', c', e2, _⟩ := g2
  rw [e1] at e2; injection e2 with _ e _
  omega
theorem rdU_entries {w : World} {cs : List Value} {n : Nat} (h : RdU Tryz.prog w 31 cs n) : ∃ (v : Value) (l : List Ent), cs = [v] ∧ SlR entR w.heap.size w v l ∧ l.length ≤ n ∧ ∀ e ∈ l, e.ok ∧ e.box.length ≤ n := by
  obtain ⟨v, chs, h1, h2, h3, h4⟩ := rdU_slice Tryz.underlying31 (show Tryz.prog.cellsOf 36 = 2 from by kernel_rfl) (by decide) h
  obtain ⟨l, h5, h6, h7⟩ := slR_of (R := entR) (q := fun e => e.ok ∧ e.box.length ≤ n) h2 (fun c hc => by
    obtain ⟨e, u, rfl, q1, q2, q3⟩ := rdU_entry (h4 c hc).2
    exact ⟨e, ⟨u, rfl, slB_old q2 (Nat.le_refl _)⟩, q1, q3⟩)
  exact ⟨v, l, h1, h5, by omega, h7⟩
section
variable {H : Type} {enc : TypeId × Value → H} {w : World} {v : Value} {d : DataW H} {p : List MemPlace} {base n : Nat}
theorem rdU_of {t : TypeId} {P : Program} (h : DataW.Trod enc P w 0 (fun _ => true) true t v d p) (hb : Rows.uptoBulk d ≤ n) : RdU P w t v.cells.toList n := by
  obtain ⟨k, hk⟩ := h; exact ⟨H, enc, k, _, hk, hb⟩
set_option maxRecDepth 100000 in
theorem openA_pub (hv : Value.okWide Tryz.prog w .any base 49 v) (h : DataW.Trod enc Tryz.prog w 0 (fun _ => true) true 49 v d p) : ∃ a : Pub, v = .agg a.cells.toArray ∧ a.ok := by
  obtain ⟨a, h1, h2⟩ := rd_pub (rd_of h)
  exact ⟨a, cells_agg (by kernel_rfl) hv h1, h2⟩
set_option maxRecDepth 100000 in
theorem openA_sec (hv : Value.okWide Tryz.prog w .any base 41 v) (h : DataW.Trod enc Tryz.prog w 0 (fun _ => true) true 41 v d p) : ∃ a : Sec, v = .agg a.cells.toArray ∧ a.ok := by
  obtain ⟨a, h1, h2⟩ := rd_sec (rd_of h)
  exact ⟨a, cells_agg (by kernel_rfl) hv h1, h2⟩
set_option maxRecDepth 100000 in
theorem openA_entries (hv : Value.okWide Tryz.prog w .any base 31 v) (h : DataW.Trod enc Tryz.prog w 0 (fun _ => true) true 31 v d p) : ∃ a, SlR entR w.heap.size w v a ∧ ∀ e ∈ a, e.ok := by
  obtain ⟨u, l, h1, h2, h3⟩ := rd_entries (rd_of h)
  obtain rfl := cells_slice Tryz.underlying31 hv h1
  exact ⟨l, h2, h3⟩
set_option maxRecDepth 100000 in
theorem openA_ints (hv : Value.okWide Tryz.prog w .any base 33 v) (h : DataW.Trod enc Tryz.prog w 0 (fun _ => true) true 33 v d p) : ∃ a, SlR intR w.heap.size w v a := by
  obtain ⟨u, l, h1, h2⟩ := rd_ints (rd_of h)
  obtain rfl := cells_slice Tryz.underlying33 hv h1
  exact ⟨l, h2⟩
set_option maxRecDepth 100000 in
theorem openU_publics (hv : Value.okWide Tryz.prog w .any base 28 v) (h : DataW.Trod enc Tryz.prog w 0 (fun _ => true) true 28 v d p) (_ : Rows.uptoBulk d ≤ n) : ∃ a, SlR pubR w.heap.size w v a ∧ ∀ e ∈ a, e.ok := by
  obtain ⟨u, l, h1, h2, h3⟩ := rd_publics (rd_of h)
  obtain rfl := cells_slice Tryz.underlying28 hv h1
  exact ⟨l, slR_flat (SeesZ.old h2 (by decide) (Nat.le_refl _)), h3⟩
end
end Go.Proofs.YtmbgcjfmfkddpaaGreat
