/-
  A row's post where nothing older is touched and 'again' is not asked.
  What came in, read: a law's arguments opened by their types.
  Arguments opened: numbers, bytes, keys, proofs.
  Arguments opened: publics.
-/
import Derived.Test.YtbgnfioggmkdeaaGreatDoorPa
import Derived.ProofKit
import Derived.OpenShut
import Derived.Test.YtbgnfioggmkdeaaGreatDoorProg
import Derived.ShutString
import Derived.ChangeOld
import Derived.Test.YtbgnfioggmkdeaaGreatDoorPd
import Derived.Test.YtbgnfioggmkdeaaGreatDoorPf
namespace Go.Proofs.YtbgnfioggmkdeaaGreatDoor
set_option linter.unusedVariables false
set_option linter.unusedSimpArgs false
open Go Go.RowKit Go.ChangeShapes Go.WideShapes Go.ChangeAt

theorem post_of_below {H : Type} {enc : TypeId × Value → H} {P : Program} {f : Func} {s : ChangeSpec} {apart fresh handsOn : Bool} {W W' : World} {args : Array Value} {v : Value} {ds gs : List (DataW H)} {before pa pv : List MemPlace}
    (hW : DataW.Whole enc P f.params.toList s.vars apart W args.toList ds gs before)
    (hres : ∀ (b : Nat) (sp : Nat → Bool) (hd : Bool), DataW.TrodAll enc P W' b sp hd f.resultTypes.toList (v.resultList f.resultTypes.size) (s.fn H (ds ++ gs)).results [])
    (hargs : ∀ sp : Nat → Bool, (∀ p ∈ before, sp p.block = true) → DataW.TrodAll enc P W' 0 sp true f.params.toList args.toList (s.fn H (ds ++ gs)).args pa)
    (hvars : ∀ sp : Nat → Bool, (∀ p ∈ before, sp p.block = true) → DataW.TrodVars enc P W' sp s.vars (s.fn H (ds ++ gs)).vars pv)
    (hk : Below W.heap.size W W') : s.post enc P f apart fresh handsOn false W args v W' := by
  have hold : ∀ p ∈ before, (fun b => decide (b < W.heap.size)) p.block = true := fun p hp => by simpa using hW.lt p hp
  exact ⟨ds, gs, before, [], pa, pv, hW, hres _ _ _, hargs _ hold, hvars _ hold, hk.frame _, fun h => nomatch h⟩
theorem wf_u64 {a : Int} (h : (Lit.int .u64 a).wf = true) : 0 ≤ a ∧ a < 18446744073709551616 := by
  simp only [Lit.wf, Bool.and_eq_true, decide_eq_true_eq] at h
  have h1 : IntKind.u64.min = 0 := by decide
  have h2 : IntKind.u64.max = 18446744073709551615 := by decide
  omega
theorem wf_i64 {a : Int} (h : (Lit.int .i64 a).wf = true) : -9223372036854775808 ≤ a ∧ a ≤ 9223372036854775807 := by
  simp only [Lit.wf, Bool.and_eq_true, decide_eq_true_eq] at h
  have h1 : IntKind.i64.min = -9223372036854775808 := by decide
  have h2 : IntKind.i64.max = 9223372036854775807 := by decide
  omega
end Go.Proofs.YtbgnfioggmkdeaaGreatDoor
namespace Go.Proofs.YtbgnfioggmkdeaaGreatDoor
set_option linter.unusedVariables false
set_option linter.unusedSimpArgs false
open Go Go.RowKit Go.ChangeShapes Go.WideShapes Go.ChangeAt

/-- These cells read as a value of type t. -/
def Rd (P : Program) (w : World) (t : TypeId) (cs : List Value) : Prop :=
  ∃ (H : Type) (enc : TypeId × Value → H) (n : Nat) (x : DataW H × List MemPlace), DataW.trod enc P w 0 (fun _ => true) true n t cs = some x
theorem rd_of {H : Type} {enc : TypeId × Value → H} {P : Program} {w : World} {t : TypeId} {v : Value} {d : DataW H} {p : List MemPlace} (h : DataW.Trod enc P w 0 (fun _ => true) true t v d p) : Rd P w t v.cells.toList := by
  obtain ⟨n, hn⟩ := h; exact ⟨H, enc, n, _, hn⟩
theorem rd_int {P : Program} {w : World} {t : TypeId} {cs : List Value} {k : IntKind} (ht : P.underlying t = some (.int k)) (h : Rd P w t cs) : ∃ n, cs = [.int k n] ∧ (Lit.int k n).wf = true := by
  obtain ⟨H, enc, n, x, h⟩ := h
  obtain ⟨n, h1, _, h2⟩ := DataW.trod_int ht h
  exact ⟨n, h1, h2⟩
theorem rd_bool {P : Program} {w : World} {t : TypeId} {cs : List Value} (ht : P.underlying t = some .bool) (h : Rd P w t cs) : ∃ b, cs = [.bool b] := by
  obtain ⟨H, enc, n, x, h⟩ := h
  obtain ⟨b, h1, _⟩ := DataW.trod_bool ht h
  exact ⟨b, h1⟩
theorem rd_string {P : Program} {w : World} {t : TypeId} {cs : List Value} (ht : P.underlying t = some .string) (h : Rd P w t cs) : ∃ s : ByteArray, cs = [.string s] ∧ s.size ≤ maxLen := by
  obtain ⟨H, enc, n, x, h⟩ := h
  obtain ⟨s, h1, _, h2⟩ := DataW.trod_string ht h
  exact ⟨s, h1, h2⟩
theorem rd_struct {P : Program} {w : World} {t : TypeId} {cs : List Value} {fs : Array Field} (ht : P.underlying t = some (.struct fs)) (h : Rd P w t cs) :
    cs.length = P.cellsOf t ∧ ∀ (i : Nat) (f : Field), fs[i]? = some f → Rd P w f.type ((cs.drop f.offset).take (P.cellsOf f.type)) := by
  obtain ⟨H, enc, n, x, h⟩ := h
  obtain ⟨xs, m, _, _, hl, hx, hf⟩ := DataW.trod_struct ht h
  refine ⟨hl, fun i f hi => ?_⟩
  have hlt : i < xs.length := by rw [hx]; exact (Array.getElem?_eq_some_iff.1 hi).1
  exact ⟨H, enc, m, xs[i], (hf i f hi).trans (List.getElem?_eq_getElem hlt)⟩
theorem rd_field {P : Program} {w : World} {t : TypeId} {cs : List Value} {fs : Array Field} (ht : P.underlying t = some (.struct fs)) (h : Rd P w t cs) (i : Nat) {ft : TypeId} {off sz : Nat}
    (hf : (fs[i]?).map (fun f => (f.type, f.offset)) = some (ft, off)) (hsz : P.cellsOf ft = sz) : Rd P w ft ((cs.drop off).take sz) := by
  obtain ⟨f, h1, h2⟩ := Option.map_eq_some_iff.1 hf
  have := (rd_struct ht h).2 i f h1
  cases h2
  rwa [hsz] at this
theorem rd_array {P : Program} {w : World} {t e : TypeId} {cs : List Value} {n : Nat} (ht : P.underlying t = some (.array n e)) (h : Rd P w t cs) :
    cs.length = P.cellsOf t ∧ ∀ i : Nat, i < n → Rd P w e ((cs.drop (i * P.cellsOf e)).take (P.cellsOf e)) := by
  obtain ⟨H, enc, m, x, h⟩ := h
  obtain ⟨xs, m, _, _, hl, hx, hf⟩ := DataW.trod_array ht h
  refine ⟨hl, fun i hi => ?_⟩
  exact ⟨H, enc, m, xs[i], (hf i hi).trans (List.getElem?_eq_getElem (by omega))⟩
/-- A list out of what each place has. -/
theorem list_of {α : Type} {p : Nat → α → Prop} : ∀ n : Nat, (∀ i, i < n → ∃ x, p i x) → ∃ l : List α, l.length = n ∧ ∀ (i : Nat) (x : α), l[i]? = some x → p i x
  | 0, _ => ⟨[], rfl, fun i x h => by simp at h⟩
  | n + 1, h => by
    obtain ⟨l, hl, hp⟩ := list_of n (fun i hi => h i (by omega))
    obtain ⟨x, hx⟩ := h n (by omega)
    refine ⟨l ++ [x], by simp [hl], fun i y hy => ?_⟩
    by_cases hi : i < n
    · rw [List.getElem?_append_left (by omega)] at hy; exact hp i y hy
    · rw [List.getElem?_append_right (by omega)] at hy
      cases hk : i - l.length with
      | zero => rw [hk] at hy; cases hy; rw [show i = n by omega]; exact hx
      | succ k => rw [hk] at hy; simp at hy
theorem reps_of {α β : Type} {f : α → β} {q : α → Prop} : ∀ l : List β, (∀ c ∈ l, ∃ x, c = f x ∧ q x) → ∃ xs : List α, l = xs.map f ∧ ∀ x ∈ xs, q x
  | [], _ => ⟨[], rfl, fun _ h => nomatch h⟩
  | c :: l, h => by
    obtain ⟨x, rfl, hx⟩ := h c (by simp)
    obtain ⟨xs, rfl, hq⟩ := reps_of l (fun c hc => h c (by simp [hc]))
    exact ⟨x :: xs, rfl, fun y hy => by rcases List.mem_cons.1 hy with rfl | hy; exact hx; exact hq y hy⟩
theorem flatten_get {α : Type} {sz : Nat} (hsz : 0 < sz) : ∀ (l : List (List α)), (∀ c ∈ l, c.length = sz) → ∀ (j : Nat) (u : α), l.flatten[j]? = some u → ∃ c, l[j / sz]? = some c ∧ c[j % sz]? = some u
  | [], _, j, u, h => by simp at h
  | c :: l, hc, j, u, h => by
    have hl := hc c (by simp)
    rw [List.flatten_cons] at h
    by_cases hj : j < sz
    · rw [List.getElem?_append_left (by omega)] at h
      exact ⟨c, by rw [Nat.div_eq_of_lt hj]; rfl, by rw [Nat.mod_eq_of_lt hj]; exact h⟩
    · rw [List.getElem?_append_right (by omega), hl] at h
      obtain ⟨c', h1, h2⟩ := flatten_get hsz l (fun c hc' => hc c (by simp [hc'])) _ _ h
      have hd : j / sz = (j - sz) / sz + 1 := by
        rw [show j = (j - sz) + sz from by omega, Nat.add_div_right _ hsz]; congr 2; omega
      have hm : j % sz = (j - sz) % sz := by
        rw [show j = (j - sz) + sz from by omega, Nat.add_mod_right]; congr 1; omega
      exact ⟨c', by rw [hd]; exact h1, by rw [hm]; exact h2⟩
theorem flatten_len {α : Type} {sz : Nat} : ∀ (l : List (List α)), (∀ c ∈ l, c.length = sz) → l.flatten.length = l.length * sz
  | [], _ => by simp
  | c :: l, h => by
    rw [List.flatten_cons, List.length_append, flatten_len l (fun c hc => h c (by simp [hc])), h c (by simp), List.length_cons, Nat.succ_mul, Nat.add_comm]
theorem rd_slice {P : Program} {w : World} {t e : TypeId} {cs : List Value} {sz : Nat} (ht : P.underlying t = some (.slice e)) (hsz : P.cellsOf e = sz) (h0 : 0 < sz) (h : Rd P w t cs) :
    ∃ (v : Value) (chs : List (List Value)), cs = [v] ∧ Sees w sz v chs.length chs.flatten ∧ ∀ c ∈ chs, c.length = sz ∧ Rd P w e c := by
  obtain ⟨H, enc, m, x, h⟩ := h
  rcases DataW.trod_slice ht h with ⟨rfl, _⟩ | ⟨a, len, cap, elems, rest, n, _, rfl, _, _, hlc, hcm, hlen, hel, _, _⟩
  · exact ⟨_, [], rfl, Sees.nil _ _, fun _ h => nomatch h⟩
  · have hex : ∀ i, i < len → ∃ c : List Value, w.cells? 0 (a.add (i * sz)) sz = some c ∧ Rd P w e c := fun i hi => by
      have h1 := hel i hi
      rw [List.getElem?_eq_getElem (by omega), Option.bind_eq_some_iff, hsz] at h1
      obtain ⟨c, h2, h3⟩ := h1
      exact ⟨c, h2, H, enc, n, _, h3⟩
    obtain ⟨chs, hl, hp⟩ := list_of len hex
    have hlens : ∀ c ∈ chs, c.length = sz := fun c hc => by
      obtain ⟨i, hi, rfl⟩ := List.getElem_of_mem hc
      obtain ⟨h1, _⟩ := hp i _ (List.getElem?_eq_getElem hi)
      exact (World.cells?_some h1).2.1
    refine ⟨_, chs, rfl, ⟨flatten_len chs hlens, some a, cap, by rw [hl], by rw [hl]; exact hlc, hcm, (fun hn => nomatch hn), fun hn => ?_⟩, fun c hc => ?_⟩
    · have hat : ∀ j u, chs.flatten[j]? = some u → w.cell? (a.add j) = some u := fun j u hj => by
        obtain ⟨c, h1, h2⟩ := flatten_get h0 chs hlens j u hj
        obtain ⟨h3, _⟩ := hp _ _ h1
        have h4 := ((World.cells?_some h3).2.2 (j % sz) (Nat.mod_lt _ h0)).trans h2
        have e : (a.add (j / sz * sz)).add (j % sz) = a.add j := by
          have hj : j / sz * sz + j % sz = j := Nat.div_add_mod' j sz
          unfold Addr.add
          by_cases e1 : j / sz * sz = 0
          · rw [if_pos e1]
            have : j % sz = j := by omega
            rw [this]
          · rw [if_neg e1, if_neg (show ¬ j = 0 by omega)]
            by_cases e2 : j % sz = 0
            · rw [if_pos e2]; simp <;> omega
            · rw [if_neg e2]; simp <;> omega
        rw [e] at h4; exact h4
      have hspot : a.spot = none := by
        have hpos : 0 < chs.flatten.length := by rw [flatten_len chs hlens]; exact Nat.mul_pos hn h0
        have h1 := hat 0 chs.flatten[0] (List.getElem?_eq_getElem hpos)
        unfold World.cell? at h1
        simp only [Addr.add, if_pos] at h1
        split at h1
        · split at h1
          · cases h1
          · rename_i hs; cases hq : a.spot with
            | none => rfl
            | some q => rw [hq] at hs; simp at hs
        · cases h1
      obtain ⟨b, o, s⟩ := a
      simp only at hspot; subst hspot
      exact ⟨b, o, rfl, fun j u hj => by rw [← addr_add]; exact hat j u hj⟩
    · refine ⟨hlens c hc, ?_⟩
      obtain ⟨i, hi, rfl⟩ := List.getElem_of_mem hc
      exact (hp i _ (List.getElem?_eq_getElem hi)).2
end Go.Proofs.YtbgnfioggmkdeaaGreatDoor
namespace Go.Proofs.YtbgnfioggmkdeaaGreatDoor
set_option linter.unusedVariables false
set_option linter.unusedSimpArgs false
open Go Go.RowKit Go.ChangeShapes Go.WideShapes Go.ChangeAt

theorem laidOut : laidOutB Tryz.prog = true := by kernel_rfl
theorem own : ownKnob Tryz.prog.godebug = none := by kernel_rfl
theorem rd_u64 {w : World} {cs : List Value} (h : Rd Tryz.prog w 22 cs) : ∃ n, cs = [UV n] ∧ in64 n := by
  obtain ⟨n, h1, h2⟩ := rd_int Tryz.underlying22 h
  exact ⟨n, h1, wf_u64 h2⟩
theorem rd_u8 {w : World} {cs : List Value} (h : Rd Tryz.prog w 5 cs) : ∃ b : UInt8, cs = [BV b] := by
  obtain ⟨n, h1, h2⟩ := rd_int Tryz.underlying5 h
  have hb := bounds_u8 h2
  refine ⟨UInt8.ofNat n.toNat, ?_⟩
  rw [h1]
  have : ((UInt8.ofNat n.toNat).toNat : Int) = n := by simp; omega
  simp only [BV, this]
theorem cellsOf_u8 : Tryz.prog.cellsOf 5 = 1 := by kernel_rfl
theorem cellsOf_u64 : Tryz.prog.cellsOf 22 = 1 := by kernel_rfl
theorem flatten_one {α β : Type} (f : α → β) (l : List α) : (l.map fun x => [f x]).flatten = l.map f := by
  induction l with
  | nil => rfl
  | cons a l ih => simp [ih]
theorem rd_bytes {w : World} {cs : List Value} (h : Rd Tryz.prog w 44 cs) : ∃ (v : Value) (l : List UInt8), cs = [v] ∧ SeesB w v l := by
  obtain ⟨v, chs, h1, h2, h3⟩ := rd_slice Tryz.underlying44 cellsOf_u8 (by decide) h
  obtain ⟨l, rfl, _⟩ := reps_of (f := fun b : UInt8 => [BV b]) (q := fun _ => True) chs (fun c hc => by
    obtain ⟨b, hb⟩ := rd_u8 (h3 c hc).2; exact ⟨b, hb, trivial⟩)
  refine ⟨v, l, h1, ?_⟩
  rw [flatten_one, List.length_map] at h2
  exact h2
theorem rd_u64s {w : World} {cs : List Value} (h : Rd Tryz.prog w 87 cs) : ∃ (v : Value) (l : List Int), cs = [v] ∧ SeesU w v l ∧ ∀ x ∈ l, in64 x := by
  obtain ⟨v, chs, h1, h2, h3⟩ := rd_slice Tryz.underlying87 cellsOf_u64 (by decide) h
  obtain ⟨l, rfl, hq⟩ := reps_of (f := fun n : Int => [UV n]) (q := in64) chs (fun c hc => rd_u64 (h3 c hc).2)
  refine ⟨v, l, h1, ?_, hq⟩
  rw [flatten_one, List.length_map] at h2
  exact h2
/-- Cells of bytes. -/
theorem rd_cells_u8 {w : World} {cs : List Value} {n : Nat} (hl : cs.length = n) (h : ∀ i, i < n → Rd Tryz.prog w 5 ((cs.drop (i * 1)).take 1)) : ∃ l : List UInt8, l.length = n ∧ cs = l.map BV := by
  obtain ⟨l, h1, h2⟩ := list_of (p := fun i (b : UInt8) => cs[i]? = some (BV b)) n (fun i hi => by
    obtain ⟨b, hb⟩ := rd_u8 (h i hi)
    refine ⟨b, ?_⟩
    have := congrArg (fun l => l[0]?) hb
    simpa [List.getElem?_take, List.getElem?_drop] using this)
  refine ⟨l, h1, ?_⟩
  apply List.ext_getElem?
  intro i
  by_cases hi : i < n
  · rw [h2 i l[i] (List.getElem?_eq_getElem (by omega)), List.getElem?_map, List.getElem?_eq_getElem (by omega)]; rfl
  · rw [List.getElem?_eq_none (by omega), List.getElem?_eq_none (by simp; omega)]
theorem cellsOf_key : Tryz.prog.cellsOf 24 = 32 := by kernel_rfl
theorem rd_key {w : World} {cs : List Value} (h : Rd Tryz.prog w 24 cs) : ∃ l : List UInt8, l.length = 32 ∧ cs = l.map BV := by
  obtain ⟨hl, he⟩ := rd_array (n := 32) (e := 5) Tryz.underlying24 h
  rw [cellsOf_u8] at he
  exact rd_cells_u8 (by rw [hl, cellsOf_key]) he
theorem cons_of {α : Type} {l : List α} {n : Nat} (h : l.length = n + 1) : ∃ a r, l = a :: r ∧ r.length = n := by
  cases l with
  | nil => simp at h
  | cons a r => exact ⟨a, r, rfl, by simpa using h⟩
theorem cellsOf_proof : Tryz.prog.cellsOf 48 = 2 := by kernel_rfl
theorem rd_proof {w : World} {cs : List Value} (h : Rd Tryz.prog w 48 cs) : ∃ c s : Int, cs = [UV c, UV s] ∧ in64 c ∧ in64 s := by
  obtain ⟨hl, _⟩ := rd_struct Tryz.underlying48 h
  rw [cellsOf_proof] at hl
  obtain ⟨c, h1, h2⟩ := rd_u64 (rd_field Tryz.underlying48 h 0 (off := 0) rfl cellsOf_u64)
  obtain ⟨s, h3, h4⟩ := rd_u64 (rd_field Tryz.underlying48 h 1 (off := 1) rfl cellsOf_u64)
  obtain ⟨a, cs1, rfl, hl1⟩ := cons_of hl
  obtain ⟨b, cs2, rfl, hl2⟩ := cons_of hl1
  obtain rfl := List.eq_nil_of_length_eq_zero hl2
  simp only [List.drop_zero, List.take_succ_cons, List.take_zero, List.drop_succ_cons, List.cons.injEq, and_true] at h1 h3
  exact ⟨c, s, by rw [h1, h3], h2, h4⟩

set_option maxRecDepth 100000 in
theorem cells_slice {t e : TypeId} {w : World} {v u : Value} {base : Nat} (ht : Tryz.prog.underlying t = some (.slice e)) (hv : Value.okWide Tryz.prog w .any base t v) (h : v.cells.toList = [u]) : v = u := by
  obtain ⟨a, len, cap, rfl⟩ := okWide_slice ht hv
  simpa [Value.cells] using h
set_option maxRecDepth 100000 in
theorem cells_agg {t : TypeId} {w : World} {v : Value} {l : List Value} {base : Nat} (ht : (match Tryz.prog.underlying t with | some (.struct _) | some (.array _ _) => true | _ => false) = true) (hv : Value.okWide Tryz.prog w .any base t v) (h : v.cells.toList = l) : v = .agg l.toArray := by
  unfold Value.okWide at hv
  split at hv
  · obtain ⟨cs, rfl, _⟩ := hv; simp [Value.cells] at h; rw [← h]
  · obtain ⟨cs, rfl, _⟩ := hv; simp [Value.cells] at h; rw [← h]
  · split at ht <;> simp_all
section
variable {H : Type} {enc : TypeId × Value → H} {w : World} {v : Value} {d : DataW H} {p : List MemPlace} {base : Nat}
set_option maxRecDepth 100000 in
theorem openA_u64 (hv : Value.okWide Tryz.prog w .any base 22 v) (h : DataW.Trod enc Tryz.prog w 0 (fun _ => true) true 22 v d p) : ∃ a, v = .int .u64 a ∧ in64 a := by
  obtain ⟨a, h1, _, _, h2⟩ := open_int Tryz.underlying22 hv h; exact ⟨a, h1, wf_u64 h2⟩
set_option maxRecDepth 100000 in
theorem openA_i64 (hv : Value.okWide Tryz.prog w .any base 3 v) (h : DataW.Trod enc Tryz.prog w 0 (fun _ => true) true 3 v d p) : ∃ a, v = .int .i64 a ∧ -9223372036854775808 ≤ a ∧ a ≤ 9223372036854775807 := by
  obtain ⟨a, h1, _, _, h2⟩ := open_int Tryz.underlying3 hv h; exact ⟨a, h1, wf_i64 h2⟩
set_option maxRecDepth 100000 in
theorem openA_string (hv : Value.okWide Tryz.prog w .any base 9 v) (h : DataW.Trod enc Tryz.prog w 0 (fun _ => true) true 9 v d p) : ∃ a, v = .string a ∧ a.size ≤ 9223372036854775807 := by
  obtain ⟨a, h1, _, _, h2⟩ := Go.ChangeMaps.open_string Tryz.underlying9 hv h; exact ⟨a, h1, by unfold maxLen at h2; omega⟩
set_option maxRecDepth 100000 in
theorem openA_bytes (hv : Value.okWide Tryz.prog w .any base 44 v) (h : DataW.Trod enc Tryz.prog w 0 (fun _ => true) true 44 v d p) : ∃ a, SeesB w v a := by
  obtain ⟨u, l, h1, h2⟩ := rd_bytes (rd_of h)
  obtain rfl := cells_slice Tryz.underlying44 hv h1
  exact ⟨l, h2⟩
set_option maxRecDepth 100000 in
theorem openA_u64s (hv : Value.okWide Tryz.prog w .any base 87 v) (h : DataW.Trod enc Tryz.prog w 0 (fun _ => true) true 87 v d p) : ∃ a, SeesU w v a ∧ ∀ x ∈ a, in64 x := by
  obtain ⟨u, l, h1, h2, h3⟩ := rd_u64s (rd_of h)
  obtain rfl := cells_slice Tryz.underlying87 hv h1
  exact ⟨l, h2, h3⟩
set_option maxRecDepth 100000 in
theorem openA_key (hv : Value.okWide Tryz.prog w .any base 24 v) (h : DataW.Trod enc Tryz.prog w 0 (fun _ => true) true 24 v d p) : ∃ a, v = .agg (keyA a) ∧ a.length = 32 := by
  obtain ⟨l, h1, h2⟩ := rd_key (rd_of h)
  exact ⟨l, cells_agg (by kernel_rfl) hv h2, h1⟩
set_option maxRecDepth 100000 in
theorem openA_proof (hv : Value.okWide Tryz.prog w .any base 48 v) (h : DataW.Trod enc Tryz.prog w 0 (fun _ => true) true 48 v d p) : ∃ c s, v = PV c s ∧ in64 c ∧ in64 s := by
  obtain ⟨c, s, h1, h2, h3⟩ := rd_proof (rd_of h)
  exact ⟨c, s, cells_agg (by kernel_rfl) hv h1, h2, h3⟩
end
end Go.Proofs.YtbgnfioggmkdeaaGreatDoor
namespace Go.Proofs.YtbgnfioggmkdeaaGreatDoor
set_option linter.unusedVariables false
set_option linter.unusedSimpArgs false
open Go Go.RowKit Go.ChangeShapes Go.WideShapes Go.ChangeAt

theorem cellsOf_pub : Tryz.prog.cellsOf 133 = 10 := by kernel_rfl
theorem rd_pub {w : World} {cs : List Value} (h : Rd Tryz.prog w 133 cs) : ∃ p : Pub, cs = p.cells ∧ p.ok := by
  obtain ⟨hl, _⟩ := rd_struct Tryz.underlying133 h
  rw [cellsOf_pub] at hl
  obtain ⟨a0, h0, q0⟩ := rd_u64 (rd_field Tryz.underlying133 h 0 (off := 0) rfl cellsOf_u64)
  obtain ⟨a1, h1, q1⟩ := rd_u64 (rd_field Tryz.underlying133 h 1 (off := 1) rfl cellsOf_u64)
  obtain ⟨a2, h2, q2⟩ := rd_u64 (rd_field Tryz.underlying133 h 2 (off := 2) rfl cellsOf_u64)
  obtain ⟨a3, h3, q3⟩ := rd_u64 (rd_field Tryz.underlying133 h 3 (off := 3) rfl cellsOf_u64)
  obtain ⟨a4, a5, h4, q4, q5⟩ := rd_proof (rd_field Tryz.underlying133 h 4 (off := 4) rfl cellsOf_proof)
  obtain ⟨a6, a7, h5, q6, q7⟩ := rd_proof (rd_field Tryz.underlying133 h 5 (off := 6) rfl cellsOf_proof)
  obtain ⟨a8, a9, h6, q8, q9⟩ := rd_proof (rd_field Tryz.underlying133 h 6 (off := 8) rfl cellsOf_proof)
  clear h
  obtain ⟨c0, r0, rfl, l0⟩ := cons_of hl
  obtain ⟨c1, r1, rfl, l1⟩ := cons_of l0
  obtain ⟨c2, r2, rfl, l2⟩ := cons_of l1
  obtain ⟨c3, r3, rfl, l3⟩ := cons_of l2
  obtain ⟨c4, r4, rfl, l4⟩ := cons_of l3
  obtain ⟨c5, r5, rfl, l5⟩ := cons_of l4
  obtain ⟨c6, r6, rfl, l6⟩ := cons_of l5
  obtain ⟨c7, r7, rfl, l7⟩ := cons_of l6
  obtain ⟨c8, r8, rfl, l8⟩ := cons_of l7
  obtain ⟨c9, r9, rfl, l9⟩ := cons_of l8
  obtain rfl := List.eq_nil_of_length_eq_zero l9
  simp only [List.drop_zero, List.take_succ_cons, List.take_zero, List.drop_succ_cons, List.cons.injEq, and_true] at h0 h1 h2 h3 h4 h5 h6
  obtain ⟨e4, e5⟩ := h4
  obtain ⟨e6, e7⟩ := h5
  obtain ⟨e8, e9⟩ := h6
  subst h0 h1 h2 h3 e4 e5 e6 e7 e8 e9
  exact ⟨⟨a0, a1, a2, a3, a4, a5, a6, a7, a8, a9⟩, rfl, q0, q1, q2, q3, q4, q5, q6, q7, q8, q9⟩
theorem rd_publics {w : World} {cs : List Value} (h : Rd Tryz.prog w 28 cs) : ∃ (v : Value) (l : List Pub), cs = [v] ∧ SeesP w v l ∧ ∀ p ∈ l, p.ok := by
  obtain ⟨v, chs, h1, h2, h3⟩ := rd_slice Tryz.underlying28 cellsOf_pub (by decide) h
  obtain ⟨l, rfl, hq⟩ := reps_of (f := Pub.cells) (q := Pub.ok) chs (fun c hc => rd_pub (h3 c hc).2)
  refine ⟨v, l, h1, ?_, hq⟩
  rw [List.length_map, ← List.flatMap_def] at h2
  exact h2
section
variable {H : Type} {enc : TypeId × Value → H} {w : World} {v : Value} {d : DataW H} {p : List MemPlace} {base : Nat}
set_option maxRecDepth 100000 in
theorem openA_publics (hv : Value.okWide Tryz.prog w .any base 28 v) (h : DataW.Trod enc Tryz.prog w 0 (fun _ => true) true 28 v d p) : ∃ a, SeesP w v a ∧ ∀ p ∈ a, p.ok := by
  obtain ⟨u, l, h1, h2, h3⟩ := rd_publics (rd_of h)
  obtain rfl := cells_slice Tryz.underlying28 hv h1
  exact ⟨l, h2, h3⟩
end
end Go.Proofs.YtbgnfioggmkdeaaGreatDoor
