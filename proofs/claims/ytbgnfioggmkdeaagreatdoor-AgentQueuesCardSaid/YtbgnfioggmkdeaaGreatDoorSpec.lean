/-
  A region that draws its order, by one law for each operation: what it leaves in its slot, in every world that the region may have come to by then. No order is walked.
-/
import Derived.Test.YtbgnfioggmkdeaaGreatDoorPa
import Derived.Test.YtbgnfioggmkdeaaGreatDoorPb
namespace Go.Proofs.YtbgnfioggmkdeaaGreatDoor
set_option linter.unusedVariables false
set_option linter.unusedSimpArgs false
open Go Go.RowKit

/-- What is known of a slot: it stays true while nothing older is touched. -/
structure Ph (R : World → World → Prop) where
  p : Value → World → Prop
  st : ∀ v u u', p v u → R u u' → p v u'
def Ph.tt {R : World → World → Prop} : Ph R := ⟨fun _ _ => True, fun _ _ _ _ _ => trivial⟩
def Ph.eq {R : World → World → Prop} (x : Value) : Ph R := ⟨fun v _ => v = x, fun _ _ _ h _ => h⟩

def spArgs {R : World → World → Prop} (Φ : List (Ph R)) (w : World) : List (Nat × Nat) → Act → (Act → Prop) → Prop
  | [], a, K => K a
  | r :: rs, a, K => ∀ v, (Φ.getD r.1 Ph.tt).p v w → spArgs Φ w rs (a.put (some r.2) v) K
def slotOf (d : Option Tmp) (a : Act) : Value := match d with | some d => a.tmps.getD d undef | none => undef
def spPost {R : World → World → Prop} (ds : List Deferred) (d : Option Tmp) (φ : Ph R) (C : World → Prop) (w : World) : Exit → Act → World → Prop
  | .normal, a', w' => a'.defers = ds ∧ C w' ∧ R w w' ∧ φ.p (slotOf d a') w'
  | _, _, _ => False
def spAll {R : World → World → Prop} (P : Program) (ops : Array Oper) (C : World → Prop) (Φ : List (Ph R)) (a0 : Act) : List Oper → List (Ph R) → List (List (Nat × Nat)) → Prop
  | o :: os, φ :: φs, r :: rs => (∀ w, C w → spArgs Φ w r a0 (fun b => wpList P ops (spPost b.defers o.dst φ C w) [o] b w)) ∧ spAll P ops C Φ a0 os φs rs
  | [], _, _ => True
  | _, _, _ => False

section
variable {R : World → World → Prop} {P : Program} {ops : Array Oper} {C : World → Prop} {Φ : List (Ph R)} {a0 : Act}

theorem spAll_get : ∀ {os : List Oper} {φs : List (Ph R)} {rs : List (List (Nat × Nat))}, spAll P ops C Φ a0 os φs rs → ∀ (i : Nat) (o : Oper), os[i]? = some o →
    ∃ φ r, φs[i]? = some φ ∧ rs[i]? = some r ∧ ∀ w, C w → spArgs Φ w r a0 (fun b => wpList P ops (spPost b.defers o.dst φ C w) [o] b w)
  | o :: os, φ :: φs, r :: rs, h, 0, o', ho => by cases ho; exact ⟨φ, r, rfl, rfl, h.1⟩
  | o :: os, φ :: φs, r :: rs, h, i + 1, o', ho => by
    obtain ⟨φ', r', h1, h2, h3⟩ := spAll_get h.2 i o' (by simpa using ho)
    exact ⟨φ', r', by simpa using h1, by simpa using h2, h3⟩
  | [], _, _, _, i, o', ho => by simp at ho

def putR (val : Nat → Value) : List (Nat × Nat) → Act → Act
  | [], a => a
  | r :: rs, a => putR val rs (a.put (some r.2) (val r.2))
theorem spArgs_inst (w : World) (val : Nat → Value) : ∀ (rs : List (Nat × Nat)) (b : Act) (K : Act → Prop), (∀ r ∈ rs, (Φ.getD r.1 Ph.tt).p (val r.2) w) → spArgs Φ w rs b K → K (putR val rs b)
  | [], b, K, _, h => h
  | r :: rs, b, K, hr, h => spArgs_inst w val rs _ K (fun r' h' => hr r' (by simp [h'])) (h _ (hr r (by simp)))
theorem put_size (a : Act) (d : Option Tmp) (v : Value) : (a.put d v).tmps.size = a.tmps.size := by cases d <;> simp [Act.put]
theorem put_def (a : Act) (d : Option Tmp) (v : Value) : (a.put d v).defers = a.defers := by cases d <;> rfl
theorem putR_size (val : Nat → Value) : ∀ (rs : List (Nat × Nat)) (b : Act), (putR val rs b).tmps.size = b.tmps.size
  | [], b => rfl
  | r :: rs, b => (putR_size val rs _).trans (put_size _ _ _)
theorem putR_def (val : Nat → Value) : ∀ (rs : List (Nat × Nat)) (b : Act), (putR val rs b).defers = b.defers
  | [], b => rfl
  | r :: rs, b => (putR_def val rs _).trans (put_def _ _ _)
theorem get_put_same (a : Act) (t : Nat) (v : Value) (h : t < a.tmps.size) : (a.put (some t) v).tmps[t]? = some v := by simp [Act.put, h]
theorem get_put_ne (a : Act) (t : Nat) (d : Option Tmp) (v : Value) (h : d ≠ some t) : (a.put d v).tmps[t]? = a.tmps[t]? := by
  cases d with
  | none => rfl
  | some d => exact Array.getElem?_setIfInBounds_ne (fun e => h (by rw [e]))
theorem putR_get (a : Act) : ∀ (rs : List (Nat × Nat)) (b : Act), b.tmps.size = a.tmps.size → ∀ t : Nat, (putR (fun t => a.tmps.getD t undef) rs b).tmps[t]? = if (∃ r ∈ rs, r.2 = t) then a.tmps[t]? else b.tmps[t]?
  | [], b, _, t => by simp [putR]
  | r :: rs, b, hb, t => by
    rw [putR, putR_get a rs _ ((put_size _ _ _).trans hb) t]
    by_cases h : ∃ r' ∈ rs, r'.2 = t
    · rw [if_pos h, if_pos (by obtain ⟨r', h1, h2⟩ := h; exact ⟨r', by simp [h1], h2⟩)]
    · rw [if_neg h]
      by_cases hr : r.2 = t
      · rw [if_pos ⟨r, by simp, hr⟩]
        subst hr
        by_cases hs : r.2 < a.tmps.size
        · rw [get_put_same _ _ _ (by omega), Array.getD_eq_getD_getElem?, Array.getElem?_eq_getElem hs]; rfl
        · rw [Array.getElem?_eq_none (by rw [put_size]; omega), Array.getElem?_eq_none (by omega)]
      · rw [if_neg (by rintro ⟨r', h1, h2⟩; rcases List.mem_cons.1 h1 with rfl | h1; exact hr h2; exact h ⟨r', h1, h2⟩)]
        exact get_put_ne _ _ _ _ (fun e => hr (Option.some.inj e))
theorem put_inj {a b : Act} {d : Option Nat} {u v : Value} (hs : a.tmps.size = b.tmps.size) (h : b.put d u = b.put d v) : a.put d u = a.put d v := by
  cases d with
  | none => rfl
  | some d =>
    by_cases hd : d < b.tmps.size
    · have h1 : (b.put (some d) u).tmps[d]? = (b.put (some d) v).tmps[d]? := by rw [h]
      rw [get_put_same _ _ _ hd, get_put_same _ _ _ hd] at h1
      rw [Option.some.inj h1]
    · have e : ∀ x : Value, a.put (some d) x = a := fun x => by
        show ({ a with tmps := a.tmps.setIfInBounds d x } : Act) = a
        rw [Array.setIfInBounds_eq_of_size_le (by omega)]
      rw [e, e]

/-- Two states that agree on what an operation looks at. -/
theorem same_exec {o : Oper} (hs : ∀ cs b, o.op ≠ .select cs b) {a b : Act} (h : ∀ t ∈ o.looksAt ops, a.tmps[t]? = b.tmps[t]?) :
    execOp a.eval o = execOp b.eval o ∧ Region.wanted o (yielded ops a.tmps) = Region.wanted o (yielded ops b.tmps) := by
  refine ⟨execOp_congr o hs fun x hx => ?_, ?_⟩
  · cases x with
    | tmp t =>
      have := h t (List.mem_append_left _ (List.mem_filterMap.2 ⟨.tmp t, by simpa using hx, rfl⟩))
      simp only [Act.eval, Array.getD_eq_getD_getElem?, this]
    | _ => rfl
  · unfold Region.wanted
    cases hg : o.guard with
    | none => rfl
    | some gw =>
      obtain ⟨g, want⟩ := gw
      have hy : yielded ops a.tmps g = yielded ops b.tmps g := by
        unfold yielded
        cases ht : (ops[g]?).bind (·.dst) with
        | none => rfl
        | some t =>
          have := h t (List.mem_append_right _ (by simp [hg, ht]))
          simp only [Option.bind_some, this]
      simp only [hy]

theorem op_of_spec {o : Oper} {i : Nat} {Q : Exit → Act → World → Prop} {a b : Act} {w : World} {φ : Ph R} (ho : ops[i]? = some o) (hns : ∀ cs b, o.op ≠ .select cs b) (hsz : a.tmps.size = b.tmps.size)
    (hd : ∀ d, o.dst = some d → d < b.tmps.size) (hl : ∀ t ∈ o.looksAt ops, a.tmps[t]? = b.tmps[t]?) (h : wpList P ops (spPost b.defers o.dst φ C w) [o] b w) :
    wpOp P ops Q i (fun a' w' => ∃ v, a' = a.put o.dst v ∧ C w' ∧ R w w' ∧ (o.dst ≠ none → φ.p v w')) a w := by
  obtain ⟨he, hw⟩ := same_exec hns hl
  have fin : ∀ (u : Value) (w' : World), spPost b.defers o.dst φ C w .normal (b.put o.dst u) w' → ∃ v, a.put o.dst u = a.put o.dst v ∧ C w' ∧ R w w' ∧ (o.dst ≠ none → φ.p v w') := by
    rintro u w' ⟨_, h1, h2, h3⟩
    refine ⟨u, rfl, h1, h2, fun hn => ?_⟩
    cases hdd : o.dst with
    | none => exact absurd hdd hn
    | some d =>
      rw [hdd] at h3
      simp only [slotOf] at h3
      rw [Array.getD_eq_getD_getElem?, get_put_same _ _ _ (hd d hdd)] at h3
      exact h3
  unfold wpOp
  simp only [ho, hw]
  simp only [wpList] at h
  split
  · rename_i hwt
    simp only [hwt, if_true] at h
    rcases h with h | ⟨_, hl⟩
    case inr => obtain ⟨_, _, h0⟩ := hl; exact h0.elim
    refine .inl ?_
    unfold Oper.wp at *
    rw [he]
    cases hr : (execOp b.eval o).run P w with
    | ok n w' =>
      rw [hr] at h
      cases n <;> simp only [Oper.upon] at h ⊢
      case value u => exact fin u w' h
      case skip => exact fin undef w' h
      case defer d =>
        have := h.1
        rw [put_def] at this
        exact absurd (congrArg List.length this) (by simp)
      case enter f args =>
        refine Calls.mono h fun e w'' hh => ?_
        cases e with
        | returned u => exact fin u w'' hh
        | panicked c => exact hh.elim
        | outgrown => obtain ⟨_, _, h0⟩ := hh; exact h0.elim
      case row row args => exact Rows.mono h fun u w'' hh => fin u w'' hh
    | halt x w' => rw [hr] at h; cases x <;> simp only [Oper.upon] at h; exact h.elim
  · rename_i hwt
    simp only [hwt] at h
    exact fin undef w h

/-! ### The region's form, as a Bool -/
def readsOk (ops : Array Oper) (n : Nat) (i : Nat) (r : List (Nat × Nat)) : Bool :=
  match ops[i]? with
  | none => false
  | some o => (o.looksAt ops).all (fun t => (List.range n).all fun j => ((ops[j]?).bind (·.dst) != some t) || (r.contains (j, t))) &&
      r.all (fun q => decide (q.1 < n) && ((ops[q.1]?).bind (·.dst) == some q.2) && Region.waitsFor .any ops i q.1)
def spB (ops : Array Oper) (n M : Nat) (reads : List (List (Nat × Nat))) (all : List (Nat × Nat)) : Bool :=
  Region.noSelect ops && decide (n ≤ ops.size) && ((List.range ops.size).all fun i => match ops[i]? with | some o => o.after.all (fun e => !Region.binds .any e || decide (e.on < i)) | none => true) &&
  (decide (n = ops.size) || (Region.sinkB .any ops n && Region.chainB .any ops n)) && Region.seqB .any ops (ops.size - n) n ((List.range ops.size).map (fun i => decide (i < n))).toArray &&
  ((List.range n).all fun i => readsOk ops n i (reads.getD i [])) &&
  ((List.range n).all fun i => match (ops[i]?).bind (·.dst) with | some d => decide (d < M) && all.contains (i, d) && ((List.range n).all fun j => decide (j = i) || ((ops[j]?).bind (·.dst) != some d)) | none => true) &&
  (all.all fun q => decide (q.1 < n) && ((ops[q.1]?).bind (·.dst) == some q.2))

structure SInv (ops : Array Oper) (n : Nat) (C : World → Prop) (Φ : List (Ph R)) (a0 : Act) (listed : Array Bool) (a : Act) (w : World) : Prop where
  defers : a.defers = a0.defers
  size : a.tmps.size = a0.tmps.size
  keep : ∀ t, (∀ i, i < n → listed.getD i false = true → (ops[i]?).bind (·.dst) ≠ some t) → a.tmps[t]? = a0.tmps[t]?
  cls : C w
  phi : ∀ i d, i < n → listed.getD i false = true → (ops[i]?).bind (·.dst) = some d → (Φ.getD i Ph.tt).p (a.tmps.getD d undef) w

theorem count_set {n i : Nat} {listed : Array Bool} (hi : i < n) (hs : listed.getD i true = false) :
    ((List.range n).countP fun j => !listed.getD j true) = ((List.range n).countP fun j => !(listed.setIfInBounds i true).getD j true) + 1 := by
  have hsz : i < listed.size := by
    rcases Nat.lt_or_ge i listed.size with h | h
    · exact h
    · rw [Array.getD_eq_getD_getElem?, Array.getElem?_eq_none h] at hs; cases hs
  have key : ∀ m, ((List.range m).countP fun j => !listed.getD j true) = ((List.range m).countP fun j => !(listed.setIfInBounds i true).getD j true) + (if i < m then 1 else 0) := by
    intro m
    induction m with
    | zero => simp
    | succ m ih =>
      rw [List.range_succ, List.countP_append, List.countP_append, ih]
      by_cases him : i = m
      · subst him
        have h1 : (listed.setIfInBounds i true).getD i true = true := by rw [Array.getD_eq_getD_getElem?]; simp [hsz]
        simp only [List.countP_singleton, hs, h1]
        simp
      · have h1 : (listed.setIfInBounds i true).getD m true = listed.getD m true := by
          rw [Array.getD_eq_getD_getElem?, Array.getD_eq_getD_getElem?, Array.getElem?_setIfInBounds_ne him]
        rw [List.countP_singleton, List.countP_singleton, h1]
        by_cases h2 : i < m
        · rw [if_pos h2, if_pos (show i < m + 1 from by omega)]; omega
        · rw [if_neg h2, if_neg (show ¬ i < m + 1 from by omega)]; omega
  rw [key n, if_pos hi]

theorem spec_go {n M : Nat} {reads : List (List (Nat × Nat))} {all : List (Nat × Nat)} {l : List Oper} {Q : Exit → Act → World → Prop} (hB : spB l.toArray n M reads all = true) (hM : a0.tmps.size = M)
    (hspec : spAll P l.toArray C Φ a0 (l.take n) Φ reads)
    (hfin : ∀ w, C w → spArgs Φ w all a0 (fun b => wpList P l.toArray Q (l.drop n) b w)) :
    ∀ (f : Nat) (listed : Array Bool) (a : Act) (w : World), ((List.range n).countP fun j => !listed.getD j true) = f → HeadInv .any l.toArray n listed → SInv l.toArray n C Φ a0 listed a w →
      wpAny P .any l.toArray Q (f + (l.toArray.size - n)) listed a w := by
  simp only [spB, Bool.and_eq_true, decide_eq_true_eq, List.all_eq_true, List.mem_range] at hB
  obtain ⟨⟨⟨⟨⟨⟨⟨hsel, hn⟩, hlex⟩, htail⟩, hseq⟩, hreads⟩, hdst⟩, hall⟩ := hB
  intro f
  induction f with
  | zero =>
    intro listed a w hc inv S
    have hal : ∀ i, i < n → listed.getD i true = true := by
      intro i hi
      have := List.countP_eq_zero.1 hc i (List.mem_range.2 hi)
      simpa using this
    have hle : listed = ((List.range l.toArray.size).map (fun i => decide (i < n))).toArray := by
      apply Array.ext
      · rw [inv.size]; simp
      · intro i h1 h2
        simp only [List.getElem_toArray, List.getElem_map, List.getElem_range]
        by_cases hi : i < n
        · have := hal i hi
          rw [Array.getD_eq_getD_getElem?, Array.getElem?_eq_getElem h1] at this
          simpa [hi] using this
        · have := inv.tail i (by omega) (by rw [inv.size] at h1; exact h1)
          rw [Array.getD_eq_getD_getElem?, Array.getElem?_eq_getElem h1] at this
          simpa [hi] using this
    have hb := spArgs_inst w (fun t => a.tmps.getD t undef) all a0 _ (fun q hq => by
      have h1 := hall q hq
      simp only [Bool.and_eq_true, decide_eq_true_eq, beq_iff_eq] at h1
      have hl := hal q.1 h1.1
      have hl' : listed.getD q.1 false = true := by
        rw [Array.getD_eq_getD_getElem?] at hl ⊢
        rw [Array.getElem?_eq_getElem (by rw [inv.size]; omega)] at hl ⊢; exact hl
      exact S.phi q.1 q.2 h1.1 hl' h1.2) (hfin w S.cls)
    have hab : putR (fun t => a.tmps.getD t undef) all a0 = a := by
      have hd : (putR (fun t => a.tmps.getD t undef) all a0).defers = a.defers := (putR_def _ _ _).trans S.defers.symm
      have ht : (putR (fun t => a.tmps.getD t undef) all a0).tmps = a.tmps := by
        apply Array.ext_getElem?
        intro t
        rw [putR_get a all a0 S.size.symm t]
        by_cases h : ∃ r ∈ all, r.2 = t
        · rw [if_pos h]
        · rw [if_neg h]
          refine (S.keep t fun i hi hl he => h ?_).symm
          have h1 := hdst i hi
          rw [he] at h1
          simp only [Bool.and_eq_true] at h1
          exact ⟨(i, t), by simpa using h1.1.2, rfl⟩
      cases hp : putR (fun t => a.tmps.getD t undef) all a0 with
      | mk x y => rw [hp] at hd ht; cases a; simp_all
    rw [hab] at hb
    rw [Nat.zero_add]
    have hdl : (l.drop n).length = l.toArray.size - n := by simp
    have := wpAny_of_seq (md := .any) (P := P) (Q' := Q) (l.drop n) n listed a w (fun j => by simp [List.getElem?_drop]) (by rw [hdl, hle]; exact hseq) hb
    rwa [hdl] at this
  | succ f ih =>
    intro listed a w hc inv S
    have hex : ∃ i, i < n ∧ listed.getD i true = false := by
      have : 0 < (List.range n).countP fun j => !listed.getD j true := by omega
      obtain ⟨i, hi, h⟩ := List.countP_pos_iff.1 this
      exact ⟨i, List.mem_range.1 hi, by simpa using h⟩
    have hready : Region.ready .any l.toArray listed ≠ [] := by
      have key : ∀ m, (∀ i, i < m → i < n → listed.getD i true = true) ∨ ∃ i, i < n ∧ i ∈ Region.ready .any l.toArray listed := by
        intro m
        induction m with
        | zero => exact .inl (fun i h => by omega)
        | succ m ihm =>
          rcases ihm with h | h
          · by_cases hm : m < n
            · by_cases hlm : listed.getD m true = true
              · exact .inl (fun i hi hin => by
                  by_cases e : i = m
                  · subst e; exact hlm
                  · exact h i (by omega) hin)
              · refine .inr ⟨m, hm, mem_ready.2 ⟨by simpa using hlm, ?_⟩⟩
                have hml : m < l.toArray.size := by omega
                refine ⟨l.toArray[m], Array.getElem?_eq_getElem hml, fun e he hb => ?_⟩
                have h1 := hlex m hml
                rw [Array.getElem?_eq_getElem hml] at h1
                have h2 := Array.all_eq_true_iff_forall_mem.1 h1 e he
                rw [hb] at h2
                have h3 : e.on < m := by simpa using h2
                have h4 := h e.on h3 (by omega)
                rw [Array.getD_eq_getD_getElem?] at h4 ⊢
                rw [Array.getElem?_eq_getElem (by rw [inv.size]; omega)] at h4 ⊢; exact h4
            · exact .inl (fun i hi hin => h i (by omega) hin)
          · exact .inr h
      rcases key n with h | ⟨i, _, h⟩
      · obtain ⟨i, hi, h2⟩ := hex
        rw [h i hi hi] at h2; cases h2
      · intro e; rw [e] at h; cases h
    rw [show f + 1 + (l.toArray.size - n) = (f + (l.toArray.size - n)) + 1 from by omega]
    refine ⟨fun h0 => absurd h0 hready, fun i hi => ?_⟩
    have hin : i < n := by
      rcases Nat.lt_or_ge i n with h | h
      · exact h
      · exfalso
        obtain ⟨_, o, ho, _⟩ := mem_ready.1 hi
        have hil := (Array.getElem?_eq_some_iff.1 ho).1
        simp only [Bool.or_eq_true, decide_eq_true_eq, Bool.and_eq_true] at htail
        rcases htail with h1 | ⟨h1, h2⟩
        · omega
        · obtain ⟨k, hk, hku⟩ := hex
          exact tail_waits h1 h2 (by omega) inv _ k rfl hk hku i h hi
    obtain ⟨hun, o, ho, hall'⟩ := mem_ready.1 hi
    have hoL : (l.take n)[i]? = some o := by rw [List.getElem?_take_of_lt hin]; simpa using ho
    obtain ⟨φ, r, hφ, hr, hsp⟩ := spAll_get hspec i o hoL
    have hrd := hreads i hin
    rw [List.getD_eq_getElem?_getD, hr] at hrd
    simp only [Option.getD_some, readsOk, ho, Bool.and_eq_true, List.all_eq_true, List.mem_range, decide_eq_true_eq, beq_iff_eq, Bool.or_eq_true, bne_iff_ne, ne_eq] at hrd
    obtain ⟨hr1, hr2⟩ := hrd
    have hlisted : ∀ q ∈ r, listed.getD q.1 false = true := fun q hq => by
      obtain ⟨oj, h1, e, he, hb, heq⟩ := Region.waitsFor_spec (hr2 q hq).2
      rw [ho] at h1; cases h1
      have := hall' e he hb
      rwa [heq] at this
    have hb := spArgs_inst w (fun t => a.tmps.getD t undef) r a0 _ (fun q hq => S.phi q.1 q.2 (hr2 q hq).1.1 (hlisted q hq) (hr2 q hq).1.2) (hsp w S.cls)
    have hlook : ∀ t ∈ o.looksAt l.toArray, a.tmps[t]? = (putR (fun t => a.tmps.getD t undef) r a0).tmps[t]? := fun t ht => by
      rw [putR_get a r a0 S.size.symm t]
      by_cases h : ∃ q ∈ r, q.2 = t
      · rw [if_pos h]
      · rw [if_neg h]
        refine S.keep t fun j hj hjl he => h ?_
        rcases hr1 t ht j hj with h1 | h1
        · exact absurd he h1
        · exact ⟨(j, t), by simpa using h1, rfl⟩
    have hdd : ∀ d, o.dst = some d → d < M := fun d hd => by
      have h5 := hdst i hin
      rw [ho, Option.bind_some, hd] at h5
      simp only [Bool.and_eq_true, decide_eq_true_eq] at h5
      exact h5.1.1
    have hop := op_of_spec (Q := Q) (i := i) ho (fun cs b => Region.noSelect_spec hsel i o cs b ho) (S.size.trans (putR_size _ _ _).symm) (fun d hd => by rw [putR_size, hM]; exact hdd d hd) hlook hb
    refine wpOp_mono (fun a' w' ⟨v, h1, h2, h3, h4⟩ => ?_) hop
    subst h1
    have hφi : Φ.getD i Ph.tt = φ := by rw [List.getD_eq_getElem?_getD, hφ]; rfl
    have hset : ∀ j, (listed.setIfInBounds i true).getD j false = true → j = i ∨ listed.getD j false = true := fun j hj => by
      by_cases e : i = j
      · exact .inl e.symm
      · rw [getD_set_ne false e] at hj; exact .inr hj
    refine ih _ _ _ (by have := count_set hin hun; omega) (inv.set hi hin) ⟨(put_def _ _ _).trans S.defers, (put_size _ _ _).trans S.size, fun t ht => ?_, h2, fun j d hj hjl hjd => ?_⟩
    · have hne : o.dst ≠ some t := fun e => ht i hin (by rw [Array.getD_eq_getD_getElem?]; simp [show i < listed.size from by rw [inv.size]; omega]) (by rw [ho]; exact e)
      rw [get_put_ne _ _ _ _ hne]
      exact S.keep t fun j hj hjl => ht j hj (getD_set_true hjl)
    · rcases hset j hjl with rfl | hjl'
      · have hod : o.dst = some d := by rw [ho] at hjd; exact hjd
        have h5 := hdst j hin
        rw [hjd] at h5
        simp only [Bool.and_eq_true, decide_eq_true_eq] at h5
        rw [hφi, hod, Array.getD_eq_getD_getElem?, get_put_same _ _ _ (by rw [S.size, hM]; exact h5.1.1)]
        exact h4 (by rw [hod]; exact fun e => nomatch e)
      · by_cases e : j = i
        · subst e
          have hod : o.dst = some d := by rw [ho] at hjd; exact hjd
          have h5 := hdst j hin
          rw [hjd] at h5
          simp only [Bool.and_eq_true, decide_eq_true_eq] at h5
          rw [hφi, hod, Array.getD_eq_getD_getElem?, get_put_same _ _ _ (by rw [S.size, hM]; exact h5.1.1)]
          exact h4 (by rw [hod]; exact fun e => nomatch e)
        · have hne : o.dst ≠ some d := fun e' => by
            have h5 := hdst j hj
            rw [hjd] at h5
            simp only [Bool.and_eq_true, decide_eq_true_eq, List.all_eq_true, List.mem_range, Bool.or_eq_true, bne_iff_ne, ne_eq] at h5
            rcases h5.2 i hin with h6 | h6
            · exact e h6.symm
            · exact h6 (by rw [ho]; exact e')
          rw [Array.getD_eq_getD_getElem?, get_put_ne _ _ _ _ hne, ← Array.getD_eq_getD_getElem?]
          exact (Φ.getD j Ph.tt).st _ _ _ (S.phi j d hj hjl' hjd) h3

/-- THE LAW. -/
theorem wp_region_sp {id : Nat} {l : List Oper} {Q : Exit → Act → World → Prop} {a : Act} {w : World} (n M : Nat) (C : World → Prop) (Φ : List (Ph R)) (reads : List (List (Nat × Nat))) (all : List (Nat × Nat))
    (hm : P.follows .mixedOrders = true) (hB : spB l.toArray n M reads all = true) (hM : a.tmps.size = M) (hC : C w.drew)
    (hspec : spAll P l.toArray C Φ a (l.take n) Φ reads)
    (hfin : ∀ w', C w' → spArgs Φ w' all a (fun b => wpList P l.toArray Q (l.drop n) b w')) : (Code.region id l.toArray true).wp P Q a w := by
  have hn : n ≤ l.toArray.size := by
    simp only [spB, Bool.and_eq_true, decide_eq_true_eq] at hB; exact hB.1.1.1.1.1.1.2
  have inv0 : HeadInv .any l.toArray n (Array.replicate l.toArray.size false) :=
    ⟨by simp, fun j oj _ hl => (by rw [getD_replicate_false] at hl; cases hl), fun t _ ht => getD_in (by simpa using ht) (getD_replicate_false _ _)⟩
  have hc : ((List.range n).countP fun j => !(Array.replicate l.toArray.size false).getD j true) = n := by
    have : ((List.range n).countP fun j => !(Array.replicate l.toArray.size false).getD j true) = (List.range n).length := by
      rw [List.countP_eq_length]
      intro i hi
      have hi' := List.mem_range.1 hi
      have hi2 : i < l.length := by have := hn; rw [List.size_toArray] at this; omega
      rw [Array.getD_eq_getD_getElem?]; simp [hi2]
    rw [this, List.length_range]
  refine wp_region_any hm ?_
  have := spec_go (P := P) (C := C) (Φ := Φ) (a0 := a) (Q := Q) hB hM hspec hfin n _ a w.drew hc inv0 ⟨rfl, rfl, fun _ _ => rfl, hC, fun i d _ hl => (by rw [getD_replicate_false] at hl; cases hl)⟩
  rw [show n + (l.toArray.size - n) = l.toArray.size from by omega] at this
  exact this

/-- The laws given one by one, each slot's law with its own. -/
def spRun {R : World → World → Prop} (P : Program) (ops : Array Oper) (C : World → Prop) (a0 : Act) (K : List (Ph R) → Prop) : List (Ph R) → List Oper → List (List (Nat × Nat)) → Prop
  | done, [], _ => K done
  | done, o :: os, r :: rs => ∃ φ, (∀ w, C w → spArgs done w r a0 (fun b => wpList P ops (spPost b.defers o.dst φ C w) [o] b w)) ∧ spRun P ops C a0 K (done ++ [φ]) os rs
  | _, _ :: _, [] => False
theorem spArgs_more {done more : List (Ph R)} {w : World} {K : Act → Prop} : ∀ (r : List (Nat × Nat)) (a : Act), (∀ q ∈ r, q.1 < done.length) → spArgs done w r a K → spArgs (done ++ more) w r a K
  | [], a, _, h => h
  | q :: r, a, hq, h => fun v hv => by
    have hl := hq q (by simp)
    rw [List.getD_eq_getElem?_getD, List.getElem?_append_left hl, ← List.getD_eq_getElem?_getD] at hv
    exact spArgs_more r _ (fun q' h' => hq q' (by simp [h'])) (h v hv)
theorem spRun_all {K : List (Ph R) → Prop} : ∀ (os : List Oper) (rs : List (List (Nat × Nat))) (done : List (Ph R)), (∀ (i : Nat) (r : List (Nat × Nat)), rs[i]? = some r → ∀ q ∈ r, q.1 < done.length + i) →
    spRun P ops C a0 K done os rs → ∃ more, more.length = os.length ∧ K (done ++ more) ∧ spAll P ops C (done ++ more) a0 os more rs
  | [], rs, done, _, h => ⟨[], rfl, by rw [List.append_nil]; exact h, trivial⟩
  | o :: os, r :: rs, done, hr, ⟨φ, h1, h2⟩ => by
    obtain ⟨more, hl, hk, ha⟩ := spRun_all os rs (done ++ [φ]) (fun i r' hi q hq => by
      have := hr (i + 1) r' (by simpa using hi) q hq
      rw [List.length_append, List.length_singleton]; omega) h2
    rw [List.append_assoc, List.singleton_append] at hk ha
    refine ⟨φ :: more, by simp [hl], hk, fun w hw => spArgs_more r _ (fun q hq => by simpa using hr 0 r rfl q hq) (h1 w hw), ha⟩
  | _ :: _, [], _, _, h => h.elim
theorem readsLt {n M : Nat} {reads : List (List (Nat × Nat))} {all : List (Nat × Nat)} (hB : spB ops n M reads all = true) : ∀ (i : Nat) (r : List (Nat × Nat)), (reads.take n)[i]? = some r → ∀ q ∈ r, q.1 < i := by
  simp only [spB, Bool.and_eq_true, decide_eq_true_eq, List.all_eq_true, List.mem_range] at hB
  obtain ⟨⟨⟨⟨⟨⟨⟨hsel, hn⟩, hlex⟩, htail⟩, hseq⟩, hreads⟩, hdst⟩, hall⟩ := hB
  intro i r hi q hq
  have hin : i < n := by have := (List.getElem?_eq_some_iff.1 hi).1; rw [List.length_take] at this; omega
  rw [List.getElem?_take_of_lt hin] at hi
  have hrd := hreads i hin
  rw [List.getD_eq_getElem?_getD, hi] at hrd
  have hio : i < ops.size := by omega
  simp only [Option.getD_some, readsOk, Array.getElem?_eq_getElem hio, Bool.and_eq_true, List.all_eq_true] at hrd
  obtain ⟨oj, h1, e, he, hb, heq⟩ := Region.waitsFor_spec (hrd.2 q hq).2
  rw [Array.getElem?_eq_getElem hio] at h1; cases h1
  have h1 := hlex i hio
  rw [Array.getElem?_eq_getElem hio] at h1
  have h2 := Array.all_eq_true_iff_forall_mem.1 h1 e he
  rw [hb] at h2
  have h3 : e.on < i := by simpa using h2
  omega
/-- THE LAW, walked operation by operation. -/
theorem wp_region_run (R : World → World → Prop) {id : Nat} {l : List Oper} {Q : Exit → Act → World → Prop} {a : Act} {w : World} (n M : Nat) (C : World → Prop) (reads : List (List (Nat × Nat))) (all : List (Nat × Nat))
    (hm : P.follows .mixedOrders = true) (hB : (spB l.toArray n M reads all && decide (reads.length = n)) = true) (hM : a.tmps.size = M) (hC : C w.drew)
    (h : spRun P l.toArray C a (fun Φ : List (Ph R) => ∀ w', C w' → spArgs Φ w' all a (fun b => wpList P l.toArray Q (l.drop n) b w')) [] (l.take n) reads) : (Code.region id l.toArray true).wp P Q a w := by
  simp only [Bool.and_eq_true, decide_eq_true_eq] at hB
  obtain ⟨hB, hrl⟩ := hB
  have hlt := readsLt hB
  rw [List.take_of_length_le (by omega)] at hlt
  obtain ⟨more, hl, hk, ha⟩ := spRun_all (l.take n) reads [] (fun i r hi q hq => by
    have := hlt i r hi q hq; simpa using this) h
  rw [List.nil_append] at hk ha
  exact wp_region_sp n M C more reads all hm hB hM hC ha hk

/-! ### The same, what is known standing newest first -/
def spArgsR {R : World → World → Prop} (done : List (Ph R)) (m : Nat) (w : World) : List (Nat × Nat) → Act → (Act → Prop) → Prop
  | [], a, K => K a
  | r :: rs, a, K => ∀ v, (done.getD (m - 1 - r.1) Ph.tt).p v w → spArgsR done m w rs (a.put (some r.2) v) K
/-- The same, closed: it is not to be unfolded on the way. -/
structure SpA {R : World → World → Prop} (done : List (Ph R)) (m : Nat) (w : World) (rs : List (Nat × Nat)) (a : Act) (K : Act → Prop) : Prop where
  h : spArgsR done m w rs a K
def spRunR {R : World → World → Prop} (P : Program) (ops : Array Oper) (C : World → Prop) (a0 : Act) (K : List (Ph R) → Nat → Prop) : List (Ph R) → Nat → List Oper → List (List (Nat × Nat)) → Prop
  | done, m, [], _ => K done m
  | done, m, o :: os, r :: rs => ∃ φ, (∀ w, C w → SpA done m w r a0 (fun b => wpList P ops (spPost b.defers o.dst φ C w) [o] b w)) ∧ spRunR P ops C a0 K (φ :: done) (m + 1) os rs
  | _, _, _ :: _, [] => False
theorem getD_reverse {α : Type} (l : List α) (d : α) (j : Nat) (h : j < l.length) : l.reverse.getD j d = l.getD (l.length - 1 - j) d := by
  rw [List.getD_eq_getElem?_getD, List.getD_eq_getElem?_getD, List.getElem?_reverse h]
theorem spArgsR_to {done : List (Ph R)} {w : World} {K : Act → Prop} : ∀ (r : List (Nat × Nat)) (a : Act), (∀ q ∈ r, q.1 < done.length) → spArgsR done done.length w r a K → spArgs done.reverse w r a K
  | [], a, _, h => h
  | q :: r, a, hq, h => fun v hv => by
    rw [getD_reverse _ _ _ (hq q (by simp))] at hv
    exact spArgsR_to r _ (fun q' h' => hq q' (by simp [h'])) (h v hv)
theorem spRunR_to {K : List (Ph R) → Prop} {K' : List (Ph R) → Nat → Prop} (n : Nat) (hK : ∀ done, done.length = n → K' done done.length → K done.reverse) : ∀ (os : List Oper) (rs : List (List (Nat × Nat))) (done : List (Ph R)), done.length + os.length = n →
    (∀ (i : Nat) (r : List (Nat × Nat)), rs[i]? = some r → ∀ q ∈ r, q.1 < done.length + i) → spRunR P ops C a0 K' done done.length os rs → spRun P ops C a0 K done.reverse os rs
  | [], rs, done, hn, _, h => hK done (by simpa using hn) h
  | o :: os, r :: rs, done, hn, hr, ⟨φ, h1, h2⟩ => by
    refine ⟨φ, fun w hw => spArgsR_to r _ (fun q hq => by simpa using hr 0 r rfl q hq) (h1 w hw).h, ?_⟩
    have := spRunR_to n hK os rs (φ :: done) (by simp only [List.length_cons] at hn ⊢; omega) (fun i r' hi q hq => by
      have := hr (i + 1) r' (by simpa using hi) q hq
      rw [List.length_cons]; omega) h2
    rwa [List.reverse_cons] at this
  | _ :: _, [], _, _, _, h => h.elim
theorem wp_region_runR (R : World → World → Prop) {id : Nat} {l : List Oper} {Q : Exit → Act → World → Prop} {a : Act} {w : World} (n M : Nat) (C : World → Prop) (reads : List (List (Nat × Nat))) (all : List (Nat × Nat))
    (hm : P.follows .mixedOrders = true) (hB : (spB l.toArray n M reads all && decide (reads.length = n)) = true) (hM : a.tmps.size = M) (hC : C w.drew)
    (h : spRunR P l.toArray C a (fun (done : List (Ph R)) m => ∀ w', C w' → SpA done m w' all a (fun b => wpList P l.toArray Q (l.drop n) b w')) [] 0 (l.take n) reads) : (Code.region id l.toArray true).wp P Q a w := by
  refine wp_region_run R n M C reads all hm hB hM hC ?_
  simp only [Bool.and_eq_true, decide_eq_true_eq] at hB
  obtain ⟨hB, hrl⟩ := hB
  have hlt := readsLt hB
  rw [List.take_of_length_le (by omega)] at hlt
  have hn : (l.take n).length = n := by
    simp only [spB, Bool.and_eq_true, decide_eq_true_eq] at hB
    have := hB.1.1.1.1.1.1.2
    rw [List.length_take]; simp at this; omega
  have hall : ∀ q ∈ all, q.1 < n := fun q hq => by
    simp only [spB, Bool.and_eq_true, List.all_eq_true, decide_eq_true_eq] at hB
    exact (hB.2 q hq).1
  exact spRunR_to (K := fun Φ => ∀ w', C w' → spArgs Φ w' all a (fun b => wpList P l.toArray Q (l.drop n) b w')) n
    (fun done hd hk w' hw' => spArgsR_to all a (fun q hq => by have := hall q hq; omega) (hk w' hw').h) (l.take n) reads [] (by simpa using hn)
    (fun i r hi q hq => by have := hlt i r hi q hq; simpa using this) h

/-! ### The moves -/
theorem sp_op {K : List (Ph R) → Nat → Prop} {done : List (Ph R)} {m : Nat} {o : Oper} {os : List Oper} {r : List (Nat × Nat)} {rs : List (List (Nat × Nat))} (φ : Ph R)
    (h : ∀ w, C w → SpA done m w r a0 (fun b => wpList P ops (spPost b.defers o.dst φ C w) [o] b w)) (hk : spRunR P ops C a0 K (φ :: done) (m + 1) os rs) : spRunR P ops C a0 K done m (o :: os) (r :: rs) := ⟨φ, h, hk⟩
theorem sp_end {K : List (Ph R) → Nat → Prop} {done : List (Ph R)} {m : Nat} {rs : List (List (Nat × Nat))} (h : K done m) : spRunR P ops C a0 K done m [] rs := h
theorem spArg_nil {Φ : List (Ph R)} {m : Nat} {w : World} {a : Act} {K : Act → Prop} (h : K a) : SpA Φ m w [] a K := ⟨h⟩
theorem spArg_eq {Φ : List (Ph R)} {m : Nat} {w : World} {r : Nat × Nat} {rs : List (Nat × Nat)} {a : Act} {K : Act → Prop} {x : Value} (k : Nat) (hk : m - 1 - r.1 = k) (e : Φ[k]? = some (Ph.eq x)) (h : SpA Φ m w rs (a.put (some r.2) x) K) : SpA Φ m w (r :: rs) a K := ⟨fun v hv => by
  rw [hk, List.getD_eq_getElem?_getD, e] at hv; cases hv; exact h.h⟩
theorem spArg_in {Φ : List (Ph R)} {m : Nat} {w : World} {r : Nat × Nat} {rs : List (Nat × Nat)} {a : Act} {K : Act → Prop} {φ : Ph R} (k : Nat) (hk : m - 1 - r.1 = k) (e : Φ[k]? = some φ) (h : ∀ v, φ.p v w → SpA Φ m w rs (a.put (some r.2) v) K) : SpA Φ m w (r :: rs) a K := ⟨fun v hv => (h v (by rw [hk, List.getD_eq_getElem?_getD, e] at hv; exact hv)).h⟩
theorem slot_of {φ : Ph R} {l : List Value} {ds : List Deferred} {d : Nat} {x : Value} {w : World} (h : l[d]? = some x) (hp : φ.p x w) : φ.p (slotOf (some d) ⟨l.toArray, ds⟩) w := by
  have e : slotOf (some d) ⟨l.toArray, ds⟩ = x := by
    show (l.toArray).getD d undef = x
    rw [Array.getD_eq_getD_getElem?, List.getElem?_toArray, h]; rfl
  rw [e]; exact hp
theorem slot_eq {l : List Value} {ds : List Deferred} {d : Nat} {x : Value} {w : World} (h : l[d]? = some x) : (Ph.eq x : Ph R).p (slotOf (some d) ⟨l.toArray, ds⟩) w := slot_of (φ := (Ph.eq x : Ph R)) h rfl
/-- Bytes of the call's own; bytes that are seen; a block under a pointer; whatever. -/
def Ph.ownB (B : Nat) (l : List UInt8) : Ph Ext := ⟨fun v u => OwnB u B v l, fun _ _ _ h e => owns_below h e⟩
def Ph.seesB (l : List UInt8) : Ph Ext := ⟨fun v u => SeesB u v l, fun _ _ _ h e => h.below e (by decide)⟩
def Ph.seesBB (ll : List (List UInt8)) : Ph Ext := ⟨fun v u => SeesBB u v ll, fun _ _ _ h e => h.below e⟩
def Ph.blk (B : Nat) (cs : Array Value) (t : TypeId) : Ph Ext := ⟨fun v u => ∃ g, v = .pointer (some ⟨g, 0, none⟩) ∧ B ≤ g ∧ Blk u g cs t, fun _ _ _ ⟨g, h1, h2, h3⟩ e => ⟨g, h1, h2, h3.below e⟩⟩
end

/-! ### Where a constant's bytes are marked on the way: the marks of bytes may change -/
def ExtM (w u : World) : Prop := w.heap.size ≤ u.heap.size ∧ ∀ (k : Nat) (cs : Array Value) (t : TypeId) (fr : Nat × Nat), w.heap[k]? = some (.cells cs t fr) → ∃ fr', u.heap[k]? = some (.cells cs t fr') ∧ (t ≠ 5 → fr' = fr)
theorem ExtM.refl (w : World) : ExtM w w := ⟨Nat.le_refl _, fun _ _ _ fr h => ⟨fr, h, fun _ => rfl⟩⟩
theorem Ext.m {w u : World} (e : Ext w u) : ExtM w u := ⟨Below.size e, fun k cs t fr h => ⟨fr, (Below.block e k (lt_of_block h)).trans h, fun _ => rfl⟩⟩
theorem ExtM.blk {w u : World} (e : ExtM w u) {g : Nat} {cs : Array Value} {t : TypeId} (h : Blk w g cs t) (ht : t ≠ 5) : Blk u g cs t := by
  obtain ⟨fr, h1, h2⟩ := e.2 g cs t (0, 0) h
  rw [h2 ht] at h1; exact h1
theorem ExtM.cell {w u : World} (e : ExtM w u) {a : Addr} {v : Value} (h : w.cell? a = some v) : u.cell? a = some v := by
  unfold World.cell? at h ⊢
  cases hb : w.heap[a.block]? with
  | none => rw [hb] at h; cases h
  | some o =>
    rw [hb] at h
    cases o with
    | cells cs t fr =>
      obtain ⟨fr', h1, _⟩ := e.2 a.block cs t fr hb
      rw [h1]; exact h
    | _ => simp at h
theorem ExtM.sees {w u : World} (e : ExtM w u) {sz : Nat} {v : Value} {n : Nat} {xs : List Value} (h : Sees w sz v n xs) : Sees u sz v n xs := by
  obtain ⟨hl, a, c, rfl, hc, hm, hnc, hb⟩ := h
  exact ⟨hl, a, c, rfl, hc, hm, hnc, fun hn => by obtain ⟨b, o, he, hcell⟩ := hb hn; exact ⟨b, o, he, fun j v hj => e.cell (hcell j v hj)⟩⟩
theorem ExtM.seesBB {w u : World} (e : ExtM w u) {v : Value} {ll : List (List UInt8)} (h : SeesBB w v ll) : SeesBB u v ll := by
  obtain ⟨vs, h1, h2⟩ := h
  exact ⟨vs, e.sees h1, fun i l x hl hx => e.sees (h2 i l x hl hx)⟩
def StabM (S : World → Prop) : Prop := ∀ u u', S u → ExtM u u' → S u'
theorem StabM.stab {S : World → Prop} (h : StabM S) : Stab S := fun u u' hu hb => h u u' hu (Ext.m hb)
theorem StabM.blk (g : Nat) (cs : Array Value) (t : TypeId) (ht : t ≠ 5) : StabM (fun u => Blk u g cs t) := fun _ _ h e => e.blk h ht
theorem StabM.sees (sz : Nat) (v : Value) (n : Nat) (xs : List Value) : StabM (fun u => Sees u sz v n xs) := fun _ _ h e => e.sees h
theorem StabM.and {S T : World → Prop} (hs : StabM S) (ht : StabM T) : StabM (fun u => S u ∧ T u) := fun u u' h e => ⟨hs u u' h.1 e, ht u u' h.2 e⟩
theorem HoldT.stepM {S : World → Prop} {w u u' : World} (hs : StabM S) (h : HoldT S w u) (e : ExtM u u') (hb : Below w.heap.size u u') : HoldT S w u' := ⟨hs _ _ h.has e, h.up.trans hb⟩
def Ph.mB (l : List UInt8) : Ph ExtM := ⟨fun v u => SeesB u v l, fun _ _ _ h e => e.sees h⟩
def Ph.mBB (ll : List (List UInt8)) : Ph ExtM := ⟨fun v u => SeesBB u v ll, fun _ _ _ h e => e.seesBB h⟩
def Ph.mblk (B : Nat) (cs : Array Value) (t : TypeId) (ht : t ≠ 5) : Ph ExtM := ⟨fun v u => ∃ g, v = .pointer (some ⟨g, 0, none⟩) ∧ B ≤ g ∧ Blk u g cs t, fun _ _ _ ⟨g, h1, h2, h3⟩ e => ⟨g, h1, h2, e.blk h3 ht⟩⟩
/-- A literal of n bytes, new. -/
def Ph.lit (B : Nat) (l : List UInt8) : Ph ExtM := ⟨fun v u => ∃ g fr, v = .slice (some ⟨g, 0, none⟩) l.length l.length ∧ B ≤ g ∧ u.heap[g]? = some (.cells (keyA l) 5 fr), fun _ _ _ ⟨g, fr, h1, h2, h3⟩ e => by
  obtain ⟨fr', h4, _⟩ := e.2 g _ _ _ h3; exact ⟨g, fr', h1, h2, h4⟩⟩
/-- The conversion of a constant's bytes: a mark alone. -/
theorem wpList_mark {ops : Array Oper} {rest : List Oper} {o : Oper} {a : Act} {w : World} {Q : Exit → Act → World → Prop} (hgd : o.guard = none) (x : Operand) (ho : o.op = .convert 44 44 x)
    (g n c : Nat) (hx : a.eval x = .slice (some ⟨g, 0, none⟩) n c) (cs : Array Value) (fr : Nat × Nat) (hg : w.heap[g]? = some (.cells cs 5 fr))
    (h : ∀ u fr', ExtM w u → u.heap[g]? = some (.cells cs 5 fr') → (∀ B, B ≤ g → Below B w u) → wpList Tryz.prog ops Q rest (a.put o.dst (.slice (some ⟨g, 0, none⟩) n c)) u) : wpList Tryz.prog ops Q (o :: rest) a w := by
  have hsh : w.shape? g = some (5, cs.size) := by unfold World.shape?; rw [hg]
  have hrun : (convert 44 44 (.slice (some ⟨g, 0, none⟩) n c)).run Tryz.prog w = .ok (.slice (some ⟨g, 0, none⟩) n c) (w.freeze ⟨g, cs.size, none⟩ 1) := by
    simp [convert, run_underlying Tryz.underlying44, run_underlying Tryz.underlying5, markStringish, hsh]
  have hlt := lt_of_block hg
  have hfr : ∀ k, k ≠ g → (w.freeze ⟨g, cs.size, none⟩ 1).heap[k]? = w.heap[k]? := fun k hk => by
    unfold World.freeze
    rw [if_neg (by decide)]
    simp only [Array.getElem?_modify]
    rw [if_neg (fun e => hk e.symm)]
  have hfg : ∃ fr', (w.freeze ⟨g, cs.size, none⟩ 1).heap[g]? = some (.cells cs 5 fr') := by
    unfold World.freeze
    rw [if_neg (by decide)]
    simp only [Array.getElem?_modify, hg]
    obtain ⟨lo, hi⟩ := fr
    exact ⟨_, rfl⟩
  obtain ⟨fr', hfg⟩ := hfg
  have hsz : (w.freeze ⟨g, cs.size, none⟩ 1).heap.size = w.heap.size := by unfold World.freeze; rw [if_neg (by decide)]; simp
  refine wpList_plain hgd fun K hK => ?_
  unfold Oper.wp
  simp only [execOp, ho, hx, Sem.run_bind, hrun, Result.andThen_ok, Sem.run_pure]
  refine hK _ _ (h _ fr' ⟨Nat.le_of_eq hsz.symm, fun k C t f hk => ?_⟩ hfg (fun B hB => ⟨?_, ?_, ?_, by rw [hsz]; exact Nat.le_refl _, fun k hk => hfr k (by omega)⟩))
  · by_cases e : k = g
    · subst e
      rw [hg] at hk; cases hk
      exact ⟨fr', hfg, fun hn => absurd rfl hn⟩
    · exact ⟨f, (hfr k e).trans hk, fun _ => rfl⟩
  all_goals (unfold World.freeze; rw [if_neg (by decide)])
end Go.Proofs.YtbgnfioggmkdeaaGreatDoor
