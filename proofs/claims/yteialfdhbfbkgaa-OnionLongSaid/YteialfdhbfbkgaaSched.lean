/-
  A region that draws its order, walked by a schedule: phases of operations that read only, each followed by the one operation that must come next.
-/
import Derived.Test.YteialfdhbfbkgaaRegion
import Derived.Deep.RegionHeld3
namespace Go.Proofs.Yteialfdhbfbkgaa
set_option linter.unusedVariables false
set_option linter.unusedSimpArgs false
open Go Go.RowKit
variable {P : Program} {md : Region.Mode} {ops : Array Oper} {C : World → Prop} {Q : Exit → Act → World → Prop}

def valueOp : Op → Bool
  | .nilCheck _ | .move _ | .assign _ | .load .. | .binOp .. | .unOp .. | .convert .. | .slice .. | .fieldAddr .. | .field .. | .indexAddr .. | .index .. | .extract .. | .sliceToArrayPointer .. => true
  | .call { callee := .builtin .len, .. } => true
  | _ => false

theorem run_value (s : Sem Value) (w : World) {n : Next} {w' : World} (h : Sem.run P (do pure (Next.value (← s))) w = .ok n w') : ∃ u, n = .value u := by
  have : Sem.run P (s.bind fun v => Sem.pure (Next.value v)) w = .ok n w' := h
  rw [show (s.bind fun v => Sem.pure (Next.value v)) = (s >>= fun v => pure (Next.value v)) from rfl, Sem.run_bind] at this
  cases hr : Sem.run P s w with
  | ok u w2 => rw [hr] at this; simp [Result.andThen] at this; exact ⟨u, this.1.symm⟩
  | halt x w2 => rw [hr] at this; simp [Result.andThen] at this

theorem valueOp_run {o : Oper} (h : valueOp o.op = true) {ev : Operand → Value} {w w' : World} {n : Next} (hr : (execOp ev o).run P w = .ok n w') : ∃ u, n = .value u := by
  unfold execOp at hr
  by_cases hn : ∃ x, o.op = .nilCheck x
  · obtain ⟨x, hx⟩ := hn
    rw [hx] at hr
    simp only at hr
    have hpan : ∀ (n : Next) (w' : World), ((runtimePanic .nilDeref : Sem Next).run P w = .ok n w') → False := fun n w' h => by simp [runtimePanic, goPanic] at h
    have hval : ∀ (v : Value) (n : Next) (w' : World), ((pure (Next.value v) : Sem Next).run P w = .ok n w') → ∃ u, n = .value u := fun v n w' h => by simp at h; exact ⟨_, h.1.symm⟩
    generalize ev x = v at hr
    split at hr
    · exact (hpan _ _ hr).elim
    · exact (hpan _ _ hr).elim
    · exact (hpan _ _ hr).elim
    · split at hr
      · exact (hpan _ _ hr).elim
      · simp only [Sem.run_bind] at hr
        cases h1 : Sem.run P program w with
        | halt x w1 => rw [h1] at hr; simp [Result.andThen] at hr
        | ok p1 w1 =>
          rw [h1] at hr
          simp only [Result.andThen_ok] at hr
          revert hr
          generalize Sem.run P (nilAhead _ _ _ _) w1 = r2
          intro hr
          cases r2 with
          | halt x w2 => simp [Result.andThen] at hr
          | ok b w2 =>
            simp only [Result.andThen_ok] at hr
            split at hr
            · simp [unsupported, Result.andThen] at hr
            · simp at hr; exact ⟨_, hr.1.symm⟩
      · exact hval _ _ _ hr
    · exact hval _ _ _ hr
  cases ho : o.op <;> rw [ho] at h hr <;> simp only [valueOp] at h <;> simp only at hr
  all_goals first
    | exact run_value _ _ hr
    | (simp at hr; exact ⟨_, hr.1.symm⟩)
    | (cases h; done)
    | (exact (hn ⟨_, ho⟩).elim)
    | skip
  rename_i c
  obtain ⟨cal, args, tys⟩ := c
  cases cal with
  | builtin b =>
    cases b <;> simp only at h <;> first | (cases h; done) | skip
    simp only [resolve, Sem.run_bind, Sem.run_pure, Result.andThen_ok, invoke, builtin] at hr
    cases hl : Sem.run P (Builtin.len_ tys o.type (Array.map ev args)) w with
    | ok u w2 => rw [hl] at hr; simp at hr; exact ⟨u, hr.1.symm⟩
    | halt x w2 => rw [hl] at hr; simp [Result.andThen] at hr
  | value f => simp at h
  | invoke r n => simp at h

/-- Such an operation that is quiet in a class yields its value in every world of the class. -/
theorem yieldsIf_of_quiet {o : Oper} {a : Act} {K : Act → Prop} (hv : valueOp o.op = true) (h : if Region.wanted o (yielded ops a.tmps) then o.quiet P a C K else K (a.put o.dst undef)) :
    ∃ v, YieldsIf P ops C o v a ∧ K (a.put o.dst v) := by
  by_cases hw : Region.wanted o (yielded ops a.tmps) = true
  · rw [if_pos hw] at h
    obtain ⟨v, h1, h2⟩ := h
    refine ⟨v, .inl ⟨hw, fun w hC => ?_⟩, h2⟩
    have h3 := h1 w hC
    unfold Oper.quietAt at h3
    cases hr : (execOp a.eval o).run P w with
    | ok n w' =>
      obtain ⟨u, rfl⟩ := valueOp_run hv hr
      rw [hr] at h3
      obtain ⟨e1, e2⟩ := h3
      rw [e1, e2]
    | halt x w' => rw [hr] at h3; exact h3.elim
  · rw [if_neg hw] at h
    exact ⟨undef, .inr ⟨by simpa using hw, rfl⟩, h⟩

def pickOps (l : List Oper) (js : List Nat) : List Oper := js.flatMap fun j => (l.drop j).take 1

/-- Behind the operation that comes next: the class, and the rest; a way out as before. -/
def phPost (K : Act → World → Prop) (Q : Exit → Act → World → Prop) : Exit → Act → World → Prop
  | .normal, a, w => K a w
  | e, a, w => Q e a w

/-- The walk by a schedule. -/
def wpPh (P : Program) (l : List Oper) (C : World → Prop) (Q : Exit → Act → World → Prop) (fin : List Nat) : List (List Nat × Nat) → Act → World → Prop
  | [], a, w => wpQuiet P l.toArray C (fun a' => Q .normal a' w) (pickOps l fin) a
  | (qs, i) :: r, a, w => wpQuiet P l.toArray C (fun a' => wpList P l.toArray (phPost (fun a'' w'' => C w'' ∧ wpPh P l C Q fin r a'' w'') Q) (pickOps l [i]) a' w) (pickOps l qs) a

theorem wpPh_cons {l : List Oper} {fin qs : List Nat} {i : Nat} {r : List (List Nat × Nat)} {a : Act} {w : World}
    (h : wpQuiet P l.toArray C (fun a' => wpList P l.toArray (phPost (fun a'' w'' => C w'' ∧ wpPh P l C Q fin r a'' w'') Q) (pickOps l [i]) a' w) (pickOps l qs) a) : wpPh P l C Q fin ((qs, i) :: r) a w := h
theorem wpPh_nil {l : List Oper} {fin : List Nat} {a : Act} {w : World} (h : wpQuiet P l.toArray C (fun a' => Q .normal a' w) (pickOps l fin) a) : wpPh P l C Q fin [] a w := h
theorem phPost_normal {K : Act → World → Prop} {a : Act} {w : World} (h : K a w) : phPost K Q .normal a w := h
def quietB (md : Region.Mode) (ops : Array Oper) : List Nat → (Array Bool → Bool) → Array Bool → Bool
  | [], k, listed => k listed
  | j :: js, k, listed => (match ops[j]? with | some o => valueOp o.op | none => false) && (Region.ready md ops listed).contains j && Region.free md ops listed j && quietB md ops js k (listed.setIfInBounds j true)
def phB (md : Region.Mode) (ops : Array Oper) (fin : List Nat) : List (List Nat × Nat) → Array Bool → Bool
  | [], listed => quietB md ops fin (fun l => (Region.ready md ops l).isEmpty) listed
  | (qs, i) :: r, listed => quietB md ops qs (fun l => decide (Region.ready md ops l = [i]) && phB md ops fin r (l.setIfInBounds i true)) listed
def phLen (fin : List Nat) : List (List Nat × Nat) → Nat
  | [] => fin.length
  | (qs, _) :: r => qs.length + (1 + phLen fin r)

theorem pickOps_cons (l : List Oper) (j : Nat) (js : List Nat) : pickOps l (j :: js) = (l.drop j).take 1 ++ pickOps l js := by simp [pickOps]
theorem pickOps_some {l : List Oper} {j : Nat} {o : Oper} (h : l[j]? = some o) : (l.drop j).take 1 = [o] := by
  have hj := (List.getElem?_eq_some_iff.1 h).1
  rw [List.take_one, List.head?_drop, h]; rfl

theorem put_defers (a : Act) (d : Option Tmp) (v : Value) : (a.put d v).defers = a.defers := by cases d <;> rfl
/-- A world of a class, with its proof. -/
structure InC (S : World → Prop) where
  u : World
  has : S u
theorem wpAnyH_quiets {l : List Oper} (hsel : Region.noSelect l.toArray = true) (hQ : ∀ c (a a' : Act) w, a'.defers = a.defers → Q (.panic c) a' w → Q (.panic c) a w) {k : Array Bool → Bool} {f : Nat} {w : World} (hC : C w) {L : Act → Prop}
    (hk : ∀ listed a, k listed = true → L a → wpAnyH P .any l.toArray Q C f listed a w) : ∀ (js : List Nat) (listed : Array Bool) (a : Act),
    quietB .any l.toArray js k listed = true → wpQuiet P l.toArray C L (pickOps l js) a → wpAnyH P .any l.toArray Q C (js.length + f) listed a w
  | [], listed, a, hB, h => by
    rw [List.length_nil, Nat.zero_add]
    exact hk listed a hB h
  | j :: js, listed, a, hB, h => by
    simp only [quietB, Bool.and_eq_true] at hB
    obtain ⟨⟨⟨h1, h2⟩, h3⟩, h4⟩ := hB
    cases ho : l[j]? with
    | none => simp [ho] at h1
    | some o =>
      simp only [List.getElem?_toArray, ho] at h1
      rw [pickOps_cons, pickOps_some ho, List.singleton_append] at h
      obtain ⟨v, hy, hK⟩ := yieldsIf_of_quiet (ops := l.toArray) h1 h
      rw [List.length_cons, show js.length + 1 + f = (js.length + f) + 1 from by omega]
      exact wpAnyH_take (i := j) (by simpa using ho) hsel h3 h2 (fun c a w => hQ c _ _ w (put_defers a _ _)) hy hC (wpAnyH_quiets hsel hQ hC hk js _ _ h4 hK)

theorem wp_phPost {o : Oper} {a : Act} {w : World} {K K' : Act → World → Prop} (h : o.wp P a w K (phPost K' Q)) : o.wp P a w K Q := by
  unfold Oper.wp at *
  generalize (execOp a.eval o).run P w = r at *
  cases r with
  | ok n w' =>
    cases n <;> simp only [Oper.upon] at h ⊢ <;> first | exact h | skip
  | halt x w' => cases x <;> simp only [Oper.upon] at h ⊢ <;> exact h
theorem wpAnyH_ph {l : List Oper} (hsel : Region.noSelect l.toArray = true) (hQ : ∀ c (a a' : Act) w, a'.defers = a.defers → Q (.panic c) a' w → Q (.panic c) a w) (fin : List Nat) : ∀ (r : List (List Nat × Nat)) (listed : Array Bool) (a : Act) (w : World), C w →
    phB .any l.toArray fin r listed = true → wpPh P l C Q fin r a w → wpAnyH P .any l.toArray Q C (phLen fin r) listed a w
  | [], listed, a, w, hC, hB, h => by
    have := wpAnyH_quiets (f := 0) hsel hQ hC (L := fun a' => Q .normal a' w) (k := fun l' => (Region.ready .any l.toArray l').isEmpty)
      (fun listed a hk hL => ⟨by simpa using hk, hL⟩) fin listed a hB h
    simpa [phLen] using this
  | (qs, i) :: r, listed, a, w, hC, hB, h => by
    refine wpAnyH_quiets hsel hQ hC (fun listed a hk hL => ?_) qs listed a hB h
    simp only [Bool.and_eq_true, decide_eq_true_eq] at hk
    rw [show 1 + phLen fin r = phLen fin r + 1 from by omega]
    refine wpAnyH_all hk.1 (by simp) (fun j hj => ?_)
    have hji : j = i := by simpa using hj
    subst hji
    have hi : ∃ o, l[j]? = some o := by
      have : j ∈ Region.ready .any l.toArray listed := by rw [hk.1]; simp
      obtain ⟨_, o, ho, _⟩ := mem_ready.1 this
      exact ⟨o, by simpa using ho⟩
    obtain ⟨o, ho⟩ := hi
    rw [pickOps_cons, pickOps_some ho] at hL
    simp only [pickOps, List.flatMap_nil, List.append_nil] at hL
    have ho' : l.toArray[j]? = some o := by simpa using ho
    unfold wpOp
    rw [ho']
    simp only [wpList] at hL
    split at hL
    · rename_i hw
      simp only [hw, if_true]
      rcases hL with h1 | ⟨h1, h2⟩
      · exact .inl (wp_phPost (Oper.wp_mono (fun a' w' hK => ⟨hK.1, wpAnyH_ph hsel hQ fin r _ a' w' hK.1 hk.2 hK.2⟩) h1))
      · exact .inr ⟨h1, h2⟩
    · rename_i hw
      simp only [hw]
      exact ⟨hL.1, wpAnyH_ph hsel hQ fin r _ _ _ hL.1 hk.2 hL.2⟩

theorem wp_region_ph {id : Nat} {a : Act} {w : World} {l : List Oper} (sched : List (List Nat × Nat)) (fin : List Nat) (hm : P.follows .mixedOrders = true)
    (hB : (Region.noSelect l.toArray && decide (phLen fin sched = l.length) && phB .any l.toArray fin sched (Array.replicate l.toArray.size false)) = true)
    (hQ : ∀ c (a a' : Act) w, a'.defers = a.defers → Q (.panic c) a' w → Q (.panic c) a w) (hC : C w.drew)
    (h : wpPh P l C Q fin sched a w.drew) : (Code.region id l.toArray true).wp P Q a w := by
  simp only [Bool.and_eq_true, decide_eq_true_eq] at hB
  obtain ⟨⟨hsel, hlen⟩, hB⟩ := hB
  refine wp_region_any hm (wpAny_of_held (S := C) _ _ _ _ ?_)
  have := wpAnyH_ph hsel hQ fin sched _ a _ hC hB h
  rw [hlen] at this
  simpa using this
end Go.Proofs.Yteialfdhbfbkgaa
