/-
  A region that draws its order, walked by a tree: where several operations that are not quiet may come next, one branch for each.
-/
import Derived.Test.YteialfdhbfbkgaaSched
import Derived.Test.YteialfdhbfbkgaaMem
namespace Go.Proofs.Yteialfdhbfbkgaa
set_option linter.unusedVariables false
set_option linter.unusedSimpArgs false
open Go Go.RowKit
variable {P : Program} {C : World → Prop} {Q : Exit → Act → World → Prop}

inductive Tr where
  | fin (qs : List Nat)
  | step (qs : List Nat) (alts : Tr)
  | alt (i : Nat) (s rest : Tr)
  | nil

def wpTr (P : Program) (l : List Oper) (C : World → Prop) (Q : Exit → Act → World → Prop) : Tr → Act → World → Prop
  | .fin qs, a, w => wpQuiet P l.toArray C (fun a' => Q .normal a' w) (pickOps l qs) a
  | .step qs alts, a, w => wpQuiet P l.toArray C (fun a' => wpTr P l C Q alts a' w) (pickOps l qs) a
  | .alt i s rest, a, w => wpList P l.toArray (phPost (fun a'' w'' => C w'' ∧ wpTr P l C Q s a'' w'') Q) (pickOps l [i]) a w ∧ wpTr P l C Q rest a w
  | .nil, _, _ => True
def Tr.heads : Tr → List Nat
  | .alt i _ rest => i :: rest.heads
  | _ => []
def Tr.reg : Tr → Bool
  | .fin _ | .step _ _ => true
  | _ => false
def trB (ops : Array Oper) : Tr → Nat → Array Bool → Bool
  | .fin qs, n, listed => decide (qs.length ≤ n) && quietB .any ops qs (fun l => (Region.ready .any ops l).isEmpty) listed
  | .step qs alts, n, listed => decide (qs.length < n) && !alts.heads.isEmpty && !alts.reg && quietB .any ops qs (fun l => decide (Region.ready .any ops l = alts.heads) && trB ops alts (n - qs.length) l) listed
  | .alt i s rest, n, listed => s.reg && !rest.reg && trB ops s (n - 1) (listed.setIfInBounds i true) && trB ops rest n listed
  | .nil, _, _ => true
theorem wpTr_fin {l : List Oper} {qs : List Nat} {a : Act} {w : World} (h : wpQuiet P l.toArray C (fun a' => Q .normal a' w) (pickOps l qs) a) : wpTr P l C Q (.fin qs) a w := h
theorem wpTr_step {l : List Oper} {qs : List Nat} {t : Tr} {a : Act} {w : World} (h : wpQuiet P l.toArray C (fun a' => wpTr P l C Q t a' w) (pickOps l qs) a) : wpTr P l C Q (.step qs t) a w := h
theorem wpTr_alt {l : List Oper} {i : Nat} {s t : Tr} {a : Act} {w : World} (h : wpList P l.toArray (phPost (fun a'' w'' => C w'' ∧ wpTr P l C Q s a'' w'') Q) (pickOps l [i]) a w) (h' : wpTr P l C Q t a w) : wpTr P l C Q (.alt i s t) a w := ⟨h, h'⟩
theorem wpTr_one {l : List Oper} {i : Nat} {s : Tr} {a : Act} {w : World} (h : wpList P l.toArray (phPost (fun a'' w'' => C w'' ∧ wpTr P l C Q s a'' w'') Q) (pickOps l [i]) a w) : wpTr P l C Q (.alt i s .nil) a w := ⟨h, trivial⟩

theorem wpAnyH_tr {l : List Oper} (hsel : Region.noSelect l.toArray = true) (hQ : ∀ c (a a' : Act) w, a'.defers = a.defers → Q (.panic c) a' w → Q (.panic c) a w) : ∀ (t : Tr),
    (t.reg = true → ∀ (n : Nat) (listed : Array Bool) (a : Act) (w : World), C w → trB l.toArray t n listed = true → wpTr P l C Q t a w → wpAnyH P .any l.toArray Q C n listed a w) ∧
    (t.reg = false → ∀ (n : Nat) (listed : Array Bool) (a : Act) (w : World), trB l.toArray t (n + 1) listed = true → (∀ j ∈ t.heads, j ∈ Region.ready .any l.toArray listed) → wpTr P l C Q t a w → ∀ j ∈ t.heads,
      wpOp P l.toArray Q j (fun a' w' => C w' ∧ wpAnyH P .any l.toArray Q C n (listed.setIfInBounds j true) a' w') a w)
  | .fin qs => ⟨fun _ n listed a w hC hB h => by
      simp only [trB, Bool.and_eq_true, decide_eq_true_eq] at hB
      have := wpAnyH_quiets (f := n - qs.length) hsel hQ hC (L := fun a' => Q .normal a' w) (k := fun l' => (Region.ready .any l.toArray l').isEmpty)
        (fun listed a hk hL => wpAnyH_done (by simpa using hk) hL _) qs listed a hB.2 h
      rwa [show qs.length + (n - qs.length) = n from by omega] at this, fun h => nomatch h⟩
  | .nil => ⟨fun h => (nomatch h), fun _ n listed a w _ _ _ j hj => nomatch hj⟩
  | .step qs t => ⟨fun _ n listed a w hC hB h => by
      simp only [trB, Bool.and_eq_true, decide_eq_true_eq, Bool.not_eq_true'] at hB
      obtain ⟨⟨⟨hlt, hne⟩, hreg⟩, hq⟩ := hB
      obtain ⟨m, hm⟩ : ∃ m, n - qs.length = m + 1 := ⟨n - qs.length - 1, by omega⟩
      have := wpAnyH_quiets (f := m + 1) hsel hQ hC (L := fun a' => wpTr P l C Q t a' w) (k := fun l' => decide (Region.ready .any l.toArray l' = t.heads) && trB l.toArray t (n - qs.length) l')
        (fun listed a hk hL => by
          simp only [Bool.and_eq_true, decide_eq_true_eq] at hk
          rw [hm] at hk
          exact wpAnyH_all hk.1 (fun h0 => by rw [h0] at hne; simp at hne) ((wpAnyH_tr hsel hQ t).2 hreg m listed a w hk.2 (fun j hj => by rw [hk.1]; exact hj) hL)) qs listed a hq h
      rwa [show qs.length + (m + 1) = n from by omega] at this, fun h => nomatch h⟩
  | .alt i s rest => ⟨fun h => (nomatch h), fun _ n listed a w hB hr h j hj => by
      simp only [trB, Bool.and_eq_true, Bool.not_eq_true', Nat.add_sub_cancel] at hB
      obtain ⟨⟨⟨hs, hrest⟩, hB1⟩, hB2⟩ := hB
      simp only [Tr.heads, List.mem_cons] at hj hr
      rcases hj with rfl | hj
      · have hi : ∃ o, l[j]? = some o := by
          obtain ⟨_, o, ho, _⟩ := mem_ready.1 (hr j (Or.inl rfl))
          exact ⟨o, by simpa using ho⟩
        obtain ⟨o, ho⟩ := hi
        have hL := h.1
        rw [pickOps_cons, pickOps_some ho] at hL
        simp only [pickOps, List.flatMap_nil, List.append_nil] at hL
        have ho' : l.toArray[j]? = some o := by simpa using ho
        unfold wpOp
        rw [ho']
        simp only [wpList] at hL
        split at hL
        · rename_i hw
          simp only [hw, if_true]
          rcases hL with h1 | ⟨h1, h2⟩
          · exact .inl (wp_phPost (Oper.wp_mono (fun a' w' hK => ⟨hK.1, (wpAnyH_tr hsel hQ s).1 hs n _ a' w' hK.1 hB1 hK.2⟩) h1))
          · exact .inr ⟨h1, h2⟩
        · rename_i hw
          simp only [hw]
          exact ⟨hL.1, (wpAnyH_tr hsel hQ s).1 hs n _ _ _ hL.1 hB1 hL.2⟩
      · exact (wpAnyH_tr hsel hQ rest).2 hrest n listed a w hB2 (fun k hk => hr k (Or.inr hk)) h.2 j hj⟩

theorem wp_region_tr {id : Nat} {a : Act} {w : World} {l : List Oper} (t : Tr) (hm : P.follows .mixedOrders = true)
    (hB : (Region.noSelect l.toArray && t.reg && trB l.toArray t l.length (Array.replicate l.toArray.size false)) = true)
    (hQ : ∀ c (a a' : Act) w, a'.defers = a.defers → Q (.panic c) a' w → Q (.panic c) a w) (hC : C w.drew)
    (h : wpTr P l C Q t a w.drew) : (Code.region id l.toArray true).wp P Q a w := by
  simp only [Bool.and_eq_true] at hB
  obtain ⟨⟨hsel, hreg⟩, hB⟩ := hB
  refine wp_region_any hm (wpAny_of_held (S := C) _ _ _ _ ?_)
  have := (wpAnyH_tr hsel hQ t).1 hreg l.length _ a _ hC hB h
  simpa using this
/-- What holds of the world now: the class, and nothing older than the call is touched. -/
structure HoldT (S : World → Prop) (w u : World) : Prop where
  has : S u
  up : Below w.heap.size w u
def Stab (S : World → Prop) : Prop := ∀ u u', S u → Below u.heap.size u u' → S u'
theorem HoldT.step {S : World → Prop} {w u u' : World} (hs : Stab S) (h : HoldT S w u) (hb : Below u.heap.size u u') : HoldT S w u' := ⟨hs _ _ h.has hb, h.up.trans (hb.mono h.up.size)⟩
theorem HoldT.alloc {S : World → Prop} {w u : World} (hs : Stab S) (h : HoldT S w u) (o : Obj) : HoldT S w (u.alloc o) := h.step hs (by go_grown)
theorem HoldT.drew {S : World → Prop} {w u : World} (hs : Stab S) (h : HoldT S w u) : HoldT S w u.drew := h.step hs (Below.drew (Below.refl _ _))
theorem HoldT.drewN {S : World → Prop} {w u : World} (hs : Stab S) (h : HoldT S w u) (n : Nat) : HoldT S w (u.drewN n) := h.step hs (below_drewN (Below.refl _ _) n)
theorem phPost_hold {S : World → Prop} {w u : World} {K : Act → World → Prop} {a : Act} (hk : HoldT S w u) (h : HoldT S w u → K a u) : phPost (fun a'' w'' => (∃ e : InC S, w'' = e.u) ∧ K a'' w'') Q .normal a u := ⟨⟨⟨u, hk.has⟩, rfl⟩, h hk⟩
theorem Stab.blk (g : Nat) (cs : Array Value) (t : TypeId) : Stab (fun u => Blk u g cs t) := fun _ _ h hb => h.below hb
theorem Stab.and {S T : World → Prop} (hs : Stab S) (ht : Stab T) : Stab (fun u => S u ∧ T u) := fun u u' h hb => ⟨hs u u' h.1 hb, ht u u' h.2 hb⟩
theorem Stab.sees (sz : Nat) (v : Value) (n : Nat) (xs : List Value) (h0 : 0 < sz) : Stab (fun u => Sees u sz v n xs) := fun _ _ h hb => h.below hb h0
theorem Stab.cell (a : Addr) (v : Value) : Stab (fun u => u.cell? a = some v) := fun u _ h hb => (hb.cell (World.block_lt_of_cell? u _ h)).trans h
end Go.Proofs.Yteialfdhbfbkgaa
