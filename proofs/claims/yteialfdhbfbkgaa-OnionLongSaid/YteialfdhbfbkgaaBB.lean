/-
  Slices of slices of bytes of a call's own; strings to bytes.
-/
import Derived.Test.YteialfdhbfbkgaaMem
import Derived.Laws.IdiomStrings
namespace Go.Proofs.Yteialfdhbfbkgaa
set_option linter.unusedVariables false
set_option linter.unusedSimpArgs false
open Go Go.RowKit

/-- Bytes seen, in a block of bytes. -/
def SeesT (w : World) (u : Value) (l : List UInt8) : Prop := SeesB w u l ∧ ∀ g, u.ownBlock = some g → ∃ cs fr, w.heap[g]? = some (.cells cs 5 fr)
theorem SeesT.own {w : World} {B : Nat} {u : Value} {l : List UInt8} (h : OwnB w B u l) : SeesT w u l := ⟨sees_of_owns h, fun g hg => by
  rcases h.2 with ⟨rfl, _⟩ | ⟨g', cap, cur, rfl, _, hh, _⟩
  · cases hg
  · cases hg; exact ⟨_, _, hh⟩⟩
theorem SeesT.below {w w' : World} {u : Value} {l : List UInt8} (h : SeesT w u l) (hb : Below w.heap.size w w') : SeesT w' u l :=
  ⟨h.1.below hb (by decide), fun g hg => by obtain ⟨cs, fr, e⟩ := h.2 g hg; exact ⟨cs, fr, (hb.block g (lt_of_block e)).trans e⟩⟩
theorem SeesT.alloc {w : World} {u : Value} {l : List UInt8} (h : SeesT w u l) (o : Obj) : SeesT (w.alloc o) u l := h.below (by go_grown)
theorem SeesT.grown {w w' : World} {u : Value} {l : List UInt8} {row : Option Nat} (h : SeesT w u l) (hg : w.grownBy w' row)
    (hr : ∀ g, row = some g → ∃ cs fr, w.heap[g]? = some (.cells cs 25 fr)) : SeesT w' u l := by
  have hne : ∀ g, u.ownBlock = some g → some g ≠ row := fun g hu e => by
    obtain ⟨cs, fr, e1⟩ := h.2 g hu
    obtain ⟨cs', fr', e2⟩ := hr g e.symm
    rw [e1] at e2
    injection e2 with e3
    injection e3 with _ e4 _
    exact absurd e4 (by decide)
  refine ⟨h.1.grownBy hg (by decide) ?_, fun g hu => ?_⟩
  · cases hb : u.ownBlock with
    | none => exact .inl rfl
    | some g => exact .inr (hne g hb)
  · obtain ⟨cs, fr, e⟩ := h.2 g hu
    exact ⟨cs, fr, (hg.block g (lt_of_block e) (hne g hu)).trans e⟩
/-- Parts in a row of the call's own. -/
def OwnBB (w : World) (B : Nat) (v : Value) (ll : List (List UInt8)) : Prop :=
  ∃ vs : List Value, w.ownsRow B 25 1 v ll.length vs ∧ ∀ (i : Nat) (l : List UInt8) (u : Value), ll[i]? = some l → vs[i]? = some u → SeesT w u l
theorem OwnBB.sees {w : World} {B : Nat} {v : Value} {ll : List (List UInt8)} (h : OwnBB w B v ll) : SeesBB w v ll := by
  obtain ⟨vs, h1, h2⟩ := h
  exact ⟨vs, sees_of_owns h1, fun i l u hl hu => (h2 i l u hl hu).1⟩
theorem OwnBB.below {w w' : World} {B : Nat} {v : Value} {ll : List (List UInt8)} (h : OwnBB w B v ll) (hb : Below w.heap.size w w') : OwnBB w' B v ll := by
  obtain ⟨vs, h1, h2⟩ := h
  exact ⟨vs, owns_below h1 hb, fun i l u hl hu => (h2 i l u hl hu).below hb⟩
theorem OwnBB.one {w : World} {B : Nat} {u : Value} {l : List UInt8} (h : SeesT w u l) (hB : B ≤ w.heap.size) : OwnBB (w.alloc (.cells #[u] 25)) B (.slice (some ⟨w.heap.size, 0, none⟩) 1 1) [l] :=
  ⟨[u], ⟨rfl, .inr ⟨w.heap.size, 1, #[u], rfl, hB, heap_alloc_new w _, Nat.le_refl 1, by decide, rfl, rfl⟩⟩, fun i l' u' hl hu => by
    cases i with
    | zero => cases hl; cases hu; exact h.alloc _
    | succ i => simp at hl⟩
theorem OwnBB.form {w : World} {B : Nat} {v : Value} {ll : List (List UInt8)} (h : OwnBB w B v ll) : ∃ a c, v = .slice a ll.length c ∧ ll.length ≤ c ∧ c ≤ 9223372036854775807 := by
  obtain ⟨vs, h1, _⟩ := h; exact owns_form h1
theorem info_bb : (Try.prog.info? 25).map (fun i => (i.zero, i.size, i.bytes)) = some (some (.slice none 0 0), 1, 24) := by kernel_rfl
theorem appBB {W w : World} {ops : Array Oper} {rest : List Oper} {o : Oper} {a : Act} {Q : Exit → Act → World → Prop} (hgd : o.guard = none) (s x : Operand)
    (ho : o.op = .call { callee := .builtin .append, args := #[s, x], argTypes := #[75, 75] })
    (v : Value) (ll : List (List UInt8)) (hs : a.eval s = v) (hown : OwnBB w W.heap.size v ll) (vx u : Value) (l : List UInt8) (hx : a.eval x = vx) (hsee : Sees w 1 vx 1 [u]) (hu : SeesT w u l) (hu1 : u.oneCell' = true)
    (hb : ll.length ≤ 1000000000) (hW : Below W.heap.size W w)
    (h : ∀ v' w', OwnBB w' W.heap.size v' (ll ++ [l]) → w.grownBy w' v.ownBlock → Below W.heap.size W w' → wpList Try.prog ops Q rest (a.put o.dst v') w') : wpList Try.prog ops Q (o :: rest) a w := by
  obtain ⟨vs, h1, h2⟩ := hown
  have hlen : vs.length = ll.length := by have := h1.1; omega
  refine wpList_app hgd s x _ ho W.heap.size 25 (.slice none 0 0) 1 24 Try.underlying75 info_bb rfl (by decide) v _ _ hs h1 vx _ _ hx hsee (by simpa using hu1) (by omega) hW.size
    (fun v' w' g1 g2 _ => h v' w' ⟨vs ++ [u], by simpa using g1, fun i l' u' hl hu' => ?_⟩ g2 (hW.grown g2 hW.size (fun k hk => (h1.lt k hk).1)))
  have hr : ∀ g, v.ownBlock = some g → ∃ cs fr, w.heap[g]? = some (.cells cs 25 fr) := fun g hg => by
    rcases h1.2 with ⟨rfl, _⟩ | ⟨g', cap, cur, rfl, _, hh, _⟩
    · cases hg
    · cases hg; exact ⟨_, _, hh⟩
  by_cases hi : i < ll.length
  · rw [List.getElem?_append_left hi] at hl
    rw [List.getElem?_append_left (by omega)] at hu'
    exact (h2 i l' u' hl hu').grown g2 hr
  · rw [List.getElem?_append_right (by omega)] at hl
    rw [List.getElem?_append_right (by omega), hlen] at hu'
    cases hk : i - ll.length with
    | zero => rw [hk] at hl hu'; cases hl; cases hu'; exact hu.grown g2 hr
    | succ j => rw [hk] at hl; simp at hl
/-- The bytes of a string, behind '[]byte(s)'. -/
theorem seesT_string (w : World) (s : ByteArray) (cap : Nat) (fr : Nat × Nat) (hc : s.size ≤ cap) (hm : cap ≤ maxLen) :
    SeesT (w.alloc (.cells (bytesRow s cap) 5 fr)) (.slice (some ⟨w.heap.size, 0, none⟩) s.size cap) s.data.toList := by
  have hh := heap_alloc_new w (.cells (bytesRow s cap) 5 fr)
  have hsz : s.data.toList.length = s.size := Array.length_toList
  refine ⟨⟨by rw [List.length_map, Nat.mul_one], _, cap, by rw [hsz], by rw [hsz]; exact hc, hm, fun h => (by cases h), fun _ => ⟨_, _, rfl, fun j u hj => ?_⟩⟩, fun g hg => by cases hg; exact ⟨_, _, hh⟩⟩
  rw [Nat.zero_add, cell_of_row _ _ j _ _ fr hh]
  have hjlt : j < s.data.size := by
    have := (List.getElem?_eq_some_iff.1 hj).1; simpa using this
  simp only [bytesRow]
  rw [Array.getElem?_append_left (by simpa using hjlt)]
  simpa using hj
end Go.Proofs.Yteialfdhbfbkgaa
