/-
  Rows of numbers (int): made, read, appended to, set.
-/
import Derived.Test.YtbgnfioggmkdeaaGreatDoorSet
import Derived.Test.YtbgnfioggmkdeaaGreatDoorPr
namespace Go.Proofs.YtbgnfioggmkdeaaGreatDoor
set_option linter.unusedVariables false
set_option linter.unusedSimpArgs false
open Go Go.RowKit

theorem slI_at {B : Nat} {w : World} {b o m c : Nat} {l : List Int} (h : SlR intR B w (.slice (some ⟨b, o, none⟩) m c) l) (i : Nat) (x : Int) (hi : l[i]? = some x) : w.cell? ⟨b, o + i, none⟩ = some (.int .i64 x) := by
  obtain ⟨ch, h1, _, hr⟩ := h.at i x hi
  have h1 : ch = [.int .i64 x] := h1
  subst h1
  have := hr 0 _ rfl
  rwa [show intR.sz = 1 from rfl, Nat.mul_one, Nat.add_zero] at this
theorem info_int3 : (Tryz.prog.info? 3).map (fun i => (i.zero, i.size, i.bytes)) = some (some (.int .i64 0), 1, 8) := by kernel_rfl
theorem appI {W w : World} {ops : Array Oper} {rest : List Oper} {o : Oper} {a : Act} {Q : Exit → Act → World → Prop} (hgd : o.guard = none) (s x : Operand)
    (ho : o.op = .call { callee := .builtin .append, args := #[s, x], argTypes := #[38, 38] })
    {B : Nat} (hBW : B ≤ W.heap.size) (v : Value) (l : List Int) (hs : a.eval s = v) (hown : OwR intR B W.heap.size w v l) (vx : Value) (l' : List Int) (hx : a.eval x = vx) (hsee : SlR intR B w vx l')
    (hl : l.length + l'.length ≤ 1000000000) (hW : Below W.heap.size W w)
    (h : ∀ v' w', OwR intR B W.heap.size w' v' (l ++ l') → w.grownBy w' v.ownBlock → Below W.heap.size W w' → wpList Tryz.prog ops Q rest (a.put o.dst v') w') : wpList Tryz.prog ops Q (o :: rest) a w :=
  appR intR hgd s x 38 ho Tryz.underlying38 info_int3 rfl (by decide) (by decide) hBW v l hs hown vx l' hx hsee hl hW h
theorem OwR.grownT {α : Type} {R : Rp α} {B B0 : Nat} {w w' : World} {v : Value} {l : List α} {r : Option Nat} {t : TypeId} (h : OwR R B B0 w v l) (hg : w.grownBy w' r) (hr : RowT w r t) (hne : R.ty ≠ t) (hn : t ∉ R.T) (hB : ∀ g, r = some g → B ≤ g) : OwR R B B0 w' v l := by
  refine h.kept (Same.grown hg hr hn hB) hg ?_
  cases hv : v.ownBlock with
  | none => exact .inl rfl
  | some k => exact .inr (by have := h.row.ne hr hne k hv; rw [← hv] at this ⊢; rw [hv]; exact fun e => this (by rw [hv]; exact e))
/-- Kept where a newer block of its own type is written. -/
theorem OwR.grownN {α : Type} {R : Rp α} {B B0 : Nat} {w w' : World} {v : Value} {l : List α} {g : Nat} {t : TypeId} (h : OwR R B B0 w v l) (hg : w.grownBy w' (some g)) (hr : RowT w (some g) t) (hn : t ∉ R.T) (hB : B ≤ g) (hN : ∀ k, v.ownBlock = some k → k < g) : OwR R B B0 w' v l := by
  refine h.kept (Same.grown hg hr hn (fun k hk => by cases hk; exact hB)) hg ?_
  cases hv : v.ownBlock with
  | none => exact .inl rfl
  | some k => exact .inr (fun e => by have := hN k hv; cases e; omega)
abbrev JV (x : Int) : Value := .int .i64 x
theorem run_make_ints (n : Nat) (w : World) (hn : n ≤ 2000000) : (Instr.makeSlice 38 (.int .i64 n) (.int .i64 n)).run Tryz.prog w = .ok (.slice (some ⟨w.heap.size, 0, none⟩) n n) (w.alloc (.cells (Array.replicate n (JV 0)) 3)) := by
  obtain ⟨i, hi, hz, hsize, hby⟩ := info_parts info_int3
  have h := run_makeSlice (P := Tryz.prog) w 38 3 i (.int .i64 0) Tryz.underlying38 hi hz .i64 .i64 n n (by omega) (Int.le_refl _) (by rw [hsize]; omega) (by rw [hby]; omega) (by omega)
  have e : madeCells (Value.int .i64 0).cells n = Array.replicate n (JV 0) := by
    unfold madeCells
    apply Array.ext_getElem?
    intro j
    by_cases hj : j < n
    · simp [Value.cells, hj, Nat.mod_one]
    · simp [hj]
  rw [hsize, Nat.mul_one, Int.toNat_natCast, e] at h
  exact h
theorem ints_set (l : List Int) (k : Nat) (x : Int) : ((l.map JV).toArray).setIfInBounds k (JV x) = ((l.set k x).map JV).toArray := by
  rw [List.setIfInBounds_toArray, ← List.map_set]
theorem owI_blk {w : World} {B B0 G n : Nat} {l : List Int} (h : Blk w G (l.map JV).toArray 3) (hB : B0 ≤ G) (hl : l.length = n) (hm : n ≤ maxLen) : OwR intR B B0 w (.slice (some ⟨G, 0, none⟩) n n) l := by
  subst hl
  refine owR_flat ?_
  rw [flatMap_one]
  exact ⟨by rw [List.length_map, Nat.mul_one], .inr ⟨G, l.length, (l.map JV).toArray, rfl, hB, h, Nat.le_refl _, hm, by simp, by rw [Nat.mul_one, List.toList_toArray, List.take_of_length_le (by simp)]⟩⟩
/-- Where a row of one's own lies. -/
theorem OwR.place {α : Type} {R : Rp α} {B B0 : Nat} {w : World} {a : Option Addr} {n c : Nat} {l : List α} (h : OwR R B B0 w (.slice a n c) l) (hl : 0 < l.length) : ∃ g, a = some ⟨g, 0, none⟩ ∧ ∃ cur, (Blk w g cur R.ty ∧ l.length * R.sz ≤ cur.size) ∧ B0 ≤ g := by
  obtain ⟨chs, h1, _, h2⟩ := h
  rcases h2 with ⟨_, h0⟩ | ⟨g, cap, cur, e, hg, hh, hc, _, hs, _⟩
  · omega
  · injection e with e1 _ _
    exact ⟨g, e1, cur, ⟨hh, by rw [hs]; exact Nat.mul_le_mul_right _ hc⟩, hg⟩
/-- One number of a row is set. -/
theorem OwR.setI {B B0 : Nat} {w : World} {g n cap : Nat} {l : List Int} (h : OwR intR B B0 w (.slice (some ⟨g, 0, none⟩) n cap) l) {i : Nat} (hi : i < l.length) (x : Int) (hB : B ≤ B0) :
    OwR intR B B0 (w.setCell ⟨g, i, none⟩ (JV x)) (.slice (some ⟨g, 0, none⟩) n cap) (l.set i x) := by
  obtain ⟨y, hy⟩ : ∃ y, l[i]? = some y := ⟨_, List.getElem?_eq_getElem hi⟩
  have := OwR.setAt (R := intR) h hy (j := 0) (a' := x) (by decide) (JV x) (fun cs hc => by
    have hc : cs = [.int .i64 y] := hc
    subst hc
    rfl) (by decide) hB
  rwa [Nat.zero_add, show intR.sz = 1 from rfl, Nat.mul_one, Nat.add_zero] at this
theorem OwR.cellI {B B0 : Nat} {w : World} {g n cap : Nat} {l : List Int} (h : OwR intR B B0 w (.slice (some ⟨g, 0, none⟩) n cap) l) {i : Nat} {x : Int} (hi : l[i]? = some x) : w.cell? ⟨g, i, none⟩ = some (.int .i64 x) := by
  have := slI_at h.sl i x hi
  rwa [Nat.zero_add] at this
theorem OwR.freeI {α : Type} {R : Rp α} {B B0 : Nat} {w : World} {g n cap : Nat} {l : List α} (h : OwR R B B0 w (.slice (some ⟨g, 0, none⟩) n cap) l) (hl : 0 < l.length) (i : Nat) : w.frozen? ⟨g, i, none⟩ = false := by
  obtain ⟨g', e, cur, ⟨hb, -⟩, -⟩ := h.place hl
  obtain rfl : g = g' := by cases e; rfl
  exact hb.free i
end Go.Proofs.YtbgnfioggmkdeaaGreatDoor
