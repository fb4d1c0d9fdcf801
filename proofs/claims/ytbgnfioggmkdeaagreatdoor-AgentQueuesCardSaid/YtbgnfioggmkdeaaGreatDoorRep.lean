/-
  Data in memory, whatever it is: what it reads as, which blocks it reaches, when it stays.
-/
import Derived.Test.YtbgnfioggmkdeaaGreatDoorUtl
namespace Go.Proofs.YtbgnfioggmkdeaaGreatDoor
set_option linter.unusedVariables false
set_option linter.unusedSimpArgs false
open Go Go.RowKit

/-- A block that is older than B, or that has one of these types. -/
def OKB (B : Nat) (T : List TypeId) (w : World) (k : Nat) : Prop := k < B ∨ ∃ cs t fr, w.heap[k]? = some (.cells cs t fr) ∧ t ∈ T
/-- Such blocks are as they were. -/
structure Same (B : Nat) (T : List TypeId) (w u : World) : Prop where
  size : w.heap.size ≤ u.heap.size
  same : ∀ k, k < w.heap.size → OKB B T w k → u.heap[k]? = w.heap[k]?
theorem Same.refl (B : Nat) (T : List TypeId) (w : World) : Same B T w w := ⟨Nat.le_refl _, fun _ _ _ => rfl⟩
theorem OKB.same {B : Nat} {T : List TypeId} {w u : World} {k : Nat} (h : OKB B T w k) (hk : k < w.heap.size) (s : Same B T w u) : OKB B T u k := by
  rcases h with h | ⟨cs, t, fr, h, ht⟩
  · exact .inl h
  · exact .inr ⟨cs, t, fr, (s.same k hk (.inr ⟨cs, t, fr, h, ht⟩)).trans h, ht⟩
theorem OKB.mono {B B' : Nat} {T T' : List TypeId} {w : World} {k : Nat} (h : OKB B T w k) (hB : B ≤ B') (hT : ∀ x ∈ T, x ∈ T') : OKB B' T' w k := by
  rcases h with h | ⟨cs, t, fr, h, ht⟩
  · exact .inl (by omega)
  · exact .inr ⟨cs, t, fr, h, hT _ ht⟩
theorem Same.tr {B : Nat} {T : List TypeId} {w u x : World} (h : Same B T w u) (k : Same B T u x) : Same B T w x :=
  ⟨Nat.le_trans h.size k.size, fun i hi ho => (k.same i (Nat.lt_of_lt_of_le hi h.size) (ho.same hi h)).trans (h.same i hi ho)⟩
theorem Same.sub {B : Nat} {T T' : List TypeId} {w u : World} (h : Same B T w u) (hT : ∀ x ∈ T', x ∈ T) : Same B T' w u :=
  ⟨h.size, fun k hk ho => h.same k hk (ho.mono (Nat.le_refl _) hT)⟩
theorem Ext.same {w u : World} (e : Ext w u) (B : Nat) (T : List TypeId) : Same B T w u := ⟨Below.size e, fun k hk _ => Below.block e k hk⟩
theorem Same.grown {B : Nat} {T : List TypeId} {w u : World} {r : Option Nat} {t : TypeId} (hg : w.grownBy u r) (hr : RowT w r t) (hn : t ∉ T) (hB : ∀ g, r = some g → B ≤ g) : Same B T w u :=
  ⟨hg.size, fun k hk ho => hg.block k hk (fun e => by
    rcases ho with h | ⟨cs, t', fr, h, ht⟩
    · exact absurd (hB k e.symm) (by omega)
    · obtain ⟨cs', fr', h'⟩ := hr k e.symm
      rw [h] at h'; cases h'; exact hn ht)⟩

/-- What a slice shows, with the block that it lies in. -/
def SeesZ (B : Nat) (T : List TypeId) (w : World) (sz : Nat) (v : Value) (n : Nat) (xs : List Value) : Prop :=
  Sees w sz v n xs ∧ (0 < n → ∀ k, v.ownBlock = some k → OKB B T w k)
theorem SeesZ.keep {B : Nat} {T : List TypeId} {w u : World} {sz : Nat} {v : Value} {n : Nat} {xs : List Value} (h : SeesZ B T w sz v n xs) (h0 : 0 < sz) (s : Same B T w u) : SeesZ B T u sz v n xs := by
  rcases Nat.eq_zero_or_pos n with rfl | hn
  · obtain ⟨hl, a, c, rfl, hc, hm, hnc, hb⟩ := h.1
    exact ⟨⟨hl, a, c, rfl, hc, hm, hnc, fun h => by omega⟩, fun h => by omega⟩
  · have hlt := h.1.lt (Nat.mul_pos hn h0)
    exact ⟨h.1.of_block fun k hk => s.same k (hlt k hk) (h.2 hn k hk), fun _ k hk => (h.2 hn k hk).same (hlt k hk) s⟩
theorem SeesZ.mono {B B' : Nat} {T T' : List TypeId} {w : World} {sz : Nat} {v : Value} {n : Nat} {xs : List Value} (h : SeesZ B T w sz v n xs) (hB : B ≤ B') (hT : ∀ x ∈ T, x ∈ T') : SeesZ B' T' w sz v n xs :=
  ⟨h.1, fun hn k hk => (h.2 hn k hk).mono hB hT⟩
theorem SeesZ.old {B : Nat} {T : List TypeId} {w : World} {sz : Nat} {v : Value} {n : Nat} {xs : List Value} (h : Sees w sz v n xs) (h0 : 0 < sz) (hB : w.heap.size ≤ B) : SeesZ B T w sz v n xs :=
  ⟨h, fun hn k hk => .inl (Nat.lt_of_lt_of_le (h.lt (Nat.mul_pos hn h0) k hk) hB)⟩
theorem SeesZ.own {B B0 : Nat} {T : List TypeId} {w : World} {sz : Nat} {v : Value} {n : Nat} {xs : List Value} {e : TypeId} (h : w.ownsRow B0 e sz v n xs) (he : e ∈ T) : SeesZ B T w sz v n xs :=
  ⟨sees_of_owns h, fun _ k hk => .inr (by obtain ⟨cs, fr, h'⟩ := RowT.own h k hk; exact ⟨cs, e, fr, h', he⟩)⟩

/-- A kind of data: the type, its cells, what they mean, the types of the blocks that they lead to. -/
structure Rp (α : Type) where
  ty : TypeId
  sz : Nat
  T : List TypeId
  rel : Nat → World → List Value → α → Prop
  pos : 0 < sz
  len : ∀ {B : Nat} {w : World} {cs : List Value} {a : α}, rel B w cs a → cs.length = sz
  one : ∀ {B : Nat} {w : World} {cs : List Value} {a : α}, rel B w cs a → ∀ u ∈ cs, u.oneCell' = true
  keep : ∀ {B : Nat} {w u : World} {cs : List Value} {a : α}, rel B w cs a → Same B T w u → rel B u cs a
  mono : ∀ {B B' : Nat} {w : World} {cs : List Value} {a : α}, rel B w cs a → B ≤ B' → rel B' w cs a

section
variable {α : Type} {R : Rp α}
theorem flatten_at {β : Type} {sz : Nat} : ∀ (l : List (List β)), (∀ c ∈ l, c.length = sz) → ∀ (i j : Nat) (c : List β), l[i]? = some c → j < sz → l.flatten[i * sz + j]? = c[j]?
  | [], _, i, j, c, h, _ => by simp at h
  | x :: l, hl, 0, j, c, h, hj => by
    cases h
    rw [Nat.zero_mul, Nat.zero_add, List.flatten_cons, List.getElem?_append_left (by rw [hl x (by simp)]; exact hj)]
  | x :: l, hl, i + 1, j, c, h, hj => by
    have hx := hl x (by simp)
    rw [List.flatten_cons, List.getElem?_append_right (by rw [hx, Nat.succ_mul]; omega), hx, show (i + 1) * sz + j - sz = i * sz + j from by rw [Nat.succ_mul]; omega]
    exact flatten_at l (fun c hc => hl c (by simp [hc])) i j c (by simpa using h) hj
/-- The elements of a row, chunk by chunk. -/
def ElR (R : Rp α) (B : Nat) (w : World) (chs : List (List Value)) (l : List α) : Prop :=
  chs.length = l.length ∧ ∀ (i : Nat) (c : List Value) (a : α), chs[i]? = some c → l[i]? = some a → R.rel B w c a
theorem ElR.lens {B : Nat} {w : World} {chs : List (List Value)} {l : List α} (h : ElR R B w chs l) : ∀ c ∈ chs, c.length = R.sz := fun c hc => by
  obtain ⟨i, hi, rfl⟩ := List.getElem_of_mem hc
  have hl : i < l.length := by have := h.1; omega
  exact R.len (h.2 i _ l[i] (List.getElem?_eq_getElem hi) (List.getElem?_eq_getElem hl))
theorem ElR.one {B : Nat} {w : World} {chs : List (List Value)} {l : List α} (h : ElR R B w chs l) : ∀ u ∈ chs.flatten, u.oneCell' = true := fun u hu => by
  obtain ⟨c, hc, hu⟩ := List.mem_flatten.1 hu
  obtain ⟨i, hi, rfl⟩ := List.getElem_of_mem hc
  have hl : i < l.length := by have := h.1; omega
  exact R.one (h.2 i _ l[i] (List.getElem?_eq_getElem hi) (List.getElem?_eq_getElem hl)) u hu
theorem ElR.keep {B : Nat} {w u : World} {chs : List (List Value)} {l : List α} (h : ElR R B w chs l) (s : Same B R.T w u) : ElR R B u chs l := ⟨h.1, fun i c a hc ha => R.keep (h.2 i c a hc ha) s⟩
theorem ElR.mono {B B' : Nat} {w : World} {chs : List (List Value)} {l : List α} (h : ElR R B w chs l) (hB : B ≤ B') : ElR R B' w chs l := ⟨h.1, fun i c a hc ha => R.mono (h.2 i c a hc ha) hB⟩
theorem ElR.append {B : Nat} {w : World} {chs chs' : List (List Value)} {l l' : List α} (h : ElR R B w chs l) (h' : ElR R B w chs' l') : ElR R B w (chs ++ chs') (l ++ l') := by
  refine ⟨by rw [List.length_append, List.length_append, h.1, h'.1], fun i c a hc ha => ?_⟩
  have hl := h.1
  by_cases hi : i < l.length
  · rw [List.getElem?_append_left (by omega)] at hc
    rw [List.getElem?_append_left hi] at ha
    exact h.2 i c a hc ha
  · rw [List.getElem?_append_right (by omega), hl] at hc
    rw [List.getElem?_append_right (by omega)] at ha
    exact h'.2 _ c a hc ha
theorem ElR.one_of {B : Nat} {w : World} {c : List Value} {a : α} (h : R.rel B w c a) : ElR R B w [c] [a] := ⟨rfl, fun i c' a' hc ha => by
  cases i with
  | zero => cases hc; cases ha; exact h
  | succ i => simp at hc⟩
theorem ElR.nil (B : Nat) (w : World) : ElR R B w [] [] := ⟨rfl, fun i c a hc _ => by simp at hc⟩
/-- A slice of such data. -/
def SlR (R : Rp α) (B : Nat) (w : World) (v : Value) (l : List α) : Prop :=
  ∃ chs : List (List Value), ElR R B w chs l ∧ SeesZ B [R.ty] w R.sz v l.length chs.flatten
theorem SlR.keep {B : Nat} {w u : World} {v : Value} {l : List α} (h : SlR R B w v l) (s : Same B (R.ty :: R.T) w u) : SlR R B u v l := by
  obtain ⟨chs, h1, h2⟩ := h
  exact ⟨chs, h1.keep (s.sub (fun x hx => List.mem_cons_of_mem _ hx)), h2.keep R.pos (s.sub (fun x hx => by rw [List.mem_singleton] at hx; subst hx; exact List.mem_cons_self ..))⟩
theorem SlR.mono {B B' : Nat} {w : World} {v : Value} {l : List α} (h : SlR R B w v l) (hB : B ≤ B') : SlR R B' w v l := by
  obtain ⟨chs, h1, h2⟩ := h
  exact ⟨chs, h1.mono hB, h2.mono hB (fun x hx => hx)⟩
theorem SlR.ext {B : Nat} {w u : World} {v : Value} {l : List α} (h : SlR R B w v l) (e : Ext w u := by first | with_reducible exact Ext.refl _ | solve_by_elim (maxDepth := 30) [Ext.tr]) : SlR R B u v l := h.keep (e.same _ _)
theorem SlR.nil (B : Nat) (w : World) : SlR R B w (.slice none 0 0) [] := ⟨[], ElR.nil _ _, Sees.nil _ _, fun h => nomatch h⟩
theorem SlR.form {B : Nat} {w : World} {v : Value} {l : List α} (h : SlR R B w v l) : ∃ a c, v = .slice a l.length c ∧ l.length ≤ c ∧ c ≤ 9223372036854775807 := by
  obtain ⟨chs, h1, h2⟩ := h; exact sees_form h2.1
theorem SlR.open {B : Nat} {w : World} {v : Value} {l : List α} (h : SlR R B w v l) (hn : 0 < l.length) : ∃ b o c, v = .slice (some ⟨b, o, none⟩) l.length c ∧ l.length ≤ c ∧ c ≤ 9223372036854775807 := by
  obtain ⟨chs, h1, ⟨hl, a, c, rfl, hc, hm, hnc, hb⟩, _⟩ := h
  obtain ⟨b, o, rfl, _⟩ := hb hn
  exact ⟨b, o, c, rfl, hc, by unfold maxLen at hm; omega⟩
theorem SlR.at {B : Nat} {w : World} {b o m c : Nat} {l : List α} (h : SlR R B w (.slice (some ⟨b, o, none⟩) m c) l) (i : Nat) (a : α) (hi : l[i]? = some a) :
    ∃ ch, R.rel B w ch a ∧ ch.length = R.sz ∧ w.rangeAt b (o + i * R.sz) ch := by
  obtain ⟨chs, h1, h2⟩ := h
  have hlt := (List.getElem?_eq_some_iff.1 hi).1
  have hc : chs[i]? = some (chs[i]'(by rw [h1.1]; exact hlt)) := List.getElem?_eq_getElem _
  have hr := h1.2 i _ a hc hi
  refine ⟨_, hr, R.len hr, fun j u hu => ?_⟩
  have hj : j < R.sz := by have := (List.getElem?_eq_some_iff.1 hu).1; rw [R.len hr] at this; exact this
  rw [Nat.add_assoc]
  exact sees_cell h2.1 (by omega) _ u (by rw [flatten_at chs h1.lens i j _ hc hj]; exact hu)
theorem SlR.len_le {B : Nat} {w : World} {a : Option Addr} {m c : Nat} {l : List α} (h : SlR R B w (.slice a m c) l) : m = l.length := by
  obtain ⟨a', c', he, _⟩ := h.form; injection he
/-- A new row of one element. -/
theorem SlR.lit1 {B : Nat} {w : World} {c : List Value} {y : α} (h : R.rel B w c y) : SlR R B (w.alloc (.cells c.toArray R.ty)) (.slice (some ⟨w.heap.size, 0, none⟩) 1 1) [y] := by
  refine ⟨[c], ElR.one_of (R.keep h ((Ext.alloc w _).same _ _)), ?_, fun _ k hk => .inr ?_⟩
  · have := sees_new w R.sz c.toArray R.ty 1 (by simp [R.len h]) (by decide)
    simpa using this
  · cases hk; exact ⟨_, R.ty, _, heap_alloc_new w _, by simp⟩
/-- A row of the call's own. -/
def OwR (R : Rp α) (B B0 : Nat) (w : World) (v : Value) (l : List α) : Prop :=
  ∃ chs : List (List Value), ElR R B w chs l ∧ w.ownsRow B0 R.ty R.sz v l.length chs.flatten
theorem OwR.sl {B B0 : Nat} {w : World} {v : Value} {l : List α} (h : OwR R B B0 w v l) : SlR R B w v l := by
  obtain ⟨chs, h1, h2⟩ := h
  exact ⟨chs, h1, SeesZ.own h2 (by simp)⟩
theorem OwR.row {B B0 : Nat} {w : World} {v : Value} {l : List α} (h : OwR R B B0 w v l) : RowT w v.ownBlock R.ty := by
  obtain ⟨chs, _, h2⟩ := h; exact RowT.own h2
theorem OwR.lt {B B0 : Nat} {w : World} {v : Value} {l : List α} (h : OwR R B B0 w v l) : ∀ k, v.ownBlock = some k → B0 ≤ k ∧ k < w.heap.size := by
  obtain ⟨chs, _, h2⟩ := h; exact h2.lt
theorem OwR.form {B B0 : Nat} {w : World} {v : Value} {l : List α} (h : OwR R B B0 w v l) : ∃ a c, v = .slice a l.length c ∧ l.length ≤ c ∧ c ≤ 9223372036854775807 := h.sl.form
theorem OwR.nil (B B0 : Nat) (w : World) : OwR R B B0 w (.slice none 0 0) [] := ⟨[], ElR.nil _ _, World.ownsRow_nil w _ _ _⟩
theorem OwR.mono {B B' B0 B0' : Nat} {w : World} {v : Value} {l : List α} (h : OwR R B B0 w v l) (hB : B ≤ B') (hB0 : B0' ≤ B0) : OwR R B' B0' w v l := by
  obtain ⟨chs, h1, h2⟩ := h; exact ⟨chs, h1.mono hB, owns_mono h2 hB0⟩
theorem OwR.keep {B B0 : Nat} {w u : World} {v : Value} {l : List α} (h : OwR R B B0 w v l) (s : Same B (R.ty :: R.T) w u) : OwR R B B0 u v l := by
  have hr := h.row
  have hlt := h.lt
  obtain ⟨chs, h1, hl, h2⟩ := h
  refine ⟨chs, h1.keep (s.sub (fun x hx => List.mem_cons_of_mem _ hx)), hl, ?_⟩
  rcases h2 with h | ⟨g, cap, cur, rfl, hg, hh, r⟩
  · exact .inl h
  · exact .inr ⟨g, cap, cur, rfl, hg, (s.same g (hlt g rfl).2 (.inr ⟨_, _, _, hh, List.mem_cons_self ..⟩)).trans hh, r⟩
theorem OwR.ext {B B0 : Nat} {w u : World} {v : Value} {l : List α} (h : OwR R B B0 w v l) (e : Ext w u := by first | with_reducible exact Ext.refl _ | solve_by_elim (maxDepth := 30) [Ext.tr]) : OwR R B B0 u v l := h.keep (e.same _ _)
/-- Kept where another block is written, and the elements are. -/
theorem OwR.kept {B B0 : Nat} {w u : World} {v : Value} {l : List α} {r : Option Nat} (h : OwR R B B0 w v l) (s : Same B R.T w u) (hg : w.grownBy u r) (hne : v.ownBlock = none ∨ v.ownBlock ≠ r) : OwR R B B0 u v l := by
  obtain ⟨chs, h1, h2⟩ := h
  exact ⟨chs, h1.keep s, h2.kept hg hne⟩

/-- append: what is appended is seen only. -/
theorem appR {P : Program} {W w : World} {ops : Array Oper} {rest : List Oper} {o : Oper} {a : Act} {Q : Exit → Act → World → Prop} (R : Rp α) (hgd : o.guard = none) (s x : Operand) (tt : TypeId)
    (ho : o.op = .call { callee := .builtin .append, args := #[s, x], argTypes := #[tt, tt] }) (ht : P.underlying tt = some (.slice R.ty)) {z : Value} {bytes : Nat}
    (hi : (P.info? R.ty).map (fun i => (i.zero, i.size, i.bytes)) = some (some z, R.sz, bytes)) (hzs : z.cells.size = R.sz) (hnt : R.ty ∉ R.T) (hby : bytes ≤ 1000)
    {B : Nat} (hBW : B ≤ W.heap.size) (v : Value) (l : List α) (hs : a.eval s = v) (hown : OwR R B W.heap.size w v l) (vx : Value) (l' : List α) (hx : a.eval x = vx) (hsee : SlR R B w vx l')
    (hl : l.length + l'.length ≤ 1000000000) (hW : Below W.heap.size W w)
    (h : ∀ v' w', OwR R B W.heap.size w' v' (l ++ l') → w.grownBy w' v.ownBlock → Below W.heap.size W w' → wpList P ops Q rest (a.put o.dst v') w') : wpList P ops Q (o :: rest) a w := by
  have hr := hown.row
  have hlt := hown.lt
  obtain ⟨chs, h1, h2⟩ := hown
  obtain ⟨chs', h1', h2'⟩ := hsee
  have hm : (l.length + l'.length) * (bytes + 1) ≤ 1000000000 * 1001 := Nat.mul_le_mul hl (by omega)
  refine wpList_app hgd s x tt ho W.heap.size R.ty z R.sz bytes ht hi hzs R.pos v _ _ hs h2 vx _ _ hx h2'.1 h1'.one (by omega) hW.size (fun v' w' g1 g2 _ => ?_)
  have hsm : Same B R.T w w' := Same.grown g2 hr hnt (fun g hg => Nat.le_trans hBW (hlt g hg).1)
  refine h v' w' ⟨chs ++ chs', (h1.append h1').keep hsm, ?_⟩ g2 (hW.grown g2 hW.size (fun k hk => (hlt k hk).1))
  rw [List.length_append, List.flatten_append]; exact g1
end

/-! ### Kinds -/
/-- Data all of whose cells are its own. -/
def flatR {α : Type} (ty : TypeId) (f : α → List Value) (k : Nat) (hp : 0 < k) (hk : ∀ a, (f a).length = k) (h1 : ∀ a, ∀ u ∈ f a, u.oneCell' = true) : Rp α where
  ty := ty
  sz := k
  T := []
  rel := fun _ _ cs a => cs = f a
  pos := hp
  len := fun h => by rw [h]; exact hk _
  one := fun h => by rw [h]; exact h1 _
  keep := fun h _ => h
  mono := fun h _ => h
/-- Slices of data. -/
def Rp.sl {α : Type} (R : Rp α) (ty : TypeId) : Rp (List α) where
  ty := ty
  sz := 1
  T := R.ty :: R.T
  rel := fun B w cs l => ∃ v, cs = [v] ∧ SlR R B w v l
  pos := Nat.one_pos
  len := fun ⟨v, h, _⟩ => by rw [h]; rfl
  one := fun ⟨v, h, hv⟩ u hu => by
    obtain ⟨a, c, rfl, _⟩ := hv.form
    rw [h, List.mem_singleton] at hu; subst hu; rfl
  keep := fun ⟨v, h, hv⟩ s => ⟨v, h, hv.keep s⟩
  mono := fun ⟨v, h, hv⟩ hB => ⟨v, h, hv.mono hB⟩
def byteR : Rp UInt8 := flatR 5 (fun b => [BV b]) 1 Nat.one_pos (fun _ => rfl) (fun b u hu => by rw [List.mem_singleton] at hu; subst hu; rfl)
def u64R : Rp Int := flatR 22 (fun x => [Value.int .u64 x]) 1 Nat.one_pos (fun _ => rfl) (fun b u hu => by rw [List.mem_singleton] at hu; subst hu; rfl)
def intR : Rp Int := flatR 3 (fun x => [Value.int .i64 x]) 1 Nat.one_pos (fun _ => rfl) (fun b u hu => by rw [List.mem_singleton] at hu; subst hu; rfl)
def pubR : Rp Pub := flatR 133 Pub.cells 10 (by decide) Pub.length_cells one_pub
def secR : Rp Sec := flatR 86 Sec.cells 3 (by decide) Sec.length_cells one_sec
theorem ElR.flat {α : Type} {ty : TypeId} {f : α → List Value} {k : Nat} {hp : 0 < k} {hk : ∀ a, (f a).length = k} {h1 : ∀ a, ∀ u ∈ f a, u.oneCell' = true} {B : Nat} {w : World} {chs : List (List Value)} {l : List α}
    (h : ElR (flatR ty f k hp hk h1) B w chs l) : chs = l.map f := by
  apply List.ext_getElem?
  intro i
  rw [List.getElem?_map]
  by_cases hi : i < l.length
  · have e1 : chs[i]? = some (chs[i]'(by rw [h.1]; exact hi)) := List.getElem?_eq_getElem _
    have e2 : l[i]? = some l[i] := List.getElem?_eq_getElem hi
    have : chs[i]'(by rw [h.1]; exact hi) = f l[i] := h.2 i _ _ e1 e2
    rw [e1, e2, this]; rfl
  · rw [List.getElem?_eq_none (by rw [h.1]; omega), List.getElem?_eq_none (by omega)]; rfl
theorem elR_flat {α : Type} (ty : TypeId) (f : α → List Value) (k : Nat) (hp : 0 < k) (hk : ∀ a, (f a).length = k) (h1 : ∀ a, ∀ u ∈ f a, u.oneCell' = true) (B : Nat) (w : World) (l : List α) : ElR (flatR ty f k hp hk h1) B w (l.map f) l :=
  ⟨List.length_map .., fun i c a hc ha => by rw [List.getElem?_map, ha] at hc; cases hc; rfl⟩
/-- Flat data: the plain view, and back. -/
theorem SlR.flat {α : Type} {ty : TypeId} {f : α → List Value} {k : Nat} {hp : 0 < k} {hk : ∀ a, (f a).length = k} {h1 : ∀ a, ∀ u ∈ f a, u.oneCell' = true} {B : Nat} {w : World} {v : Value} {l : List α}
    (h : SlR (flatR ty f k hp hk h1) B w v l) : SeesZ B [ty] w k v l.length (l.flatMap f) := by
  obtain ⟨chs, h1, h2⟩ := h
  rw [h1.flat, ← List.flatMap_def] at h2; exact h2
theorem slR_flat {α : Type} {ty : TypeId} {f : α → List Value} {k : Nat} {hp : 0 < k} {hk : ∀ a, (f a).length = k} {h1 : ∀ a, ∀ u ∈ f a, u.oneCell' = true} {B : Nat} {w : World} {v : Value} {l : List α}
    (h : SeesZ B [ty] w k v l.length (l.flatMap f)) : SlR (flatR ty f k hp hk h1) B w v l :=
  ⟨l.map f, elR_flat .., by rw [← List.flatMap_def]; exact h⟩
theorem OwR.flat {α : Type} {ty : TypeId} {f : α → List Value} {k : Nat} {hp : 0 < k} {hk : ∀ a, (f a).length = k} {h1 : ∀ a, ∀ u ∈ f a, u.oneCell' = true} {B B0 : Nat} {w : World} {v : Value} {l : List α}
    (h : OwR (flatR ty f k hp hk h1) B B0 w v l) : w.ownsRow B0 ty k v l.length (l.flatMap f) := by
  obtain ⟨chs, h1, h2⟩ := h
  rw [h1.flat, ← List.flatMap_def] at h2; exact h2
theorem owR_flat {α : Type} {ty : TypeId} {f : α → List Value} {k : Nat} {hp : 0 < k} {hk : ∀ a, (f a).length = k} {h1 : ∀ a, ∀ u ∈ f a, u.oneCell' = true} {B B0 : Nat} {w : World} {v : Value} {l : List α}
    (h : w.ownsRow B0 ty k v l.length (l.flatMap f)) : OwR (flatR ty f k hp hk h1) B B0 w v l :=
  ⟨l.map f, elR_flat .., by rw [← List.flatMap_def]; exact h⟩
theorem flatMap_one {α β : Type} (f : α → β) (l : List α) : l.flatMap (fun x => [f x]) = l.map f := by
  induction l with
  | nil => rfl
  | cons a l ih => rw [List.flatMap_cons, List.map_cons, ih]; rfl
theorem SlR.bytes {B : Nat} {w : World} {v : Value} {l : List UInt8} (h : SlR byteR B w v l) : SeesB w v l := by
  have := (SlR.flat h).1; rwa [flatMap_one] at this
theorem SlR.u64s {B : Nat} {w : World} {v : Value} {l : List Int} (h : SlR u64R B w v l) : SeesU w v l := by
  have := (SlR.flat h).1; rwa [flatMap_one] at this
theorem SlR.pubs {B : Nat} {w : World} {v : Value} {l : List Pub} (h : SlR pubR B w v l) : SeesP w v l := (SlR.flat h).1
theorem SlR.secs {B : Nat} {w : World} {v : Value} {l : List Sec} (h : SlR secR B w v l) : SeesS w v l := (SlR.flat h).1
theorem slB_own {B B0 : Nat} {w : World} {v : Value} {l : List UInt8} (h : OwnB w B0 v l) : SlR byteR B w v l := slR_flat (by rw [flatMap_one]; exact SeesZ.own h (by simp))
theorem slB_old {B : Nat} {w : World} {v : Value} {l : List UInt8} (h : SeesB w v l) (hB : w.heap.size ≤ B) : SlR byteR B w v l := slR_flat (by rw [flatMap_one]; exact SeesZ.old h (by decide) hB)
theorem slP_own {B B0 : Nat} {w : World} {v : Value} {l : List Pub} (h : OwnP w B0 v l) : SlR pubR B w v l := slR_flat (SeesZ.own h (by simp))
theorem slS_own {B B0 : Nat} {w : World} {v : Value} {l : List Sec} (h : OwnS w B0 v l) : SlR secR B w v l := slR_flat (SeesZ.own h (by simp))
/-- An entry. -/
structure Ent where
  x : Int
  box : List UInt8
def Ent.ok (e : Ent) : Prop := in64 e.x
def entR : Rp Ent where
  ty := 46
  sz := 2
  T := [5]
  rel := fun B w cs e => ∃ v, cs = [.int .u64 e.x, v] ∧ SlR byteR B w v e.box
  pos := by decide
  len := fun ⟨v, h, _⟩ => by rw [h]; rfl
  one := fun ⟨v, h, hv⟩ u hu => by
    obtain ⟨a, c, rfl, _⟩ := hv.form
    rw [h] at hu; simp at hu; rcases hu with rfl | rfl <;> rfl
  keep := fun ⟨v, h, hv⟩ s => ⟨v, h, hv.keep s⟩
  mono := fun ⟨v, h, hv⟩ hB => ⟨v, h, hv.mono hB⟩
end Go.Proofs.YtbgnfioggmkdeaaGreatDoor
