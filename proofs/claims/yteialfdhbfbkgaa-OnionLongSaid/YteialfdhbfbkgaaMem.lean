/-
  What slices show and own, carried from world to world; the append law over what a slice shows.
-/
import Derived.Test.YteialfdhbfbkgaaProg
import Derived.Test.YteialfdhbfbkgaaBase
import Derived.KernelRfl
import Derived.Deep.MidRow
import Derived.Laws.AppendOwnNone
namespace Go.Proofs.Yteialfdhbfbkgaa
set_option linter.unusedVariables false
set_option linter.unusedSimpArgs false
open Go Go.RowKit

theorem Sees.nil (w : World) (sz : Nat) : Sees w sz (.slice none 0 0) 0 [] := ⟨by simp, none, 0, rfl, by omega, by unfold maxLen; omega, fun _ => rfl, fun h => by omega⟩
/-- A slice is seen in every world that agrees with the old one on the blocks below B, if it lies there. -/
theorem Sees.of_block {w w' : World} {sz : Nat} {v : Value} {n : Nat} {xs : List Value} (h : Sees w sz v n xs)
    (hk : ∀ k, v.ownBlock = some k → w'.heap[k]? = w.heap[k]?) : Sees w' sz v n xs := by
  obtain ⟨hl, a, c, rfl, hc, hm, hnc, hb⟩ := h
  refine ⟨hl, a, c, rfl, hc, hm, hnc, fun hn => ?_⟩
  obtain ⟨b, o, rfl, hcell⟩ := hb hn
  exact ⟨b, o, rfl, fun j u hj => by rw [← hcell j u hj]; exact World.cell?_of_block (hk b rfl)⟩
theorem Sees.lt {w : World} {sz : Nat} {v : Value} {n : Nat} {xs : List Value} (h : Sees w sz v n xs) (hn : 0 < n * sz) : ∀ k, v.ownBlock = some k → k < w.heap.size := by
  obtain ⟨hl, a, c, rfl, hc, hm, hnc, hb⟩ := h
  obtain ⟨b, o, rfl, hcell⟩ := hb (Nat.pos_of_mul_pos_right hn)
  intro k hk
  simp [Value.ownBlock] at hk; subst hk
  have : ∃ u, xs[0]? = some u := ⟨xs[0]'(by omega), by simp⟩
  obtain ⟨u, hu⟩ := this
  exact World.block_lt_of_cell? w _ (hcell 0 u hu)
theorem Sees.below {w w' : World} {sz : Nat} {v : Value} {n : Nat} {xs : List Value} (h : Sees w sz v n xs) (hb : Below w.heap.size w w') (hs : 0 < sz) : Sees w' sz v n xs := by
  obtain ⟨hl, a, c, rfl, hc, hm, hnc, hcl⟩ := h
  by_cases hn : n = 0
  · subst hn; exact ⟨hl, a, c, rfl, hc, hm, hnc, fun h => by omega⟩
  · have h : Sees w sz (.slice a n c) n xs := ⟨hl, a, c, rfl, hc, hm, hnc, hcl⟩
    exact h.of_block fun k hk => hb.block k (h.lt (Nat.mul_pos (by omega) hs) k hk)
theorem Sees.alloc {w : World} {sz : Nat} {v : Value} {n : Nat} {xs : List Value} (h : Sees w sz v n xs) (hs : 0 < sz) (o : Obj) : Sees (w.alloc o) sz v n xs :=
  h.below ((Below.refl _ _).alloc (Nat.le_refl _) o) hs
theorem Sees.drewN {w : World} {sz : Nat} {v : Value} {n : Nat} {xs : List Value} (h : Sees w sz v n xs) (k : Nat) : Sees (w.drewN k) sz v n xs := h.of_block fun _ _ => rfl
theorem Sees.drew {w : World} {sz : Nat} {v : Value} {n : Nat} {xs : List Value} (h : Sees w sz v n xs) : Sees w.drew sz v n xs := h.of_block fun _ _ => rfl
/-- A store into another block. -/
theorem Sees.setCell {w : World} {sz : Nat} {v : Value} {n : Nat} {xs : List Value} (h : Sees w sz v n xs) (a : Addr) (u : Value) (hne : v.ownBlock ≠ some a.block) : Sees (w.setCell a u) sz v n xs :=
  h.of_block fun k hk => Below.heap_setCell _ _ _ _ (fun e => hne (by rw [hk, e]))
theorem Sees.grownBy {w w' : World} {sz : Nat} {v : Value} {n : Nat} {xs : List Value} {row : Option Nat} (h : Sees w sz v n xs) (hg : w.grownBy w' row) (hs : 0 < sz)
    (hne : v.ownBlock = none ∨ v.ownBlock ≠ row) : Sees w' sz v n xs := by
  obtain ⟨hl, a, c, rfl, hc, hm, hnc, hcl⟩ := h
  by_cases hn : n = 0
  · subst hn; exact ⟨hl, a, c, rfl, hc, hm, hnc, fun h => by omega⟩
  · have h : Sees w sz (.slice a n c) n xs := ⟨hl, a, c, rfl, hc, hm, hnc, hcl⟩
    exact h.of_block fun k hk => hg.block k (h.lt (Nat.mul_pos (by omega) hs) k hk) (by rw [← hk]; rcases hne with h0 | h0 <;> simp_all)
/-- What one owns one sees. -/
theorem sees_of_owns {w : World} {B : Nat} {e : TypeId} {sz : Nat} {v : Value} {n : Nat} {xs : List Value} (h : w.ownsRow B e sz v n xs) : Sees w sz v n xs := by
  obtain ⟨hl, h⟩ := h
  refine ⟨hl, ?_⟩
  rcases h with ⟨rfl, rfl⟩ | ⟨g, cap, cur, rfl, hg, hh, hn, hm, hs, hx⟩
  · exact ⟨none, 0, rfl, by omega, by unfold maxLen; omega, fun _ => rfl, fun h => by omega⟩
  · refine ⟨some ⟨g, 0, none⟩, cap, rfl, hn, hm, fun h => (by cases h), fun _ => ⟨g, 0, rfl, fun j u hj => ?_⟩⟩
    rw [Nat.zero_add, cell_of_row w g j cur e (0, 0) hh]
    rw [← hx, List.getElem?_take] at hj
    split at hj
    · simpa using hj
    · cases hj
theorem owns_mono {w : World} {B B' : Nat} {e : TypeId} {sz : Nat} {v : Value} {n : Nat} {xs : List Value} (h : w.ownsRow B e sz v n xs) (hB : B' ≤ B) : w.ownsRow B' e sz v n xs := by
  obtain ⟨hl, h⟩ := h
  refine ⟨hl, ?_⟩
  rcases h with h | ⟨g, cap, cur, rfl, hg, h⟩
  · exact .inl h
  · exact .inr ⟨g, cap, cur, rfl, by omega, h⟩
/-- Behind a call that leaves all that was there. -/
theorem owns_below {w w' : World} {B : Nat} {e : TypeId} {sz : Nat} {v : Value} {n : Nat} {xs : List Value} (h : w.ownsRow B e sz v n xs) (hb : Below w.heap.size w w') : w'.ownsRow B e sz v n xs := by
  have hlt := h.lt
  obtain ⟨hl, h⟩ := h
  refine ⟨hl, ?_⟩
  rcases h with h | ⟨g, cap, cur, rfl, hg, hh, r⟩
  · exact .inl h
  · exact .inr ⟨g, cap, cur, rfl, hg, by rw [hb.block g (hlt g rfl).2]; exact hh, r⟩
/-- A new block, seen whole. -/
theorem sees_new (w : World) (sz : Nat) (cs : Array Value) (t : TypeId) (n : Nat) (h : cs.size = n * sz) (hm : n ≤ maxLen) : Sees (w.alloc (.cells cs t)) sz (.slice (some ⟨w.heap.size, 0, none⟩) n n) n cs.toList :=
  ⟨by simpa using h, _, n, rfl, Nat.le_refl _, hm, fun h => (by cases h), fun _ => ⟨_, _, rfl, fun j u hj => by
    rw [Nat.zero_add, World.cell?_alloc_at cs t _ j rfl]; simpa using hj⟩⟩
/-- A block that is known whole, seen from its head. -/
theorem sees_block {w : World} {b : Nat} {cs : Array Value} {t : TypeId} {fr : Nat × Nat} (hb : w.heap[b]? = some (.cells cs t fr)) (sz n : Nat) (h : cs.size = n * sz) (hm : n ≤ maxLen) : Sees w sz (.slice (some ⟨b, 0, none⟩) n n) n cs.toList :=
  ⟨by simpa using h, _, n, rfl, Nat.le_refl _, hm, fun h => (by cases h), fun _ => ⟨_, _, rfl, fun j u hj => by
    rw [Nat.zero_add, cell_of_row w b j cs t fr hb]; simpa using hj⟩⟩

/-- append, what is appended being seen only. -/
theorem wpList_app {P : Program} {w : World} {ops : Array Oper} {rest : List Oper} {o : Oper} {a : Act} {Q : Exit → Act → World → Prop} (hgd : o.guard = none) (s x : Operand) (t : TypeId)
    (ho : o.op = .call { callee := .builtin .append, args := #[s, x], argTypes := #[t, t] })
    (base : Nat) (e : TypeId) (z : Value) (size bytes : Nat) (ht : P.underlying t = some (.slice e)) (hi : (P.info? e).map (fun i => (i.zero, i.size, i.bytes)) = some (some z, size, bytes))
    (hzs : z.cells.size = size) (hsz : 0 < size)
    (v : Value) (n : Nat) (xs : List Value) (hs : a.eval s = v) (hown : w.ownsRow base e size v n xs)
    (vx : Value) (m : Nat) (news : List Value) (hx : a.eval x = vx) (hsee : Sees w size vx m news) (h1 : ∀ u ∈ news, u.oneCell' = true)
    (hbytes : (n + m) * (bytes + 1) ≤ 140737488355328) (hbase : base ≤ w.heap.size)
    (h : ∀ v' w', w'.ownsRow base e size v' (n + m) (xs ++ news) → w.grownBy w' v.ownBlock → (v' = .slice none 0 0 ↔ v = .slice none 0 0 ∧ m = 0) → wpList P ops Q rest (a.put o.dst v') w') : wpList P ops Q (o :: rest) a w := by
  obtain ⟨i, hi, hz, hsize, hby⟩ := info_parts hi
  obtain ⟨hl, ad, c, rfl, hc, hm, hnc, hb⟩ := hsee
  have hb1 : (n + m) * (bytes + 1) = (n + m) * bytes + (n + m) := Nat.mul_succ _ _
  have h63 : n + m ≤ maxLen := by unfold maxLen; omega
  have hby2 : (n + m) * bytes ≤ 140737488355328 := by omega
  cases ad with
  | none =>
    have hm0 : m = 0 := by
      rcases Nat.eq_zero_or_pos m with h0 | h0
      · exact h0
      · obtain ⟨b, o, hbo, _⟩ := hb h0; cases hbo
    subst hm0
    have hn0 : news = [] := List.eq_nil_of_length_eq_zero (by simpa using hl)
    subst hn0
    obtain rfl := hnc rfl
    refine wpList_append_own_none hgd s x t ho base e i size ht hi v n xs hs hown hx (h v w ?_ ?_ ?_)
    · simpa using hown
    · exact ⟨rfl, rfl, rfl, Nat.le_refl _, fun _ _ _ => rfl⟩
    · simp
  | some ad =>
    refine wpList_append_own w hgd s x t ho base e i z size bytes ht hi hz hsize hby hzs hsz v n xs hs hown ad m c news hx hl ?_ h1 h63 hby2 hbase h
    intro j u hj
    rcases Nat.eq_zero_or_pos m with h0 | h0
    · subst h0
      have hn0 : news = [] := List.eq_nil_of_length_eq_zero (by simpa using hl)
      subst hn0; simp at hj
    · obtain ⟨b, o, hbo, hcell⟩ := hb h0
      cases hbo
      rw [show (⟨b, o, none⟩ : Addr).add j = ⟨b, o + j, none⟩ from by unfold Addr.add; split <;> simp_all]
      exact hcell j u hj

/-- Block g holds these cells and no others. -/
def Blk (w : World) (g : Nat) (cs : Array Value) (t : TypeId) : Prop := w.heap[g]? = some (.cells cs t (0, 0))
theorem Blk.lt {w : World} {g : Nat} {cs : Array Value} {t : TypeId} (h : Blk w g cs t) : g < w.heap.size := lt_of_block h
theorem Blk.new (w : World) (cs : Array Value) (t : TypeId) : Blk (w.alloc (.cells cs t)) w.heap.size cs t := heap_alloc_new w _
theorem Blk.alloc {w : World} {g : Nat} {cs : Array Value} {t : TypeId} (h : Blk w g cs t) (o : Obj) : Blk (w.alloc o) g cs t := (Below.heap_alloc w o g h.lt).trans h
theorem Blk.drew {w : World} {g : Nat} {cs : Array Value} {t : TypeId} (h : Blk w g cs t) : Blk w.drew g cs t := h
theorem Blk.drewN {w : World} {g : Nat} {cs : Array Value} {t : TypeId} (h : Blk w g cs t) (n : Nat) : Blk (w.drewN n) g cs t := h
theorem Blk.below {w w' : World} {g : Nat} {cs : Array Value} {t : TypeId} (h : Blk w g cs t) (hb : Below w.heap.size w w') : Blk w' g cs t := (hb.block g h.lt).trans h
theorem Blk.grownBy {w w' : World} {g : Nat} {cs : Array Value} {t : TypeId} {row : Option Nat} (h : Blk w g cs t) (hg : w.grownBy w' row) (hne : some g ≠ row) : Blk w' g cs t := (hg.block g h.lt hne).trans h
theorem Blk.set {w : World} {g : Nat} {cs : Array Value} {t : TypeId} (h : Blk w g cs t) (i : Nat) (v : Value) : Blk (w.setCell ⟨g, i, none⟩ v) g (cs.setIfInBounds i v) t := heap_setCell_same w g i cs t v h
theorem Blk.setCell {w : World} {g : Nat} {cs : Array Value} {t : TypeId} (h : Blk w g cs t) (a : Addr) (v : Value) (hne : g ≠ a.block) : Blk (w.setCell a v) g cs t := (heap_setCell_other w a g v hne).trans h
theorem Blk.cell {w : World} {g : Nat} {cs : Array Value} {t : TypeId} (h : Blk w g cs t) (i : Nat) : w.cell? ⟨g, i, none⟩ = cs[i]? := cell_of_row w g i cs t (0, 0) h
theorem Blk.free {w : World} {g : Nat} {cs : Array Value} {t : TypeId} (h : Blk w g cs t) (i : Nat) : w.frozen? ⟨g, i, none⟩ = false := frozen_of_row w g i cs t h

theorem Blk.new2 (w : World) (o : Obj) (cs : Array Value) (t : TypeId) : Blk ((w.alloc o).alloc (.cells cs t)) (w.heap.size + 1) cs t := by
  have := Blk.new (w.alloc o) cs t; rw [World.size_alloc] at this; exact this
theorem Blk.new3 (w : World) (o o' : Obj) (cs : Array Value) (t : TypeId) : Blk (((w.alloc o).alloc o').alloc (.cells cs t)) (w.heap.size + 1 + 1) cs t := by
  have := Blk.new2 (w.alloc o) o' cs t; rw [World.size_alloc] at this; exact this
theorem Blk.new4 (w : World) (o o' o'' : Obj) (cs : Array Value) (t : TypeId) : Blk ((((w.alloc o).alloc o').alloc o'').alloc (.cells cs t)) (w.heap.size + 1 + 1 + 1) cs t := by
  have := Blk.new3 (w.alloc o) o' o'' cs t; rw [World.size_alloc] at this; exact this
theorem grownBy_refl (w : World) (row : Option Nat) : w.grownBy w row := ⟨rfl, rfl, rfl, Nat.le_refl _, fun _ _ _ => rfl⟩
theorem grownBy_set {w0 w : World} {B : Nat} (h : w0.grownBy w (some B)) (i : Nat) (v : Value) : w0.grownBy (w.setCell ⟨B, i, none⟩ v) (some B) :=
  ⟨h.os, h.tape, h.output, by simp [World.setCell]; exact h.size, fun k hk hne => (heap_setCell_other w _ k v (fun e => hne (by rw [e]))).trans (h.block k hk hne)⟩
theorem grownBy_drewN {w0 w : World} {row : Option Nat} (h : w0.grownBy w row) (n : Nat) : w0.grownBy (w.drewN n) row := ⟨h.os, h.tape, h.output, h.size, h.block⟩
theorem grownBy_drew {w0 w : World} {row : Option Nat} (h : w0.grownBy w row) : w0.grownBy w.drew row := ⟨h.os, h.tape, h.output, h.size, h.block⟩
theorem some_ne {a b : Nat} (h : a ≠ b) : some a ≠ some b := fun e => h (Option.some.inj e)
theorem setCells_size (b : Nat) : ∀ (vs : List Value) (o : Nat) (w : World), (w.setCells b o vs).heap.size = w.heap.size
  | [], _, _ => rfl
  | v :: r, o, w => by
    show ((w.setCell ⟨b, o, none⟩ v).setCells b (o + 1) r).heap.size = _
    rw [setCells_size b r]; simp [World.setCell]
theorem setCells_blk (b : Nat) (t : TypeId) : ∀ (vs : List Value) (o : Nat) (w : World) (cs : Array Value), Blk w b cs t → o + vs.length ≤ cs.size →
    Blk (w.setCells b o vs) b (cs.toList.take o ++ vs ++ cs.toList.drop (o + vs.length)).toArray t
  | [], o, w, cs, h, hs => by
    show Blk w b _ t
    simpa using h
  | v :: r, o, w, cs, h, hs => by
    have := setCells_blk b t r (o + 1) (w.setCell ⟨b, o, none⟩ v) _ (h.set o v) (by simp at hs ⊢; omega)
    show Blk ((w.setCell ⟨b, o, none⟩ v).setCells b (o + 1) r) b _ t
    have e : (List.take (o + 1) (cs.setIfInBounds o v).toList ++ r ++ List.drop (o + 1 + r.length) (cs.setIfInBounds o v).toList) = (List.take o cs.toList ++ v :: r ++ List.drop (o + (v :: r).length) cs.toList) := by
      simp at hs
      apply List.ext_getElem?
      intro i
      simp only [Array.toList_setIfInBounds, List.getElem?_append, List.getElem?_take, List.getElem?_drop, List.length_append, List.length_take, List.length_set, List.length_cons, Array.length_toList, List.getElem?_set]
      rw [show min (o + 1) cs.size = o + 1 from by omega, show min o cs.size = o from by omega]
      by_cases h1 : i < o
      · simp [h1, show i < o + 1 from by omega, show i < o + 1 + r.length from by omega, show i < o + (r.length + 1) from by omega, show o ≠ i from by omega]
      · by_cases h2 : i = o
        · subst h2; simp [show i < cs.size from by omega]; omega
        · by_cases h3 : i < o + 1 + r.length
          · simp [h1, show ¬ i < o + 1 from by omega, h3, show i < o + (r.length + 1) from by omega]
            rw [show i - o = (i - (o + 1)) + 1 from by omega, List.getElem?_cons_succ]
          · simp [h3, show ¬ i < o + (r.length + 1) from by omega]
            rw [if_neg (by omega)]
            congr 1; omega
    rw [e] at this; exact this
theorem setCells_other (b : Nat) : ∀ (vs : List Value) (o : Nat) (w : World) (k : Nat), k ≠ b → (w.setCells b o vs).heap[k]? = w.heap[k]?
  | [], _, _, _, _ => rfl
  | v :: r, o, w, k, h => by
    show ((w.setCell ⟨b, o, none⟩ v).setCells b (o + 1) r).heap[k]? = _
    rw [setCells_other b r _ _ k h]; exact heap_setCell_other w _ k v h
theorem setCells_rest (b : Nat) : ∀ (vs : List Value) (o : Nat) (w : World), (w.setCells b o vs).os = w.os ∧ (w.setCells b o vs).tape = w.tape ∧ (w.setCells b o vs).output = w.output
  | [], _, _ => ⟨rfl, rfl, rfl⟩
  | v :: r, o, w => setCells_rest b r (o + 1) (w.setCell ⟨b, o, none⟩ v)
/-- A whole array (or struct) stored over a whole block. -/
theorem wpList_store_row {P : Program} {ops : Array Oper} {rest : List Oper} {op : Oper} {a : Act} {w : World} {Q : Exit → Act → World → Prop} (hgd : op.guard = none) (ty : TypeId) (x y : Operand) (ho : op.op = .store ty x y)
    (g : Nat) (cs cur : Array Value) (t : TypeId) (hx : a.eval x = .pointer (some ⟨g, 0, none⟩)) (hy : a.eval y = .agg cs)
    (hb : Blk w g cur t) (hs : cur.size = cs.size) (hi : (P.info? ty).map (·.size) = some cs.size) (h1 : ∀ v ∈ cs.toList, v.oneCell' = true)
    (h : ∀ w', w.grownBy w' (some g) → w'.heap.size = w.heap.size → Blk w' g cs t → wpList P ops Q rest (a.put op.dst undef) w') : wpList P ops Q (op :: rest) a w := by
  refine wpList_store_mid hgd ty x y ho g 0 cs hx hy (fun j hj => ?_) hi (by simpa using all_oneCell_toArray h1) (h _ ?_ (setCells_size _ _ _ _) ?_)
  · rw [Nat.zero_add, hb.cell, hb.free]; simp [hs, hj]
  · obtain ⟨e1, e2, e3⟩ := setCells_rest g cs.toList 0 w
    exact ⟨e1, e2, e3, by rw [setCells_size]; exact Nat.le_refl _, fun k _ hk => setCells_other g _ _ _ k (fun e => hk (by rw [e]))⟩
  · have := setCells_blk g t cs.toList 0 w cur hb (by simp [hs])
    rw [List.drop_of_length_le (by simp [hs])] at this; simpa using this

/-- The bytes l in a slice of the call's own (blocks from B on). -/
abbrev OwnB (w : World) (B : Nat) (v : Value) (l : List UInt8) : Prop := w.ownsRow B 5 1 v l.length (l.map BV)
theorem info_u8 : (Try.prog.info? 5).map (fun i => (i.zero, i.size, i.bytes)) = some (some (.int .u8 0), 1, 1) := by kernel_rfl
theorem one_BV (l : List UInt8) : ∀ u ∈ l.map BV, u.oneCell' = true := by
  intro u hu; obtain ⟨b, _, rfl⟩ := List.mem_map.1 hu; rfl
theorem ownB_nil (w : World) (B : Nat) : OwnB w B (.slice none 0 0) [] := World.ownsRow_nil w B _ 1
theorem seesB_lit (w : World) (cs : List Value) (t : TypeId) (l : List UInt8) (n : Nat) (h : cs = l.map BV) (hn : n = l.length) (hm : n ≤ maxLen) : SeesB (w.alloc (.cells cs.toArray t)) (.slice (some ⟨w.heap.size, 0, none⟩) n n) l := by
  subst h; subst hn
  have := sees_new w 1 (l.map BV).toArray t l.length (by simp) hm
  simpa using this
/-- append on bytes, in a call that began in the world W. -/
theorem appB {W w : World} {ops : Array Oper} {rest : List Oper} {o : Oper} {a : Act} {Q : Exit → Act → World → Prop} (hgd : o.guard = none) (s x : Operand)
    (ho : o.op = .call { callee := .builtin .append, args := #[s, x], argTypes := #[25, 25] })
    (v : Value) (l : List UInt8) (hs : a.eval s = v) (hown : OwnB w W.heap.size v l) (vx : Value) (lx : List UInt8) (hx : a.eval x = vx) (hsee : SeesB w vx lx)
    (hb : l.length + lx.length ≤ 70368744177664) (hW : Below W.heap.size W w)
    (h : ∀ v' w', OwnB w' W.heap.size v' (l ++ lx) → w.grownBy w' v.ownBlock → Below W.heap.size W w' → wpList Try.prog ops Q rest (a.put o.dst v') w') : wpList Try.prog ops Q (o :: rest) a w :=
  wpList_app hgd s x _ ho W.heap.size 5 (.int .u8 0) 1 1 Try.underlying25 info_u8 rfl (by decide) v _ _ hs hown vx _ _ hx hsee (one_BV lx) (by omega) hW.size
    (fun v' w' h1 h2 _ => h v' w' (by simpa [OwnB] using h1) h2 (hW.grown h2 hW.size (fun k hk => (hown.lt k hk).1)))
theorem ownB_kept {w w' : World} {B : Nat} {v : Value} {l : List UInt8} {row : Option Nat} (h : OwnB w B v l) (hg : w.grownBy w' row) (hne : v.ownBlock = none ∨ v.ownBlock ≠ row) : OwnB w' B v l := h.kept hg hne
/-- x[k:] and x[:k] on bytes. -/
theorem run_sliceB_from (a : Option Addr) (n c k : Nat) (hk : k ≤ n) (W : World) :
    (Instr.sliceAt 25 (.slice a n c) (some (.int .i64 k)) none none).run Try.prog W = .ok (.slice (if c = k then a else Option.map (fun x => x.add k) a) (n - k) (c - k)) W := by
  obtain ⟨i, hi, hz, hsize, hby⟩ := info_parts info_u8
  have h1 : (k : Int) ≤ (n : Int) := by omega
  simp [Instr.sliceAt, Instr.slice, Instr.sliceBounds, Instr.sliceBound, run_underlying Try.underlying25, sizeOf, typeInfo, hi, hsize, go_sem, h1, hk]
theorem run_sliceB_to (a : Option Addr) (n c k : Nat) (hk : k ≤ c) (W : World) :
    (Instr.sliceAt 25 (.slice a n c) none (some (.int .i64 k)) none).run Try.prog W = .ok (.slice (if c = 0 then a else Option.map (fun x => x.add 0) a) k c) W := by
  obtain ⟨i, hi, hz, hsize, hby⟩ := info_parts info_u8
  have h1 : (k : Int) ≤ (c : Int) := by omega
  simp [Instr.sliceAt, Instr.slice, Instr.sliceBounds, Instr.sliceBound, run_underlying Try.underlying25, sizeOf, typeInfo, hi, hsize, go_sem, h1, hk]
/-- A call that hands back bytes of its own and leaves all that was there. -/
def RetB (l : List UInt8) (w : World) (e : Ending) (w' : World) : Prop := ∃ v', e = .returned v' ∧ OwnB w' w.heap.size v' l ∧ Below w.heap.size w w'
theorem RetB.mk {l : List UInt8} {w w' : World} {v : Value} (h : OwnB w' w.heap.size v l) (hb : Below w.heap.size w w') : RetB l w (.returned v) w' := ⟨v, rfl, h, hb⟩
theorem owns_form {w : World} {B : Nat} {e : TypeId} {sz : Nat} {v : Value} {n : Nat} {xs : List Value} (h : w.ownsRow B e sz v n xs) : ∃ a c, v = .slice a n c ∧ n ≤ c ∧ c ≤ 9223372036854775807 := by
  rcases h.2 with ⟨rfl, rfl⟩ | ⟨g, cap, cur, rfl, hg, hh, hn, hm, hs, hx⟩
  · exact ⟨_, _, rfl, Nat.le_refl _, by omega⟩
  · exact ⟨_, _, rfl, hn, by unfold maxLen at hm; omega⟩
theorem sees_form {w : World} {sz : Nat} {v : Value} {n : Nat} {xs : List Value} (h : Sees w sz v n xs) : ∃ a c, v = .slice a n c ∧ n ≤ c ∧ c ≤ 9223372036854775807 := by
  obtain ⟨_, a, c, rfl, hn, hm, _⟩ := h
  exact ⟨_, _, rfl, hn, by unfold maxLen at hm; omega⟩
/-- A slice's length, read off the value. -/
def lenV : Value → Nat | .slice _ n _ => n | _ => 0
theorem addr_add (b o n : Nat) : (⟨b, o, none⟩ : Addr).add n = ⟨b, o + n, none⟩ := by unfold Addr.add; split <;> simp_all
/-- A part of what is seen. -/
theorem seesB_sub {w : World} {a : Option Addr} {n c : Nat} {l : List UInt8} (h : SeesB w (.slice a n c) l) (lo k : Nat) (hk : lo + k ≤ l.length) (hlo : lo < c) :
    SeesB w (.slice (Option.map (fun x => x.add lo) a) k (c - lo)) ((l.drop lo).take k) := by
  obtain ⟨hl, a', c', he, hc, hm, hnc, hb⟩ := h
  cases he
  have hlen : ((l.drop lo).take k).length = k := by simp; omega
  refine ⟨by simp, _, _, by rw [hlen], by rw [hlen]; omega, by omega, fun hn => ?_, fun hn => ?_⟩
  · cases a with
    | none => have := hnc rfl; omega
    | some a => cases hn
  · rw [hlen] at hn
    obtain ⟨b, o, rfl, hcell⟩ := hb (by omega)
    refine ⟨b, o + lo, by simp [addr_add], fun j u hj => ?_⟩
    have hjk : j < k := by
      have := (List.getElem?_eq_some_iff.1 hj).1
      simp at this; omega
    rw [Nat.add_assoc]
    apply hcell
    simp only [List.getElem?_map] at hj ⊢
    rw [List.getElem?_take, if_pos hjk, List.getElem?_drop] at hj
    exact hj
theorem seesB_open {w : World} {v : Value} {l : List UInt8} (h : SeesB w v l) (hn : 0 < l.length) : ∃ b o c, v = .slice (some ⟨b, o, none⟩) l.length c ∧ l.length ≤ c ∧ c ≤ 9223372036854775807 ∧ w.rangeAt b o (l.map BV) := by
  obtain ⟨hl, a, c, rfl, hc, hm, hnc, hb⟩ := h
  obtain ⟨b, o, rfl, hcell⟩ := hb hn
  exact ⟨b, o, c, rfl, hc, by unfold maxLen at hm; omega, hcell⟩
/-- A slice of slices of bytes, seen whole. -/
def SeesBB (w : World) (v : Value) (ll : List (List UInt8)) : Prop :=
  ∃ vs : List Value, Sees w 1 v ll.length vs ∧ ∀ (i : Nat) (l : List UInt8) (u : Value), ll[i]? = some l → vs[i]? = some u → SeesB w u l
theorem SeesBB.below {w w' : World} {v : Value} {ll : List (List UInt8)} (h : SeesBB w v ll) (hb : Below w.heap.size w w') : SeesBB w' v ll := by
  obtain ⟨vs, h1, h2⟩ := h
  exact ⟨vs, h1.below hb (by decide), fun i l u hl hu => (h2 i l u hl hu).below hb (by decide)⟩
/-- What is left behind the first k. -/
theorem seesB_drop {w : World} {a : Option Addr} {n c : Nat} {l : List UInt8} (h : SeesB w (.slice a n c) l) (k : Nat) (hk : k ≤ l.length) :
    SeesB w (.slice (if c = k then a else Option.map (fun x => x.add k) a) (l.length - k) (c - k)) (l.drop k) := by
  obtain ⟨hl, a', c', he, hc, hm, hnc, hb⟩ := h
  cases he
  have hlen : (l.drop k).length = l.length - k := by simp
  refine ⟨by simp, _, _, by rw [hlen], by rw [hlen]; omega, by omega, fun hn => ?_, fun hn => ?_⟩
  · by_cases e : c = k
    · omega
    · rw [if_neg e] at hn
      cases a with
      | none => have := hnc rfl; omega
      | some a => cases hn
  · rw [hlen] at hn
    obtain ⟨b, o, rfl, hcell⟩ := hb (by omega)
    rw [if_neg (by omega)]
    refine ⟨b, o + k, by simp [addr_add], fun j u hj => ?_⟩
    rw [Nat.add_assoc]
    apply hcell
    simp only [List.getElem?_map] at hj ⊢
    rw [List.getElem?_drop] at hj
    exact hj
end Go.Proofs.Yteialfdhbfbkgaa
