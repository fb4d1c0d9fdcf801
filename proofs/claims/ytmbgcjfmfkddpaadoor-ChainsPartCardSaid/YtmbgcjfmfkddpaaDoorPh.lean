/-
  Secrets of a place: the reference.
  What a place tells of its secrets: the reference.
  A chain of places: the reference.
  Keys of a run of places: the reference.
  The law's chain; onions wrapped for a chain.
-/
import Derived.Test.YtmbgcjfmfkddpaaDoorPg
import Derived.Test.YtmbgcjfmfkddpaaDoorPf
namespace Go.Proofs.YtmbgcjfmfkddpaaDoor
set_option linter.unusedVariables false
set_option linter.unusedSimpArgs false
open Go Go.RowKit

structure Sec where
  (blind mix inner : Int)
def Sec.cells (s : Sec) : List Value := [.int .u64 s.blind, .int .u64 s.mix, .int .u64 s.inner]
def Sec.ok (s : Sec) : Prop := in64 s.blind ∧ in64 s.mix ∧ in64 s.inner
abbrev SecV (s : Sec) : Value := .agg #[.int .u64 s.blind, .int .u64 s.mix, .int .u64 s.inner]
def keysS : List UInt8 := [107, 101, 121, 115]
def keysW (seed : List UInt8) (r c p : Int) (i : Nat) : Int := wordN seed (namesL keysS [r, c, p]) i % 2305843009213693950
theorem keysW_pos (seed : List UInt8) (r c p : Int) (i : Nat) : 0 ≤ keysW seed r c p i ∧ keysW seed r c p i < 2305843009213693950 := by unfold keysW; omega
def makeS (seed : List UInt8) (r c p : Int) : Sec := ⟨keysW seed r c p 0, keysW seed r c p 1, keysW seed r c p 2⟩
def makeD (seed : List UInt8) (r c p : Int) : List Int := [keysW seed r c p 3, keysW seed r c p 4, keysW seed r c p 5]
def makeL (seed : List UInt8) (r c p : Int) (n : Nat) : List Int := (List.range n).map (keysW seed r c p)
theorem makeL_succ (seed : List UInt8) (r c p : Int) (n : Nat) : makeL seed r c p (n + 1) = makeL seed r c p n ++ [keysW seed r c p n] := by simp [makeL, List.range_succ]
theorem length_makeL (seed : List UInt8) (r c p : Int) (n : Nat) : (makeL seed r c p n).length = n := by simp [makeL]

/-- Numbers in a row of the call's own. -/
abbrev OwnU (w : World) (B : Nat) (v : Value) (l : List Int) : Prop := w.ownsRow B 48 1 v l.length (l.map UV)
theorem info_u64 : (Tryd.prog.info? 48).map (fun i => (i.zero, i.size, i.bytes)) = some (some (.int .u64 0), 1, 8) := by kernel_rfl
theorem one_UV (l : List Int) : ∀ u ∈ l.map UV, u.oneCell' = true := by
  intro u hu; obtain ⟨b, _, rfl⟩ := List.mem_map.1 hu; rfl
theorem ownU_nil (w : World) (B : Nat) : OwnU w B (.slice none 0 0) [] := World.ownsRow_nil w B _ 1
/-- A block of another type is no row of one's own. -/
theorem own_ne {w : World} {B : Nat} {e t : TypeId} {sz : Nat} {v : Value} {n : Nat} {xs : List Value} {g : Nat} {cs : Array Value} (h : w.ownsRow B e sz v n xs) (hb : Blk w g cs t) (hne : t ≠ e) : v.ownBlock ≠ some g := fun hg => by
  rcases h.2 with ⟨rfl, _⟩ | ⟨g', cap, cur, rfl, _, hh, _⟩
  · cases hg
  · have : g' = g := Option.some.inj hg
    subst this
    unfold Blk at hb
    rw [hb] at hh
    injection hh with h1
    injection h1 with _ h2 _
    exact hne h2
theorem seesU_lit1 (w : World) (x : Int) (t : TypeId) : SeesU (w.alloc (.cells #[.int .u64 x] t)) (.slice (some ⟨w.heap.size, 0, none⟩) 1 1) [x] := sees_new w 1 #[.int .u64 x] t 1 rfl (by decide)
theorem makeL_six (seed : List UInt8) (r c p : Int) : makeL seed r c p 6 = [keysW seed r c p 0, keysW seed r c p 1, keysW seed r c p 2, keysW seed r c p 3, keysW seed r c p 4, keysW seed r c p 5] := rfl
/-- What a row of six of one's own is. -/
theorem own_six {w : World} {B : Nat} {a : Option Addr} {c : Nat} {k0 k1 k2 k3 k4 k5 : Int} (h : OwnU w B (.slice a 6 c) [k0, k1, k2, k3, k4, k5]) :
    ∃ g cur, a = some ⟨g, 0, none⟩ ∧ B ≤ g ∧ 6 ≤ c ∧ c ≤ 9223372036854775807 ∧ Blk w g cur 48 ∧ cur[0]? = some (UV k0) ∧ cur[1]? = some (UV k1) ∧ cur[2]? = some (UV k2) ∧ cur[3]? = some (UV k3) ∧ cur[4]? = some (UV k4) ∧ cur[5]? = some (UV k5) := by
  obtain ⟨hl, h⟩ := h
  rcases h with ⟨h, h0⟩ | ⟨g, cap, cur, h, hg, hh, hn, hm, hs, hx⟩
  · simp at h0
  · injection h with h1 h2 h3
    subst h3
    have hX : ∀ i, i < 6 → cur[i]? = ([k0, k1, k2, k3, k4, k5].map UV)[i]? := by
      intro i hi
      rw [← hx, List.getElem?_take_of_lt (by simpa using hi), Array.getElem?_toList]
    exact ⟨g, cur, h1, hg, by simpa using hn, by unfold maxLen at hm; omega, hh, hX 0 (by decide), hX 1 (by decide), hX 2 (by decide), hX 3 (by decide), hX 4 (by decide), hX 5 (by decide)⟩
theorem results_row_tmp {P : Program} {fn : Func} {p u : Tmp} {ty : TypeId} (h : fn.results = #[.cell p ty, .tmp u]) (tmps : Array Value) (w : World) (g : Nat) (t : TypeId) (cs : Array Value) (d : TypeDesc) (v : Value)
    (hp : tmps.getD p undef = .pointer (some ⟨g, 0, none⟩)) (hv : tmps.getD u undef = v) (hg : Blk w g cs t)
    (hu : P.underlying ty = some d) (hd : (match d with | .struct _ | .array _ _ => true | _ => false) = true) (hi : (P.info? ty).map (·.size) = some cs.size) :
    (results fn tmps).run P w = .ok (.tuple #[.agg cs, v]) w := by
  rw [results_cell_tmp h, hp, hv]
  have := run_loadVar_row w g t ty cs (0, 0) d hg hu hd hi
  simp [asAddr, this, Result.andThen]
/-- A row's block has the type t. -/
def RowT (w : World) (row : Option Nat) (t : TypeId) : Prop := ∀ g, row = some g → ∃ cs fr, w.heap[g]? = some (.cells cs t fr)
theorem RowT.own {w : World} {B : Nat} {e : TypeId} {sz : Nat} {v : Value} {n : Nat} {xs : List Value} (h : w.ownsRow B e sz v n xs) : RowT w v.ownBlock e := fun g hg => by
  rcases h.2 with ⟨rfl, _⟩ | ⟨g', cap, cur, rfl, _, hh, _⟩
  · cases hg
  · cases hg; exact ⟨_, _, hh⟩
theorem RowT.blk {w : World} {g : Nat} {cs : Array Value} {t : TypeId} (h : Blk w g cs t) : RowT w (some g) t := fun g' hg => by cases hg; exact ⟨_, _, h⟩
theorem RowT.ne {w : World} {r r' : Option Nat} {t t' : TypeId} (h : RowT w r t) (h' : RowT w r' t') (hne : t ≠ t') (g : Nat) (hg : r = some g) : some g ≠ r' := fun e => by
  obtain ⟨cs, fr, e1⟩ := h g hg
  obtain ⟨cs', fr', e2⟩ := h' g e.symm
  rw [e1] at e2
  injection e2 with e3
  injection e3 with _ e4 _
  exact hne e4
/-- Numbers seen, in a block of numbers. -/
def SeesV (w : World) (u : Value) (l : List Int) : Prop := SeesU w u l ∧ RowT w u.ownBlock 48
theorem SeesV.below {w w' : World} {u : Value} {l : List Int} (h : SeesV w u l) (hb : Below w.heap.size w w') : SeesV w' u l :=
  ⟨h.1.below hb (by decide), fun g hg => by obtain ⟨cs, fr, e⟩ := h.2 g hg; exact ⟨cs, fr, (hb.block g (lt_of_block e)).trans e⟩⟩
theorem SeesV.grown {w w' : World} {u : Value} {l : List Int} {row : Option Nat} {t : TypeId} (h : SeesV w u l) (hg : w.grownBy w' row) (hr : RowT w row t) (hne : 48 ≠ t) : SeesV w' u l := by
  have hn := h.2.ne hr hne
  refine ⟨h.1.grownBy hg (by decide) ?_, fun g hu => ?_⟩
  · cases hb : u.ownBlock with
    | none => exact .inl rfl
    | some g => exact .inr (hn g hb)
  · obtain ⟨cs, fr, e⟩ := h.2 g hu
    exact ⟨cs, fr, (hg.block g (lt_of_block e) (hn g hu)).trans e⟩
/-- What Make hands back. -/
def RetM (s : Sec) (d : List Int) (w : World) (e : Ending) (w' : World) : Prop := ∃ v, e = .returned (.tuple #[SecV s, v]) ∧ SeesV w' v d ∧ Below w.heap.size w w'

end Go.Proofs.YtmbgcjfmfkddpaaDoor
namespace Go.Proofs.YtmbgcjfmfkddpaaDoor
set_option linter.unusedVariables false
set_option linter.unusedSimpArgs false
open Go Go.RowKit

/-- A store into the middle of a block. -/
theorem wpList_store_in {P : Program} {ops : Array Oper} {rest : List Oper} {op : Oper} {a : Act} {w : World} {Q : Exit → Act → World → Prop} (hgd : op.guard = none) (ty : TypeId) (x y : Operand) (ho : op.op = .store ty x y)
    (g o : Nat) (cs cur new : Array Value) (t : TypeId) (hx : a.eval x = .pointer (some ⟨g, o, none⟩)) (hy : a.eval y = .agg cs)
    (hb : Blk w g cur t) (hs : o + cs.size ≤ cur.size) (hi : (P.info? ty).map (·.size) = some cs.size) (h1 : ∀ v ∈ cs.toList, v.oneCell' = true)
    (hn : (cur.toList.take o ++ cs.toList ++ cur.toList.drop (o + cs.size)).toArray = new)
    (h : ∀ w', w.grownBy w' (some g) → w'.heap.size = w.heap.size → Blk w' g new t → wpList P ops Q rest (a.put op.dst undef) w') : wpList P ops Q (op :: rest) a w := by
  refine wpList_store_mid hgd ty x y ho g o cs hx hy (fun j hj => ?_) hi (by simpa using all_oneCell_toArray h1) (h _ ?_ (setCells_size _ _ _ _) ?_)
  · rw [hb.cell, hb.free]; simp; omega
  · obtain ⟨e1, e2, e3⟩ := setCells_rest g cs.toList o w
    exact ⟨e1, e2, e3, by rw [setCells_size]; exact Nat.le_refl _, fun k _ hk => setCells_other g _ _ _ k (fun e => hk (by rw [e]))⟩
  · have := setCells_blk g t cs.toList o w cur hb (by simpa using hs)
    rw [Array.length_toList, hn] at this; exact this

def tellP (g : Int) (s : Sec) (ds : List Int) : Pub := ⟨g, timesP g s.blind, timesP g s.mix, timesP 37 s.inner,
  knowC g (timesP g s.blind) (ds.getD 0 0), ansP (knowC g (timesP g s.blind) (ds.getD 0 0)) s.blind (ds.getD 0 0),
  knowC g (timesP g s.mix) (ds.getD 1 0), ansP (knowC g (timesP g s.mix) (ds.getD 1 0)) s.mix (ds.getD 1 0),
  knowC 37 (timesP 37 s.inner) (ds.getD 2 0), ansP (knowC 37 (timesP 37 s.inner) (ds.getD 2 0)) s.inner (ds.getD 2 0)⟩
theorem tellP_ok (g : Int) (s : Sec) (ds : List Int) (hg : in64 g) : (tellP g s ds).ok := by
  have c (x : ByteArray) (l : List Int) : in64 (chal x l) := ⟨(chal_pos x l).1, by have := (chal_pos x l).2; omega⟩
  have d (x y z : Int) : in64 (ansP x y z) := ⟨(ansP_pos x y z).1, by have := (ansP_pos x y z).2; omega⟩
  have t (x y : Int) : in64 (timesP x y) := ⟨(timesP_pos x y).1, by have := (timesP_pos x y).2; omega⟩
  refine ⟨hg, t g s.blind, t g s.mix, t 37 s.inner, ?_, ?_, ?_, ?_, ?_, ?_⟩ <;> first | exact c _ _ | exact d _ _ _
abbrev PubC (a b c d e f g h i j : Int) : Array Value := #[.int .u64 a, .int .u64 b, .int .u64 c, .int .u64 d, .int .u64 e, .int .u64 f, .int .u64 g, .int .u64 h, .int .u64 i, .int .u64 j]
abbrev SecC (x y z : Int) : Array Value := #[.int .u64 x, .int .u64 y, .int .u64 z]
end Go.Proofs.YtmbgcjfmfkddpaaDoor
namespace Go.Proofs.YtmbgcjfmfkddpaaDoor
set_option linter.unusedVariables false
set_option linter.unusedSimpArgs false
open Go Go.RowKit

theorem Sec.length_cells (s : Sec) : s.cells.length = 3 := rfl
abbrev SeesS (w : World) (v : Value) (ss : List Sec) : Prop := Sees w 3 v ss.length (ss.flatMap Sec.cells)
theorem seesS_open {w : World} {v : Value} {ss : List Sec} (h : SeesS w v ss) (hn : 0 < ss.length) : ∃ b o c, v = .slice (some ⟨b, o, none⟩) ss.length c ∧ ss.length ≤ c ∧ c ≤ 9223372036854775807 ∧
    ∀ (i : Nat) (s : Sec), ss[i]? = some s → w.rangeAt b (o + i * 3) [.int .u64 s.blind, .int .u64 s.mix, .int .u64 s.inner] := by
  obtain ⟨hl, a, c, rfl, hc, hm, hnc, hb⟩ := h
  obtain ⟨b, o, rfl, hcell⟩ := hb hn
  refine ⟨b, o, c, rfl, hc, by unfold maxLen at hm; omega, fun i s hs j u hu => ?_⟩
  have hj : j < 3 := by have := (List.getElem?_eq_some_iff.1 hu).1; simpa using this
  rw [Nat.add_assoc]
  exact hcell _ u (by rw [flatMap_at Sec.length_cells ss i j s hs hj]; exact hu)
def SeesUU (w : World) (v : Value) (dd : List (List Int)) : Prop :=
  ∃ vs : List Value, Sees w 1 v dd.length vs ∧ ∀ (i : Nat) (l : List Int) (u : Value), dd[i]? = some l → vs[i]? = some u → SeesU w u l
theorem SeesUU.below {w w' : World} {v : Value} {dd : List (List Int)} (h : SeesUU w v dd) (hb : Below w.heap.size w w') : SeesUU w' v dd := by
  obtain ⟨vs, h1, h2⟩ := h
  exact ⟨vs, h1.below hb (by decide), fun i l u hl hu => (h2 i l u hl hu).below hb (by decide)⟩
theorem seesUU_open {w : World} {v : Value} {dd : List (List Int)} (h : SeesUU w v dd) : ∃ a c, v = .slice a dd.length c ∧ dd.length ≤ c ∧ c ≤ 9223372036854775807 ∧
    ∀ (i : Nat) (l : List Int), dd[i]? = some l → ∃ b o u, a = some ⟨b, o, none⟩ ∧ w.cell? ⟨b, o + i, none⟩ = some u ∧ SeesU w u l := by
  obtain ⟨vs, ⟨hl, a, c, rfl, hc, hm, hnc, hb⟩, h2⟩ := h
  refine ⟨a, c, rfl, hc, by unfold maxLen at hm; omega, fun i l hi => ?_⟩
  have hlt := (List.getElem?_eq_some_iff.1 hi).1
  obtain ⟨b, o, rfl, hcell⟩ := hb (by omega)
  have hv : vs[i]? = some (vs[i]'(by omega)) := List.getElem?_eq_getElem (by omega)
  exact ⟨b, o, _, rfl, hcell i _ hv, h2 i l _ hi hv⟩
theorem length_flatP (ps : List Pub) : (ps.flatMap Pub.cells).length = ps.length * 10 := by
  induction ps with
  | nil => rfl
  | cons p ps ih => rw [List.flatMap_cons, List.length_append, ih, p.length_cells, List.length_cons]; omega
theorem one_pub (p : Pub) : ∀ u ∈ p.cells, u.oneCell' = true := by
  intro u hu; simp [Pub.cells] at hu; rcases hu with rfl | rfl | rfl | rfl | rfl | rfl | rfl | rfl | rfl | rfl <;> rfl
/-- What the first n places tell, and the base behind them. -/
def chainN (ss : List Sec) (dd : List (List Int)) : Nat → List Pub × Int
  | 0 => ([], 37)
  | n + 1 => ((chainN ss dd n).1 ++ [tellP (chainN ss dd n).2 (ss.getD n ⟨0, 0, 0⟩) (dd.getD n [])], (tellP (chainN ss dd n).2 (ss.getD n ⟨0, 0, 0⟩) (dd.getD n [])).blind)
def chainL (ss : List Sec) (dd : List (List Int)) : List Pub := (chainN ss dd ss.length).1
theorem length_chainN (ss : List Sec) (dd : List (List Int)) (n : Nat) : (chainN ss dd n).1.length = n := by
  induction n with
  | zero => rfl
  | succ n ih => rw [chainN, List.length_append, ih]; rfl
theorem chainN_in (ss : List Sec) (dd : List (List Int)) (n : Nat) : in64 (chainN ss dd n).2 := by
  cases n with
  | zero => exact ⟨by show (0 : Int) ≤ 37; decide, by show (37 : Int) < 18446744073709551616; decide⟩
  | succ n => exact ⟨(timesP_pos _ _).1, Int.lt_trans (timesP_pos _ _).2 (by decide)⟩
theorem chainN_ok (ss : List Sec) (dd : List (List Int)) (n : Nat) : ∀ p ∈ (chainN ss dd n).1, p.ok := by
  induction n with
  | zero => intro p hp; cases hp
  | succ n ih =>
    intro p hp
    rw [chainN, List.mem_append, List.mem_singleton] at hp
    rcases hp with h | rfl
    · exact ih p h
    · exact tellP_ok _ _ _ (chainN_in ss dd n)
end Go.Proofs.YtmbgcjfmfkddpaaDoor
namespace Go.Proofs.YtmbgcjfmfkddpaaDoor
set_option linter.unusedVariables false
set_option linter.unusedSimpArgs false
open Go Go.RowKit

theorem RowT.below {w w' : World} {r : Option Nat} {t : TypeId} (h : RowT w r t) (hb : Below w.heap.size w w') : RowT w' r t := fun g hg => by
  obtain ⟨cs, fr, e⟩ := h g hg; exact ⟨cs, fr, (hb.block g (lt_of_block e)).trans e⟩
theorem one_sec (s : Sec) : ∀ u ∈ s.cells, u.oneCell' = true := by
  intro u hu; simp [Sec.cells] at hu; rcases hu with rfl | rfl | rfl <;> rfl
/-- A row untouched by a row of another type. -/
theorem own_grown {w w' : World} {B : Nat} {e t : TypeId} {sz : Nat} {v : Value} {n : Nat} {xs : List Value} {row : Option Nat} (h : w.ownsRow B e sz v n xs) (hg : w.grownBy w' row) (hr : RowT w row t) (hne : e ≠ t) : w'.ownsRow B e sz v n xs := by
  have hn := (RowT.own h).ne hr hne
  have hlt := h.lt
  obtain ⟨hl, h⟩ := h
  refine ⟨hl, ?_⟩
  rcases h with h | ⟨g, cap, cur, rfl, hg', hh, r⟩
  · exact .inl h
  · exact .inr ⟨g, cap, cur, rfl, hg', (hg.block g (hlt g rfl).2 (hn g rfl)).trans hh, r⟩
def keysSL (seed : List UInt8) (r c : Int) (n : Nat) : List Sec := (List.range n).map fun i : Nat => makeS seed r c (i : Int)
def keysDL (seed : List UInt8) (r c : Int) (n : Nat) : List (List Int) := (List.range n).map fun i : Nat => makeD seed r c (i : Int)
theorem keysSL_succ (seed : List UInt8) (r c : Int) (n : Nat) : keysSL seed r c (n + 1) = keysSL seed r c n ++ [makeS seed r c n] := by simp [keysSL, List.range_succ]
theorem keysDL_succ (seed : List UInt8) (r c : Int) (n : Nat) : keysDL seed r c (n + 1) = keysDL seed r c n ++ [makeD seed r c n] := by simp [keysDL, List.range_succ]
theorem length_keysSL (seed : List UInt8) (r c : Int) (n : Nat) : (keysSL seed r c n).length = n := by simp [keysSL]
theorem length_keysDL (seed : List UInt8) (r c : Int) (n : Nat) : (keysDL seed r c n).length = n := by simp [keysDL]
theorem in64_keys (seed : List UInt8) (r c p : Int) (i : Nat) : in64 (keysW seed r c p i) := ⟨(keysW_pos seed r c p i).1, Int.lt_trans (keysW_pos seed r c p i).2 (by decide)⟩
theorem keysSL_ok (seed : List UInt8) (r c : Int) (n : Nat) : ∀ s ∈ keysSL seed r c n, s.ok := by
  intro s hs
  obtain ⟨i, _, rfl⟩ := List.mem_map.1 hs
  exact ⟨in64_keys _ _ _ _ _, in64_keys _ _ _ _ _, in64_keys _ _ _ _ _⟩
theorem keysDL_ok (seed : List UInt8) (r c : Int) (n : Nat) : ∀ l ∈ keysDL seed r c n, ∀ x ∈ l, in64 x := by
  intro l hl x hx
  obtain ⟨i, _, rfl⟩ := List.mem_map.1 hl
  simp [makeD] at hx
  rcases hx with rfl | rfl | rfl <;> exact in64_keys _ _ _ _ _
/-- What the places tell. -/
def keysP (seed : List UInt8) (r c : Int) (n : Nat) : List Pub := chainL (keysSL seed r c n) (keysDL seed r c n)
theorem length_keysP (seed : List UInt8) (r c : Int) (n : Nat) : (keysP seed r c n).length = n := by rw [keysP, chainL, length_chainN, length_keysSL]
theorem SeesV.alloc {w : World} {u : Value} {l : List Int} (h : SeesV w u l) (o : Obj) : SeesV (w.alloc o) u l := h.below (by go_grown)
end Go.Proofs.YtmbgcjfmfkddpaaDoor
namespace Go.Proofs.YtmbgcjfmfkddpaaDoor
set_option linter.unusedVariables false
set_option linter.unusedSimpArgs false
open Go Go.RowKit

end Go.Proofs.YtmbgcjfmfkddpaaDoor
