/-
  Secrets of a place: the reference.
  What a place tells of its secrets: the reference.
  A chain of places: the reference.
  Keys of a run of places: the reference.
  The law's chain; onions wrapped for a chain.
-/
import Derived.Test.YtbgnfioggmkdeaaGreatDoorPg
import Derived.Test.YtbgnfioggmkdeaaGreatDoorPf
namespace Go.Proofs.YtbgnfioggmkdeaaGreatDoor
set_option linter.unusedVariables false
set_option linter.unusedSimpArgs false
open Go Go.RowKit

structure Sec where
  (blind mix inner : Int)
def Sec.cells (s : Sec) : List Value := [.int .u64 s.blind, .int .u64 s.mix, .int .u64 s.inner]
def Sec.ok (s : Sec) : Prop := in64 s.blind ∧ in64 s.mix ∧ in64 s.inner
abbrev SecV (s : Sec) : Value := .agg #[.int .u64 s.blind, .int .u64 s.mix, .int .u64 s.inner]
def keysS : List UInt8 := [107, 101, 121, 115]
def keysW (seed : List UInt8) (r c p : Int) (i : Nat) : Int := wordN seed (namesL keysS [r, c, p]) i % 2305843009213693950
theorem keysW_pos (seed : List UInt8) (r c p : Int) (i : Nat) : 0 ≤ keysW seed r c p i ∧ keysW seed r c p i < 2305843009213693950 := by unfold keysW; omega
def makeS (seed : List UInt8) (r c p : Int) : Sec := ⟨keysW seed r c p 0, keysW seed r c p 1, keysW seed r c p 2⟩
def makeD (seed : List UInt8) (r c p : Int) : List Int := [keysW seed r c p 3, keysW seed r c p 4, keysW seed r c p 5]
def makeL (seed : List UInt8) (r c p : Int) (n : Nat) : List Int := (List.range n).map (keysW seed r c p)
theorem makeL_succ (seed : List UInt8) (r c p : Int) (n : Nat) : makeL seed r c p (n + 1) = makeL seed r c p n ++ [keysW seed r c p n] := by simp [makeL, List.range_succ]
theorem length_makeL (seed : List UInt8) (r c p : Int) (n : Nat) : (makeL seed r c p n).length = n := by simp [makeL]

/-- Numbers in a row of the call's own. -/
abbrev OwnU (w : World) (B : Nat) (v : Value) (l : List Int) : Prop := w.ownsRow B 22 1 v l.length (l.map UV)
theorem info_u64 : (Tryz.prog.info? 22).map (fun i => (i.zero, i.size, i.bytes)) = some (some (.int .u64 0), 1, 8) := by kernel_rfl
theorem one_UV (l : List Int) : ∀ u ∈ l.map UV, u.oneCell' = true := by
  intro u hu; obtain ⟨b, _, rfl⟩ := List.mem_map.1 hu; rfl
theorem ownU_nil (w : World) (B : Nat) : OwnU w B (.slice none 0 0) [] := World.ownsRow_nil w B _ 1
theorem appU {W w : World} {ops : Array Oper} {rest : List Oper} {o : Oper} {a : Act} {Q : Exit → Act → World → Prop} (hgd : o.guard = none) (s x : Operand)
    (ho : o.op = .call { callee := .builtin .append, args := #[s, x], argTypes := #[87, 87] })
    (v : Value) (l : List Int) (hs : a.eval s = v) (hown : OwnU w W.heap.size v l) (vx : Value) (lx : List Int) (hx : a.eval x = vx) (hsee : SeesU w vx lx)
    (hb : l.length + lx.length ≤ 10000000000) (hW : Below W.heap.size W w)
    (h : ∀ v' w', OwnU w' W.heap.size v' (l ++ lx) → w.grownBy w' v.ownBlock → Below W.heap.size W w' → wpList Tryz.prog ops Q rest (a.put o.dst v') w') : wpList Tryz.prog ops Q (o :: rest) a w :=
  wpList_app hgd s x _ ho W.heap.size 22 (.int .u64 0) 1 8 Tryz.underlying87 info_u64 rfl (by decide) v _ _ hs hown vx _ _ hx hsee (one_UV lx) (by omega) hW.size
    (fun v' w' h1 h2 _ => h v' w' (by simpa [OwnU] using h1) h2 (hW.grown h2 hW.size (fun k hk => (hown.lt k hk).1)))
/-- A block of another type is no row of one's own. -/
theorem own_ne {w : World} {B : Nat} {e t : TypeId} {sz : Nat} {v : Value} {n : Nat} {xs : List Value} {g : Nat} {cs : Array Value} (h : w.ownsRow B e sz v n xs) (hb : Blk w g cs t) (hne : t ≠ e) : v.ownBlock ≠ some g := fun hg => by
  rcases h.2 with ⟨rfl, _⟩ | ⟨g', cap, cur, rfl, _, hh, _⟩
  · cases hg
  · have : g' = g := Option.some.inj hg
    subst this
    unfold Blk at hb
    rw [hb] at hh
    injection hh with h1
    injection h1 with _ h2 _
    exact hne h2
theorem seesU_lit1 (w : World) (x : Int) (t : TypeId) : SeesU (w.alloc (.cells #[.int .u64 x] t)) (.slice (some ⟨w.heap.size, 0, none⟩) 1 1) [x] := sees_new w 1 #[.int .u64 x] t 1 rfl (by decide)
theorem run_sliceU_from (a : Option Addr) (n c k : Nat) (hk : k ≤ n) (W : World) :
    (Instr.sliceAt 87 (.slice a n c) (some (.int .i64 k)) none none).run Tryz.prog W = .ok (.slice (if c = k then a else Option.map (fun x => x.add k) a) (n - k) (c - k)) W := by
  obtain ⟨i, hi, hz, hsize, hby⟩ := info_parts info_u64
  have h1 : (k : Int) ≤ (n : Int) := by omega
  simp [Instr.sliceAt, Instr.slice, Instr.sliceBounds, Instr.sliceBound, run_underlying Tryz.underlying87, sizeOf, typeInfo, hi, hsize, go_sem, h1, hk]
theorem info_sec : (Tryz.prog.info? 86).map (·.size) = some 3 := by kernel_rfl
theorem makeL_six (seed : List UInt8) (r c p : Int) : makeL seed r c p 6 = [keysW seed r c p 0, keysW seed r c p 1, keysW seed r c p 2, keysW seed r c p 3, keysW seed r c p 4, keysW seed r c p 5] := rfl
/-- What a row of six of one's own is. -/
theorem own_six {w : World} {B : Nat} {a : Option Addr} {c : Nat} {k0 k1 k2 k3 k4 k5 : Int} (h : OwnU w B (.slice a 6 c) [k0, k1, k2, k3, k4, k5]) :
    ∃ g cur, a = some ⟨g, 0, none⟩ ∧ B ≤ g ∧ 6 ≤ c ∧ c ≤ 9223372036854775807 ∧ Blk w g cur 22 ∧ cur[0]? = some (UV k0) ∧ cur[1]? = some (UV k1) ∧ cur[2]? = some (UV k2) ∧ cur[3]? = some (UV k3) ∧ cur[4]? = some (UV k4) ∧ cur[5]? = some (UV k5) := by
  obtain ⟨hl, h⟩ := h
  rcases h with ⟨h, h0⟩ | ⟨g, cap, cur, h, hg, hh, hn, hm, hs, hx⟩
  · simp at h0
  · injection h with h1 h2 h3
    subst h3
    have hX : ∀ i, i < 6 → cur[i]? = ([k0, k1, k2, k3, k4, k5].map UV)[i]? := by
      intro i hi
      rw [← hx, List.getElem?_take_of_lt (by simpa using hi), Array.getElem?_toList]
    exact ⟨g, cur, h1, hg, by simpa using hn, by unfold maxLen at hm; omega, hh, hX 0 (by decide), hX 1 (by decide), hX 2 (by decide), hX 3 (by decide), hX 4 (by decide), hX 5 (by decide)⟩
theorem results_row_tmp {P : Program} {fn : Func} {p u : Tmp} {ty : TypeId} (h : fn.results = #[.cell p ty, .tmp u]) (tmps : Array Value) (w : World) (g : Nat) (t : TypeId) (cs : Array Value) (d : TypeDesc) (v : Value)
    (hp : tmps.getD p undef = .pointer (some ⟨g, 0, none⟩)) (hv : tmps.getD u undef = v) (hg : Blk w g cs t)
    (hu : P.underlying ty = some d) (hd : (match d with | .struct _ | .array _ _ => true | _ => false) = true) (hi : (P.info? ty).map (·.size) = some cs.size) :
    (results fn tmps).run P w = .ok (.tuple #[.agg cs, v]) w := by
  rw [results_cell_tmp h, hp, hv]
  have := run_loadVar_row w g t ty cs (0, 0) d hg hu hd hi
  simp [asAddr, this, Result.andThen]
def MakeRel (w : World) (seed : List UInt8) (r c p : Int) (g : Nat) (l i : Value) (wr : World) : Prop :=
  ∃ n : Nat, n ≤ 6 ∧ i = .int .i64 n ∧ OwnU wr w.heap.size l (makeL seed r c p n) ∧ StrB g seed (namesL keysS [r, c, p]) n wr ∧ Blk wr (w.heap.size + 1) #[.int .u64 0, .int .u64 0, .int .u64 0] 86 ∧ Below w.heap.size w wr
/-- A row's block has the type t. -/
def RowT (w : World) (row : Option Nat) (t : TypeId) : Prop := ∀ g, row = some g → ∃ cs fr, w.heap[g]? = some (.cells cs t fr)
theorem RowT.own {w : World} {B : Nat} {e : TypeId} {sz : Nat} {v : Value} {n : Nat} {xs : List Value} (h : w.ownsRow B e sz v n xs) : RowT w v.ownBlock e := fun g hg => by
  rcases h.2 with ⟨rfl, _⟩ | ⟨g', cap, cur, rfl, _, hh, _⟩
  · cases hg
  · cases hg; exact ⟨_, _, hh⟩
theorem RowT.blk {w : World} {g : Nat} {cs : Array Value} {t : TypeId} (h : Blk w g cs t) : RowT w (some g) t := fun g' hg => by cases hg; exact ⟨_, _, h⟩
theorem RowT.ne {w : World} {r r' : Option Nat} {t t' : TypeId} (h : RowT w r t) (h' : RowT w r' t') (hne : t ≠ t') (g : Nat) (hg : r = some g) : some g ≠ r' := fun e => by
  obtain ⟨cs, fr, e1⟩ := h g hg
  obtain ⟨cs', fr', e2⟩ := h' g e.symm
  rw [e1] at e2
  injection e2 with e3
  injection e3 with _ e4 _
  exact hne e4
/-- Numbers seen, in a block of numbers. -/
def SeesV (w : World) (u : Value) (l : List Int) : Prop := SeesU w u l ∧ RowT w u.ownBlock 22
theorem SeesV.below {w w' : World} {u : Value} {l : List Int} (h : SeesV w u l) (hb : Below w.heap.size w w') : SeesV w' u l :=
  ⟨h.1.below hb (by decide), fun g hg => by obtain ⟨cs, fr, e⟩ := h.2 g hg; exact ⟨cs, fr, (hb.block g (lt_of_block e)).trans e⟩⟩
theorem SeesV.grown {w w' : World} {u : Value} {l : List Int} {row : Option Nat} {t : TypeId} (h : SeesV w u l) (hg : w.grownBy w' row) (hr : RowT w row t) (hne : 22 ≠ t) : SeesV w' u l := by
  have hn := h.2.ne hr hne
  refine ⟨h.1.grownBy hg (by decide) ?_, fun g hu => ?_⟩
  · cases hb : u.ownBlock with
    | none => exact .inl rfl
    | some g => exact .inr (hn g hb)
  · obtain ⟨cs, fr, e⟩ := h.2 g hu
    exact ⟨cs, fr, (hg.block g (lt_of_block e) (hn g hu)).trans e⟩
/-- What Make hands back. -/
def RetM (s : Sec) (d : List Int) (w : World) (e : Ending) (w' : World) : Prop := ∃ v, e = .returned (.tuple #[SecV s, v]) ∧ SeesV w' v d ∧ Below w.heap.size w w'

set_option maxRecDepth 100000 in
set_option maxHeartbeats 2000000 in
theorem Maker_any (seed : List UInt8) (r c p : Int) (w : World) (h32 : seed.length = 32) (hr : inI r) (hc : inI c) (hp : inI p) :
    Calls Tryz.prog 39 #[.agg (keyA seed), .int .i64 r, .int .i64 c, .int .i64 p] w (RetM (makeS seed r c p) (makeD seed r c p) w) := by
  have HK := Lib.hid h32; clear h32
  have hnl := length_namesL keysS [r, c, p] (by intro n hn; simp at hn; rcases hn with rfl | rfl | rfl <;> assumption)
  have HIN := Lib.hid (show ∀ n ∈ [r, c, p], inI n by intro n hn; simp at hn; rcases hn with rfl | rfl | rfl <;> assumption)
  have hk0 := Lib.hid ((Blk.new w (keyA seed) 24).alloc (.cells #[.int .u64 0, .int .u64 0, .int .u64 0] 86))
  have hs0 := Lib.hid (Blk.new2 w (.cells (keyA seed) 24) #[.int .u64 0, .int .u64 0, .int .u64 0] 86)
  have hb0 := Lib.hid (show Below w.heap.size w ((w.alloc (.cells (keyA seed) 24)).alloc (.cells #[.int .u64 0, .int .u64 0, .int .u64 0] 86)) by go_grown)
  go_enter Tryz.func39, Tryz.ntmps39
  go_wp2_with fail
  have HNM := Lib.hid hnl; clear hnl
  obtain ⟨nm, hnm⟩ : ∃ nm, namesL keysS [r, c, p] = nm := ⟨_, rfl⟩
  have HN := Lib.hid hnm
  rw [hnm] at HNM
  clear hnm
  have hstab := (Stab.and (Stab.blk w.heap.size (keyA seed) 24) (Stab.blk (w.heap.size + 1) #[.int .u64 0, .int .u64 0, .int .u64 0] 86))
  have hk : HoldT (fun u => Blk u w.heap.size (keyA seed) 24 ∧ Blk u (w.heap.size + 1) #[.int .u64 0, .int .u64 0, .int .u64 0] 86) w _ := HoldT.drew hstab ⟨⟨hk0.out, hs0.out⟩, hb0.out⟩
  have hlit := Lib.hid (show SeesI _ (.slice (some ⟨w.heap.size + 1 + 1, 0, none⟩) 3 3) [r, c, p] from sees_block (Blk.drew (Blk.new3 w (.cells (keyA seed) 24) (.cells #[.int .u64 0, .int .u64 0, .int .u64 0] 86) #[IV r, IV c, IV p] 3)) 1 3 rfl (by decide))
  try change Code.wp _ _ _ (Act.mk _ _) _
  haveI hne_ : Nonempty (InC (fun u => Blk u w.heap.size (keyA seed) 24 ∧ Blk u (w.heap.size + 1) #[.int .u64 0, .int .u64 0, .int .u64 0] 86)) := ⟨⟨_, (hk).1⟩⟩
  refine wp_region_tr (C := fun w_ => ∃ e_ : InC (fun u => Blk u w.heap.size (keyA seed) 24 ∧ Blk u (w.heap.size + 1) #[.int .u64 0, .int .u64 0, .int .u64 0] 86), w_ = e_.u) (.step [0, 1, 2, 3] (.alt 4 (.step [] (.alt 5 (.step [] (.alt 6 (.fin [7]) .nil)) .nil)) .nil)) (by kernel_rfl) (by kernel_rfl) (fun _ _ _ _ hd_ h_ => ⟨hd_.symm.trans h_.1, h_.2⟩) ⟨⟨World.drew _, (hk).1⟩, rfl⟩ ?_
  have hk_ := hk
  repeat' (first
    | ((with_reducible refine wpTr_fin ?_)
       simp only [pickOps, List.flatMap_cons, List.flatMap_nil, List.drop_succ_cons, List.drop_zero, List.take_succ_cons, List.take_zero, List.cons_append, List.nil_append, List.append_nil]
       repeat (first | ((refine wpQuiet_load_row rfl 24 _ rfl w.heap.size rfl _ (keyA seed) (0, 0) _ (fun w_ hw_ => by obtain ⟨e_, rfl⟩ := hw_; exact e_.has.1) under_key rfl (by rw [keyA_size, HK.out]; exact info_key) ?_; simp only [Act.put, List.setIfInBounds_toArray, List.set_cons_succ, List.set_cons_zero])) | go_big_quiet_step (exact rfl))
       refine wpQuiet_nil ?_)
    | ((with_reducible refine wpTr_step ?_); simp only [pickOps, List.flatMap_cons, List.flatMap_nil, List.drop_succ_cons, List.drop_zero, List.take_succ_cons, List.take_zero, List.cons_append, List.nil_append, List.append_nil]; repeat (first | ((refine wpQuiet_load_row rfl 24 _ rfl w.heap.size rfl _ (keyA seed) (0, 0) _ (fun w_ hw_ => by obtain ⟨e_, rfl⟩ := hw_; exact e_.has.1) under_key rfl (by rw [keyA_size, HK.out]; exact info_key) ?_; simp only [Act.put, List.setIfInBounds_toArray, List.set_cons_succ, List.set_cons_zero])) | go_big_quiet_step (exact rfl))
       refine wpQuiet_nil ?_)
    | (with_reducible refine wpTr_one ?_)
    | (with_reducible refine wpTr_alt ?_ ?_)
    | (simp only [pickOps, List.flatMap_cons, List.flatMap_nil, List.drop_succ_cons, List.drop_zero, List.take_succ_cons, List.take_zero, List.cons_append, List.nil_append, List.append_nil]
       go_wp2_with (first
    | (go_at_call 65; refine (names_any keysS [r, c, p] _ _ hlit.out HIN.out (by decide) (by show 3 ≤ 100; decide)).mono ?_; rintro e y1 ⟨rfl, rfl⟩; rw [HN.out])
    | (go_at_call 64; refine (NewStreamr_any seed nm _ HK.out).mono ?_; rintro e y2 ⟨g, rfl, hst, hgl, hb2⟩; have hlg : w.heap.size + 1 < g := Nat.lt_of_lt_of_le (Blk.lt hk_.has.2) hgl; have hk2 := HoldT.step hstab hk_ hb2))
       refine phPost_hold (by first | with_reducible assumption | exact HoldT.alloc hstab (by with_reducible assumption) _ | exact HoldT.alloc hstab (HoldT.alloc hstab (by with_reducible assumption) _) _) ?_
       intro hk_))
  go_wp2_with fail
  have hst0 := Lib.hid (show MakeRel w seed r c p g (.slice none 0 0) (.int .i64 0) y2 from ⟨0, by omega, rfl, ownU_nil _ _, by rw [HN.out]; exact hst, hk_.has.2, hk_.up⟩)
  clear hst hk2
  go_loopw [11, 12] (fun l i wr => MakeRel w seed r c p g l i wr) (fun _ i _ => 6 - (intOf i).toNat)
  case atStart => exact hst0.out
  case round =>
    clear hst0
    obtain ⟨n, hn, rfl, hown, hst, hsec, hbel⟩ := hrel
    rw [HN.out] at hst
    have hlen := length_makeL seed r c p n
    obtain ⟨a1, c1, rfl, hc1, hc1'⟩ := owns_form hown
    by_cases hlt : n < 6
    · have hmod : wordN seed nm n % 2305843009213693950 = keysW seed r c p n := by unfold keysW; rw [HN.out]
      obtain ⟨z0, z1⟩ := wordN_in seed nm n
      obtain ⟨q0, q1⟩ := keysW_pos seed r c p n
      have HSC := makeL_succ seed r c p n
      have hW := Lib.hid (Wordr_any g seed nm n wr hst HK.out (Nat.le_trans HNM.out (by show 4 + 21 * 3 ≤ 10000; decide)) (by omega) (by omega))
      obtain ⟨kw, hkw⟩ : ∃ k, keysW seed r c p n = k := ⟨_, rfl⟩
      rw [hkw] at hmod q0 q1 HSC
      clear hkw
      have HMOD := Lib.hid hmod
      clear hmod
      generalize wordN seed nm n = wd at *
      generalize makeL seed r c p n = ml at *
      have HLN := Lib.hid hlen; clear hlen
      have hne1 := own_ne hown hst (by decide)
      have HOWN := Lib.hid hown
      clear hown
      go_wp2_with (first
        | (go_at_call 66; refine hW.out.mono ?_; rintro e x1 ⟨rfl, hst1, hg1⟩
           have hown1 := HOWN.out.kept hg1 (Or.inr hne1)
           have hsec1 := hsec.grownBy hg1 (some_ne (by omega))
           have hbel1 := hbel.grown hg1 hbel.size (fun k hk => by cases hk; omega)
           clear hg1)
        | (at_builtin; refine appU (W := w) rfl _ _ rfl _ ml rfl (hown1.alloc _) _ [wd % 2305843009213693950] rfl (seesU_lit1 _ (wd % 2305843009213693950) _) (by rw [HLN.out]; simp only [List.length_cons, List.length_nil]; omega) (hbel1.alloc hbel1.size _) ?_; intro v2 w2 hown2 hg2 hb2
           have hst2 := (hst1.alloc (.cells #[.int .u64 (wd % 2305843009213693950)] 22)).grownBy hg2 (fun e => own_ne hown1 hst1 (by decide) e.symm)
           have hsec2 := (hsec1.alloc (.cells #[.int .u64 (wd % 2305843009213693950)] 22)).grownBy hg2 (fun e => own_ne hown1 hsec1 (by decide) e.symm)
           rw [HMOD.out] at hown2
           clear hg2))
      go_roundw
      case rel => exact ⟨n + 1, by omega, by go_num, by rw [HSC]; exact hown2, by rw [HN.out, show ((n + 1 : Nat) : Int) = (n : Int) + 1 from by omega]; exact hst2, hsec2, hb2⟩
      case measure => simp [intOf]; omega
    · obtain rfl : n = 6 := by omega
      have h6 := makeL_six seed r c p
      rw [h6] at hown
      clear hlt hlen hn hst
      obtain ⟨s1, s2⟩ : makeS seed r c p = ⟨keysW seed r c p 0, keysW seed r c p 1, keysW seed r c p 2⟩ ∧ makeD seed r c p = [keysW seed r c p 3, keysW seed r c p 4, keysW seed r c p 5] := ⟨rfl, rfl⟩
      rw [h6]
      clear h6
      generalize keysW seed r c p 0 = k0 at *
      generalize keysW seed r c p 1 = k1 at *
      generalize keysW seed r c p 2 = k2 at *
      generalize keysW seed r c p 3 = k3 at *
      generalize keysW seed r c p 4 = k4 at *
      generalize keysW seed r c p 5 = k5 at *
      have HS1 := Lib.hid s1
      have HS2 := Lib.hid s2
      clear s1 s2
      have hGne := own_ne hown hsec (by decide)
      obtain ⟨G, cur, rfl, hGB, h6c, hcm, hG, c0, c1', c2, c3, c4, c5⟩ := own_six hown
      have hGn : G ≠ w.heap.size + 1 := fun e => hGne (by rw [e]; rfl)
      have hstab := Stab.blk G cur 22
      have hkz : HoldT (fun u => Blk u G cur 22) w wr.drew := HoldT.drew hstab ⟨hG, hbel⟩
      have hsec0 := hsec.drew
      have hS0 : ∀ e : InC (fun u => Blk u G cur 22), e.u.cell? ⟨G, 0, none⟩ = some (.int .u64 k0) := fun e => by rw [e.has.cell]; exact c0
      have hS1 : ∀ e : InC (fun u => Blk u G cur 22), e.u.cell? ⟨G, 1, none⟩ = some (.int .u64 k1) := fun e => by rw [e.has.cell]; exact c1'
      have hS2 : ∀ e : InC (fun u => Blk u G cur 22), e.u.cell? ⟨G, 2, none⟩ = some (.int .u64 k2) := fun e => by rw [e.has.cell]; exact c2
      have hsl := fun W => run_sliceU_from (some ⟨G, 0, none⟩) 6 c1 3 (by decide) W
      clear hlit hk hown hsec
      go_wp2_with fail
      try change Code.wp _ _ _ (Act.mk _ _) _
      haveI hne_ : Nonempty (InC (fun u => Blk u G cur 22)) := ⟨⟨_, (hkz).1⟩⟩
      refine wp_region_tr (C := fun w_ => ∃ e_ : InC (fun u => Blk u G cur 22), w_ = e_.u) (.step [0, 1, 2, 3, 4, 5, 6, 7, 8, 10, 11] (.alt 9 (.step [] (.alt 12 (.fin [13]) .nil)) .nil)) (by kernel_rfl) (by kernel_rfl) (fun _ _ _ _ hd_ h_ => ⟨hd_.symm.trans h_.1, h_.2⟩) ⟨⟨World.drew _, (hkz).1⟩, rfl⟩ ?_
      have hk_ := hkz
      repeat' (first
        | ((with_reducible refine wpTr_fin ?_)
           simp only [pickOps, List.flatMap_cons, List.flatMap_nil, List.drop_succ_cons, List.drop_zero, List.take_succ_cons, List.take_zero, List.cons_append, List.nil_append, List.append_nil]
           repeat (go_big_quiet_step (exact rfl))
           refine wpQuiet_nil ?_)
        | ((with_reducible refine wpTr_step ?_); simp only [pickOps, List.flatMap_cons, List.flatMap_nil, List.drop_succ_cons, List.drop_zero, List.take_succ_cons, List.take_zero, List.cons_append, List.nil_append, List.append_nil]; repeat (go_big_quiet_step (exact rfl))
           refine wpQuiet_nil ?_)
        | (with_reducible refine wpTr_one ?_)
        | (with_reducible refine wpTr_alt ?_ ?_)
        | (simp only [pickOps, List.flatMap_cons, List.flatMap_nil, List.drop_succ_cons, List.drop_zero, List.take_succ_cons, List.take_zero, List.cons_append, List.nil_append, List.append_nil]
           go_wp2_with (first
      | (refine wpList_store_row rfl 86 _ _ rfl (w.heap.size + 1) #[.int .u64 k0, .int .u64 k1, .int .u64 k2] _ _ rfl rfl hsec0 rfl info_sec (by intro v hv; simp at hv; rcases hv with rfl | rfl | rfl <;> rfl) ?_; intro x7 hg7 hs7 hR7
         have hG7 := hk_.has.grownBy hg7 (some_ne hGn)
         have hup7 := hk_.up.grown hg7 hk_.up.size (fun k hk => by cases hk; omega)
         have hk7 : HoldT (fun u => Blk u G cur 22) w x7 := ⟨hG7, hup7⟩))
           refine phPost_hold (by first | with_reducible assumption | exact HoldT.alloc hstab (by with_reducible assumption) _ | exact HoldT.alloc hstab (HoldT.alloc hstab (by with_reducible assumption) _) _) ?_
           intro hk_))
      go_wp2_with fail
      have h3 : cur.size ≥ 6 := by rcases Nat.lt_or_ge 5 cur.size with h | h; exact h; rw [Array.getElem?_eq_none h] at c5; cases c5
      have hend : SeesU x7 (.slice (some ⟨G, 3, none⟩) 3 (c1 - 3)) [k3, k4, k5] := ⟨rfl, some ⟨G, 3, none⟩, c1 - 3, rfl, by simp; omega, by unfold maxLen; omega, fun h => (by cases h), fun _ => ⟨G, 3, rfl, fun j u hj => by
        rw [hk_.has.cell]
        match j, hj with
        | 0, hj => rw [c3]; exact hj
        | 1, hj => rw [c4]; exact hj
        | 2, hj => rw [c5]; exact hj⟩⟩
      go_wp2_with fail
      refine bodyPost_ret (results_row_tmp Tryz.results39 _ _ (w.heap.size + 1) _ _ _ _ rfl rfl hR7 Tryz.underlying86 rfl info_sec) rfl ?_
      rw [HS1.out, HS2.out]
      exact ⟨.slice (some ⟨G, 3, none⟩) 3 (c1 - 3), rfl, ⟨hend, fun g' hg' => by cases hg'; exact ⟨_, _, hk_.has⟩⟩, hk_.up⟩
end Go.Proofs.YtbgnfioggmkdeaaGreatDoor
namespace Go.Proofs.YtbgnfioggmkdeaaGreatDoor
set_option linter.unusedVariables false
set_option linter.unusedSimpArgs false
open Go Go.RowKit

/-- A store into the middle of a block. -/
theorem wpList_store_in {P : Program} {ops : Array Oper} {rest : List Oper} {op : Oper} {a : Act} {w : World} {Q : Exit → Act → World → Prop} (hgd : op.guard = none) (ty : TypeId) (x y : Operand) (ho : op.op = .store ty x y)
    (g o : Nat) (cs cur new : Array Value) (t : TypeId) (hx : a.eval x = .pointer (some ⟨g, o, none⟩)) (hy : a.eval y = .agg cs)
    (hb : Blk w g cur t) (hs : o + cs.size ≤ cur.size) (hi : (P.info? ty).map (·.size) = some cs.size) (h1 : ∀ v ∈ cs.toList, v.oneCell' = true)
    (hn : (cur.toList.take o ++ cs.toList ++ cur.toList.drop (o + cs.size)).toArray = new)
    (h : ∀ w', w.grownBy w' (some g) → w'.heap.size = w.heap.size → Blk w' g new t → wpList P ops Q rest (a.put op.dst undef) w') : wpList P ops Q (op :: rest) a w := by
  refine wpList_store_mid hgd ty x y ho g o cs hx hy (fun j hj => ?_) hi (by simpa using all_oneCell_toArray h1) (h _ ?_ (setCells_size _ _ _ _) ?_)
  · rw [hb.cell, hb.free]; simp; omega
  · obtain ⟨e1, e2, e3⟩ := setCells_rest g cs.toList o w
    exact ⟨e1, e2, e3, by rw [setCells_size]; exact Nat.le_refl _, fun k _ hk => setCells_other g _ _ _ k (fun e => hk (by rw [e]))⟩
  · have := setCells_blk g t cs.toList o w cur hb (by simpa using hs)
    rw [Array.length_toList, hn] at this; exact this

theorem draw_any (v : Value) (l : List Int) (i : Int) (w : World) (hv : SeesU w v l) (hi : 0 ≤ i ∧ i ≤ 100) :
    Calls Tryz.prog 104 #[v, .int .i64 i] w fun e w' => e = .returned (.int .u64 (l.getD i.toNat 0)) ∧ w' = w := by
  obtain ⟨i0, i1⟩ := hi
  obtain ⟨hl, a, c, rfl, hc, hm, hnc, hb⟩ := hv
  have hm' : c ≤ 9223372036854775807 := by unfold maxLen at hm; omega
  by_cases hlt : i.toNat < l.length
  · obtain ⟨b, o, rfl, hcell⟩ := hb (by omega)
    have hx : l.getD i.toNat 0 = l[i.toNat] := by simp [List.getD_eq_getElem?_getD, List.getElem?_eq_getElem hlt]
    rw [hx]
    have h0 := hcell i.toNat (.int .u64 l[i.toNat]) (by rw [List.getElem?_map, List.getElem?_eq_getElem hlt]; rfl)
    have hd : i < (l.length : Int) := by omega
    go_enter Tryz.func104, Tryz.ntmps104
    go_wp2_with fail
    go_ret
    exact ⟨rfl, rfl⟩
  · have hx : l.getD i.toNat 0 = 0 := by simp [List.getD_eq_getElem?_getD, List.getElem?_eq_none (Nat.le_of_not_lt hlt)]
    rw [hx]
    have hd : ¬ i < (l.length : Int) := by omega
    go_enter Tryz.func104, Tryz.ntmps104
    go_wp2_with fail
    go_ret
    exact ⟨rfl, rfl⟩

def tellP (g : Int) (s : Sec) (ds : List Int) : Pub := ⟨g, timesP g s.blind, timesP g s.mix, timesP 37 s.inner,
  knowC g (timesP g s.blind) (ds.getD 0 0), ansP (knowC g (timesP g s.blind) (ds.getD 0 0)) s.blind (ds.getD 0 0),
  knowC g (timesP g s.mix) (ds.getD 1 0), ansP (knowC g (timesP g s.mix) (ds.getD 1 0)) s.mix (ds.getD 1 0),
  knowC 37 (timesP 37 s.inner) (ds.getD 2 0), ansP (knowC 37 (timesP 37 s.inner) (ds.getD 2 0)) s.inner (ds.getD 2 0)⟩
theorem tellP_ok (g : Int) (s : Sec) (ds : List Int) (hg : in64 g) : (tellP g s ds).ok := by
  have c (x : ByteArray) (l : List Int) : in64 (chal x l) := ⟨(chal_pos x l).1, by have := (chal_pos x l).2; omega⟩
  have d (x y z : Int) : in64 (ansP x y z) := ⟨(ansP_pos x y z).1, by have := (ansP_pos x y z).2; omega⟩
  have t (x y : Int) : in64 (timesP x y) := ⟨(timesP_pos x y).1, by have := (timesP_pos x y).2; omega⟩
  refine ⟨hg, t g s.blind, t g s.mix, t 37 s.inner, ?_, ?_, ?_, ?_, ?_, ?_⟩ <;> first | exact c _ _ | exact d _ _ _
theorem info_pub : (Tryz.prog.info? 133).map (·.size) = some 10 := by kernel_rfl
abbrev PubC (a b c d e f g h i j : Int) : Array Value := #[.int .u64 a, .int .u64 b, .int .u64 c, .int .u64 d, .int .u64 e, .int .u64 f, .int .u64 g, .int .u64 h, .int .u64 i, .int .u64 j]
abbrev SecC (x y z : Int) : Array Value := #[.int .u64 x, .int .u64 y, .int .u64 z]
theorem run_allocPub (w : World) : (Instr.alloc 133 true (.tuple #[])).run Tryz.prog w = .ok (.pointer (some ⟨w.heap.size, 0, none⟩)) (w.alloc (.cells (PubC 0 0 0 0 0 0 0 0 0 0) 133)) := by simp [go_sem]
abbrev TellC (A B : Nat) (x y z b m n : Int) (u : World) : Prop := Blk u A (SecC x y z) 86 ∧ Blk u (A + 1) (PubC 0 0 0 0 0 0 0 0 0 0) 133 ∧ u.cell? ⟨B, 1, none⟩ = some (.int .u64 b) ∧ u.cell? ⟨B, 2, none⟩ = some (.int .u64 m) ∧ u.cell? ⟨B, 3, none⟩ = some (.int .u64 n)
theorem stabTell (A B : Nat) (x y z b m n : Int) : Stab (TellC A B x y z b m n) := Stab.and (Stab.blk _ _ _) (Stab.and (Stab.blk _ _ _) (Stab.and (Stab.cell _ _) (Stab.and (Stab.cell _ _) (Stab.cell _ _))))
theorem tell_cells {u : World} {B : Nat} {p b m n c1 s1 c2 s2 c3 s3 : Int} (h : Blk u B (PubC p b m n c1 s1 c2 s2 c3 s3) 133) :
    u.cell? ⟨B, 1, none⟩ = some (.int .u64 b) ∧ u.cell? ⟨B, 2, none⟩ = some (.int .u64 m) ∧ u.cell? ⟨B, 3, none⟩ = some (.int .u64 n) := ⟨by rw [h.cell]; rfl, by rw [h.cell]; rfl, by rw [h.cell]; rfl⟩
theorem tell_step {w u v : World} {A B : Nat} {x y z p b m n c1 s1 c2 s2 c3 s3 : Int} (hk : HoldT (TellC A B x y z b m n) w u) (hg : u.grownBy v (some B)) (hA : A + 1 < B) (hw : w.heap.size ≤ A)
    (hR : Blk v B (PubC p b m n c1 s1 c2 s2 c3 s3) 133) : HoldT (TellC A B x y z b m n) w v :=
  ⟨⟨hk.has.1.grownBy hg (some_ne (by omega)), hk.has.2.1.grownBy hg (some_ne (by omega)), tell_cells hR⟩, hk.up.grown hg hk.up.size (fun k hk' => by cases hk'; omega)⟩

set_option maxRecDepth 100000 in
set_option maxHeartbeats 4000000 in
theorem Tellr_any (P : Int) (s : Sec) (ds : List Int) (vd : Value) (w : World) (hP : in64 P) (hs : s.ok) (hds : SeesU w vd ds) (hd : ∀ x ∈ ds, in64 x) :
    Calls Tryz.prog 67 #[.int .u64 P, SecV s, vd] w fun e w' => e = .returned (.agg (tellP P s ds).cells.toArray) ∧ Below w.heap.size w w' := by
  obtain ⟨sb, sm, si⟩ := s
  obtain ⟨b0, m0, i0⟩ := hs
  simp only at b0 m0 i0
  have hdg : ∀ i, in64 (ds.getD i 0) := by
    intro i
    rw [List.getD_eq_getElem?_getD]
    by_cases h : i < ds.length
    · rw [List.getElem?_eq_getElem h]; exact hd _ (List.getElem_mem h)
    · rw [List.getElem?_eq_none (Nat.le_of_not_lt h)]; exact ⟨by decide, by decide⟩
  obtain ⟨p, hp⟩ : ∃ p, tellP P ⟨sb, sm, si⟩ ds = p := ⟨_, rfl⟩
  have hpo := tellP_ok P ⟨sb, sm, si⟩ ds hP
  rw [hp] at hpo
  have q1 : timesP P sb = p.blind := by rw [← hp]; rfl
  have q2 : timesP P sm = p.mix := by rw [← hp]; rfl
  have q3 : timesP 37 si = p.inner := by rw [← hp]; rfl
  have q4 : PV (knowC P p.blind (ds.getD 0 0)) (ansP (knowC P p.blind (ds.getD 0 0)) sb (ds.getD 0 0)) = PV p.c1 p.s1 := by rw [← hp]; rfl
  have q5 : PV (knowC P p.mix (ds.getD 1 0)) (ansP (knowC P p.mix (ds.getD 1 0)) sm (ds.getD 1 0)) = PV p.c2 p.s2 := by rw [← hp]; rfl
  have q6 : PV (knowC 37 p.inner (ds.getD 2 0)) (ansP (knowC 37 p.inner (ds.getD 2 0)) si (ds.getD 2 0)) = PV p.c3 p.s3 := by rw [← hp]; rfl
  have qb : p.base = P := by rw [← hp]; rfl
  obtain ⟨pa, pb, pm, pn, c1, s1, c2, s2, c3, s3⟩ := p
  simp only at q1 q2 q3 q4 q5 q6 qb
  subst qb
  obtain ⟨-, ob, om, on, -, -, -, -, -, -⟩ := hpo
  simp only at ob om on
  have hd0 := hdg 0
  have hd1 := hdg 1
  have hd2 := hdg 2
  have e0 : ds.getD (0 : Int).toNat 0 = ds.getD 0 0 := rfl
  have e1 : ds.getD (1 : Int).toNat 0 = ds.getD 1 0 := rfl
  have e2 : ds.getD (2 : Int).toNat 0 = ds.getD 2 0 := rfl
  generalize ds.getD 0 0 = d0 at *
  generalize ds.getD 1 0 = d1 at *
  generalize ds.getD 2 0 = d2 at *
  have HP := Lib.hid hp; have H1 := Lib.hid q1; have H2 := Lib.hid q2; have H3 := Lib.hid q3; have H4 := Lib.hid q4; have H5 := Lib.hid q5; have H6 := Lib.hid q6
  have E0 := Lib.hid e0; have E1 := Lib.hid e1; have E2 := Lib.hid e2
  clear hp q1 q2 q3 q4 q5 q6 e0 e1 e2 hd hdg
  have hA := Blk.new w (SecC sb sm si) 86
  have hA1 := hA.alloc (.cells (PubC 0 0 0 0 0 0 0 0 0 0) 133)
  have hR1 := Blk.new2 w (.cells (SecC sb sm si) 86) (PubC 0 0 0 0 0 0 0 0 0 0) 133
  have hb0 : Below w.heap.size w ((w.alloc (.cells (SecC sb sm si) 86)).alloc (.cells (PubC 0 0 0 0 0 0 0 0 0 0) 133)) := by go_grown
  have hstab := Stab.and (Stab.blk w.heap.size (SecC sb sm si) 86) (Stab.blk (w.heap.size + 1) (PubC 0 0 0 0 0 0 0 0 0 0) 133)
  have hk : HoldT (fun u => Blk u w.heap.size (SecC sb sm si) 86 ∧ Blk u (w.heap.size + 1) (PubC 0 0 0 0 0 0 0 0 0 0) 133) w _ := HoldT.drew hstab ⟨⟨hA1, hR1⟩, hb0⟩
  have hL0 : ∀ e : InC (fun u => Blk u w.heap.size (SecC sb sm si) 86 ∧ Blk u (w.heap.size + 1) (PubC 0 0 0 0 0 0 0 0 0 0) 133), e.u.cell? ⟨w.heap.size, 0, none⟩ = some (.int .u64 sb) := fun e => by rw [e.has.1.cell]; rfl
  have hL1 : ∀ e : InC (fun u => Blk u w.heap.size (SecC sb sm si) 86 ∧ Blk u (w.heap.size + 1) (PubC 0 0 0 0 0 0 0 0 0 0) 133), e.u.cell? ⟨w.heap.size, 1, none⟩ = some (.int .u64 sm) := fun e => by rw [e.has.1.cell]; rfl
  have hL2 : ∀ e : InC (fun u => Blk u w.heap.size (SecC sb sm si) 86 ∧ Blk u (w.heap.size + 1) (PubC 0 0 0 0 0 0 0 0 0 0) 133), e.u.cell? ⟨w.heap.size, 2, none⟩ = some (.int .u64 si) := fun e => by rw [e.has.1.cell]; rfl
  clear hA hA1 hR1 hb0
  go_enter Tryz.func67, Tryz.ntmps67
  go_wp2_with fail
  try change Code.wp _ _ _ (Act.mk _ _) _
  haveI hne_ : Nonempty (InC (fun u => Blk u w.heap.size (SecC sb sm si) 86 ∧ Blk u (w.heap.size + 1) (PubC 0 0 0 0 0 0 0 0 0 0) 133)) := ⟨⟨_, (hk).1⟩⟩
  refine wp_region_tr (C := fun w_ => ∃ e_ : InC (fun u => Blk u w.heap.size (SecC sb sm si) 86 ∧ Blk u (w.heap.size + 1) (PubC 0 0 0 0 0 0 0 0 0 0) 133), w_ = e_.u) (.step [0, 1, 2, 3, 5, 6, 7, 9, 10] (.alt 4 (.step [] (.alt 8 (.step [] (.alt 11 (.step [] (.alt 12 (.step [] (.alt 13 (.step [] (.alt 14 (.fin []) .nil)) .nil)) (.alt 13 (.step [] (.alt 12 (.step [] (.alt 14 (.fin []) .nil)) .nil)) .nil))) (.alt 13 (.step [] (.alt 11 (.step [] (.alt 12 (.step [] (.alt 14 (.fin []) .nil)) .nil)) .nil)) .nil))) (.alt 13 (.step [] (.alt 8 (.step [] (.alt 11 (.step [] (.alt 12 (.step [] (.alt 14 (.fin []) .nil)) .nil)) .nil)) .nil)) .nil))) (.alt 13 (.step [] (.alt 4 (.step [] (.alt 8 (.step [] (.alt 11 (.step [] (.alt 12 (.step [] (.alt 14 (.fin []) .nil)) .nil)) .nil)) .nil)) .nil)) .nil))) (by kernel_rfl) (by kernel_rfl) (fun _ _ _ _ hd_ h_ => ⟨hd_.symm.trans h_.1, h_.2⟩) ⟨⟨World.drew _, (hk).1⟩, rfl⟩ ?_
  have hk_ := hk
  repeat' (first
    | ((with_reducible refine wpTr_fin ?_)
       simp only [pickOps, List.flatMap_cons, List.flatMap_nil, List.drop_succ_cons, List.drop_zero, List.take_succ_cons, List.take_zero, List.cons_append, List.nil_append, List.append_nil]
       repeat (go_big_quiet_step (exact rfl))
       refine wpQuiet_nil ?_)
    | ((with_reducible refine wpTr_step ?_); simp only [pickOps, List.flatMap_cons, List.flatMap_nil, List.drop_succ_cons, List.drop_zero, List.take_succ_cons, List.take_zero, List.cons_append, List.nil_append, List.append_nil]; repeat (go_big_quiet_step (exact rfl))
       refine wpQuiet_nil ?_)
    | (with_reducible refine wpTr_one ?_)
    | (with_reducible refine wpTr_alt ?_ ?_)
    | (simp only [pickOps, List.flatMap_cons, List.flatMap_nil, List.drop_succ_cons, List.drop_zero, List.take_succ_cons, List.take_zero, List.cons_append, List.nil_append, List.append_nil]
       go_wp2_with (first
    | (go_at_call 46; refine (Timesr_any _ _ _ hP.1 hP.2 (by first | exact b0.1 | exact m0.1) (by first | exact b0.2 | exact m0.2)).mono ?_; rintro e y1 ⟨rfl, rfl⟩; first | rw [H1.out] | rw [H2.out])
    | (go_at_call 19; refine (Baser_any _ _ i0.1 i0.2).mono ?_; rintro e y1 ⟨rfl, rfl⟩; rw [H3.out])
    | (refine wpList_allocB rfl _ rfl _ run_allocPub ?_; intro x4 B4 hh hB4 e4; have hlt4 : w.heap.size + 1 < B4 := Nat.lt_of_lt_of_le (Blk.lt hk_.has.2) hB4; have hk4 := HoldT.step hstab hk_ e4)
    | (refine wpList_store_row rfl 133 _ _ rfl B4 (PubC pa pb pm pn 0 0 0 0 0 0) _ _ rfl rfl (hh.below (show Ext x4 _ from (by first | with_reducible exact Ext.refl _ | solve_by_elim (maxDepth := 30) [Ext.tr]))) rfl info_pub (by intro v hv; simp at hv; rcases hv with rfl | rfl | rfl | rfl | rfl <;> rfl) ?_; intro x7 hg7 hs7 hR7
       have hA7 := hk_.has.1.grownBy hg7 (some_ne (by omega))
       have hB7 := hk_.has.2.grownBy hg7 (some_ne (by omega))
       have hup7 := hk_.up.grown hg7 hk_.up.size (fun k hk => by cases hk; omega)
       have hk7 : HoldT (fun u => Blk u w.heap.size (SecC sb sm si) 86 ∧ Blk u (w.heap.size + 1) (PubC 0 0 0 0 0 0 0 0 0 0) 133) w x7 := ⟨⟨hA7, hB7⟩, hup7⟩))
       refine phPost_hold (by first | with_reducible assumption | exact HoldT.alloc hstab (by with_reducible assumption) _ | exact HoldT.alloc hstab (HoldT.alloc hstab (by with_reducible assumption) _) _) ?_
       intro hk_))
  all_goals (
    have hkx : HoldT (TellC w.heap.size B4 sb sm si pb pm pn) w x7 := ⟨⟨hA7, hB7, tell_cells hR7⟩, hup7⟩
    have hstab := stabTell w.heap.size B4 sb sm si pb pm pn
    have hM0 : ∀ e : InC (TellC w.heap.size B4 sb sm si pb pm pn), e.u.cell? ⟨w.heap.size, 0, none⟩ = some (.int .u64 sb) := fun e => by rw [e.has.1.cell]; rfl
    have hM1 : ∀ e : InC (TellC w.heap.size B4 sb sm si pb pm pn), e.u.cell? ⟨w.heap.size, 1, none⟩ = some (.int .u64 sm) := fun e => by rw [e.has.1.cell]; rfl
    have hM2 : ∀ e : InC (TellC w.heap.size B4 sb sm si pb pm pn), e.u.cell? ⟨w.heap.size, 2, none⟩ = some (.int .u64 si) := fun e => by rw [e.has.1.cell]; rfl
    have hM3 : ∀ e : InC (TellC w.heap.size B4 sb sm si pb pm pn), e.u.cell? ⟨B4, 1, none⟩ = some (.int .u64 pb) := fun e => e.has.2.2.1
    have hM4 : ∀ e : InC (TellC w.heap.size B4 sb sm si pb pm pn), e.u.cell? ⟨B4, 2, none⟩ = some (.int .u64 pm) := fun e => e.has.2.2.2.1
    have hM5 : ∀ e : InC (TellC w.heap.size B4 sb sm si pb pm pn), e.u.cell? ⟨B4, 3, none⟩ = some (.int .u64 pn) := fun e => e.has.2.2.2.2
    have hkz : HoldT (TellC w.heap.size B4 sb sm si pb pm pn) w x7.drew := HoldT.drew hstab hkx
    have hRd := hR7.drew
    go_wp2_with fail
    try change Code.wp _ _ _ (Act.mk _ _) _
    haveI hne_ : Nonempty (InC (TellC w.heap.size B4 sb sm si pb pm pn)) := ⟨⟨_, (hkz).1⟩⟩
    refine wp_region_tr (C := fun w_ => ∃ e_ : InC (TellC w.heap.size B4 sb sm si pb pm pn), w_ = e_.u) (.step [0, 1, 2, 3, 4, 5] (.alt 6 (.step [] (.alt 7 (.step [8] (.alt 9 (.fin []) .nil)) .nil)) .nil)) (by kernel_rfl) (by kernel_rfl) (fun _ _ _ _ hd_ h_ => ⟨hd_.symm.trans h_.1, h_.2⟩) ⟨⟨World.drew _, (hkz).1⟩, rfl⟩ ?_
    have hk_ := hkz
    repeat' (first
      | ((with_reducible refine wpTr_fin ?_)
         simp only [pickOps, List.flatMap_cons, List.flatMap_nil, List.drop_succ_cons, List.drop_zero, List.take_succ_cons, List.take_zero, List.cons_append, List.nil_append, List.append_nil]
         repeat (go_big_quiet_step (exact rfl))
         refine wpQuiet_nil ?_)
      | ((with_reducible refine wpTr_step ?_); simp only [pickOps, List.flatMap_cons, List.flatMap_nil, List.drop_succ_cons, List.drop_zero, List.take_succ_cons, List.take_zero, List.cons_append, List.nil_append, List.append_nil]; repeat (go_big_quiet_step (exact rfl))
         refine wpQuiet_nil ?_)
      | (with_reducible refine wpTr_one ?_)
      | (with_reducible refine wpTr_alt ?_ ?_)
      | (simp only [pickOps, List.flatMap_cons, List.flatMap_nil, List.drop_succ_cons, List.drop_zero, List.take_succ_cons, List.take_zero, List.cons_append, List.nil_append, List.append_nil]
         go_wp2_with (first
      | (go_at_call 104; refine (draw_any vd ds 0 _ (hds.below hk_.up (by decide)) (by decide)).mono ?_; rintro e y ⟨rfl, rfl⟩; rw [E0.out])
      | (go_at_call 103; refine (Knowr_any _ _ _ _ _ hP ob b0 hd0).mono ?_; rintro e y2 ⟨rfl, hb2⟩; rw [H4.out]; have e2 : Ext x7.drew y2 := hb2; have hk2 := HoldT.step hstab hk_ hb2)
      | (refine wpList_store_in rfl 48 _ _ rfl B4 4 #[.int .u64 c1, .int .u64 s1] (PubC pa pb pm pn 0 0 0 0 0 0) (PubC pa pb pm pn c1 s1 0 0 0 0) _ rfl rfl (hRd.below (show Ext x7.drew _ from (by first | with_reducible exact Ext.refl _ | solve_by_elim (maxDepth := 30) [Ext.tr]))) (by show 4 + 2 ≤ 10; decide) info_proof (pv_one _ _) rfl ?_; intro z2 hg2 hs2 hR2
         have hk2b := tell_step hk_ hg2 hlt4 (Nat.le_refl _) hR2))
         refine phPost_hold (by first | with_reducible assumption | exact HoldT.alloc hstab (by with_reducible assumption) _ | exact HoldT.alloc hstab (HoldT.alloc hstab (by with_reducible assumption) _) _) ?_
         intro hk_))
    have hkz : HoldT (TellC w.heap.size B4 sb sm si pb pm pn) w z2.drew := HoldT.drew hstab hk2b
    have hRd := hR2.drew
    go_wp2_with fail
    try change Code.wp _ _ _ (Act.mk _ _) _
    haveI hne_ : Nonempty (InC (TellC w.heap.size B4 sb sm si pb pm pn)) := ⟨⟨_, (hkz).1⟩⟩
    refine wp_region_tr (C := fun w_ => ∃ e_ : InC (TellC w.heap.size B4 sb sm si pb pm pn), w_ = e_.u) (.step [0, 1, 2, 3, 4, 5] (.alt 6 (.step [] (.alt 7 (.step [8] (.alt 9 (.fin []) .nil)) .nil)) .nil)) (by kernel_rfl) (by kernel_rfl) (fun _ _ _ _ hd_ h_ => ⟨hd_.symm.trans h_.1, h_.2⟩) ⟨⟨World.drew _, (hkz).1⟩, rfl⟩ ?_
    have hk_ := hkz
    repeat' (first
      | ((with_reducible refine wpTr_fin ?_)
         simp only [pickOps, List.flatMap_cons, List.flatMap_nil, List.drop_succ_cons, List.drop_zero, List.take_succ_cons, List.take_zero, List.cons_append, List.nil_append, List.append_nil]
         repeat (go_big_quiet_step (exact rfl))
         refine wpQuiet_nil ?_)
      | ((with_reducible refine wpTr_step ?_); simp only [pickOps, List.flatMap_cons, List.flatMap_nil, List.drop_succ_cons, List.drop_zero, List.take_succ_cons, List.take_zero, List.cons_append, List.nil_append, List.append_nil]; repeat (go_big_quiet_step (exact rfl))
         refine wpQuiet_nil ?_)
      | (with_reducible refine wpTr_one ?_)
      | (with_reducible refine wpTr_alt ?_ ?_)
      | (simp only [pickOps, List.flatMap_cons, List.flatMap_nil, List.drop_succ_cons, List.drop_zero, List.take_succ_cons, List.take_zero, List.cons_append, List.nil_append, List.append_nil]
         go_wp2_with (first
      | (go_at_call 104; refine (draw_any vd ds 1 _ (hds.below hk_.up (by decide)) (by decide)).mono ?_; rintro e y ⟨rfl, rfl⟩; rw [E1.out])
      | (go_at_call 103; refine (Knowr_any _ _ _ _ _ hP om m0 hd1).mono ?_; rintro e y3 ⟨rfl, hb3⟩; rw [H5.out]; have e3 : Ext z2.drew y3 := hb3; have hk3 := HoldT.step hstab hk_ hb3)
      | (refine wpList_store_in rfl 48 _ _ rfl B4 6 #[.int .u64 c2, .int .u64 s2] (PubC pa pb pm pn c1 s1 0 0 0 0) (PubC pa pb pm pn c1 s1 c2 s2 0 0) _ rfl rfl (hRd.below (show Ext z2.drew _ from (by first | with_reducible exact Ext.refl _ | solve_by_elim (maxDepth := 30) [Ext.tr]))) (by show 6 + 2 ≤ 10; decide) info_proof (pv_one _ _) rfl ?_; intro z3 hg3 hs3 hR3
         have hk3b := tell_step hk_ hg3 hlt4 (Nat.le_refl _) hR3))
         refine phPost_hold (by first | with_reducible assumption | exact HoldT.alloc hstab (by with_reducible assumption) _ | exact HoldT.alloc hstab (HoldT.alloc hstab (by with_reducible assumption) _) _) ?_
         intro hk_))
    have hkz : HoldT (TellC w.heap.size B4 sb sm si pb pm pn) w z3.drew := HoldT.drew hstab hk3b
    have hRd := hR3.drew
    go_wp2_with fail
    try change Code.wp _ _ _ (Act.mk _ _) _
    haveI hne_ : Nonempty (InC (TellC w.heap.size B4 sb sm si pb pm pn)) := ⟨⟨_, (hkz).1⟩⟩
    refine wp_region_tr (C := fun w_ => ∃ e_ : InC (TellC w.heap.size B4 sb sm si pb pm pn), w_ = e_.u) (.step [0, 1, 2, 3, 4] (.alt 5 (.step [] (.alt 6 (.step [7] (.alt 8 (.fin []) .nil)) .nil)) .nil)) (by kernel_rfl) (by kernel_rfl) (fun _ _ _ _ hd_ h_ => ⟨hd_.symm.trans h_.1, h_.2⟩) ⟨⟨World.drew _, (hkz).1⟩, rfl⟩ ?_
    have hk_ := hkz
    repeat' (first
      | ((with_reducible refine wpTr_fin ?_)
         simp only [pickOps, List.flatMap_cons, List.flatMap_nil, List.drop_succ_cons, List.drop_zero, List.take_succ_cons, List.take_zero, List.cons_append, List.nil_append, List.append_nil]
         repeat (go_big_quiet_step (exact rfl))
         refine wpQuiet_nil ?_)
      | ((with_reducible refine wpTr_step ?_); simp only [pickOps, List.flatMap_cons, List.flatMap_nil, List.drop_succ_cons, List.drop_zero, List.take_succ_cons, List.take_zero, List.cons_append, List.nil_append, List.append_nil]; repeat (go_big_quiet_step (exact rfl))
         refine wpQuiet_nil ?_)
      | (with_reducible refine wpTr_one ?_)
      | (with_reducible refine wpTr_alt ?_ ?_)
      | (simp only [pickOps, List.flatMap_cons, List.flatMap_nil, List.drop_succ_cons, List.drop_zero, List.take_succ_cons, List.take_zero, List.cons_append, List.nil_append, List.append_nil]
         go_wp2_with (first
      | (go_at_call 104; refine (draw_any vd ds 2 _ (hds.below hk_.up (by decide)) (by decide)).mono ?_; rintro e y ⟨rfl, rfl⟩; rw [E2.out])
      | (go_at_call 103; refine (Knowr_any _ _ _ _ _ ⟨by decide, by decide⟩ on i0 hd2).mono ?_; rintro e y4 ⟨rfl, hb4⟩; rw [H6.out]; have e4 : Ext z3.drew y4 := hb4; have hk4 := HoldT.step hstab hk_ hb4)
      | (refine wpList_store_in rfl 48 _ _ rfl B4 8 #[.int .u64 c3, .int .u64 s3] (PubC pa pb pm pn c1 s1 c2 s2 0 0) (PubC pa pb pm pn c1 s1 c2 s2 c3 s3) _ rfl rfl (hRd.below (show Ext z3.drew _ from (by first | with_reducible exact Ext.refl _ | solve_by_elim (maxDepth := 30) [Ext.tr]))) (by show 8 + 2 ≤ 10; decide) info_proof (pv_one _ _) rfl ?_; intro z4 hg4 hs4 hR4
         have hk4b := tell_step hk_ hg4 hlt4 (Nat.le_refl _) hR4))
         refine phPost_hold (by first | with_reducible assumption | exact HoldT.alloc hstab (by with_reducible assumption) _ | exact HoldT.alloc hstab (HoldT.alloc hstab (by with_reducible assumption) _) _) ?_
         intro hk_))
    have hZ := hk4b.has.2.1
    have hone : ∀ v ∈ (PubC pa pb pm pn c1 s1 c2 s2 c3 s3).toList, v.oneCell' = true := by intro v hv; simp at hv; rcases hv with rfl | rfl | rfl | rfl | rfl | rfl | rfl | rfl | rfl | rfl <;> rfl
    go_wp2_with (first
      | (refine wpList_load_row rfl 133 _ rfl B4 rfl _ (PubC pa pb pm pn c1 s1 c2 s2 c3 s3) (0, 0) _ hR4 Tryz.underlying133 rfl info_pub ?_)
      | (refine wpList_store_row rfl 133 _ _ rfl (w.heap.size + 1) (PubC pa pb pm pn c1 s1 c2 s2 c3 s3) _ _ rfl rfl hZ rfl info_pub hone ?_; intro x9 hg9 hs9 hR9))
    refine bodyPost_ret (results_cell_row Tryz.results67 _ _ (w.heap.size + 1) _ _ (0, 0) _ rfl hR9 Tryz.underlying133 rfl info_pub) rfl ⟨by rw [HP.out]; rfl, hk4b.up.grown hg9 hk4b.up.size (fun k hk => by cases hk; omega)⟩)
end Go.Proofs.YtbgnfioggmkdeaaGreatDoor
namespace Go.Proofs.YtbgnfioggmkdeaaGreatDoor
set_option linter.unusedVariables false
set_option linter.unusedSimpArgs false
open Go Go.RowKit

theorem Sec.length_cells (s : Sec) : s.cells.length = 3 := rfl
abbrev SeesS (w : World) (v : Value) (ss : List Sec) : Prop := Sees w 3 v ss.length (ss.flatMap Sec.cells)
theorem seesS_open {w : World} {v : Value} {ss : List Sec} (h : SeesS w v ss) (hn : 0 < ss.length) : ∃ b o c, v = .slice (some ⟨b, o, none⟩) ss.length c ∧ ss.length ≤ c ∧ c ≤ 9223372036854775807 ∧
    ∀ (i : Nat) (s : Sec), ss[i]? = some s → w.rangeAt b (o + i * 3) [.int .u64 s.blind, .int .u64 s.mix, .int .u64 s.inner] := by
  obtain ⟨hl, a, c, rfl, hc, hm, hnc, hb⟩ := h
  obtain ⟨b, o, rfl, hcell⟩ := hb hn
  refine ⟨b, o, c, rfl, hc, by unfold maxLen at hm; omega, fun i s hs j u hu => ?_⟩
  have hj : j < 3 := by have := (List.getElem?_eq_some_iff.1 hu).1; simpa using this
  rw [Nat.add_assoc]
  exact hcell _ u (by rw [flatMap_at Sec.length_cells ss i j s hs hj]; exact hu)
def SeesUU (w : World) (v : Value) (dd : List (List Int)) : Prop :=
  ∃ vs : List Value, Sees w 1 v dd.length vs ∧ ∀ (i : Nat) (l : List Int) (u : Value), dd[i]? = some l → vs[i]? = some u → SeesU w u l
theorem SeesUU.below {w w' : World} {v : Value} {dd : List (List Int)} (h : SeesUU w v dd) (hb : Below w.heap.size w w') : SeesUU w' v dd := by
  obtain ⟨vs, h1, h2⟩ := h
  exact ⟨vs, h1.below hb (by decide), fun i l u hl hu => (h2 i l u hl hu).below hb (by decide)⟩
theorem seesUU_open {w : World} {v : Value} {dd : List (List Int)} (h : SeesUU w v dd) : ∃ a c, v = .slice a dd.length c ∧ dd.length ≤ c ∧ c ≤ 9223372036854775807 ∧
    ∀ (i : Nat) (l : List Int), dd[i]? = some l → ∃ b o u, a = some ⟨b, o, none⟩ ∧ w.cell? ⟨b, o + i, none⟩ = some u ∧ SeesU w u l := by
  obtain ⟨vs, ⟨hl, a, c, rfl, hc, hm, hnc, hb⟩, h2⟩ := h
  refine ⟨a, c, rfl, hc, by unfold maxLen at hm; omega, fun i l hi => ?_⟩
  have hlt := (List.getElem?_eq_some_iff.1 hi).1
  obtain ⟨b, o, rfl, hcell⟩ := hb (by omega)
  have hv : vs[i]? = some (vs[i]'(by omega)) := List.getElem?_eq_getElem (by omega)
  exact ⟨b, o, _, rfl, hcell i _ hv, h2 i l _ hi hv⟩
/-- Publics in a row of the call's own. -/
abbrev OwnP (w : World) (B : Nat) (v : Value) (ps : List Pub) : Prop := w.ownsRow B 133 10 v ps.length (ps.flatMap Pub.cells)
theorem length_flatP (ps : List Pub) : (ps.flatMap Pub.cells).length = ps.length * 10 := by
  induction ps with
  | nil => rfl
  | cons p ps ih => rw [List.flatMap_cons, List.length_append, ih, p.length_cells, List.length_cons]; omega
theorem ownP_nil (w : World) (B : Nat) : OwnP w B (.slice none 0 0) [] := World.ownsRow_nil w B _ 10
theorem info_pub3 : (Tryz.prog.info? 133).map (fun i => (i.zero, i.size, i.bytes)) = some (some (.agg (PubC 0 0 0 0 0 0 0 0 0 0)), 10, 80) := by kernel_rfl
theorem one_pub (p : Pub) : ∀ u ∈ p.cells, u.oneCell' = true := by
  intro u hu; simp [Pub.cells] at hu; rcases hu with rfl | rfl | rfl | rfl | rfl | rfl | rfl | rfl | rfl | rfl <;> rfl
theorem appP {W w : World} {ops : Array Oper} {rest : List Oper} {o : Oper} {a : Act} {Q : Exit → Act → World → Prop} (hgd : o.guard = none) (s x : Operand)
    (ho : o.op = .call { callee := .builtin .append, args := #[s, x], argTypes := #[28, 28] })
    (v : Value) (ps : List Pub) (hs : a.eval s = v) (hown : OwnP w W.heap.size v ps) (vx : Value) (p : Pub) (hx : a.eval x = vx) (hsee : Sees w 10 vx 1 p.cells)
    (hb : ps.length ≤ 1000000000) (hW : Below W.heap.size W w)
    (h : ∀ v' w', OwnP w' W.heap.size v' (ps ++ [p]) → w.grownBy w' v.ownBlock → Below W.heap.size W w' → wpList Tryz.prog ops Q rest (a.put o.dst v') w') : wpList Tryz.prog ops Q (o :: rest) a w :=
  wpList_app hgd s x _ ho W.heap.size 133 (.agg (PubC 0 0 0 0 0 0 0 0 0 0)) 10 80 Tryz.underlying28 info_pub3 rfl (by decide) v _ _ hs hown vx 1 _ hx hsee (one_pub p) (by omega) hW.size
    (fun v' w' h1 h2 _ => h v' w' (by simpa [OwnP] using h1) h2 (hW.grown h2 hW.size (fun k hk => (hown.lt k hk).1)))

/-- What the first n places tell, and the base behind them. -/
def chainN (ss : List Sec) (dd : List (List Int)) : Nat → List Pub × Int
  | 0 => ([], 37)
  | n + 1 => ((chainN ss dd n).1 ++ [tellP (chainN ss dd n).2 (ss.getD n ⟨0, 0, 0⟩) (dd.getD n [])], (tellP (chainN ss dd n).2 (ss.getD n ⟨0, 0, 0⟩) (dd.getD n [])).blind)
def chainL (ss : List Sec) (dd : List (List Int)) : List Pub := (chainN ss dd ss.length).1
theorem length_chainN (ss : List Sec) (dd : List (List Int)) (n : Nat) : (chainN ss dd n).1.length = n := by
  induction n with
  | zero => rfl
  | succ n ih => rw [chainN, List.length_append, ih]; rfl
theorem chainN_in (ss : List Sec) (dd : List (List Int)) (n : Nat) : in64 (chainN ss dd n).2 := by
  cases n with
  | zero => exact ⟨by show (0 : Int) ≤ 37; decide, by show (37 : Int) < 18446744073709551616; decide⟩
  | succ n => exact ⟨(timesP_pos _ _).1, Int.lt_trans (timesP_pos _ _).2 (by decide)⟩
theorem chainN_ok (ss : List Sec) (dd : List (List Int)) (n : Nat) : ∀ p ∈ (chainN ss dd n).1, p.ok := by
  induction n with
  | zero => intro p hp; cases hp
  | succ n ih =>
    intro p hp
    rw [chainN, List.mem_append, List.mem_singleton] at hp
    rcases hp with h | rfl
    · exact ih p h
    · exact tellP_ok _ _ _ (chainN_in ss dd n)
def ChRel (w : World) (ss : List Sec) (dd : List (List Int)) (o g i : Value) (wr : World) : Prop :=
  ∃ n : Nat, n ≤ ss.length ∧ i = .int .i64 n ∧ g = .int .u64 (chainN ss dd n).2 ∧ OwnP wr w.heap.size o (chainN ss dd n).1 ∧ Below w.heap.size w wr


set_option maxRecDepth 100000 in
set_option maxHeartbeats 4000000 in
theorem Chainr_any (ss : List Sec) (dd : List (List Int)) (vs vd : Value) (w : World) (hss : SeesS w vs ss) (hdd : SeesUU w vd dd) (hs : ∀ s ∈ ss, s.ok) (hd : ∀ l ∈ dd, ∀ x ∈ l, in64 x) (hl : ss.length ≤ 1000) :
    Calls Tryz.prog 40 #[vs, vd] w fun e w' => ∃ v, e = .returned v ∧ OwnP w' w.heap.size v (chainL ss dd) ∧ Below w.heap.size w w' := by
  obtain ⟨a0, c0, rfl, hac0, hc0⟩ := sees_form hss
  have HSS := Lib.hid hss; clear hss
  have HDD := Lib.hid hdd
  obtain ⟨a1, c1, rfl, hac1, hc1, -⟩ := seesUU_open hdd
  clear hdd
  have HSO := Lib.hid hs; have HDO := Lib.hid hd; clear hs hd
  go_enter Tryz.func40, Tryz.ntmps40
  go_wp2_with fail
  go_loopw [5, 6, 7, 8, 9] (fun o g i _ _ wr => ChRel w ss dd o g i wr) (fun _ _ i _ _ _ => ss.length - (intOf i).toNat)
  case atStart => exact ⟨0, by omega, rfl, rfl, ownP_nil _ _, Below.refl _ _⟩
  case round =>
    obtain ⟨n, hn, rfl, rfl, hown, hbel⟩ := hrel
    obtain ⟨a2, c2, rfl, hac2, hc2⟩ := owns_form hown
    have hlen := length_chainN ss dd n
    have HCI := Lib.hid (chainN_in ss dd n)
    by_cases hlt : n < ss.length
    · obtain ⟨b, o, c, hve, hcl, hcm, hrange⟩ := seesS_open (HSS.out.below hbel (by decide)) (by omega)
      obtain ⟨rfl, rfl⟩ : a0 = some ⟨b, o, none⟩ ∧ c0 = c := by injection hve with e1 _ e3; exact ⟨e1, e3⟩
      have hsn : ss[n]? = some ss[n] := List.getElem?_eq_getElem hlt
      have hrg := Lib.hid (hrange n _ hsn)
      have hso := Lib.hid (HSO.out _ (List.getElem_mem hlt))
      have hnx : chainN ss dd (n + 1) = ((chainN ss dd n).1 ++ [tellP (chainN ss dd n).2 ss[n] (dd.getD n [])], (tellP (chainN ss dd n).2 ss[n] (dd.getD n [])).blind) := by
        rw [chainN, show ss.getD n ⟨0, 0, 0⟩ = ss[n] from by rw [List.getD_eq_getElem?_getD, hsn]; rfl]
      have HNX := Lib.hid hnx
      clear hnx hrange hve hsn
      obtain ⟨s, hse⟩ : ∃ s, ss[n] = s := ⟨_, rfl⟩
      rw [hse] at hrg hso HNX
      clear hse
      obtain ⟨⟨o1, g⟩, hog⟩ : ∃ og, chainN ss dd n = og := ⟨_, rfl⟩
      rw [hog] at hown HCI hlen HNX ⊢
      clear hog
      simp only at hown HCI hlen HNX
      have HLN := Lib.hid hlen; clear hlen
      by_cases hdl : n < dd.length
      · obtain ⟨a1', c1', hve, -, -, hel⟩ := seesUU_open (HDD.out.below hbel)
        obtain ⟨rfl, rfl⟩ : a1 = a1' ∧ c1 = c1' := by injection hve with e1 _ e3; exact ⟨e1, e3⟩
        obtain ⟨b2, o2, u, rfl, hcu, hsu⟩ := hel n dd[n] (List.getElem?_eq_getElem hdl)
        have hdi : (n : Int) < (dd.length : Int) := by omega
        have hdo := Lib.hid (HDO.out _ (List.getElem_mem hdl))
        rw [show dd.getD n [] = dd[n] from by rw [List.getD_eq_getElem?_getD, List.getElem?_eq_getElem hdl]; rfl] at HNX
        clear hve hel
        generalize dd[n] = l at *
        obtain ⟨⟨pa, pb, pm, pn, q1, q2, q3, q4, q5, q6⟩, hp⟩ : ∃ p, tellP g s l = p := ⟨_, rfl⟩
        rw [hp] at HNX
        have HP := Lib.hid hp
        clear hp
        have hone : ∀ v ∈ (PubC pa pb pm pn q1 q2 q3 q4 q5 q6).toList, v.oneCell' = true := one_pub ⟨pa, pb, pm, pn, q1, q2, q3, q4, q5, q6⟩
        go_wp2_with (first
          | (refine wpList_load_mid rfl 86 _ rfl b (o + n * 3) rfl _ _ hrg.out Tryz.underlying86 rfl info_sec ?_)
          | (go_at_call 67; refine (Tellr_any g s _ _ _ HCI.out hso.out hsu hdo.out).mono ?_; rintro e x3 ⟨rfl, hb3⟩; rw [HP.out]; have e3 : Ext _ x3 := hb3)
          | (refine wpList_allocB rfl _ rfl _ run_allocPub ?_; intro x4 B4 hh hB4 e4)
          | (refine wpList_store_row rfl 133 _ _ rfl B4 (PubC pa pb pm pn q1 q2 q3 q4 q5 q6) _ _ rfl rfl hh rfl info_pub hone ?_; intro x5 hg5 hs5 hR5
             have hB5 : wr.heap.size ≤ B4 := Nat.le_trans e3.size hB4
             have hup5 : Below wr.heap.size wr x5 := (e3.tr e4 : Below _ _ _).grown hg5 (e3.tr e4).size (fun k hk => by cases hk; exact hB5)
             have hown5 := owns_below hown hup5
             have hbel5 := hbel.trans (hup5.mono hbel.size)
             have hlit : Sees (x5.alloc (.cells (PubC pa pb pm pn q1 q2 q3 q4 q5 q6) 133)) 10 (.slice (some ⟨x5.heap.size, 0, none⟩) 1 1) 1 (Pub.cells ⟨pa, pb, pm, pn, q1, q2, q3, q4, q5, q6⟩) := sees_new x5 10 (PubC pa pb pm pn q1 q2 q3 q4 q5 q6) _ 1 rfl (by decide)
             clear hg5 hs5)
          | (refine wpList_load_row rfl 133 _ rfl B4 rfl _ (PubC pa pb pm pn q1 q2 q3 q4 q5 q6) (0, 0) _ hR5 Tryz.underlying133 rfl info_pub ?_)
          | (at_builtin; refine appP (W := w) rfl _ _ rfl _ o1 rfl (hown5.alloc _) (.slice (some ⟨x5.heap.size, 0, none⟩) 1 1) ⟨pa, pb, pm, pn, q1, q2, q3, q4, q5, q6⟩ rfl hlit (by rw [HLN.out]; omega) (hbel5.alloc hbel5.size _) ?_; intro v6 w6 hown6 hg6 hb6
             have hR6 := (hR5.alloc (.cells (PubC pa pb pm pn q1 q2 q3 q4 q5 q6) 133)).grownBy hg6 (fun e => by have := (hown.lt B4 e.symm).2; omega)
             have hc6 : w6.cell? ⟨B4, 1, none⟩ = some (.int .u64 pb) := by rw [hR6.cell]; rfl
             clear hg6))
        go_roundw
        case rel => exact ⟨n + 1, by omega, by go_num, by rw [HNX.out], by rw [HNX.out]; exact hown6, hb6⟩
        case measure => simp [intOf]; omega
      · have hdi : ¬ (n : Int) < (dd.length : Int) := by omega
        have hsu : SeesU wr (.slice none 0 0) [] := Sees.nil _ _
        rw [show dd.getD n [] = [] from by rw [List.getD_eq_getElem?_getD, List.getElem?_eq_none (by omega)]; rfl] at HNX
        have hdo := Lib.hid (show ∀ x ∈ ([] : List Int), in64 x by intro x hx; cases hx)
        obtain ⟨⟨pa, pb, pm, pn, q1, q2, q3, q4, q5, q6⟩, hp⟩ : ∃ p, tellP g s ([] : List Int) = p := ⟨_, rfl⟩
        rw [hp] at HNX
        have HP := Lib.hid hp
        clear hp
        have hone : ∀ v ∈ (PubC pa pb pm pn q1 q2 q3 q4 q5 q6).toList, v.oneCell' = true := one_pub ⟨pa, pb, pm, pn, q1, q2, q3, q4, q5, q6⟩
        go_wp2_with (first
          | (refine wpList_load_mid rfl 86 _ rfl b (o + n * 3) rfl _ _ hrg.out Tryz.underlying86 rfl info_sec ?_)
          | (go_at_call 67; refine (Tellr_any g s _ _ _ HCI.out hso.out hsu hdo.out).mono ?_; rintro e x3 ⟨rfl, hb3⟩; rw [HP.out]; have e3 : Ext _ x3 := hb3)
          | (refine wpList_allocB rfl _ rfl _ run_allocPub ?_; intro x4 B4 hh hB4 e4)
          | (refine wpList_store_row rfl 133 _ _ rfl B4 (PubC pa pb pm pn q1 q2 q3 q4 q5 q6) _ _ rfl rfl hh rfl info_pub hone ?_; intro x5 hg5 hs5 hR5
             have hB5 : wr.heap.size ≤ B4 := Nat.le_trans e3.size hB4
             have hup5 : Below wr.heap.size wr x5 := (e3.tr e4 : Below _ _ _).grown hg5 (e3.tr e4).size (fun k hk => by cases hk; exact hB5)
             have hown5 := owns_below hown hup5
             have hbel5 := hbel.trans (hup5.mono hbel.size)
             have hlit : Sees (x5.alloc (.cells (PubC pa pb pm pn q1 q2 q3 q4 q5 q6) 133)) 10 (.slice (some ⟨x5.heap.size, 0, none⟩) 1 1) 1 (Pub.cells ⟨pa, pb, pm, pn, q1, q2, q3, q4, q5, q6⟩) := sees_new x5 10 (PubC pa pb pm pn q1 q2 q3 q4 q5 q6) _ 1 rfl (by decide)
             clear hg5 hs5)
          | (refine wpList_load_row rfl 133 _ rfl B4 rfl _ (PubC pa pb pm pn q1 q2 q3 q4 q5 q6) (0, 0) _ hR5 Tryz.underlying133 rfl info_pub ?_)
          | (at_builtin; refine appP (W := w) rfl _ _ rfl _ o1 rfl (hown5.alloc _) (.slice (some ⟨x5.heap.size, 0, none⟩) 1 1) ⟨pa, pb, pm, pn, q1, q2, q3, q4, q5, q6⟩ rfl hlit (by rw [HLN.out]; omega) (hbel5.alloc hbel5.size _) ?_; intro v6 w6 hown6 hg6 hb6
             have hR6 := (hR5.alloc (.cells (PubC pa pb pm pn q1 q2 q3 q4 q5 q6) 133)).grownBy hg6 (fun e => by have := (hown.lt B4 e.symm).2; omega)
             have hc6 : w6.cell? ⟨B4, 1, none⟩ = some (.int .u64 pb) := by rw [hR6.cell]; rfl
             clear hg6))
        go_roundw
        case rel => exact ⟨n + 1, by omega, by go_num, by rw [HNX.out], by rw [HNX.out]; exact hown6, hb6⟩
        case measure => simp [intOf]; omega
    · obtain rfl : n = ss.length := by omega
      go_wp2_with fail
      go_ret
      exact ⟨_, rfl, hown, hbel⟩
end Go.Proofs.YtbgnfioggmkdeaaGreatDoor
namespace Go.Proofs.YtbgnfioggmkdeaaGreatDoor
set_option linter.unusedVariables false
set_option linter.unusedSimpArgs false
open Go Go.RowKit

theorem RowT.below {w w' : World} {r : Option Nat} {t : TypeId} (h : RowT w r t) (hb : Below w.heap.size w w') : RowT w' r t := fun g hg => by
  obtain ⟨cs, fr, e⟩ := h g hg; exact ⟨cs, fr, (hb.block g (lt_of_block e)).trans e⟩
abbrev OwnS (w : World) (B : Nat) (v : Value) (ss : List Sec) : Prop := w.ownsRow B 86 3 v ss.length (ss.flatMap Sec.cells)
theorem ownS_nil (w : World) (B : Nat) : OwnS w B (.slice none 0 0) [] := World.ownsRow_nil w B _ 3
theorem info_sec3 : (Tryz.prog.info? 86).map (fun i => (i.zero, i.size, i.bytes)) = some (some (.agg (SecC 0 0 0)), 3, 24) := by kernel_rfl
theorem one_sec (s : Sec) : ∀ u ∈ s.cells, u.oneCell' = true := by
  intro u hu; simp [Sec.cells] at hu; rcases hu with rfl | rfl | rfl <;> rfl
theorem appSec {W w : World} {ops : Array Oper} {rest : List Oper} {o : Oper} {a : Act} {Q : Exit → Act → World → Prop} (hgd : o.guard = none) (s x : Operand)
    (ho : o.op = .call { callee := .builtin .append, args := #[s, x], argTypes := #[27, 27] })
    (v : Value) (ps : List Sec) (hs : a.eval s = v) (hown : OwnS w W.heap.size v ps) (vx : Value) (p : Sec) (hx : a.eval x = vx) (hsee : Sees w 3 vx 1 p.cells)
    (hb : ps.length ≤ 1000000000) (hW : Below W.heap.size W w)
    (h : ∀ v' w', OwnS w' W.heap.size v' (ps ++ [p]) → w.grownBy w' v.ownBlock → Below W.heap.size W w' → wpList Tryz.prog ops Q rest (a.put o.dst v') w') : wpList Tryz.prog ops Q (o :: rest) a w :=
  wpList_app hgd s x _ ho W.heap.size 86 (.agg (SecC 0 0 0)) 3 24 Tryz.underlying27 info_sec3 rfl (by decide) v _ _ hs hown vx 1 _ hx hsee (one_sec p) (by omega) hW.size
    (fun v' w' h1 h2 _ => h v' w' (by simpa [OwnS] using h1) h2 (hW.grown h2 hW.size (fun k hk => (hown.lt k hk).1)))
/-- A row untouched by a row of another type. -/
theorem own_grown {w w' : World} {B : Nat} {e t : TypeId} {sz : Nat} {v : Value} {n : Nat} {xs : List Value} {row : Option Nat} (h : w.ownsRow B e sz v n xs) (hg : w.grownBy w' row) (hr : RowT w row t) (hne : e ≠ t) : w'.ownsRow B e sz v n xs := by
  have hn := (RowT.own h).ne hr hne
  have hlt := h.lt
  obtain ⟨hl, h⟩ := h
  refine ⟨hl, ?_⟩
  rcases h with h | ⟨g, cap, cur, rfl, hg', hh, r⟩
  · exact .inl h
  · exact .inr ⟨g, cap, cur, rfl, hg', (hg.block g (hlt g rfl).2 (hn g rfl)).trans hh, r⟩
/-- Rows of numbers in a row of the call's own. -/
def OwnUU (w : World) (B : Nat) (v : Value) (dd : List (List Int)) : Prop :=
  ∃ vs : List Value, w.ownsRow B 87 1 v dd.length vs ∧ ∀ (i : Nat) (l : List Int) (u : Value), dd[i]? = some l → vs[i]? = some u → SeesV w u l
theorem ownUU_nil (w : World) (B : Nat) : OwnUU w B (.slice none 0 0) [] := ⟨[], World.ownsRow_nil w B _ 1, fun i l u h => by simp at h⟩
theorem OwnUU.sees {w : World} {B : Nat} {v : Value} {dd : List (List Int)} (h : OwnUU w B v dd) : SeesUU w v dd := by
  obtain ⟨vs, h1, h2⟩ := h
  exact ⟨vs, sees_of_owns h1, fun i l u hl hu => (h2 i l u hl hu).1⟩
theorem OwnUU.below {w w' : World} {B : Nat} {v : Value} {dd : List (List Int)} (h : OwnUU w B v dd) (hb : Below w.heap.size w w') : OwnUU w' B v dd := by
  obtain ⟨vs, h1, h2⟩ := h
  exact ⟨vs, owns_below h1 hb, fun i l u hl hu => (h2 i l u hl hu).below hb⟩
theorem OwnUU.grown {w w' : World} {B : Nat} {v : Value} {dd : List (List Int)} {row : Option Nat} {t : TypeId} (h : OwnUU w B v dd) (hg : w.grownBy w' row) (hr : RowT w row t) (hn1 : 87 ≠ t) (hn2 : 22 ≠ t) : OwnUU w' B v dd := by
  obtain ⟨vs, h1, h2⟩ := h
  exact ⟨vs, own_grown h1 hg hr hn1, fun i l u hl hu => (h2 i l u hl hu).grown hg hr hn2⟩
theorem OwnUU.form {w : World} {B : Nat} {v : Value} {dd : List (List Int)} (h : OwnUU w B v dd) : ∃ a c, v = .slice a dd.length c ∧ dd.length ≤ c ∧ c ≤ 9223372036854775807 := by
  obtain ⟨vs, h1, _⟩ := h; exact owns_form h1
theorem OwnUU.row {w : World} {B : Nat} {v : Value} {dd : List (List Int)} (h : OwnUU w B v dd) : RowT w v.ownBlock 87 := by
  obtain ⟨vs, h1, _⟩ := h; exact RowT.own h1
theorem info_uu : (Tryz.prog.info? 87).map (fun i => (i.zero, i.size, i.bytes)) = some (some (.slice none 0 0), 1, 24) := by kernel_rfl
theorem appUU {W w : World} {ops : Array Oper} {rest : List Oper} {o : Oper} {a : Act} {Q : Exit → Act → World → Prop} (hgd : o.guard = none) (s x : Operand)
    (ho : o.op = .call { callee := .builtin .append, args := #[s, x], argTypes := #[84, 84] })
    (v : Value) (ll : List (List Int)) (hs : a.eval s = v) (hown : OwnUU w W.heap.size v ll) (vx u : Value) (l : List Int) (hx : a.eval x = vx) (hsee : Sees w 1 vx 1 [u]) (hu : SeesV w u l) (hu1 : u.oneCell' = true)
    (hb : ll.length ≤ 1000000000) (hW : Below W.heap.size W w)
    (h : ∀ v' w', OwnUU w' W.heap.size v' (ll ++ [l]) → w.grownBy w' v.ownBlock → Below W.heap.size W w' → wpList Tryz.prog ops Q rest (a.put o.dst v') w') : wpList Tryz.prog ops Q (o :: rest) a w := by
  have hr := hown.row
  obtain ⟨vs, h1, h2⟩ := hown
  have hlen : vs.length = ll.length := by have := h1.1; omega
  refine wpList_app hgd s x _ ho W.heap.size 87 (.slice none 0 0) 1 24 Tryz.underlying84 info_uu rfl (by decide) v _ _ hs h1 vx _ _ hx hsee (by simpa using hu1) (by omega) hW.size
    (fun v' w' g1 g2 _ => h v' w' ⟨vs ++ [u], by simpa using g1, fun i l' u' hl hu' => ?_⟩ g2 (hW.grown g2 hW.size (fun k hk => (h1.lt k hk).1)))
  by_cases hi : i < ll.length
  · rw [List.getElem?_append_left hi] at hl
    rw [List.getElem?_append_left (by omega)] at hu'
    exact (h2 i l' u' hl hu').grown g2 hr (by decide)
  · rw [List.getElem?_append_right (by omega)] at hl
    rw [List.getElem?_append_right (by omega), hlen] at hu'
    cases hk : i - ll.length with
    | zero => rw [hk] at hl hu'; cases hl; cases hu'; exact hu.grown g2 hr (by decide)
    | succ j => rw [hk] at hl; simp at hl

def keysSL (seed : List UInt8) (r c : Int) (n : Nat) : List Sec := (List.range n).map fun i : Nat => makeS seed r c (i : Int)
def keysDL (seed : List UInt8) (r c : Int) (n : Nat) : List (List Int) := (List.range n).map fun i : Nat => makeD seed r c (i : Int)
theorem keysSL_succ (seed : List UInt8) (r c : Int) (n : Nat) : keysSL seed r c (n + 1) = keysSL seed r c n ++ [makeS seed r c n] := by simp [keysSL, List.range_succ]
theorem keysDL_succ (seed : List UInt8) (r c : Int) (n : Nat) : keysDL seed r c (n + 1) = keysDL seed r c n ++ [makeD seed r c n] := by simp [keysDL, List.range_succ]
theorem length_keysSL (seed : List UInt8) (r c : Int) (n : Nat) : (keysSL seed r c n).length = n := by simp [keysSL]
theorem length_keysDL (seed : List UInt8) (r c : Int) (n : Nat) : (keysDL seed r c n).length = n := by simp [keysDL]
theorem in64_keys (seed : List UInt8) (r c p : Int) (i : Nat) : in64 (keysW seed r c p i) := ⟨(keysW_pos seed r c p i).1, Int.lt_trans (keysW_pos seed r c p i).2 (by decide)⟩
theorem keysSL_ok (seed : List UInt8) (r c : Int) (n : Nat) : ∀ s ∈ keysSL seed r c n, s.ok := by
  intro s hs
  obtain ⟨i, _, rfl⟩ := List.mem_map.1 hs
  exact ⟨in64_keys _ _ _ _ _, in64_keys _ _ _ _ _, in64_keys _ _ _ _ _⟩
theorem keysDL_ok (seed : List UInt8) (r c : Int) (n : Nat) : ∀ l ∈ keysDL seed r c n, ∀ x ∈ l, in64 x := by
  intro l hl x hx
  obtain ⟨i, _, rfl⟩ := List.mem_map.1 hl
  simp [makeD] at hx
  rcases hx with rfl | rfl | rfl <;> exact in64_keys _ _ _ _ _
/-- What the places tell. -/
def keysP (seed : List UInt8) (r c : Int) (n : Nat) : List Pub := chainL (keysSL seed r c n) (keysDL seed r c n)
theorem length_keysP (seed : List UInt8) (r c : Int) (n : Nat) : (keysP seed r c n).length = n := by rw [keysP, chainL, length_chainN, length_keysSL]
def KeyRel (w : World) (seed : List UInt8) (r c : Int) (N : Nat) (o d i : Value) (wr : World) : Prop :=
  ∃ n : Nat, n ≤ N ∧ i = .int .i64 n ∧ OwnS wr w.heap.size o (keysSL seed r c n) ∧ OwnUU wr w.heap.size d (keysDL seed r c n) ∧ Blk wr w.heap.size (keyA seed) 24 ∧ Below w.heap.size w wr
theorem SeesV.alloc {w : World} {u : Value} {l : List Int} (h : SeesV w u l) (o : Obj) : SeesV (w.alloc o) u l := h.below (by go_grown)
theorem OwnUU.alloc {w : World} {B : Nat} {v : Value} {dd : List (List Int)} (h : OwnUU w B v dd) (o : Obj) : OwnUU (w.alloc o) B v dd := h.below (by go_grown)
theorem run_allocSec (w : World) : (Instr.alloc 86 true (.tuple #[])).run Tryz.prog w = .ok (.pointer (some ⟨w.heap.size, 0, none⟩)) (w.alloc (.cells (SecC 0 0 0) 86)) := by simp [go_sem]

set_option maxRecDepth 100000 in
set_option maxHeartbeats 4000000 in
theorem Keysr_any (seed : List UInt8) (r c : Int) (N : Nat) (w : World) (h32 : seed.length = 32) (hr : inI r) (hc : inI c) (h1 : 1 ≤ N) (h20 : N ≤ 20) :
    Calls Tryz.prog 9 #[.agg (keyA seed), .int .i64 r, .int .i64 c, .int .i64 N] w fun e w' => ∃ v u, e = .returned (.tuple #[v, u]) ∧ OwnS w' w.heap.size v (keysSL seed r c N) ∧ OwnP w' w.heap.size u (keysP seed r c N) ∧ Below w.heap.size w w' := by
  have HK := Lib.hid h32; clear h32
  have HR := Lib.hid hr; have HC := Lib.hid hc; clear hr hc
  have hk0 := Lib.hid (Blk.new w (keyA seed) 24)
  have hb0 := Lib.hid (show Below w.heap.size w (w.alloc (.cells (keyA seed) 24)) by go_grown)
  go_enter Tryz.func9, Tryz.ntmps9
  go_wp2_with fail
  go_loopw [10, 11, 12, 13, 14] (fun o d i _ _ wr => KeyRel w seed r c N o d i wr) (fun _ _ i _ _ _ => N - (intOf i).toNat)
  case atStart => exact ⟨0, by omega, rfl, ownS_nil _ _, ownUU_nil _ _, hk0.out, hb0.out⟩
  case round =>
    clear hk0 hb0
    obtain ⟨n, hn, rfl, hown, hownU, hkb, hbel⟩ := hrel
    obtain ⟨a2, c2, rfl, hac2, hc2⟩ := owns_form hown
    obtain ⟨a3, c3, rfl, hac3, hc3⟩ := hownU.form
    by_cases hlt : n < N
    · have hni := Lib.hid (show inI (n : Int) from ⟨by omega, by omega⟩)
      have hls := length_keysSL seed r c n
      have hld := length_keysDL seed r c n
      have HS1 := keysSL_succ seed r c n
      have HD1 := keysDL_succ seed r c n
      obtain ⟨⟨k0, k1, k2⟩, hms⟩ : ∃ s, makeS seed r c n = s := ⟨_, rfl⟩
      obtain ⟨dl, hmd⟩ : ∃ d, makeD seed r c n = d := ⟨_, rfl⟩
      rw [hms] at HS1
      rw [hmd] at HD1
      have HMS := Lib.hid hms
      have HMD := Lib.hid hmd
      clear hms hmd
      generalize keysSL seed r c n = ss at *
      generalize keysDL seed r c n = dd at *
      have HLS := Lib.hid hls; have HLD := Lib.hid hld; clear hls hld
      have hone : ∀ v ∈ (SecC k0 k1 k2).toList, v.oneCell' = true := one_sec ⟨k0, k1, k2⟩
      go_wp2_with (first
        | (refine wpList_load_row rfl 24 _ rfl w.heap.size rfl _ (keyA seed) (0, 0) _ hkb under_key rfl (by rw [keyA_size, HK.out]; exact info_key) ?_)
        | (go_at_call 39; refine (Maker_any seed r c n _ HK.out HR.out HC.out hni.out).mono ?_; rintro e x1 ⟨v1, rfl, hsv1, hb1⟩; rw [HMS.out]; rw [HMD.out] at hsv1
           obtain ⟨a1, c1, rfl, -, -⟩ := sees_form hsv1.1
           have hown1 := owns_below hown hb1
           have hownU1 := hownU.below hb1
           have hkb1 := hkb.below hb1
           have hbel1 := hbel.trans (hb1.mono hbel.size))
        | (refine wpList_allocB rfl _ rfl _ run_allocSec ?_; intro x4 B4 hh hB4 e4)
        | (refine wpList_store_row rfl 86 _ _ rfl B4 (SecC k0 k1 k2) _ _ rfl rfl hh rfl info_sec hone ?_; intro x5 hg5 hs5 hR5
           have hup5 : Below x1.heap.size x1 x5 := (e4 : Below _ _ _).grown hg5 e4.size (fun k hk => by cases hk; exact hB4)
           have hown5 := owns_below hown1 hup5
           have hownU5 := hownU1.below hup5
           have hsv5 := hsv1.below hup5
           have hkb5 := hkb1.below hup5
           have hbel5 := hbel1.trans (hup5.mono hbel1.size)
           have hlit : Sees (x5.alloc (.cells (SecC k0 k1 k2) 86)) 3 (.slice (some ⟨x5.heap.size, 0, none⟩) 1 1) 1 (Sec.cells ⟨k0, k1, k2⟩) := sees_new x5 3 (SecC k0 k1 k2) _ 1 rfl (by decide)
           clear hg5 hs5)
        | (refine wpList_load_row rfl 86 _ rfl B4 rfl _ (SecC k0 k1 k2) (0, 0) _ hR5 Tryz.underlying86 rfl info_sec ?_)
        | (at_builtin; refine appSec (W := w) rfl _ _ rfl _ ss rfl (hown5.alloc _) (.slice (some ⟨x5.heap.size, 0, none⟩) 1 1) ⟨k0, k1, k2⟩ rfl hlit (by rw [HLS.out]; omega) (hbel5.alloc hbel5.size _) ?_; intro v6 w6 hown6 hg6 hb6
           have hrow6 := RowT.own (hown5.alloc (.cells (SecC k0 k1 k2) 86))
           have hownU6 := (hownU5.alloc (.cells (SecC k0 k1 k2) 86)).grown hg6 hrow6 (by decide) (by decide)
           have hsv6 := (hsv5.alloc (.cells (SecC k0 k1 k2) 86)).grown hg6 hrow6 (by decide)
           have hkb6 := (hkb5.alloc (.cells (SecC k0 k1 k2) 86)).grownBy hg6 (fun e => own_ne hown5 hkb5 (by decide) e.symm)
           clear hg6)
        | (at_builtin; refine appUU (W := w) rfl _ _ rfl _ dd rfl (hownU6.alloc _) (.slice (some ⟨w6.heap.size, 0, none⟩) 1 1) (.slice a1 dl.length c1) dl rfl (sees_new w6 1 #[.slice a1 dl.length c1] _ 1 rfl (by decide)) (hsv6.alloc _) rfl (by rw [HLD.out]; omega) (hb6.alloc hb6.size _) ?_; intro v7 w7 hownU7 hg7 hb7
           have hrow7 := (hownU6.alloc (.cells #[.slice a1 dl.length c1] 87)).row
           have hown7 := own_grown (hown6.alloc (.cells #[.slice a1 dl.length c1] 87)) hg7 hrow7 (by decide)
           have hkb7 := (hkb6.alloc (.cells #[.slice a1 dl.length c1] 87)).grownBy hg7 (fun e => (RowT.blk (hkb6.alloc (.cells #[.slice a1 dl.length c1] 87))).ne hrow7 (by decide) _ rfl e)
           clear hg7))
      go_roundw
      case rel => exact ⟨n + 1, by omega, by go_num, by rw [HS1]; exact hown7, by rw [HD1]; exact hownU7, hkb7, hb7⟩
      case measure => simp [intOf]; omega
    · obtain rfl : n = N := by omega
      have hch := Lib.hid (Chainr_any (keysSL seed r c n) (keysDL seed r c n) _ _ wr (sees_of_owns hown) hownU.sees (keysSL_ok seed r c n) (keysDL_ok seed r c n) (by rw [length_keysSL]; omega))
      go_wp2_with (go_at_call 40; refine hch.out.mono ?_; rintro e x1 ⟨v1, rfl, hp1, hb1⟩)
      go_ret2
      exact ⟨_, _, rfl, owns_below hown hb1, owns_mono hp1 hbel.size, hbel.trans (hb1.mono hbel.size)⟩
end Go.Proofs.YtbgnfioggmkdeaaGreatDoor
namespace Go.Proofs.YtbgnfioggmkdeaaGreatDoor
set_option linter.unusedVariables false
set_option linter.unusedSimpArgs false
open Go Go.RowKit

/-- What the law's chain hands back. -/
def RetC (seed : List UInt8) (k : Int) (w : World) (e : Ending) (w' : World) : Prop :=
  ∃ v u, e = .returned (.tuple #[v, u, .bool (decide (1 ≤ k ∧ k ≤ 6))]) ∧ (1 ≤ k ∧ k ≤ 6 → OwnS w' w.heap.size v (keysSL seed 3 4 k.toNat) ∧ OwnP w' w.heap.size u (keysP seed 3 4 k.toNat)) ∧ Below w.heap.size w w'
set_option maxRecDepth 100000 in
theorem Wrap_any (ps : List Pub) (x : Int) (inside : List UInt8) (vl v : Value) (w : World) (hps : SeesP w vl ps) (hok : ∀ p ∈ ps, p.ok) (hx : in64 x) (hv : SeesB w v inside)
    (hl : inside.length ≤ 10000000000000) (hpl : ps.length ≤ 100000000) :
    Calls Tryz.prog 124 #[vl, .int .u64 x, v] w (RetE (timesP 37 x) (boxL ps x inside (-1)) w) := by
  have hA := Lib.hid (Spoiled_any ps x (-1) inside vl v (w.alloc (.cells #[.int .u64 0, .slice none 0 0] 46)) (hps.below (by go_grown) (by decide)) hok hx (hv.below (by go_grown) (by decide)) hl hpl ⟨by decide, by decide⟩)
  have hR0 := Lib.hid (Blk.new w #[.int .u64 0, .slice none 0 0] 46)
  have hb0 := Lib.hid (show Below w.heap.size w (w.alloc (.cells #[.int .u64 0, .slice none 0 0] 46)) by go_grown)
  generalize timesP 37 x = tx at *
  generalize boxL ps x inside (-1) = bx at *
  clear hps hv
  go_enter Tryz.func124, Tryz.ntmps124
  go_wp2_with (first
    | (go_at_call 169; refine hA.out.mono ?_; rintro e x1 ⟨v1, rfl, hown1, hb1⟩; obtain ⟨a1, c1, rfl, -, -⟩ := owns_form hown1; have hR1 := hR0.out.below hb1)
    | (refine wpList_store_row rfl 46 _ _ rfl w.heap.size #[.int .u64 tx, .slice a1 bx.length c1] _ _ rfl rfl hR1 rfl info_entry (by intro v hv; simp at hv; rcases hv with rfl | rfl <;> rfl) ?_; intro x7 hg7 hs7 hR7
       have hlt := hown1.lt))
  refine bodyPost_ret (results_cell_row Tryz.results124 _ _ w.heap.size _ _ (0, 0) _ rfl hR7 Tryz.underlying46 rfl info_entry) rfl ?_
  have hbel := hb0.out.trans (hb1.mono hb0.out.size)
  refine ⟨_, rfl, ?_, hbel.grown hg7 hbel.size (fun k hk => by cases hk; exact Nat.le_refl _)⟩
  exact owns_mono (own_grown hown1 hg7 (RowT.blk hR1) (by decide)) hb0.out.size
set_option maxRecDepth 100000 in
theorem Wrapr_any (ps : List Pub) (x : Int) (inside : List UInt8) (vl v : Value) (w : World) (hps : SeesP w vl ps) (hok : ∀ p ∈ ps, p.ok) (hx : in64 x) (hv : SeesB w v inside)
    (hl : inside.length ≤ 10000000000000) (hpl : ps.length ≤ 100000000) :
    Calls Tryz.prog 97 #[vl, .int .u64 x, v] w (RetE (timesP 37 x) (boxL ps x inside (-1)) w) := by
  have hA := Lib.hid (Spoil_any ps x (-1) inside vl v (w.alloc (.cells #[.int .u64 0, .slice none 0 0] 46)) (hps.below (by go_grown) (by decide)) hok hx (hv.below (by go_grown) (by decide)) hl hpl ⟨by decide, by decide⟩)
  have hR0 := Lib.hid (Blk.new w #[.int .u64 0, .slice none 0 0] 46)
  have hb0 := Lib.hid (show Below w.heap.size w (w.alloc (.cells #[.int .u64 0, .slice none 0 0] 46)) by go_grown)
  generalize timesP 37 x = tx at *
  generalize boxL ps x inside (-1) = bx at *
  clear hps hv
  go_enter Tryz.func97, Tryz.ntmps97
  go_wp2_with (first
    | (go_at_call 145; refine hA.out.mono ?_; rintro e x1 ⟨v1, rfl, hown1, hb1⟩; obtain ⟨a1, c1, rfl, -, -⟩ := owns_form hown1; have hR1 := hR0.out.below hb1)
    | (refine wpList_store_row rfl 46 _ _ rfl w.heap.size #[.int .u64 tx, .slice a1 bx.length c1] _ _ rfl rfl hR1 rfl info_entry (by intro v hv; simp at hv; rcases hv with rfl | rfl <;> rfl) ?_; intro x7 hg7 hs7 hR7
       have hlt := hown1.lt))
  refine bodyPost_ret (results_cell_row Tryz.results97 _ _ w.heap.size _ _ (0, 0) _ rfl hR7 Tryz.underlying46 rfl info_entry) rfl ?_
  have hbel := hb0.out.trans (hb1.mono hb0.out.size)
  refine ⟨_, rfl, ?_, hbel.grown hg7 hbel.size (fun k hk => by cases hk; exact Nat.le_refl _)⟩
  exact owns_mono (own_grown hown1 hg7 (RowT.blk hR1) (by decide)) hb0.out.size
end Go.Proofs.YtbgnfioggmkdeaaGreatDoor
