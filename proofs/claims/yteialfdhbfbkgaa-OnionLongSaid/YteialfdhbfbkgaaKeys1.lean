/-
  Secrets of a place: the reference.
-/
import Derived.Test.YteialfdhbfbkgaaStrm2
namespace Go.Proofs.Yteialfdhbfbkgaa
set_option linter.unusedVariables false
set_option linter.unusedSimpArgs false
open Go Go.RowKit

structure Sec where
  (blind mix inner : Int)
def Sec.cells (s : Sec) : List Value := [.int .u64 s.blind, .int .u64 s.mix, .int .u64 s.inner]
def Sec.ok (s : Sec) : Prop := in64 s.blind ∧ in64 s.mix ∧ in64 s.inner
abbrev SecV (s : Sec) : Value := .agg #[.int .u64 s.blind, .int .u64 s.mix, .int .u64 s.inner]
def keysS : List UInt8 := [107, 101, 121, 115]
def keysW (seed : List UInt8) (r c p : Int) (i : Nat) : Int := wordN seed (namesL keysS [r, c, p]) i % 2305843009213693950
theorem keysW_pos (seed : List UInt8) (r c p : Int) (i : Nat) : 0 ≤ keysW seed r c p i ∧ keysW seed r c p i < 2305843009213693950 := by unfold keysW; omega
def makeS (seed : List UInt8) (r c p : Int) : Sec := ⟨keysW seed r c p 0, keysW seed r c p 1, keysW seed r c p 2⟩
def makeD (seed : List UInt8) (r c p : Int) : List Int := [keysW seed r c p 3, keysW seed r c p 4, keysW seed r c p 5]
def makeL (seed : List UInt8) (r c p : Int) (n : Nat) : List Int := (List.range n).map (keysW seed r c p)
theorem makeL_succ (seed : List UInt8) (r c p : Int) (n : Nat) : makeL seed r c p (n + 1) = makeL seed r c p n ++ [keysW seed r c p n] := by simp [makeL, List.range_succ]
theorem length_makeL (seed : List UInt8) (r c p : Int) (n : Nat) : (makeL seed r c p n).length = n := by simp [makeL]

/-- Numbers in a row of the call's own. -/
abbrev OwnU (w : World) (B : Nat) (v : Value) (l : List Int) : Prop := w.ownsRow B 24 1 v l.length (l.map UV)
theorem info_u64 : (Try.prog.info? 24).map (fun i => (i.zero, i.size, i.bytes)) = some (some (.int .u64 0), 1, 8) := by kernel_rfl
theorem one_UV (l : List Int) : ∀ u ∈ l.map UV, u.oneCell' = true := by
  intro u hu; obtain ⟨b, _, rfl⟩ := List.mem_map.1 hu; rfl
theorem ownU_nil (w : World) (B : Nat) : OwnU w B (.slice none 0 0) [] := World.ownsRow_nil w B _ 1
theorem appU {W w : World} {ops : Array Oper} {rest : List Oper} {o : Oper} {a : Act} {Q : Exit → Act → World → Prop} (hgd : o.guard = none) (s x : Operand)
    (ho : o.op = .call { callee := .builtin .append, args := #[s, x], argTypes := #[50, 50] })
    (v : Value) (l : List Int) (hs : a.eval s = v) (hown : OwnU w W.heap.size v l) (vx : Value) (lx : List Int) (hx : a.eval x = vx) (hsee : SeesU w vx lx)
    (hb : l.length + lx.length ≤ 10000000000) (hW : Below W.heap.size W w)
    (h : ∀ v' w', OwnU w' W.heap.size v' (l ++ lx) → w.grownBy w' v.ownBlock → Below W.heap.size W w' → wpList Try.prog ops Q rest (a.put o.dst v') w') : wpList Try.prog ops Q (o :: rest) a w :=
  wpList_app hgd s x _ ho W.heap.size 24 (.int .u64 0) 1 8 Try.underlying50 info_u64 rfl (by decide) v _ _ hs hown vx _ _ hx hsee (one_UV lx) (by omega) hW.size
    (fun v' w' h1 h2 _ => h v' w' (by simpa [OwnU] using h1) h2 (hW.grown h2 hW.size (fun k hk => (hown.lt k hk).1)))
/-- A block of another type is no row of one's own. -/
theorem own_ne {w : World} {B : Nat} {e t : TypeId} {sz : Nat} {v : Value} {n : Nat} {xs : List Value} {g : Nat} {cs : Array Value} (h : w.ownsRow B e sz v n xs) (hb : Blk w g cs t) (hne : t ≠ e) : v.ownBlock ≠ some g := fun hg => by
  rcases h.2 with ⟨rfl, _⟩ | ⟨g', cap, cur, rfl, _, hh, _⟩
  · cases hg
  · have : g' = g := Option.some.inj hg
    subst this
    unfold Blk at hb
    rw [hb] at hh
    injection hh with h1
    injection h1 with _ h2 _
    exact hne h2
theorem seesU_lit1 (w : World) (x : Int) (t : TypeId) : SeesU (w.alloc (.cells #[.int .u64 x] t)) (.slice (some ⟨w.heap.size, 0, none⟩) 1 1) [x] := sees_new w 1 #[.int .u64 x] t 1 rfl (by decide)
theorem run_sliceU_from (a : Option Addr) (n c k : Nat) (hk : k ≤ n) (W : World) :
    (Instr.sliceAt 50 (.slice a n c) (some (.int .i64 k)) none none).run Try.prog W = .ok (.slice (if c = k then a else Option.map (fun x => x.add k) a) (n - k) (c - k)) W := by
  obtain ⟨i, hi, hz, hsize, hby⟩ := info_parts info_u64
  have h1 : (k : Int) ≤ (n : Int) := by omega
  simp [Instr.sliceAt, Instr.slice, Instr.sliceBounds, Instr.sliceBound, run_underlying Try.underlying50, sizeOf, typeInfo, hi, hsize, go_sem, h1, hk]
theorem info_sec : (Try.prog.info? 40).map (·.size) = some 3 := by kernel_rfl
theorem makeL_six (seed : List UInt8) (r c p : Int) : makeL seed r c p 6 = [keysW seed r c p 0, keysW seed r c p 1, keysW seed r c p 2, keysW seed r c p 3, keysW seed r c p 4, keysW seed r c p 5] := rfl
/-- What a row of six of one's own is. -/
theorem own_six {w : World} {B : Nat} {a : Option Addr} {c : Nat} {k0 k1 k2 k3 k4 k5 : Int} (h : OwnU w B (.slice a 6 c) [k0, k1, k2, k3, k4, k5]) :
    ∃ g cur, a = some ⟨g, 0, none⟩ ∧ B ≤ g ∧ 6 ≤ c ∧ c ≤ 9223372036854775807 ∧ Blk w g cur 24 ∧ cur[0]? = some (UV k0) ∧ cur[1]? = some (UV k1) ∧ cur[2]? = some (UV k2) ∧ cur[3]? = some (UV k3) ∧ cur[4]? = some (UV k4) ∧ cur[5]? = some (UV k5) := by
  obtain ⟨hl, h⟩ := h
  rcases h with ⟨h, h0⟩ | ⟨g, cap, cur, h, hg, hh, hn, hm, hs, hx⟩
  · simp at h0
  · injection h with h1 h2 h3
    subst h3
    have hX : ∀ i, i < 6 → cur[i]? = ([k0, k1, k2, k3, k4, k5].map UV)[i]? := by
      intro i hi
      rw [← hx, List.getElem?_take_of_lt (by simpa using hi), Array.getElem?_toList]
    exact ⟨g, cur, h1, hg, by simpa using hn, by unfold maxLen at hm; omega, hh, hX 0 (by decide), hX 1 (by decide), hX 2 (by decide), hX 3 (by decide), hX 4 (by decide), hX 5 (by decide)⟩
theorem results_row_tmp {P : Program} {fn : Func} {p u : Tmp} {ty : TypeId} (h : fn.results = #[.cell p ty, .tmp u]) (tmps : Array Value) (w : World) (g : Nat) (t : TypeId) (cs : Array Value) (d : TypeDesc) (v : Value)
    (hp : tmps.getD p undef = .pointer (some ⟨g, 0, none⟩)) (hv : tmps.getD u undef = v) (hg : Blk w g cs t)
    (hu : P.underlying ty = some d) (hd : (match d with | .struct _ | .array _ _ => true | _ => false) = true) (hi : (P.info? ty).map (·.size) = some cs.size) :
    (results fn tmps).run P w = .ok (.tuple #[.agg cs, v]) w := by
  rw [results_cell_tmp h, hp, hv]
  have := run_loadVar_row w g t ty cs (0, 0) d hg hu hd hi
  simp [asAddr, this, Result.andThen]
def MakeRel (w : World) (seed : List UInt8) (r c p : Int) (g : Nat) (l i : Value) (wr : World) : Prop :=
  ∃ n : Nat, n ≤ 6 ∧ i = .int .i64 n ∧ OwnU wr w.heap.size l (makeL seed r c p n) ∧ StrB g seed (namesL keysS [r, c, p]) n wr ∧ Blk wr (w.heap.size + 1) #[.int .u64 0, .int .u64 0, .int .u64 0] 40 ∧ Below w.heap.size w wr
/-- A row's block has the type t. -/
def RowT (w : World) (row : Option Nat) (t : TypeId) : Prop := ∀ g, row = some g → ∃ cs fr, w.heap[g]? = some (.cells cs t fr)
theorem RowT.own {w : World} {B : Nat} {e : TypeId} {sz : Nat} {v : Value} {n : Nat} {xs : List Value} (h : w.ownsRow B e sz v n xs) : RowT w v.ownBlock e := fun g hg => by
  rcases h.2 with ⟨rfl, _⟩ | ⟨g', cap, cur, rfl, _, hh, _⟩
  · cases hg
  · cases hg; exact ⟨_, _, hh⟩
theorem RowT.blk {w : World} {g : Nat} {cs : Array Value} {t : TypeId} (h : Blk w g cs t) : RowT w (some g) t := fun g' hg => by cases hg; exact ⟨_, _, h⟩
theorem RowT.ne {w : World} {r r' : Option Nat} {t t' : TypeId} (h : RowT w r t) (h' : RowT w r' t') (hne : t ≠ t') (g : Nat) (hg : r = some g) : some g ≠ r' := fun e => by
  obtain ⟨cs, fr, e1⟩ := h g hg
  obtain ⟨cs', fr', e2⟩ := h' g e.symm
  rw [e1] at e2
  injection e2 with e3
  injection e3 with _ e4 _
  exact hne e4
/-- Numbers seen, in a block of numbers. -/
def SeesV (w : World) (u : Value) (l : List Int) : Prop := SeesU w u l ∧ RowT w u.ownBlock 24
theorem SeesV.below {w w' : World} {u : Value} {l : List Int} (h : SeesV w u l) (hb : Below w.heap.size w w') : SeesV w' u l :=
  ⟨h.1.below hb (by decide), fun g hg => by obtain ⟨cs, fr, e⟩ := h.2 g hg; exact ⟨cs, fr, (hb.block g (lt_of_block e)).trans e⟩⟩
theorem SeesV.grown {w w' : World} {u : Value} {l : List Int} {row : Option Nat} {t : TypeId} (h : SeesV w u l) (hg : w.grownBy w' row) (hr : RowT w row t) (hne : 24 ≠ t) : SeesV w' u l := by
  have hn := h.2.ne hr hne
  refine ⟨h.1.grownBy hg (by decide) ?_, fun g hu => ?_⟩
  · cases hb : u.ownBlock with
    | none => exact .inl rfl
    | some g => exact .inr (hn g hb)
  · obtain ⟨cs, fr, e⟩ := h.2 g hu
    exact ⟨cs, fr, (hg.block g (lt_of_block e) (hn g hu)).trans e⟩
/-- What Make hands back. -/
def RetM (s : Sec) (d : List Int) (w : World) (e : Ending) (w' : World) : Prop := ∃ v, e = .returned (.tuple #[SecV s, v]) ∧ SeesV w' v d ∧ Below w.heap.size w w'

set_option maxRecDepth 100000 in
set_option maxHeartbeats 2000000 in
theorem Maker_any (seed : List UInt8) (r c p : Int) (w : World) (h32 : seed.length = 32) (hr : inI r) (hc : inI c) (hp : inI p) :
    Calls Try.prog 74 #[.agg (keyA seed), .int .i64 r, .int .i64 c, .int .i64 p] w (RetM (makeS seed r c p) (makeD seed r c p) w) := by
  have HK := Lib.hid h32; clear h32
  have hnl := length_namesL keysS [r, c, p] (by intro n hn; simp at hn; rcases hn with rfl | rfl | rfl <;> assumption)
  have HIN := Lib.hid (show ∀ n ∈ [r, c, p], inI n by intro n hn; simp at hn; rcases hn with rfl | rfl | rfl <;> assumption)
  have hk0 := Lib.hid ((Blk.new w (keyA seed) 23).alloc (.cells #[.int .u64 0, .int .u64 0, .int .u64 0] 40))
  have hs0 := Lib.hid (Blk.new2 w (.cells (keyA seed) 23) #[.int .u64 0, .int .u64 0, .int .u64 0] 40)
  have hb0 := Lib.hid (show Below w.heap.size w ((w.alloc (.cells (keyA seed) 23)).alloc (.cells #[.int .u64 0, .int .u64 0, .int .u64 0] 40)) by go_grown)
  go_enter Try.func74, Try.ntmps74
  go_wp2_with fail
  have HNM := Lib.hid hnl; clear hnl
  obtain ⟨nm, hnm⟩ : ∃ nm, namesL keysS [r, c, p] = nm := ⟨_, rfl⟩
  have HN := Lib.hid hnm
  rw [hnm] at HNM
  clear hnm
  have hstab := (Stab.and (Stab.blk w.heap.size (keyA seed) 23) (Stab.blk (w.heap.size + 1) #[.int .u64 0, .int .u64 0, .int .u64 0] 40))
  have hk : HoldT (fun u => Blk u w.heap.size (keyA seed) 23 ∧ Blk u (w.heap.size + 1) #[.int .u64 0, .int .u64 0, .int .u64 0] 40) w _ := HoldT.drew hstab ⟨⟨hk0.out, hs0.out⟩, hb0.out⟩
  have hlit := Lib.hid (show SeesI _ (.slice (some ⟨w.heap.size + 1 + 1, 0, none⟩) 3 3) [r, c, p] from sees_block (Blk.drew (Blk.new3 w (.cells (keyA seed) 23) (.cells #[.int .u64 0, .int .u64 0, .int .u64 0] 40) #[IV r, IV c, IV p] 3)) 1 3 rfl (by decide))
  try change Code.wp _ _ _ (Act.mk _ _) _
  haveI hne_ : Nonempty (InC (fun u => Blk u w.heap.size (keyA seed) 23 ∧ Blk u (w.heap.size + 1) #[.int .u64 0, .int .u64 0, .int .u64 0] 40)) := ⟨⟨_, (hk).1⟩⟩
  refine wp_region_tr (C := fun w_ => ∃ e_ : InC (fun u => Blk u w.heap.size (keyA seed) 23 ∧ Blk u (w.heap.size + 1) #[.int .u64 0, .int .u64 0, .int .u64 0] 40), w_ = e_.u) (.step [0, 1, 2, 3] (.alt 4 (.step [] (.alt 5 (.step [] (.alt 6 (.fin [7]) .nil)) .nil)) .nil)) (by kernel_rfl) (by kernel_rfl) (fun _ _ _ _ hd_ h_ => ⟨hd_.symm.trans h_.1, h_.2⟩) ⟨⟨World.drew _, (hk).1⟩, rfl⟩ ?_
  have hk_ := hk
  refine wpTr_step ?_
  simp only [pickOps, List.flatMap_cons, List.flatMap_nil, List.drop_succ_cons, List.drop_zero, List.take_succ_cons, List.take_zero, List.cons_append, List.nil_append, List.append_nil]
  iterate 4 (first | ((refine wpQuiet_load_row rfl 23 _ rfl w.heap.size rfl _ (keyA seed) (0, 0) _ (fun w_ hw_ => by obtain ⟨e_, rfl⟩ := hw_; exact e_.has.1) under_key rfl (by rw [keyA_size, HK.out]; exact info_key) ?_; simp only [Act.put, List.setIfInBounds_toArray, List.set_cons_succ, List.set_cons_zero])) | go_big_quiet_step (exact rfl))
  refine wpQuiet_nil ?_
  refine wpTr_one ?_
  simp only [pickOps, List.flatMap_cons, List.flatMap_nil, List.drop_succ_cons, List.drop_zero, List.take_succ_cons, List.take_zero, List.cons_append, List.nil_append, List.append_nil]
  go_wp2_with (first
    | (go_at_call 101; refine (names_any keysS [r, c, p] _ _ hlit.out HIN.out (by decide) (by show 3 ≤ 100; decide)).mono ?_; rintro e y1 ⟨rfl, rfl⟩; rw [HN.out])
    | (go_at_call 100; refine (NewStreamr_any seed nm _ HK.out).mono ?_; rintro e y2 ⟨g, rfl, hst, hgl, hb2⟩; have hlg : w.heap.size + 1 < g := Nat.lt_of_lt_of_le (Blk.lt hk_.has.2) hgl; have hk2 := HoldT.step hstab hk_ hb2))
  refine phPost_hold (by first | with_reducible assumption | exact HoldT.alloc hstab (by with_reducible assumption) _ | exact HoldT.alloc hstab (HoldT.alloc hstab (by with_reducible assumption) _) _) ?_
  intro hk_
  refine wpTr_step ?_
  simp only [pickOps, List.flatMap_nil]
  refine wpQuiet_nil ?_
  refine wpTr_one ?_
  simp only [pickOps, List.flatMap_cons, List.flatMap_nil, List.drop_succ_cons, List.drop_zero, List.take_succ_cons, List.take_zero, List.cons_append, List.nil_append, List.append_nil]
  go_wp2_with (first
    | (go_at_call 101; refine (names_any keysS [r, c, p] _ _ hlit.out HIN.out (by decide) (by show 3 ≤ 100; decide)).mono ?_; rintro e y1 ⟨rfl, rfl⟩; rw [HN.out])
    | (go_at_call 100; refine (NewStreamr_any seed nm _ HK.out).mono ?_; rintro e y2 ⟨g, rfl, hst, hgl, hb2⟩; have hlg : w.heap.size + 1 < g := Nat.lt_of_lt_of_le (Blk.lt hk_.has.2) hgl; have hk2 := HoldT.step hstab hk_ hb2))
  refine phPost_hold (by first | with_reducible assumption | exact HoldT.alloc hstab (by with_reducible assumption) _ | exact HoldT.alloc hstab (HoldT.alloc hstab (by with_reducible assumption) _) _) ?_
  intro hk_
  refine wpTr_step ?_
  simp only [pickOps, List.flatMap_nil]
  refine wpQuiet_nil ?_
  refine wpTr_one ?_
  simp only [pickOps, List.flatMap_cons, List.flatMap_nil, List.drop_succ_cons, List.drop_zero, List.take_succ_cons, List.take_zero, List.cons_append, List.nil_append, List.append_nil]
  go_wp2_with (first
    | (go_at_call 101; refine (names_any keysS [r, c, p] _ _ hlit.out HIN.out (by decide) (by show 3 ≤ 100; decide)).mono ?_; rintro e y1 ⟨rfl, rfl⟩; rw [HN.out])
    | (go_at_call 100; refine (NewStreamr_any seed nm _ HK.out).mono ?_; rintro e y2 ⟨g, rfl, hst, hgl, hb2⟩; have hlg : w.heap.size + 1 < g := Nat.lt_of_lt_of_le (Blk.lt hk_.has.2) hgl; have hk2 := HoldT.step hstab hk_ hb2))
  refine phPost_hold (by first | with_reducible assumption | exact HoldT.alloc hstab (by with_reducible assumption) _ | exact HoldT.alloc hstab (HoldT.alloc hstab (by with_reducible assumption) _) _) ?_
  intro hk_
  refine wpTr_fin ?_
  simp only [pickOps, List.flatMap_cons, List.flatMap_nil, List.drop_succ_cons, List.drop_zero, List.take_succ_cons, List.take_zero, List.cons_append, List.nil_append, List.append_nil]
  iterate 1 (first | ((refine wpQuiet_load_row rfl 23 _ rfl w.heap.size rfl _ (keyA seed) (0, 0) _ (fun w_ hw_ => by obtain ⟨e_, rfl⟩ := hw_; exact e_.has.1) under_key rfl (by rw [keyA_size, HK.out]; exact info_key) ?_; simp only [Act.put, List.setIfInBounds_toArray, List.set_cons_succ, List.set_cons_zero])) | go_big_quiet_step (exact rfl))
  refine wpQuiet_nil ?_
  go_wp2_with fail
  have hst0 := Lib.hid (show MakeRel w seed r c p g (.slice none 0 0) (.int .i64 0) y2 from ⟨0, by omega, rfl, ownU_nil _ _, by rw [HN.out]; exact hst, hk_.has.2, hk_.up⟩)
  clear hst hk2
  go_loopw [11, 12] (fun l i wr => MakeRel w seed r c p g l i wr) (fun _ i _ => 6 - (intOf i).toNat)
  case atStart => exact hst0.out
  case round =>
    clear hst0
    obtain ⟨n, hn, rfl, hown, hst, hsec, hbel⟩ := hrel
    rw [HN.out] at hst
    have hlen := length_makeL seed r c p n
    obtain ⟨a1, c1, rfl, hc1, hc1'⟩ := owns_form hown
    by_cases hlt : n < 6
    · have hmod : wordN seed nm n % 2305843009213693950 = keysW seed r c p n := by unfold keysW; rw [HN.out]
      obtain ⟨z0, z1⟩ := wordN_in seed nm n
      obtain ⟨q0, q1⟩ := keysW_pos seed r c p n
      have HSC := makeL_succ seed r c p n
      have hW := Lib.hid (Wordr_any g seed nm n wr hst HK.out (Nat.le_trans HNM.out (by show 4 + 21 * 3 ≤ 10000; decide)) (by omega) (by omega))
      obtain ⟨kw, hkw⟩ : ∃ k, keysW seed r c p n = k := ⟨_, rfl⟩
      rw [hkw] at hmod q0 q1 HSC
      clear hkw
      have HMOD := Lib.hid hmod
      clear hmod
      generalize wordN seed nm n = wd at *
      generalize makeL seed r c p n = ml at *
      have HLN := Lib.hid hlen; clear hlen
      have hne1 := own_ne hown hst (by decide)
      have HOWN := Lib.hid hown
      clear hown
      go_wp2_with (first
        | (go_at_call 102; refine hW.out.mono ?_; rintro e x1 ⟨rfl, hst1, hg1⟩
           have hown1 := HOWN.out.kept hg1 (Or.inr hne1)
           have hsec1 := hsec.grownBy hg1 (some_ne (by omega))
           have hbel1 := hbel.grown hg1 hbel.size (fun k hk => by cases hk; omega)
           clear hg1)
        | (at_builtin; refine appU (W := w) rfl _ _ rfl _ ml rfl (hown1.alloc _) _ [wd % 2305843009213693950] rfl (seesU_lit1 _ (wd % 2305843009213693950) _) (by rw [HLN.out]; simp only [List.length_cons, List.length_nil]; omega) (hbel1.alloc hbel1.size _) ?_; intro v2 w2 hown2 hg2 hb2
           have hst2 := (hst1.alloc (.cells #[.int .u64 (wd % 2305843009213693950)] 24)).grownBy hg2 (fun e => own_ne hown1 hst1 (by decide) e.symm)
           have hsec2 := (hsec1.alloc (.cells #[.int .u64 (wd % 2305843009213693950)] 24)).grownBy hg2 (fun e => own_ne hown1 hsec1 (by decide) e.symm)
           rw [HMOD.out] at hown2
           clear hg2))
      go_roundw
      case rel => exact ⟨n + 1, by omega, by go_num, by rw [HSC]; exact hown2, by rw [HN.out, show ((n + 1 : Nat) : Int) = (n : Int) + 1 from by omega]; exact hst2, hsec2, hb2⟩
      case measure => simp [intOf]; omega
    · obtain rfl : n = 6 := by omega
      have h6 := makeL_six seed r c p
      rw [h6] at hown
      clear hlt hlen hn hst
      obtain ⟨s1, s2⟩ : makeS seed r c p = ⟨keysW seed r c p 0, keysW seed r c p 1, keysW seed r c p 2⟩ ∧ makeD seed r c p = [keysW seed r c p 3, keysW seed r c p 4, keysW seed r c p 5] := ⟨rfl, rfl⟩
      rw [h6]
      clear h6
      generalize keysW seed r c p 0 = k0 at *
      generalize keysW seed r c p 1 = k1 at *
      generalize keysW seed r c p 2 = k2 at *
      generalize keysW seed r c p 3 = k3 at *
      generalize keysW seed r c p 4 = k4 at *
      generalize keysW seed r c p 5 = k5 at *
      have HS1 := Lib.hid s1
      have HS2 := Lib.hid s2
      clear s1 s2
      have hGne := own_ne hown hsec (by decide)
      obtain ⟨G, cur, rfl, hGB, h6c, hcm, hG, c0, c1', c2, c3, c4, c5⟩ := own_six hown
      have hGn : G ≠ w.heap.size + 1 := fun e => hGne (by rw [e]; rfl)
      have hstab := Stab.blk G cur 24
      have hkz : HoldT (fun u => Blk u G cur 24) w wr.drew := HoldT.drew hstab ⟨hG, hbel⟩
      have hsec0 := hsec.drew
      have hS0 : ∀ e : InC (fun u => Blk u G cur 24), e.u.cell? ⟨G, 0, none⟩ = some (.int .u64 k0) := fun e => by rw [e.has.cell]; exact c0
      have hS1 : ∀ e : InC (fun u => Blk u G cur 24), e.u.cell? ⟨G, 1, none⟩ = some (.int .u64 k1) := fun e => by rw [e.has.cell]; exact c1'
      have hS2 : ∀ e : InC (fun u => Blk u G cur 24), e.u.cell? ⟨G, 2, none⟩ = some (.int .u64 k2) := fun e => by rw [e.has.cell]; exact c2
      have hsl := fun W => run_sliceU_from (some ⟨G, 0, none⟩) 6 c1 3 (by decide) W
      clear hlit hk hown hsec
      go_wp2_with fail
      try change Code.wp _ _ _ (Act.mk _ _) _
      haveI hne_ : Nonempty (InC (fun u => Blk u G cur 24)) := ⟨⟨_, (hkz).1⟩⟩
      refine wp_region_tr (C := fun w_ => ∃ e_ : InC (fun u => Blk u G cur 24), w_ = e_.u) (.step [0, 1, 2, 3, 4, 5, 6, 7, 8, 10, 11] (.alt 9 (.step [] (.alt 12 (.fin [13]) .nil)) .nil)) (by kernel_rfl) (by kernel_rfl) (fun _ _ _ _ hd_ h_ => ⟨hd_.symm.trans h_.1, h_.2⟩) ⟨⟨World.drew _, (hkz).1⟩, rfl⟩ ?_
      have hk_ := hkz
      refine wpTr_step ?_
      simp only [pickOps, List.flatMap_cons, List.flatMap_nil, List.drop_succ_cons, List.drop_zero, List.take_succ_cons, List.take_zero, List.cons_append, List.nil_append, List.append_nil]
      iterate 11 (go_big_quiet_step (exact rfl))
      refine wpQuiet_nil ?_
      refine wpTr_one ?_
      simp only [pickOps, List.flatMap_cons, List.flatMap_nil, List.drop_succ_cons, List.drop_zero, List.take_succ_cons, List.take_zero, List.cons_append, List.nil_append, List.append_nil]
      go_wp2_with (first
      | (refine wpList_store_row rfl 40 _ _ rfl (w.heap.size + 1) #[.int .u64 k0, .int .u64 k1, .int .u64 k2] _ _ rfl rfl hsec0 rfl info_sec (by intro v hv; simp at hv; rcases hv with rfl | rfl | rfl <;> rfl) ?_; intro x7 hg7 hs7 hR7
         have hG7 := hk_.has.grownBy hg7 (some_ne hGn)
         have hup7 := hk_.up.grown hg7 hk_.up.size (fun k hk => by cases hk; omega)
         have hk7 : HoldT (fun u => Blk u G cur 24) w x7 := ⟨hG7, hup7⟩))
      refine phPost_hold (by first | with_reducible assumption | exact HoldT.alloc hstab (by with_reducible assumption) _ | exact HoldT.alloc hstab (HoldT.alloc hstab (by with_reducible assumption) _) _) ?_
      intro hk_
      refine wpTr_step ?_
      simp only [pickOps, List.flatMap_nil]
      refine wpQuiet_nil ?_
      refine wpTr_one ?_
      simp only [pickOps, List.flatMap_cons, List.flatMap_nil, List.drop_succ_cons, List.drop_zero, List.take_succ_cons, List.take_zero, List.cons_append, List.nil_append, List.append_nil]
      go_wp2_with (first
      | (refine wpList_store_row rfl 40 _ _ rfl (w.heap.size + 1) #[.int .u64 k0, .int .u64 k1, .int .u64 k2] _ _ rfl rfl hsec0 rfl info_sec (by intro v hv; simp at hv; rcases hv with rfl | rfl | rfl <;> rfl) ?_; intro x7 hg7 hs7 hR7
         have hG7 := hk_.has.grownBy hg7 (some_ne hGn)
         have hup7 := hk_.up.grown hg7 hk_.up.size (fun k hk => by cases hk; omega)
         have hk7 : HoldT (fun u => Blk u G cur 24) w x7 := ⟨hG7, hup7⟩))
      refine phPost_hold (by first | with_reducible assumption | exact HoldT.alloc hstab (by with_reducible assumption) _ | exact HoldT.alloc hstab (HoldT.alloc hstab (by with_reducible assumption) _) _) ?_
      intro hk_
      refine wpTr_fin ?_
      simp only [pickOps, List.flatMap_cons, List.flatMap_nil, List.drop_succ_cons, List.drop_zero, List.take_succ_cons, List.take_zero, List.cons_append, List.nil_append, List.append_nil]
      iterate 1 (go_big_quiet_step (exact rfl))
      refine wpQuiet_nil ?_
      go_wp2_with fail
      have h3 : cur.size ≥ 6 := by rcases Nat.lt_or_ge 5 cur.size with h | h; exact h; rw [Array.getElem?_eq_none h] at c5; cases c5
      have hend : SeesU x7 (.slice (some ⟨G, 3, none⟩) 3 (c1 - 3)) [k3, k4, k5] := ⟨rfl, some ⟨G, 3, none⟩, c1 - 3, rfl, by simp; omega, by unfold maxLen; omega, fun h => (by cases h), fun _ => ⟨G, 3, rfl, fun j u hj => by
        rw [hk_.has.cell]
        match j, hj with
        | 0, hj => rw [c3]; exact hj
        | 1, hj => rw [c4]; exact hj
        | 2, hj => rw [c5]; exact hj⟩⟩
      go_wp2_with fail
      refine bodyPost_ret (results_row_tmp Try.results74 _ _ (w.heap.size + 1) _ _ _ _ rfl rfl hR7 Try.underlying40 rfl info_sec) rfl ?_
      rw [HS1.out, HS2.out]
      exact ⟨.slice (some ⟨G, 3, none⟩) 3 (c1 - 3), rfl, ⟨hend, fun g' hg' => by cases hg'; exact ⟨_, _, hk_.has⟩⟩, hk_.up⟩
end Go.Proofs.Yteialfdhbfbkgaa
