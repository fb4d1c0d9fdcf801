/-
  Streams: words of the reference.
-/
import Derived.Test.YteialfdhbfbkgaaStrm1
namespace Go.Proofs.Yteialfdhbfbkgaa
set_option linter.unusedVariables false
set_option linter.unusedSimpArgs false
open Go Go.RowKit

theorem wpList_build2 {P : Program} {ops : Array Oper} {rest : List Oper} {o : Oper} {a : Act} {w : World} {Q : Exit → Act → World → Prop} (hgd : o.guard = none) (ty : TypeId) (i j : Nat) (x y : Operand) (ho : o.op = .build ty #[(i, x), (j, y)])
    (u v r : Value) (hx : a.eval x = u) (hy : a.eval y = v) (hrun : (Instr.build ty #[(i, u), (j, v)]).run P w = .ok r w) (h : wpList P ops Q rest (a.put o.dst r) w) : wpList P ops Q (o :: rest) a w := by
  refine wpList_plain hgd fun K hK => ?_
  unfold Oper.wp
  simp only [execOp, ho, List.map_toArray, List.map_cons, List.map_nil, hx, hy, Sem.run_bind, hrun, Result.andThen_ok, Sem.run_pure]
  exact hK _ _ h
theorem wpList_boxB {P : Program} {ops : Array Oper} {rest : List Oper} {o : Oper} {a : Act} {w : World} {Q : Exit → Act → World → Prop} (hgd : o.guard = none) (ty : TypeId) (x : Operand) (ho : o.op = .box ty x) (cs : Array Value) (hx : a.eval x = .agg cs)
    (hrun : (Instr.box ty (.agg cs)).run P w = .ok (.pointer (some ⟨w.heap.size, 0, none⟩)) (w.alloc (.cells cs ty)))
    (h : ∀ w' B, Blk w' B cs ty → w.heap.size ≤ B → Ext w w' → wpList P ops Q rest (a.put o.dst (.pointer (some ⟨B, 0, none⟩))) w') : wpList P ops Q (o :: rest) a w := by
  refine wpList_plain hgd fun K hK => ?_
  unfold Oper.wp
  simp only [execOp, ho, hx, Sem.run_bind, hrun, Result.andThen_ok, Sem.run_pure]
  exact hK _ _ (h _ _ (Blk.new _ _ _) (Nat.le_refl _) (Ext.alloc _ _))
theorem run_boxS (cs : Array Value) (W : World) : (Instr.box 121 (.agg cs)).run Try.prog W = .ok (.pointer (some ⟨W.heap.size, 0, none⟩)) (W.alloc (.cells cs 121)) := by
  simp [go_sem]
theorem fill_at : ∀ (cs base : List Value) (k : Nat), k + cs.length ≤ base.length →
    (cs.zipIdx k).foldl (fun (acc : Array Value) x => acc.setIfInBounds x.2 x.1) base.toArray = (base.take k ++ cs ++ base.drop (k + cs.length)).toArray
  | [], base, k, _ => by simp
  | c :: cs, base, k, h => by
    simp only [List.length_cons] at h
    rw [List.zipIdx_cons, List.foldl_cons, List.setIfInBounds_toArray, fill_at cs (base.set k c) (k + 1) (by simp; omega)]
    congr 1
    have e1 : (base.set k c).take (k + 1) = base.take k ++ [c] := by
      rw [List.take_set, List.take_succ_eq_append_getElem (by omega)]
      rw [List.set_append_right _ _ (by simp; omega)]
      simp [Nat.min_eq_left (show k ≤ base.length by omega)]
    have e2 : (base.set k c).drop (k + 1 + cs.length) = base.drop (k + (c :: cs).length) := by
      rw [List.drop_set, if_pos (by omega)]; congr 1; simp; omega
    rw [e1, e2]; simp
theorem run_buildStrm (seed name : List UInt8) (h32 : seed.length = 32) (W : World) : (Instr.build 121 #[(0, .agg (keyA seed)), (1, strL name)]).run Try.prog W = .ok (.agg (strmC seed name 0)) W := by
  have hs : (keyA seed).size = 32 := by rw [keyA_size, h32]
  have hf : ∀ base : List Value, base.length = 34 → Array.foldl (fun (cs : Array Value) (x : Value × Nat) => cs.setIfInBounds x.snd x.fst) base.toArray (keyA seed).zipIdx 0 32 = (seed.map BV ++ base.drop 32).toArray := fun base hb => by
    have h1 := fill_at (seed.map BV) base 0 (by simp; omega)
    rw [Nat.zero_add, List.length_map, h32, List.take_zero, List.nil_append] at h1
    rw [← h1]
    unfold keyA
    have hz : ((List.map BV seed).toArray.zipIdx).size = 32 := by simp [h32]
    have h2 := Array.foldl_toList (f := fun (cs : Array Value) (x : Value × Nat) => cs.setIfInBounds x.snd x.fst) (init := base.toArray) (xs := (List.map BV seed).toArray.zipIdx)
    rw [hz] at h2
    rw [← h2, Array.toList_zipIdx]
  simp [go_sem, hs]
  rw [hf _ rfl]
  simp [strmC, h32]

set_option maxRecDepth 100000 in
set_option maxHeartbeats 1000000 in
theorem NewStreamr_any (seed name : List UInt8) (w : World) (h32 : seed.length = 32) :
    Calls Try.prog 100 #[.agg (keyA seed), strL name] w fun e w' => ∃ g, e = .returned (.pointer (some ⟨g, 0, none⟩)) ∧ StrB g seed name 0 w' ∧ w.heap.size ≤ g ∧ Below w.heap.size w w' := by
  have HK := Lib.hid h32; clear h32
  go_enter Try.func100, Try.ntmps100
  go_wp2_with (first
    | (refine wpList_boxB rfl 121 _ rfl (strmC seed name 0) rfl (run_boxS _ _) ?_; intro x1 B1 hb1 hB1 e1)
    | (refine wpList_build2 rfl 121 0 1 _ _ rfl (.agg (keyA seed)) (strL name) (.agg (strmC seed name 0)) rfl rfl (run_buildStrm seed name HK.out _) ?_)
    | (refine wpList_load_row rfl 23 _ rfl w.heap.size rfl _ _ (0, 0) _ (Blk.new w _ _) under_key rfl (by rw [keyA_size, HK.out]; exact info_key) ?_))
  go_ret
  exact ⟨B1, rfl, hb1, by simp only [World.size_alloc] at hB1; omega, (Ext.alloc w _).tr e1⟩

abbrev KE2 (B : Nat) (key : List UInt8) (u : World) : Prop := Blk u B (keyA key) 23
theorem owns_one {w : World} {B : Nat} {v : Value} {l : List UInt8} (h : OwnB w B v l) : v.oneCell' = true := by
  obtain ⟨a, c, rfl, _⟩ := owns_form h; rfl
/-- Seen in any later world that the context reaches. -/
theorem exB {w w' : World} {v : Value} {l : List UInt8} (h : SeesB w v l) (e : Ext w w' := by first | with_reducible exact Ext.refl _ | solve_by_elim (maxDepth := 30) [Ext.tr]) : SeesB w' v l := h.below e (by decide)
theorem exBB {w w' : World} {v : Value} {l : List (List UInt8)} (h : SeesBB w v l) (e : Ext w w' := by first | with_reducible exact Ext.refl _ | solve_by_elim (maxDepth := 30) [Ext.tr]) : SeesBB w' v l := h.below e
theorem exK {w w' : World} {g : Nat} {cs : Array Value} {t : TypeId} (h : Blk w g cs t) (e : Ext w w' := by first | with_reducible exact Ext.refl _ | solve_by_elim (maxDepth := 30) [Ext.tr]) : Blk w' g cs t := h.below e
set_option maxRecDepth 100000 in
set_option maxHeartbeats 4000000 in
theorem Wordr_any (g : Nat) (seed name : List UInt8) (i : Int) (w : World) (hB : StrB g seed name i w) (h32 : seed.length = 32) (hn : name.length ≤ 10000) (hi0 : 0 ≤ i) (hi : i ≤ 1000000000) :
    Calls Try.prog 102 #[.pointer (some ⟨g, 0, none⟩)] w fun e w' => e = .returned (.int .u64 (wordN seed name i)) ∧ StrB g seed name (i + 1) w' ∧ w.grownBy w' (some g) := by
  have HK := Lib.hid h32
  obtain ⟨S, hS⟩ : ∃ S, parts [seed, name, put64 (i / 4).toNat] = S := ⟨_, rfl⟩
  have HW := Lib.hid (show wordN seed name i = beN ((S.drop (8 * (i % 4)).toNat).take 8) by rw [← hS]; rfl)
  have hSL : S.length = 32 := by rw [← hS]; exact length_parts _
  have HS := Lib.hid hS; have HSL := Lib.hid hSL; clear hS hSL
  obtain ⟨W0, W1⟩ := wordN_in seed name i
  generalize wordN seed name i = WD at *
  have HFL : Hid ((flatP [seed, name, put64 (i / 4).toNat]).length ≤ 70368744177000) := by
    show _ ≤ _
    simp only [flatP, List.flatMap_cons, List.flatMap_nil, List.length_append, length_put64, List.length_nil, h32]
    omega
  have hstab := stabStrB g seed name i
  have hk : HoldT (StrB g seed name i) w w.drew := ⟨hB.drew, Below.drew (Below.refl _ _)⟩
  have hS0 : ∀ e : InC (StrB g seed name i), e.u.cell? ⟨g, 32, none⟩ = some (strL name) := fun e => strm_name e.has h32
  have hS1 : ∀ e : InC (StrB g seed name i), e.u.cell? ⟨g, 33, none⟩ = some (.int .u64 i) := fun e => strm_i e.has h32
  clear h32
  go_enter Try.func102, Try.ntmps102
  go_wp2_with fail
  try change Code.wp _ _ _ (Act.mk _ _) _
  haveI hne_ : Nonempty (InC (StrB g seed name i)) := ⟨⟨_, (hk).1⟩⟩
  refine wp_region_tr (C := fun w_ => ∃ e_ : InC (StrB g seed name i), w_ = e_.u) (.step [0, 1, 2, 3, 5, 6, 7, 8, 10, 11, 12, 13, 14] (.alt 4 (.step [] (.alt 9 (.step [] (.alt 15 (.step [] (.alt 16 (.step [] (.alt 17 (.step [] (.alt 18 (.step [] (.alt 19 (.fin []) .nil)) .nil)) (.alt 18 (.step [] (.alt 17 (.step [] (.alt 19 (.fin []) .nil)) .nil)) .nil))) (.alt 18 (.step [] (.alt 16 (.step [] (.alt 17 (.step [] (.alt 19 (.fin []) .nil)) .nil)) .nil)) .nil))) (.alt 18 (.step [] (.alt 15 (.step [] (.alt 16 (.step [] (.alt 17 (.step [] (.alt 19 (.fin []) .nil)) .nil)) .nil)) .nil)) .nil))) (.alt 15 (.step [] (.alt 9 (.step [] (.alt 16 (.step [] (.alt 17 (.step [] (.alt 18 (.step [] (.alt 19 (.fin []) .nil)) .nil)) (.alt 18 (.step [] (.alt 17 (.step [] (.alt 19 (.fin []) .nil)) .nil)) .nil))) (.alt 18 (.step [] (.alt 16 (.step [] (.alt 17 (.step [] (.alt 19 (.fin []) .nil)) .nil)) .nil)) .nil))) (.alt 18 (.step [] (.alt 9 (.step [] (.alt 16 (.step [] (.alt 17 (.step [] (.alt 19 (.fin []) .nil)) .nil)) .nil)) .nil)) .nil))) (.alt 18 (.step [] (.alt 9 (.step [] (.alt 15 (.step [] (.alt 16 (.step [] (.alt 17 (.step [] (.alt 19 (.fin []) .nil)) .nil)) .nil)) .nil)) (.alt 15 (.step [] (.alt 9 (.step [] (.alt 16 (.step [] (.alt 17 (.step [] (.alt 19 (.fin []) .nil)) .nil)) .nil)) .nil)) .nil))) .nil)))) (.alt 9 (.step [] (.alt 4 (.step [] (.alt 15 (.step [] (.alt 16 (.step [] (.alt 17 (.step [] (.alt 18 (.step [] (.alt 19 (.fin []) .nil)) .nil)) (.alt 18 (.step [] (.alt 17 (.step [] (.alt 19 (.fin []) .nil)) .nil)) .nil))) (.alt 18 (.step [] (.alt 16 (.step [] (.alt 17 (.step [] (.alt 19 (.fin []) .nil)) .nil)) .nil)) .nil))) (.alt 18 (.step [] (.alt 15 (.step [] (.alt 16 (.step [] (.alt 17 (.step [] (.alt 19 (.fin []) .nil)) .nil)) .nil)) .nil)) .nil))) (.alt 18 (.step [] (.alt 4 (.step [] (.alt 15 (.step [] (.alt 16 (.step [] (.alt 17 (.step [] (.alt 19 (.fin []) .nil)) .nil)) .nil)) .nil)) .nil)) .nil))) (.alt 18 (.step [] (.alt 4 (.step [] (.alt 9 (.step [] (.alt 15 (.step [] (.alt 16 (.step [] (.alt 17 (.step [] (.alt 19 (.fin []) .nil)) .nil)) .nil)) .nil)) (.alt 15 (.step [] (.alt 9 (.step [] (.alt 16 (.step [] (.alt 17 (.step [] (.alt 19 (.fin []) .nil)) .nil)) .nil)) .nil)) .nil))) (.alt 9 (.step [] (.alt 4 (.step [] (.alt 15 (.step [] (.alt 16 (.step [] (.alt 17 (.step [] (.alt 19 (.fin []) .nil)) .nil)) .nil)) .nil)) .nil)) .nil))) .nil)))) (by kernel_rfl) (by kernel_rfl) (fun _ _ _ _ hd_ h_ => ⟨hd_.symm.trans h_.1, h_.2⟩) ⟨⟨World.drew _, (hk).1⟩, rfl⟩ ?_
  have hk_ := hk
  refine wpTr_step ?_
  simp only [pickOps, List.flatMap_cons, List.flatMap_nil, List.drop_succ_cons, List.drop_zero, List.take_succ_cons, List.take_zero, List.cons_append, List.nil_append, List.append_nil]
  iterate 13 (go_big_quiet_step (exact rfl))
  refine wpQuiet_nil ?_
  refine wpTr_alt ?_ ?_
  focus
    simp only [pickOps, List.flatMap_cons, List.flatMap_nil, List.drop_succ_cons, List.drop_zero, List.take_succ_cons, List.take_zero, List.cons_append, List.nil_append, List.append_nil]
    go_wp2_with (first
    | (at_builtin; refine appB (W := w) rfl _ _ rfl (.slice none 0 0) [] rfl (ownB_nil _ _) _ seed rfl (strm_seed hk_.has HK.out) (by rw [HK.out, List.length_nil]; decide) hk_.up ?_; intro v1 x1 hown1 hg1 hb1; rw [List.nil_append] at hown1; have e1 := ext_none hg1; clear hg1; have hk1 := HoldT.step hstab hk_ e1)
    | (refine wpList_strB rfl _ rfl name rfl (by omega) ?_; intro x2 v2 hs2 ho2 e2; have hk2 := HoldT.step hstab hk_ e2)
    | (go_at_call 71; refine (Put64r_any _ _ [] (i / 4) (Sees.nil _ _) (by omega) (by omega) (by decide)).mono ?_; rintro e x3 ⟨v3, rfl, hown3, hb3⟩; rw [List.nil_append] at hown3; have e3 : Ext _ x3 := hb3; have hk3 := HoldT.step hstab hk_ e3)
    | (refine wpList_allocB rfl _ rfl _ run_allocKey ?_; intro x4 B4 hh hB4 e4; have hlt4 : g < B4 := Nat.lt_of_lt_of_le (Blk.lt hk_.has) hB4; have hlw4 : w.heap.size ≤ B4 := Nat.le_trans hk_.up.size hB4; have hk4 := HoldT.step hstab hk_ e4)
    | (refine wpList_lit3 rfl _ _ _ rfl _ _ _ seed name (put64 (i / 4).toNat) rfl rfl rfl (owns_one hown1) ho2 (owns_one hown3) (exB (sees_of_owns hown1)) (exB hs2) (exB (sees_of_owns hown3)) ?_; intro x5 B5 hbb e5; have hk5 := HoldT.step hstab hk_ e5)
    | (go_at_call 60; refine (Partsr_any _ _ [seed, name, put64 (i / 4).toNat] (exBB hbb) HFL.out).mono ?_; rintro e x6 ⟨rfl, hb6⟩; rw [HS.out]; have e6 : Ext _ x6 := hb6; have hk6 := HoldT.step hstab hk_ e6)
    | (refine wpList_store_row rfl 23 _ _ rfl B4 (keyA S) _ _ rfl rfl (exK hh) (by rw [keyA_size, keyA_size, HSL.out]; rfl) (by rw [keyA_size, HSL.out]; exact info_key) (keyA_one _) ?_; intro x7 hg7 hs7 hR7
       have hk7 : HoldT (StrB g seed name i) w x7 := ⟨Blk.grownBy hk_.has hg7 (some_ne (by omega)), hk_.up.grown hg7 hk_.up.size (fun k hk => by cases hk; exact hlw4)⟩))
    refine phPost_hold (by first | with_reducible assumption | exact HoldT.alloc hstab (by with_reducible assumption) _ | exact HoldT.alloc hstab (HoldT.alloc hstab (by with_reducible assumption) _) _) ?_
    intro hk_
    refine wpTr_step ?_
    simp only [pickOps, List.flatMap_nil]
    refine wpQuiet_nil ?_
    refine wpTr_alt ?_ ?_
    focus
      simp only [pickOps, List.flatMap_cons, List.flatMap_nil, List.drop_succ_cons, List.drop_zero, List.take_succ_cons, List.take_zero, List.cons_append, List.nil_append, List.append_nil]
      go_wp2_with (first
    | (at_builtin; refine appB (W := w) rfl _ _ rfl (.slice none 0 0) [] rfl (ownB_nil _ _) _ seed rfl (strm_seed hk_.has HK.out) (by rw [HK.out, List.length_nil]; decide) hk_.up ?_; intro v1 x1 hown1 hg1 hb1; rw [List.nil_append] at hown1; have e1 := ext_none hg1; clear hg1; have hk1 := HoldT.step hstab hk_ e1)
    | (refine wpList_strB rfl _ rfl name rfl (by omega) ?_; intro x2 v2 hs2 ho2 e2; have hk2 := HoldT.step hstab hk_ e2)
    | (go_at_call 71; refine (Put64r_any _ _ [] (i / 4) (Sees.nil _ _) (by omega) (by omega) (by decide)).mono ?_; rintro e x3 ⟨v3, rfl, hown3, hb3⟩; rw [List.nil_append] at hown3; have e3 : Ext _ x3 := hb3; have hk3 := HoldT.step hstab hk_ e3)
    | (refine wpList_allocB rfl _ rfl _ run_allocKey ?_; intro x4 B4 hh hB4 e4; have hlt4 : g < B4 := Nat.lt_of_lt_of_le (Blk.lt hk_.has) hB4; have hlw4 : w.heap.size ≤ B4 := Nat.le_trans hk_.up.size hB4; have hk4 := HoldT.step hstab hk_ e4)
    | (refine wpList_lit3 rfl _ _ _ rfl _ _ _ seed name (put64 (i / 4).toNat) rfl rfl rfl (owns_one hown1) ho2 (owns_one hown3) (exB (sees_of_owns hown1)) (exB hs2) (exB (sees_of_owns hown3)) ?_; intro x5 B5 hbb e5; have hk5 := HoldT.step hstab hk_ e5)
    | (go_at_call 60; refine (Partsr_any _ _ [seed, name, put64 (i / 4).toNat] (exBB hbb) HFL.out).mono ?_; rintro e x6 ⟨rfl, hb6⟩; rw [HS.out]; have e6 : Ext _ x6 := hb6; have hk6 := HoldT.step hstab hk_ e6)
    | (refine wpList_store_row rfl 23 _ _ rfl B4 (keyA S) _ _ rfl rfl (exK hh) (by rw [keyA_size, keyA_size, HSL.out]; rfl) (by rw [keyA_size, HSL.out]; exact info_key) (keyA_one _) ?_; intro x7 hg7 hs7 hR7
       have hk7 : HoldT (StrB g seed name i) w x7 := ⟨Blk.grownBy hk_.has hg7 (some_ne (by omega)), hk_.up.grown hg7 hk_.up.size (fun k hk => by cases hk; exact hlw4)⟩))
      refine phPost_hold (by first | with_reducible assumption | exact HoldT.alloc hstab (by with_reducible assumption) _ | exact HoldT.alloc hstab (HoldT.alloc hstab (by with_reducible assumption) _) _) ?_
      intro hk_
      refine wpTr_step ?_
      simp only [pickOps, List.flatMap_nil]
      refine wpQuiet_nil ?_
      refine wpTr_alt ?_ ?_
      focus
        simp only [pickOps, List.flatMap_cons, List.flatMap_nil, List.drop_succ_cons, List.drop_zero, List.take_succ_cons, List.take_zero, List.cons_append, List.nil_append, List.append_nil]
        go_wp2_with (first
    | (at_builtin; refine appB (W := w) rfl _ _ rfl (.slice none 0 0) [] rfl (ownB_nil _ _) _ seed rfl (strm_seed hk_.has HK.out) (by rw [HK.out, List.length_nil]; decide) hk_.up ?_; intro v1 x1 hown1 hg1 hb1; rw [List.nil_append] at hown1; have e1 := ext_none hg1; clear hg1; have hk1 := HoldT.step hstab hk_ e1)
    | (refine wpList_strB rfl _ rfl name rfl (by omega) ?_; intro x2 v2 hs2 ho2 e2; have hk2 := HoldT.step hstab hk_ e2)
    | (go_at_call 71; refine (Put64r_any _ _ [] (i / 4) (Sees.nil _ _) (by omega) (by omega) (by decide)).mono ?_; rintro e x3 ⟨v3, rfl, hown3, hb3⟩; rw [List.nil_append] at hown3; have e3 : Ext _ x3 := hb3; have hk3 := HoldT.step hstab hk_ e3)
    | (refine wpList_allocB rfl _ rfl _ run_allocKey ?_; intro x4 B4 hh hB4 e4; have hlt4 : g < B4 := Nat.lt_of_lt_of_le (Blk.lt hk_.has) hB4; have hlw4 : w.heap.size ≤ B4 := Nat.le_trans hk_.up.size hB4; have hk4 := HoldT.step hstab hk_ e4)
    | (refine wpList_lit3 rfl _ _ _ rfl _ _ _ seed name (put64 (i / 4).toNat) rfl rfl rfl (owns_one hown1) ho2 (owns_one hown3) (exB (sees_of_owns hown1)) (exB hs2) (exB (sees_of_owns hown3)) ?_; intro x5 B5 hbb e5; have hk5 := HoldT.step hstab hk_ e5)
    | (go_at_call 60; refine (Partsr_any _ _ [seed, name, put64 (i / 4).toNat] (exBB hbb) HFL.out).mono ?_; rintro e x6 ⟨rfl, hb6⟩; rw [HS.out]; have e6 : Ext _ x6 := hb6; have hk6 := HoldT.step hstab hk_ e6)
    | (refine wpList_store_row rfl 23 _ _ rfl B4 (keyA S) _ _ rfl rfl (exK hh) (by rw [keyA_size, keyA_size, HSL.out]; rfl) (by rw [keyA_size, HSL.out]; exact info_key) (keyA_one _) ?_; intro x7 hg7 hs7 hR7
       have hk7 : HoldT (StrB g seed name i) w x7 := ⟨Blk.grownBy hk_.has hg7 (some_ne (by omega)), hk_.up.grown hg7 hk_.up.size (fun k hk => by cases hk; exact hlw4)⟩))
        refine phPost_hold (by first | with_reducible assumption | exact HoldT.alloc hstab (by with_reducible assumption) _ | exact HoldT.alloc hstab (HoldT.alloc hstab (by with_reducible assumption) _) _) ?_
        intro hk_
        refine wpTr_step ?_
        simp only [pickOps, List.flatMap_nil]
        refine wpQuiet_nil ?_
        refine wpTr_alt ?_ ?_
        focus
          simp only [pickOps, List.flatMap_cons, List.flatMap_nil, List.drop_succ_cons, List.drop_zero, List.take_succ_cons, List.take_zero, List.cons_append, List.nil_append, List.append_nil]
          go_wp2_with (first
    | (at_builtin; refine appB (W := w) rfl _ _ rfl (.slice none 0 0) [] rfl (ownB_nil _ _) _ seed rfl (strm_seed hk_.has HK.out) (by rw [HK.out, List.length_nil]; decide) hk_.up ?_; intro v1 x1 hown1 hg1 hb1; rw [List.nil_append] at hown1; have e1 := ext_none hg1; clear hg1; have hk1 := HoldT.step hstab hk_ e1)
    | (refine wpList_strB rfl _ rfl name rfl (by omega) ?_; intro x2 v2 hs2 ho2 e2; have hk2 := HoldT.step hstab hk_ e2)
    | (go_at_call 71; refine (Put64r_any _ _ [] (i / 4) (Sees.nil _ _) (by omega) (by omega) (by decide)).mono ?_; rintro e x3 ⟨v3, rfl, hown3, hb3⟩; rw [List.nil_append] at hown3; have e3 : Ext _ x3 := hb3; have hk3 := HoldT.step hstab hk_ e3)
    | (refine wpList_allocB rfl _ rfl _ run_allocKey ?_; intro x4 B4 hh hB4 e4; have hlt4 : g < B4 := Nat.lt_of_lt_of_le (Blk.lt hk_.has) hB4; have hlw4 : w.heap.size ≤ B4 := Nat.le_trans hk_.up.size hB4; have hk4 := HoldT.step hstab hk_ e4)
    | (refine wpList_lit3 rfl _ _ _ rfl _ _ _ seed name (put64 (i / 4).toNat) rfl rfl rfl (owns_one hown1) ho2 (owns_one hown3) (exB (sees_of_owns hown1)) (exB hs2) (exB (sees_of_owns hown3)) ?_; intro x5 B5 hbb e5; have hk5 := HoldT.step hstab hk_ e5)
    | (go_at_call 60; refine (Partsr_any _ _ [seed, name, put64 (i / 4).toNat] (exBB hbb) HFL.out).mono ?_; rintro e x6 ⟨rfl, hb6⟩; rw [HS.out]; have e6 : Ext _ x6 := hb6; have hk6 := HoldT.step hstab hk_ e6)
    | (refine wpList_store_row rfl 23 _ _ rfl B4 (keyA S) _ _ rfl rfl (exK hh) (by rw [keyA_size, keyA_size, HSL.out]; rfl) (by rw [keyA_size, HSL.out]; exact info_key) (keyA_one _) ?_; intro x7 hg7 hs7 hR7
       have hk7 : HoldT (StrB g seed name i) w x7 := ⟨Blk.grownBy hk_.has hg7 (some_ne (by omega)), hk_.up.grown hg7 hk_.up.size (fun k hk => by cases hk; exact hlw4)⟩))
          refine phPost_hold (by first | with_reducible assumption | exact HoldT.alloc hstab (by with_reducible assumption) _ | exact HoldT.alloc hstab (HoldT.alloc hstab (by with_reducible assumption) _) _) ?_
          intro hk_
          refine wpTr_step ?_
          simp only [pickOps, List.flatMap_nil]
          refine wpQuiet_nil ?_
          refine wpTr_alt ?_ ?_
          focus
            simp only [pickOps, List.flatMap_cons, List.flatMap_nil, List.drop_succ_cons, List.drop_zero, List.take_succ_cons, List.take_zero, List.cons_append, List.nil_append, List.append_nil]
            go_wp2_with (first
    | (at_builtin; refine appB (W := w) rfl _ _ rfl (.slice none 0 0) [] rfl (ownB_nil _ _) _ seed rfl (strm_seed hk_.has HK.out) (by rw [HK.out, List.length_nil]; decide) hk_.up ?_; intro v1 x1 hown1 hg1 hb1; rw [List.nil_append] at hown1; have e1 := ext_none hg1; clear hg1; have hk1 := HoldT.step hstab hk_ e1)
    | (refine wpList_strB rfl _ rfl name rfl (by omega) ?_; intro x2 v2 hs2 ho2 e2; have hk2 := HoldT.step hstab hk_ e2)
    | (go_at_call 71; refine (Put64r_any _ _ [] (i / 4) (Sees.nil _ _) (by omega) (by omega) (by decide)).mono ?_; rintro e x3 ⟨v3, rfl, hown3, hb3⟩; rw [List.nil_append] at hown3; have e3 : Ext _ x3 := hb3; have hk3 := HoldT.step hstab hk_ e3)
    | (refine wpList_allocB rfl _ rfl _ run_allocKey ?_; intro x4 B4 hh hB4 e4; have hlt4 : g < B4 := Nat.lt_of_lt_of_le (Blk.lt hk_.has) hB4; have hlw4 : w.heap.size ≤ B4 := Nat.le_trans hk_.up.size hB4; have hk4 := HoldT.step hstab hk_ e4)
    | (refine wpList_lit3 rfl _ _ _ rfl _ _ _ seed name (put64 (i / 4).toNat) rfl rfl rfl (owns_one hown1) ho2 (owns_one hown3) (exB (sees_of_owns hown1)) (exB hs2) (exB (sees_of_owns hown3)) ?_; intro x5 B5 hbb e5; have hk5 := HoldT.step hstab hk_ e5)
    | (go_at_call 60; refine (Partsr_any _ _ [seed, name, put64 (i / 4).toNat] (exBB hbb) HFL.out).mono ?_; rintro e x6 ⟨rfl, hb6⟩; rw [HS.out]; have e6 : Ext _ x6 := hb6; have hk6 := HoldT.step hstab hk_ e6)
    | (refine wpList_store_row rfl 23 _ _ rfl B4 (keyA S) _ _ rfl rfl (exK hh) (by rw [keyA_size, keyA_size, HSL.out]; rfl) (by rw [keyA_size, HSL.out]; exact info_key) (keyA_one _) ?_; intro x7 hg7 hs7 hR7
       have hk7 : HoldT (StrB g seed name i) w x7 := ⟨Blk.grownBy hk_.has hg7 (some_ne (by omega)), hk_.up.grown hg7 hk_.up.size (fun k hk => by cases hk; exact hlw4)⟩))
            refine phPost_hold (by first | with_reducible assumption | exact HoldT.alloc hstab (by with_reducible assumption) _ | exact HoldT.alloc hstab (HoldT.alloc hstab (by with_reducible assumption) _) _) ?_
            intro hk_
            refine wpTr_step ?_
            simp only [pickOps, List.flatMap_nil]
            refine wpQuiet_nil ?_
            refine wpTr_one ?_
            simp only [pickOps, List.flatMap_cons, List.flatMap_nil, List.drop_succ_cons, List.drop_zero, List.take_succ_cons, List.take_zero, List.cons_append, List.nil_append, List.append_nil]
            go_wp2_with (first
    | (at_builtin; refine appB (W := w) rfl _ _ rfl (.slice none 0 0) [] rfl (ownB_nil _ _) _ seed rfl (strm_seed hk_.has HK.out) (by rw [HK.out, List.length_nil]; decide) hk_.up ?_; intro v1 x1 hown1 hg1 hb1; rw [List.nil_append] at hown1; have e1 := ext_none hg1; clear hg1; have hk1 := HoldT.step hstab hk_ e1)
    | (refine wpList_strB rfl _ rfl name rfl (by omega) ?_; intro x2 v2 hs2 ho2 e2; have hk2 := HoldT.step hstab hk_ e2)
    | (go_at_call 71; refine (Put64r_any _ _ [] (i / 4) (Sees.nil _ _) (by omega) (by omega) (by decide)).mono ?_; rintro e x3 ⟨v3, rfl, hown3, hb3⟩; rw [List.nil_append] at hown3; have e3 : Ext _ x3 := hb3; have hk3 := HoldT.step hstab hk_ e3)
    | (refine wpList_allocB rfl _ rfl _ run_allocKey ?_; intro x4 B4 hh hB4 e4; have hlt4 : g < B4 := Nat.lt_of_lt_of_le (Blk.lt hk_.has) hB4; have hlw4 : w.heap.size ≤ B4 := Nat.le_trans hk_.up.size hB4; have hk4 := HoldT.step hstab hk_ e4)
    | (refine wpList_lit3 rfl _ _ _ rfl _ _ _ seed name (put64 (i / 4).toNat) rfl rfl rfl (owns_one hown1) ho2 (owns_one hown3) (exB (sees_of_owns hown1)) (exB hs2) (exB (sees_of_owns hown3)) ?_; intro x5 B5 hbb e5; have hk5 := HoldT.step hstab hk_ e5)
    | (go_at_call 60; refine (Partsr_any _ _ [seed, name, put64 (i / 4).toNat] (exBB hbb) HFL.out).mono ?_; rintro e x6 ⟨rfl, hb6⟩; rw [HS.out]; have e6 : Ext _ x6 := hb6; have hk6 := HoldT.step hstab hk_ e6)
    | (refine wpList_store_row rfl 23 _ _ rfl B4 (keyA S) _ _ rfl rfl (exK hh) (by rw [keyA_size, keyA_size, HSL.out]; rfl) (by rw [keyA_size, HSL.out]; exact info_key) (keyA_one _) ?_; intro x7 hg7 hs7 hR7
       have hk7 : HoldT (StrB g seed name i) w x7 := ⟨Blk.grownBy hk_.has hg7 (some_ne (by omega)), hk_.up.grown hg7 hk_.up.size (fun k hk => by cases hk; exact hlw4)⟩))
            refine phPost_hold (by first | with_reducible assumption | exact HoldT.alloc hstab (by with_reducible assumption) _ | exact HoldT.alloc hstab (HoldT.alloc hstab (by with_reducible assumption) _) _) ?_
            intro hk_
            refine wpTr_step ?_
            simp only [pickOps, List.flatMap_nil]
            refine wpQuiet_nil ?_
            refine wpTr_one ?_
            simp only [pickOps, List.flatMap_cons, List.flatMap_nil, List.drop_succ_cons, List.drop_zero, List.take_succ_cons, List.take_zero, List.cons_append, List.nil_append, List.append_nil]
            go_wp2_with (first
    | (at_builtin; refine appB (W := w) rfl _ _ rfl (.slice none 0 0) [] rfl (ownB_nil _ _) _ seed rfl (strm_seed hk_.has HK.out) (by rw [HK.out, List.length_nil]; decide) hk_.up ?_; intro v1 x1 hown1 hg1 hb1; rw [List.nil_append] at hown1; have e1 := ext_none hg1; clear hg1; have hk1 := HoldT.step hstab hk_ e1)
    | (refine wpList_strB rfl _ rfl name rfl (by omega) ?_; intro x2 v2 hs2 ho2 e2; have hk2 := HoldT.step hstab hk_ e2)
    | (go_at_call 71; refine (Put64r_any _ _ [] (i / 4) (Sees.nil _ _) (by omega) (by omega) (by decide)).mono ?_; rintro e x3 ⟨v3, rfl, hown3, hb3⟩; rw [List.nil_append] at hown3; have e3 : Ext _ x3 := hb3; have hk3 := HoldT.step hstab hk_ e3)
    | (refine wpList_allocB rfl _ rfl _ run_allocKey ?_; intro x4 B4 hh hB4 e4; have hlt4 : g < B4 := Nat.lt_of_lt_of_le (Blk.lt hk_.has) hB4; have hlw4 : w.heap.size ≤ B4 := Nat.le_trans hk_.up.size hB4; have hk4 := HoldT.step hstab hk_ e4)
    | (refine wpList_lit3 rfl _ _ _ rfl _ _ _ seed name (put64 (i / 4).toNat) rfl rfl rfl (owns_one hown1) ho2 (owns_one hown3) (exB (sees_of_owns hown1)) (exB hs2) (exB (sees_of_owns hown3)) ?_; intro x5 B5 hbb e5; have hk5 := HoldT.step hstab hk_ e5)
    | (go_at_call 60; refine (Partsr_any _ _ [seed, name, put64 (i / 4).toNat] (exBB hbb) HFL.out).mono ?_; rintro e x6 ⟨rfl, hb6⟩; rw [HS.out]; have e6 : Ext _ x6 := hb6; have hk6 := HoldT.step hstab hk_ e6)
    | (refine wpList_store_row rfl 23 _ _ rfl B4 (keyA S) _ _ rfl rfl (exK hh) (by rw [keyA_size, keyA_size, HSL.out]; rfl) (by rw [keyA_size, HSL.out]; exact info_key) (keyA_one _) ?_; intro x7 hg7 hs7 hR7
       have hk7 : HoldT (StrB g seed name i) w x7 := ⟨Blk.grownBy hk_.has hg7 (some_ne (by omega)), hk_.up.grown hg7 hk_.up.size (fun k hk => by cases hk; exact hlw4)⟩))
            refine phPost_hold (by first | with_reducible assumption | exact HoldT.alloc hstab (by with_reducible assumption) _ | exact HoldT.alloc hstab (HoldT.alloc hstab (by with_reducible assumption) _) _) ?_
            intro hk_
            refine wpTr_fin ?_
            simp only [pickOps, List.flatMap_nil]
            refine wpQuiet_nil ?_
            have hstab2 : Stab (fun u => StrB g seed name i u ∧ KE2 B4 S u) := Stab.and (stabStrB g seed name i) (Stab.blk _ _ _)
            have hkz : HoldT (fun u => StrB g seed name i u ∧ KE2 B4 S u) w x7.drew := HoldT.drew hstab2 ⟨⟨hk_.has, hR7⟩, hk_.up⟩
            have hT1 : ∀ e : InC (fun u => StrB g seed name i u ∧ KE2 B4 S u), e.u.cell? ⟨g, 33, none⟩ = some (.int .u64 i) := fun e => strm_i e.has.1 HK.out
            clear hg7 hs7 hR7
            go_wp2_with fail
            try change Code.wp _ _ _ (Act.mk _ _) _
            haveI hne_ : Nonempty (InC (fun u => StrB g seed name i u ∧ KE2 B4 S u)) := ⟨⟨_, (hkz).1⟩⟩
            refine wp_region_tr (C := fun w_ => ∃ e_ : InC (fun u => StrB g seed name i u ∧ KE2 B4 S u), w_ = e_.u) (.step [0, 1, 2, 3, 4, 5, 6, 7] (.alt 8 (.fin [9, 10, 11, 12, 13]) .nil)) (by kernel_rfl) (by kernel_rfl) (fun _ _ _ _ hd_ h_ => ⟨hd_.symm.trans h_.1, h_.2⟩) ⟨⟨World.drew _, (hkz).1⟩, rfl⟩ ?_
            have hk_ := hkz
            refine wpTr_step ?_
            simp only [pickOps, List.flatMap_cons, List.flatMap_nil, List.drop_succ_cons, List.drop_zero, List.take_succ_cons, List.take_zero, List.cons_append, List.nil_append, List.append_nil]
            iterate 8 (go_big_quiet_step (exact rfl))
            refine wpQuiet_nil ?_
            refine wpTr_one ?_
            simp only [pickOps, List.flatMap_cons, List.flatMap_nil, List.drop_succ_cons, List.drop_zero, List.take_succ_cons, List.take_zero, List.cons_append, List.nil_append, List.append_nil]
            go_wp2_with (first
              | (go_at_call 120; refine (Get64r_ok _ _ S (8 * (i % 4)) (seesB_key hk_.has.2 HSL.out) (by omega) (by rw [HSL.out]; omega)).mono ?_; rintro e y1 ⟨rfl, rfl⟩; rw [← HW.out]))
            refine phPost_hold (by first | with_reducible assumption | exact HoldT.alloc hstab (by with_reducible assumption) _ | exact HoldT.alloc hstab (HoldT.alloc hstab (by with_reducible assumption) _) _) ?_
            intro hk_
            refine wpTr_fin ?_
            simp only [pickOps, List.flatMap_cons, List.flatMap_nil, List.drop_succ_cons, List.drop_zero, List.take_succ_cons, List.take_zero, List.cons_append, List.nil_append, List.append_nil]
            iterate 5 (go_big_quiet_step (exact rfl))
            refine wpQuiet_nil ?_
            have hci := strm_i hk_.has.1 HK.out
            have hfi := Blk.free hk_.has.1 33
            have hend := Blk.set hk_.has.1 33 (.int .u64 (i + 1))
            rw [strmC_set seed name i (i + 1) HK.out] at hend
            have hgr := grownBy_set ((show Ext w _ from hk_.up).g (some g)) 33 (.int .u64 (i + 1))
            go_wp2_with fail
            go_ret
            exact ⟨rfl, hend, hgr⟩
          refine wpTr_one ?_
          simp only [pickOps, List.flatMap_cons, List.flatMap_nil, List.drop_succ_cons, List.drop_zero, List.take_succ_cons, List.take_zero, List.cons_append, List.nil_append, List.append_nil]
          go_wp2_with (first
    | (at_builtin; refine appB (W := w) rfl _ _ rfl (.slice none 0 0) [] rfl (ownB_nil _ _) _ seed rfl (strm_seed hk_.has HK.out) (by rw [HK.out, List.length_nil]; decide) hk_.up ?_; intro v1 x1 hown1 hg1 hb1; rw [List.nil_append] at hown1; have e1 := ext_none hg1; clear hg1; have hk1 := HoldT.step hstab hk_ e1)
    | (refine wpList_strB rfl _ rfl name rfl (by omega) ?_; intro x2 v2 hs2 ho2 e2; have hk2 := HoldT.step hstab hk_ e2)
    | (go_at_call 71; refine (Put64r_any _ _ [] (i / 4) (Sees.nil _ _) (by omega) (by omega) (by decide)).mono ?_; rintro e x3 ⟨v3, rfl, hown3, hb3⟩; rw [List.nil_append] at hown3; have e3 : Ext _ x3 := hb3; have hk3 := HoldT.step hstab hk_ e3)
    | (refine wpList_allocB rfl _ rfl _ run_allocKey ?_; intro x4 B4 hh hB4 e4; have hlt4 : g < B4 := Nat.lt_of_lt_of_le (Blk.lt hk_.has) hB4; have hlw4 : w.heap.size ≤ B4 := Nat.le_trans hk_.up.size hB4; have hk4 := HoldT.step hstab hk_ e4)
    | (refine wpList_lit3 rfl _ _ _ rfl _ _ _ seed name (put64 (i / 4).toNat) rfl rfl rfl (owns_one hown1) ho2 (owns_one hown3) (exB (sees_of_owns hown1)) (exB hs2) (exB (sees_of_owns hown3)) ?_; intro x5 B5 hbb e5; have hk5 := HoldT.step hstab hk_ e5)
    | (go_at_call 60; refine (Partsr_any _ _ [seed, name, put64 (i / 4).toNat] (exBB hbb) HFL.out).mono ?_; rintro e x6 ⟨rfl, hb6⟩; rw [HS.out]; have e6 : Ext _ x6 := hb6; have hk6 := HoldT.step hstab hk_ e6)
    | (refine wpList_store_row rfl 23 _ _ rfl B4 (keyA S) _ _ rfl rfl (exK hh) (by rw [keyA_size, keyA_size, HSL.out]; rfl) (by rw [keyA_size, HSL.out]; exact info_key) (keyA_one _) ?_; intro x7 hg7 hs7 hR7
       have hk7 : HoldT (StrB g seed name i) w x7 := ⟨Blk.grownBy hk_.has hg7 (some_ne (by omega)), hk_.up.grown hg7 hk_.up.size (fun k hk => by cases hk; exact hlw4)⟩))
          refine phPost_hold (by first | with_reducible assumption | exact HoldT.alloc hstab (by with_reducible assumption) _ | exact HoldT.alloc hstab (HoldT.alloc hstab (by with_reducible assumption) _) _) ?_
          intro hk_
          refine wpTr_step ?_
          simp only [pickOps, List.flatMap_nil]
          refine wpQuiet_nil ?_
          refine wpTr_one ?_
          simp only [pickOps, List.flatMap_cons, List.flatMap_nil, List.drop_succ_cons, List.drop_zero, List.take_succ_cons, List.take_zero, List.cons_append, List.nil_append, List.append_nil]
          go_wp2_with (first
    | (at_builtin; refine appB (W := w) rfl _ _ rfl (.slice none 0 0) [] rfl (ownB_nil _ _) _ seed rfl (strm_seed hk_.has HK.out) (by rw [HK.out, List.length_nil]; decide) hk_.up ?_; intro v1 x1 hown1 hg1 hb1; rw [List.nil_append] at hown1; have e1 := ext_none hg1; clear hg1; have hk1 := HoldT.step hstab hk_ e1)
    | (refine wpList_strB rfl _ rfl name rfl (by omega) ?_; intro x2 v2 hs2 ho2 e2; have hk2 := HoldT.step hstab hk_ e2)
    | (go_at_call 71; refine (Put64r_any _ _ [] (i / 4) (Sees.nil _ _) (by omega) (by omega) (by decide)).mono ?_; rintro e x3 ⟨v3, rfl, hown3, hb3⟩; rw [List.nil_append] at hown3; have e3 : Ext _ x3 := hb3; have hk3 := HoldT.step hstab hk_ e3)
    | (refine wpList_allocB rfl _ rfl _ run_allocKey ?_; intro x4 B4 hh hB4 e4; have hlt4 : g < B4 := Nat.lt_of_lt_of_le (Blk.lt hk_.has) hB4; have hlw4 : w.heap.size ≤ B4 := Nat.le_trans hk_.up.size hB4; have hk4 := HoldT.step hstab hk_ e4)
    | (refine wpList_lit3 rfl _ _ _ rfl _ _ _ seed name (put64 (i / 4).toNat) rfl rfl rfl (owns_one hown1) ho2 (owns_one hown3) (exB (sees_of_owns hown1)) (exB hs2) (exB (sees_of_owns hown3)) ?_; intro x5 B5 hbb e5; have hk5 := HoldT.step hstab hk_ e5)
    | (go_at_call 60; refine (Partsr_any _ _ [seed, name, put64 (i / 4).toNat] (exBB hbb) HFL.out).mono ?_; rintro e x6 ⟨rfl, hb6⟩; rw [HS.out]; have e6 : Ext _ x6 := hb6; have hk6 := HoldT.step hstab hk_ e6)
    | (refine wpList_store_row rfl 23 _ _ rfl B4 (keyA S) _ _ rfl rfl (exK hh) (by rw [keyA_size, keyA_size, HSL.out]; rfl) (by rw [keyA_size, HSL.out]; exact info_key) (keyA_one _) ?_; intro x7 hg7 hs7 hR7
       have hk7 : HoldT (StrB g seed name i) w x7 := ⟨Blk.grownBy hk_.has hg7 (some_ne (by omega)), hk_.up.grown hg7 hk_.up.size (fun k hk => by cases hk; exact hlw4)⟩))
          refine phPost_hold (by first | with_reducible assumption | exact HoldT.alloc hstab (by with_reducible assumption) _ | exact HoldT.alloc hstab (HoldT.alloc hstab (by with_reducible assumption) _) _) ?_
          intro hk_
          refine wpTr_step ?_
          simp only [pickOps, List.flatMap_nil]
          refine wpQuiet_nil ?_
          refine wpTr_one ?_
          simp only [pickOps, List.flatMap_cons, List.flatMap_nil, List.drop_succ_cons, List.drop_zero, List.take_succ_cons, List.take_zero, List.cons_append, List.nil_append, List.append_nil]
          go_wp2_with (first
    | (at_builtin; refine appB (W := w) rfl _ _ rfl (.slice none 0 0) [] rfl (ownB_nil _ _) _ seed rfl (strm_seed hk_.has HK.out) (by rw [HK.out, List.length_nil]; decide) hk_.up ?_; intro v1 x1 hown1 hg1 hb1; rw [List.nil_append] at hown1; have e1 := ext_none hg1; clear hg1; have hk1 := HoldT.step hstab hk_ e1)
    | (refine wpList_strB rfl _ rfl name rfl (by omega) ?_; intro x2 v2 hs2 ho2 e2; have hk2 := HoldT.step hstab hk_ e2)
    | (go_at_call 71; refine (Put64r_any _ _ [] (i / 4) (Sees.nil _ _) (by omega) (by omega) (by decide)).mono ?_; rintro e x3 ⟨v3, rfl, hown3, hb3⟩; rw [List.nil_append] at hown3; have e3 : Ext _ x3 := hb3; have hk3 := HoldT.step hstab hk_ e3)
    | (refine wpList_allocB rfl _ rfl _ run_allocKey ?_; intro x4 B4 hh hB4 e4; have hlt4 : g < B4 := Nat.lt_of_lt_of_le (Blk.lt hk_.has) hB4; have hlw4 : w.heap.size ≤ B4 := Nat.le_trans hk_.up.size hB4; have hk4 := HoldT.step hstab hk_ e4)
    | (refine wpList_lit3 rfl _ _ _ rfl _ _ _ seed name (put64 (i / 4).toNat) rfl rfl rfl (owns_one hown1) ho2 (owns_one hown3) (exB (sees_of_owns hown1)) (exB hs2) (exB (sees_of_owns hown3)) ?_; intro x5 B5 hbb e5; have hk5 := HoldT.step hstab hk_ e5)
    | (go_at_call 60; refine (Partsr_any _ _ [seed, name, put64 (i / 4).toNat] (exBB hbb) HFL.out).mono ?_; rintro e x6 ⟨rfl, hb6⟩; rw [HS.out]; have e6 : Ext _ x6 := hb6; have hk6 := HoldT.step hstab hk_ e6)
    | (refine wpList_store_row rfl 23 _ _ rfl B4 (keyA S) _ _ rfl rfl (exK hh) (by rw [keyA_size, keyA_size, HSL.out]; rfl) (by rw [keyA_size, HSL.out]; exact info_key) (keyA_one _) ?_; intro x7 hg7 hs7 hR7
       have hk7 : HoldT (StrB g seed name i) w x7 := ⟨Blk.grownBy hk_.has hg7 (some_ne (by omega)), hk_.up.grown hg7 hk_.up.size (fun k hk => by cases hk; exact hlw4)⟩))
          refine phPost_hold (by first | with_reducible assumption | exact HoldT.alloc hstab (by with_reducible assumption) _ | exact HoldT.alloc hstab (HoldT.alloc hstab (by with_reducible assumption) _) _) ?_
          intro hk_
          refine wpTr_fin ?_
          simp only [pickOps, List.flatMap_nil]
          refine wpQuiet_nil ?_
          have hstab2 : Stab (fun u => StrB g seed name i u ∧ KE2 B4 S u) := Stab.and (stabStrB g seed name i) (Stab.blk _ _ _)
          have hkz : HoldT (fun u => StrB g seed name i u ∧ KE2 B4 S u) w x7.drew := HoldT.drew hstab2 ⟨⟨hk_.has, hR7⟩, hk_.up⟩
          have hT1 : ∀ e : InC (fun u => StrB g seed name i u ∧ KE2 B4 S u), e.u.cell? ⟨g, 33, none⟩ = some (.int .u64 i) := fun e => strm_i e.has.1 HK.out
          clear hg7 hs7 hR7
          go_wp2_with fail
          try change Code.wp _ _ _ (Act.mk _ _) _
          haveI hne_ : Nonempty (InC (fun u => StrB g seed name i u ∧ KE2 B4 S u)) := ⟨⟨_, (hkz).1⟩⟩
          refine wp_region_tr (C := fun w_ => ∃ e_ : InC (fun u => StrB g seed name i u ∧ KE2 B4 S u), w_ = e_.u) (.step [0, 1, 2, 3, 4, 5, 6, 7] (.alt 8 (.fin [9, 10, 11, 12, 13]) .nil)) (by kernel_rfl) (by kernel_rfl) (fun _ _ _ _ hd_ h_ => ⟨hd_.symm.trans h_.1, h_.2⟩) ⟨⟨World.drew _, (hkz).1⟩, rfl⟩ ?_
          have hk_ := hkz
          refine wpTr_step ?_
          simp only [pickOps, List.flatMap_cons, List.flatMap_nil, List.drop_succ_cons, List.drop_zero, List.take_succ_cons, List.take_zero, List.cons_append, List.nil_append, List.append_nil]
          iterate 8 (go_big_quiet_step (exact rfl))
          refine wpQuiet_nil ?_
          refine wpTr_one ?_
          simp only [pickOps, List.flatMap_cons, List.flatMap_nil, List.drop_succ_cons, List.drop_zero, List.take_succ_cons, List.take_zero, List.cons_append, List.nil_append, List.append_nil]
          go_wp2_with (first
            | (go_at_call 120; refine (Get64r_ok _ _ S (8 * (i % 4)) (seesB_key hk_.has.2 HSL.out) (by omega) (by rw [HSL.out]; omega)).mono ?_; rintro e y1 ⟨rfl, rfl⟩; rw [← HW.out]))
          refine phPost_hold (by first | with_reducible assumption | exact HoldT.alloc hstab (by with_reducible assumption) _ | exact HoldT.alloc hstab (HoldT.alloc hstab (by with_reducible assumption) _) _) ?_
          intro hk_
          refine wpTr_fin ?_
          simp only [pickOps, List.flatMap_cons, List.flatMap_nil, List.drop_succ_cons, List.drop_zero, List.take_succ_cons, List.take_zero, List.cons_append, List.nil_append, List.append_nil]
          iterate 5 (go_big_quiet_step (exact rfl))
          refine wpQuiet_nil ?_
          have hci := strm_i hk_.has.1 HK.out
          have hfi := Blk.free hk_.has.1 33
          have hend := Blk.set hk_.has.1 33 (.int .u64 (i + 1))
          rw [strmC_set seed name i (i + 1) HK.out] at hend
          have hgr := grownBy_set ((show Ext w _ from hk_.up).g (some g)) 33 (.int .u64 (i + 1))
          go_wp2_with fail
          go_ret
          exact ⟨rfl, hend, hgr⟩
        refine wpTr_one ?_
        simp only [pickOps, List.flatMap_cons, List.flatMap_nil, List.drop_succ_cons, List.drop_zero, List.take_succ_cons, List.take_zero, List.cons_append, List.nil_append, List.append_nil]
        go_wp2_with (first
    | (at_builtin; refine appB (W := w) rfl _ _ rfl (.slice none 0 0) [] rfl (ownB_nil _ _) _ seed rfl (strm_seed hk_.has HK.out) (by rw [HK.out, List.length_nil]; decide) hk_.up ?_; intro v1 x1 hown1 hg1 hb1; rw [List.nil_append] at hown1; have e1 := ext_none hg1; clear hg1; have hk1 := HoldT.step hstab hk_ e1)
    | (refine wpList_strB rfl _ rfl name rfl (by omega) ?_; intro x2 v2 hs2 ho2 e2; have hk2 := HoldT.step hstab hk_ e2)
    | (go_at_call 71; refine (Put64r_any _ _ [] (i / 4) (Sees.nil _ _) (by omega) (by omega) (by decide)).mono ?_; rintro e x3 ⟨v3, rfl, hown3, hb3⟩; rw [List.nil_append] at hown3; have e3 : Ext _ x3 := hb3; have hk3 := HoldT.step hstab hk_ e3)
    | (refine wpList_allocB rfl _ rfl _ run_allocKey ?_; intro x4 B4 hh hB4 e4; have hlt4 : g < B4 := Nat.lt_of_lt_of_le (Blk.lt hk_.has) hB4; have hlw4 : w.heap.size ≤ B4 := Nat.le_trans hk_.up.size hB4; have hk4 := HoldT.step hstab hk_ e4)
    | (refine wpList_lit3 rfl _ _ _ rfl _ _ _ seed name (put64 (i / 4).toNat) rfl rfl rfl (owns_one hown1) ho2 (owns_one hown3) (exB (sees_of_owns hown1)) (exB hs2) (exB (sees_of_owns hown3)) ?_; intro x5 B5 hbb e5; have hk5 := HoldT.step hstab hk_ e5)
    | (go_at_call 60; refine (Partsr_any _ _ [seed, name, put64 (i / 4).toNat] (exBB hbb) HFL.out).mono ?_; rintro e x6 ⟨rfl, hb6⟩; rw [HS.out]; have e6 : Ext _ x6 := hb6; have hk6 := HoldT.step hstab hk_ e6)
    | (refine wpList_store_row rfl 23 _ _ rfl B4 (keyA S) _ _ rfl rfl (exK hh) (by rw [keyA_size, keyA_size, HSL.out]; rfl) (by rw [keyA_size, HSL.out]; exact info_key) (keyA_one _) ?_; intro x7 hg7 hs7 hR7
       have hk7 : HoldT (StrB g seed name i) w x7 := ⟨Blk.grownBy hk_.has hg7 (some_ne (by omega)), hk_.up.grown hg7 hk_.up.size (fun k hk => by cases hk; exact hlw4)⟩))
        refine phPost_hold (by first | with_reducible assumption | exact HoldT.alloc hstab (by with_reducible assumption) _ | exact HoldT.alloc hstab (HoldT.alloc hstab (by with_reducible assumption) _) _) ?_
        intro hk_
        refine wpTr_step ?_
        simp only [pickOps, List.flatMap_nil]
        refine wpQuiet_nil ?_
        refine wpTr_one ?_
        simp only [pickOps, List.flatMap_cons, List.flatMap_nil, List.drop_succ_cons, List.drop_zero, List.take_succ_cons, List.take_zero, List.cons_append, List.nil_append, List.append_nil]
        go_wp2_with (first
    | (at_builtin; refine appB (W := w) rfl _ _ rfl (.slice none 0 0) [] rfl (ownB_nil _ _) _ seed rfl (strm_seed hk_.has HK.out) (by rw [HK.out, List.length_nil]; decide) hk_.up ?_; intro v1 x1 hown1 hg1 hb1; rw [List.nil_append] at hown1; have e1 := ext_none hg1; clear hg1; have hk1 := HoldT.step hstab hk_ e1)
    | (refine wpList_strB rfl _ rfl name rfl (by omega) ?_; intro x2 v2 hs2 ho2 e2; have hk2 := HoldT.step hstab hk_ e2)
    | (go_at_call 71; refine (Put64r_any _ _ [] (i / 4) (Sees.nil _ _) (by omega) (by omega) (by decide)).mono ?_; rintro e x3 ⟨v3, rfl, hown3, hb3⟩; rw [List.nil_append] at hown3; have e3 : Ext _ x3 := hb3; have hk3 := HoldT.step hstab hk_ e3)
    | (refine wpList_allocB rfl _ rfl _ run_allocKey ?_; intro x4 B4 hh hB4 e4; have hlt4 : g < B4 := Nat.lt_of_lt_of_le (Blk.lt hk_.has) hB4; have hlw4 : w.heap.size ≤ B4 := Nat.le_trans hk_.up.size hB4; have hk4 := HoldT.step hstab hk_ e4)
    | (refine wpList_lit3 rfl _ _ _ rfl _ _ _ seed name (put64 (i / 4).toNat) rfl rfl rfl (owns_one hown1) ho2 (owns_one hown3) (exB (sees_of_owns hown1)) (exB hs2) (exB (sees_of_owns hown3)) ?_; intro x5 B5 hbb e5; have hk5 := HoldT.step hstab hk_ e5)
    | (go_at_call 60; refine (Partsr_any _ _ [seed, name, put64 (i / 4).toNat] (exBB hbb) HFL.out).mono ?_; rintro e x6 ⟨rfl, hb6⟩; rw [HS.out]; have e6 : Ext _ x6 := hb6; have hk6 := HoldT.step hstab hk_ e6)
    | (refine wpList_store_row rfl 23 _ _ rfl B4 (keyA S) _ _ rfl rfl (exK hh) (by rw [keyA_size, keyA_size, HSL.out]; rfl) (by rw [keyA_size, HSL.out]; exact info_key) (keyA_one _) ?_; intro x7 hg7 hs7 hR7
       have hk7 : HoldT (StrB g seed name i) w x7 := ⟨Blk.grownBy hk_.has hg7 (some_ne (by omega)), hk_.up.grown hg7 hk_.up.size (fun k hk => by cases hk; exact hlw4)⟩))
        refine phPost_hold (by first | with_reducible assumption | exact HoldT.alloc hstab (by with_reducible assumption) _ | exact HoldT.alloc hstab (HoldT.alloc hstab (by with_reducible assumption) _) _) ?_
        intro hk_
        refine wpTr_step ?_
        simp only [pickOps, List.flatMap_nil]
        refine wpQuiet_nil ?_
        refine wpTr_one ?_
        simp only [pickOps, List.flatMap_cons, List.flatMap_nil, List.drop_succ_cons, List.drop_zero, List.take_succ_cons, List.take_zero, List.cons_append, List.nil_append, List.append_nil]
        go_wp2_with (first
    | (at_builtin; refine appB (W := w) rfl _ _ rfl (.slice none 0 0) [] rfl (ownB_nil _ _) _ seed rfl (strm_seed hk_.has HK.out) (by rw [HK.out, List.length_nil]; decide) hk_.up ?_; intro v1 x1 hown1 hg1 hb1; rw [List.nil_append] at hown1; have e1 := ext_none hg1; clear hg1; have hk1 := HoldT.step hstab hk_ e1)
    | (refine wpList_strB rfl _ rfl name rfl (by omega) ?_; intro x2 v2 hs2 ho2 e2; have hk2 := HoldT.step hstab hk_ e2)
    | (go_at_call 71; refine (Put64r_any _ _ [] (i / 4) (Sees.nil _ _) (by omega) (by omega) (by decide)).mono ?_; rintro e x3 ⟨v3, rfl, hown3, hb3⟩; rw [List.nil_append] at hown3; have e3 : Ext _ x3 := hb3; have hk3 := HoldT.step hstab hk_ e3)
    | (refine wpList_allocB rfl _ rfl _ run_allocKey ?_; intro x4 B4 hh hB4 e4; have hlt4 : g < B4 := Nat.lt_of_lt_of_le (Blk.lt hk_.has) hB4; have hlw4 : w.heap.size ≤ B4 := Nat.le_trans hk_.up.size hB4; have hk4 := HoldT.step hstab hk_ e4)
    | (refine wpList_lit3 rfl _ _ _ rfl _ _ _ seed name (put64 (i / 4).toNat) rfl rfl rfl (owns_one hown1) ho2 (owns_one hown3) (exB (sees_of_owns hown1)) (exB hs2) (exB (sees_of_owns hown3)) ?_; intro x5 B5 hbb e5; have hk5 := HoldT.step hstab hk_ e5)
    | (go_at_call 60; refine (Partsr_any _ _ [seed, name, put64 (i / 4).toNat] (exBB hbb) HFL.out).mono ?_; rintro e x6 ⟨rfl, hb6⟩; rw [HS.out]; have e6 : Ext _ x6 := hb6; have hk6 := HoldT.step hstab hk_ e6)
    | (refine wpList_store_row rfl 23 _ _ rfl B4 (keyA S) _ _ rfl rfl (exK hh) (by rw [keyA_size, keyA_size, HSL.out]; rfl) (by rw [keyA_size, HSL.out]; exact info_key) (keyA_one _) ?_; intro x7 hg7 hs7 hR7
       have hk7 : HoldT (StrB g seed name i) w x7 := ⟨Blk.grownBy hk_.has hg7 (some_ne (by omega)), hk_.up.grown hg7 hk_.up.size (fun k hk => by cases hk; exact hlw4)⟩))
        refine phPost_hold (by first | with_reducible assumption | exact HoldT.alloc hstab (by with_reducible assumption) _ | exact HoldT.alloc hstab (HoldT.alloc hstab (by with_reducible assumption) _) _) ?_
        intro hk_
        refine wpTr_step ?_
        simp only [pickOps, List.flatMap_nil]
        refine wpQuiet_nil ?_
        refine wpTr_one ?_
        simp only [pickOps, List.flatMap_cons, List.flatMap_nil, List.drop_succ_cons, List.drop_zero, List.take_succ_cons, List.take_zero, List.cons_append, List.nil_append, List.append_nil]
        go_wp2_with (first
    | (at_builtin; refine appB (W := w) rfl _ _ rfl (.slice none 0 0) [] rfl (ownB_nil _ _) _ seed rfl (strm_seed hk_.has HK.out) (by rw [HK.out, List.length_nil]; decide) hk_.up ?_; intro v1 x1 hown1 hg1 hb1; rw [List.nil_append] at hown1; have e1 := ext_none hg1; clear hg1; have hk1 := HoldT.step hstab hk_ e1)
    | (refine wpList_strB rfl _ rfl name rfl (by omega) ?_; intro x2 v2 hs2 ho2 e2; have hk2 := HoldT.step hstab hk_ e2)
    | (go_at_call 71; refine (Put64r_any _ _ [] (i / 4) (Sees.nil _ _) (by omega) (by omega) (by decide)).mono ?_; rintro e x3 ⟨v3, rfl, hown3, hb3⟩; rw [List.nil_append] at hown3; have e3 : Ext _ x3 := hb3; have hk3 := HoldT.step hstab hk_ e3)
    | (refine wpList_allocB rfl _ rfl _ run_allocKey ?_; intro x4 B4 hh hB4 e4; have hlt4 : g < B4 := Nat.lt_of_lt_of_le (Blk.lt hk_.has) hB4; have hlw4 : w.heap.size ≤ B4 := Nat.le_trans hk_.up.size hB4; have hk4 := HoldT.step hstab hk_ e4)
    | (refine wpList_lit3 rfl _ _ _ rfl _ _ _ seed name (put64 (i / 4).toNat) rfl rfl rfl (owns_one hown1) ho2 (owns_one hown3) (exB (sees_of_owns hown1)) (exB hs2) (exB (sees_of_owns hown3)) ?_; intro x5 B5 hbb e5; have hk5 := HoldT.step hstab hk_ e5)
    | (go_at_call 60; refine (Partsr_any _ _ [seed, name, put64 (i / 4).toNat] (exBB hbb) HFL.out).mono ?_; rintro e x6 ⟨rfl, hb6⟩; rw [HS.out]; have e6 : Ext _ x6 := hb6; have hk6 := HoldT.step hstab hk_ e6)
    | (refine wpList_store_row rfl 23 _ _ rfl B4 (keyA S) _ _ rfl rfl (exK hh) (by rw [keyA_size, keyA_size, HSL.out]; rfl) (by rw [keyA_size, HSL.out]; exact info_key) (keyA_one _) ?_; intro x7 hg7 hs7 hR7
       have hk7 : HoldT (StrB g seed name i) w x7 := ⟨Blk.grownBy hk_.has hg7 (some_ne (by omega)), hk_.up.grown hg7 hk_.up.size (fun k hk => by cases hk; exact hlw4)⟩))
        refine phPost_hold (by first | with_reducible assumption | exact HoldT.alloc hstab (by with_reducible assumption) _ | exact HoldT.alloc hstab (HoldT.alloc hstab (by with_reducible assumption) _) _) ?_
        intro hk_
        refine wpTr_fin ?_
        simp only [pickOps, List.flatMap_nil]
        refine wpQuiet_nil ?_
        have hstab2 : Stab (fun u => StrB g seed name i u ∧ KE2 B4 S u) := Stab.and (stabStrB g seed name i) (Stab.blk _ _ _)
        have hkz : HoldT (fun u => StrB g seed name i u ∧ KE2 B4 S u) w x7.drew := HoldT.drew hstab2 ⟨⟨hk_.has, hR7⟩, hk_.up⟩
        have hT1 : ∀ e : InC (fun u => StrB g seed name i u ∧ KE2 B4 S u), e.u.cell? ⟨g, 33, none⟩ = some (.int .u64 i) := fun e => strm_i e.has.1 HK.out
        clear hg7 hs7 hR7
        go_wp2_with fail
        try change Code.wp _ _ _ (Act.mk _ _) _
        haveI hne_ : Nonempty (InC (fun u => StrB g seed name i u ∧ KE2 B4 S u)) := ⟨⟨_, (hkz).1⟩⟩
        refine wp_region_tr (C := fun w_ => ∃ e_ : InC (fun u => StrB g seed name i u ∧ KE2 B4 S u), w_ = e_.u) (.step [0, 1, 2, 3, 4, 5, 6, 7] (.alt 8 (.fin [9, 10, 11, 12, 13]) .nil)) (by kernel_rfl) (by kernel_rfl) (fun _ _ _ _ hd_ h_ => ⟨hd_.symm.trans h_.1, h_.2⟩) ⟨⟨World.drew _, (hkz).1⟩, rfl⟩ ?_
        have hk_ := hkz
        refine wpTr_step ?_
        simp only [pickOps, List.flatMap_cons, List.flatMap_nil, List.drop_succ_cons, List.drop_zero, List.take_succ_cons, List.take_zero, List.cons_append, List.nil_append, List.append_nil]
        iterate 8 (go_big_quiet_step (exact rfl))
        refine wpQuiet_nil ?_
        refine wpTr_one ?_
        simp only [pickOps, List.flatMap_cons, List.flatMap_nil, List.drop_succ_cons, List.drop_zero, List.take_succ_cons, List.take_zero, List.cons_append, List.nil_append, List.append_nil]
        go_wp2_with (first
          | (go_at_call 120; refine (Get64r_ok _ _ S (8 * (i % 4)) (seesB_key hk_.has.2 HSL.out) (by omega) (by rw [HSL.out]; omega)).mono ?_; rintro e y1 ⟨rfl, rfl⟩; rw [← HW.out]))
        refine phPost_hold (by first | with_reducible assumption | exact HoldT.alloc hstab (by with_reducible assumption) _ | exact HoldT.alloc hstab (HoldT.alloc hstab (by with_reducible assumption) _) _) ?_
        intro hk_
        refine wpTr_fin ?_
        simp only [pickOps, List.flatMap_cons, List.flatMap_nil, List.drop_succ_cons, List.drop_zero, List.take_succ_cons, List.take_zero, List.cons_append, List.nil_append, List.append_nil]
        iterate 5 (go_big_quiet_step (exact rfl))
        refine wpQuiet_nil ?_
        have hci := strm_i hk_.has.1 HK.out
        have hfi := Blk.free hk_.has.1 33
        have hend := Blk.set hk_.has.1 33 (.int .u64 (i + 1))
        rw [strmC_set seed name i (i + 1) HK.out] at hend
        have hgr := grownBy_set ((show Ext w _ from hk_.up).g (some g)) 33 (.int .u64 (i + 1))
        go_wp2_with fail
        go_ret
        exact ⟨rfl, hend, hgr⟩
      refine wpTr_one ?_
      simp only [pickOps, List.flatMap_cons, List.flatMap_nil, List.drop_succ_cons, List.drop_zero, List.take_succ_cons, List.take_zero, List.cons_append, List.nil_append, List.append_nil]
      go_wp2_with (first
    | (at_builtin; refine appB (W := w) rfl _ _ rfl (.slice none 0 0) [] rfl (ownB_nil _ _) _ seed rfl (strm_seed hk_.has HK.out) (by rw [HK.out, List.length_nil]; decide) hk_.up ?_; intro v1 x1 hown1 hg1 hb1; rw [List.nil_append] at hown1; have e1 := ext_none hg1; clear hg1; have hk1 := HoldT.step hstab hk_ e1)
    | (refine wpList_strB rfl _ rfl name rfl (by omega) ?_; intro x2 v2 hs2 ho2 e2; have hk2 := HoldT.step hstab hk_ e2)
    | (go_at_call 71; refine (Put64r_any _ _ [] (i / 4) (Sees.nil _ _) (by omega) (by omega) (by decide)).mono ?_; rintro e x3 ⟨v3, rfl, hown3, hb3⟩; rw [List.nil_append] at hown3; have e3 : Ext _ x3 := hb3; have hk3 := HoldT.step hstab hk_ e3)
    | (refine wpList_allocB rfl _ rfl _ run_allocKey ?_; intro x4 B4 hh hB4 e4; have hlt4 : g < B4 := Nat.lt_of_lt_of_le (Blk.lt hk_.has) hB4; have hlw4 : w.heap.size ≤ B4 := Nat.le_trans hk_.up.size hB4; have hk4 := HoldT.step hstab hk_ e4)
    | (refine wpList_lit3 rfl _ _ _ rfl _ _ _ seed name (put64 (i / 4).toNat) rfl rfl rfl (owns_one hown1) ho2 (owns_one hown3) (exB (sees_of_owns hown1)) (exB hs2) (exB (sees_of_owns hown3)) ?_; intro x5 B5 hbb e5; have hk5 := HoldT.step hstab hk_ e5)
    | (go_at_call 60; refine (Partsr_any _ _ [seed, name, put64 (i / 4).toNat] (exBB hbb) HFL.out).mono ?_; rintro e x6 ⟨rfl, hb6⟩; rw [HS.out]; have e6 : Ext _ x6 := hb6; have hk6 := HoldT.step hstab hk_ e6)
    | (refine wpList_store_row rfl 23 _ _ rfl B4 (keyA S) _ _ rfl rfl (exK hh) (by rw [keyA_size, keyA_size, HSL.out]; rfl) (by rw [keyA_size, HSL.out]; exact info_key) (keyA_one _) ?_; intro x7 hg7 hs7 hR7
       have hk7 : HoldT (StrB g seed name i) w x7 := ⟨Blk.grownBy hk_.has hg7 (some_ne (by omega)), hk_.up.grown hg7 hk_.up.size (fun k hk => by cases hk; exact hlw4)⟩))
      refine phPost_hold (by first | with_reducible assumption | exact HoldT.alloc hstab (by with_reducible assumption) _ | exact HoldT.alloc hstab (HoldT.alloc hstab (by with_reducible assumption) _) _) ?_
      intro hk_
      refine wpTr_step ?_
      simp only [pickOps, List.flatMap_nil]
      refine wpQuiet_nil ?_
      refine wpTr_one ?_
      simp only [pickOps, List.flatMap_cons, List.flatMap_nil, List.drop_succ_cons, List.drop_zero, List.take_succ_cons, List.take_zero, List.cons_append, List.nil_append, List.append_nil]
      go_wp2_with (first
    | (at_builtin; refine appB (W := w) rfl _ _ rfl (.slice none 0 0) [] rfl (ownB_nil _ _) _ seed rfl (strm_seed hk_.has HK.out) (by rw [HK.out, List.length_nil]; decide) hk_.up ?_; intro v1 x1 hown1 hg1 hb1; rw [List.nil_append] at hown1; have e1 := ext_none hg1; clear hg1; have hk1 := HoldT.step hstab hk_ e1)
    | (refine wpList_strB rfl _ rfl name rfl (by omega) ?_; intro x2 v2 hs2 ho2 e2; have hk2 := HoldT.step hstab hk_ e2)
    | (go_at_call 71; refine (Put64r_any _ _ [] (i / 4) (Sees.nil _ _) (by omega) (by omega) (by decide)).mono ?_; rintro e x3 ⟨v3, rfl, hown3, hb3⟩; rw [List.nil_append] at hown3; have e3 : Ext _ x3 := hb3; have hk3 := HoldT.step hstab hk_ e3)
    | (refine wpList_allocB rfl _ rfl _ run_allocKey ?_; intro x4 B4 hh hB4 e4; have hlt4 : g < B4 := Nat.lt_of_lt_of_le (Blk.lt hk_.has) hB4; have hlw4 : w.heap.size ≤ B4 := Nat.le_trans hk_.up.size hB4; have hk4 := HoldT.step hstab hk_ e4)
    | (refine wpList_lit3 rfl _ _ _ rfl _ _ _ seed name (put64 (i / 4).toNat) rfl rfl rfl (owns_one hown1) ho2 (owns_one hown3) (exB (sees_of_owns hown1)) (exB hs2) (exB (sees_of_owns hown3)) ?_; intro x5 B5 hbb e5; have hk5 := HoldT.step hstab hk_ e5)
    | (go_at_call 60; refine (Partsr_any _ _ [seed, name, put64 (i / 4).toNat] (exBB hbb) HFL.out).mono ?_; rintro e x6 ⟨rfl, hb6⟩; rw [HS.out]; have e6 : Ext _ x6 := hb6; have hk6 := HoldT.step hstab hk_ e6)
    | (refine wpList_store_row rfl 23 _ _ rfl B4 (keyA S) _ _ rfl rfl (exK hh) (by rw [keyA_size, keyA_size, HSL.out]; rfl) (by rw [keyA_size, HSL.out]; exact info_key) (keyA_one _) ?_; intro x7 hg7 hs7 hR7
       have hk7 : HoldT (StrB g seed name i) w x7 := ⟨Blk.grownBy hk_.has hg7 (some_ne (by omega)), hk_.up.grown hg7 hk_.up.size (fun k hk => by cases hk; exact hlw4)⟩))
      refine phPost_hold (by first | with_reducible assumption | exact HoldT.alloc hstab (by with_reducible assumption) _ | exact HoldT.alloc hstab (HoldT.alloc hstab (by with_reducible assumption) _) _) ?_
      intro hk_
      refine wpTr_step ?_
      simp only [pickOps, List.flatMap_nil]
      refine wpQuiet_nil ?_
      refine wpTr_one ?_
      simp only [pickOps, List.flatMap_cons, List.flatMap_nil, List.drop_succ_cons, List.drop_zero, List.take_succ_cons, List.take_zero, List.cons_append, List.nil_append, List.append_nil]
      go_wp2_with (first
    | (at_builtin; refine appB (W := w) rfl _ _ rfl (.slice none 0 0) [] rfl (ownB_nil _ _) _ seed rfl (strm_seed hk_.has HK.out) (by rw [HK.out, List.length_nil]; decide) hk_.up ?_; intro v1 x1 hown1 hg1 hb1; rw [List.nil_append] at hown1; have e1 := ext_none hg1; clear hg1; have hk1 := HoldT.step hstab hk_ e1)
    | (refine wpList_strB rfl _ rfl name rfl (by omega) ?_; intro x2 v2 hs2 ho2 e2; have hk2 := HoldT.step hstab hk_ e2)
    | (go_at_call 71; refine (Put64r_any _ _ [] (i / 4) (Sees.nil _ _) (by omega) (by omega) (by decide)).mono ?_; rintro e x3 ⟨v3, rfl, hown3, hb3⟩; rw [List.nil_append] at hown3; have e3 : Ext _ x3 := hb3; have hk3 := HoldT.step hstab hk_ e3)
    | (refine wpList_allocB rfl _ rfl _ run_allocKey ?_; intro x4 B4 hh hB4 e4; have hlt4 : g < B4 := Nat.lt_of_lt_of_le (Blk.lt hk_.has) hB4; have hlw4 : w.heap.size ≤ B4 := Nat.le_trans hk_.up.size hB4; have hk4 := HoldT.step hstab hk_ e4)
    | (refine wpList_lit3 rfl _ _ _ rfl _ _ _ seed name (put64 (i / 4).toNat) rfl rfl rfl (owns_one hown1) ho2 (owns_one hown3) (exB (sees_of_owns hown1)) (exB hs2) (exB (sees_of_owns hown3)) ?_; intro x5 B5 hbb e5; have hk5 := HoldT.step hstab hk_ e5)
    | (go_at_call 60; refine (Partsr_any _ _ [seed, name, put64 (i / 4).toNat] (exBB hbb) HFL.out).mono ?_; rintro e x6 ⟨rfl, hb6⟩; rw [HS.out]; have e6 : Ext _ x6 := hb6; have hk6 := HoldT.step hstab hk_ e6)
    | (refine wpList_store_row rfl 23 _ _ rfl B4 (keyA S) _ _ rfl rfl (exK hh) (by rw [keyA_size, keyA_size, HSL.out]; rfl) (by rw [keyA_size, HSL.out]; exact info_key) (keyA_one _) ?_; intro x7 hg7 hs7 hR7
       have hk7 : HoldT (StrB g seed name i) w x7 := ⟨Blk.grownBy hk_.has hg7 (some_ne (by omega)), hk_.up.grown hg7 hk_.up.size (fun k hk => by cases hk; exact hlw4)⟩))
      refine phPost_hold (by first | with_reducible assumption | exact HoldT.alloc hstab (by with_reducible assumption) _ | exact HoldT.alloc hstab (HoldT.alloc hstab (by with_reducible assumption) _) _) ?_
      intro hk_
      refine wpTr_step ?_
      simp only [pickOps, List.flatMap_nil]
      refine wpQuiet_nil ?_
      refine wpTr_one ?_
      simp only [pickOps, List.flatMap_cons, List.flatMap_nil, List.drop_succ_cons, List.drop_zero, List.take_succ_cons, List.take_zero, List.cons_append, List.nil_append, List.append_nil]
      go_wp2_with (first
    | (at_builtin; refine appB (W := w) rfl _ _ rfl (.slice none 0 0) [] rfl (ownB_nil _ _) _ seed rfl (strm_seed hk_.has HK.out) (by rw [HK.out, List.length_nil]; decide) hk_.up ?_; intro v1 x1 hown1 hg1 hb1; rw [List.nil_append] at hown1; have e1 := ext_none hg1; clear hg1; have hk1 := HoldT.step hstab hk_ e1)
    | (refine wpList_strB rfl _ rfl name rfl (by omega) ?_; intro x2 v2 hs2 ho2 e2; have hk2 := HoldT.step hstab hk_ e2)
    | (go_at_call 71; refine (Put64r_any _ _ [] (i / 4) (Sees.nil _ _) (by omega) (by omega) (by decide)).mono ?_; rintro e x3 ⟨v3, rfl, hown3, hb3⟩; rw [List.nil_append] at hown3; have e3 : Ext _ x3 := hb3; have hk3 := HoldT.step hstab hk_ e3)
    | (refine wpList_allocB rfl _ rfl _ run_allocKey ?_; intro x4 B4 hh hB4 e4; have hlt4 : g < B4 := Nat.lt_of_lt_of_le (Blk.lt hk_.has) hB4; have hlw4 : w.heap.size ≤ B4 := Nat.le_trans hk_.up.size hB4; have hk4 := HoldT.step hstab hk_ e4)
    | (refine wpList_lit3 rfl _ _ _ rfl _ _ _ seed name (put64 (i / 4).toNat) rfl rfl rfl (owns_one hown1) ho2 (owns_one hown3) (exB (sees_of_owns hown1)) (exB hs2) (exB (sees_of_owns hown3)) ?_; intro x5 B5 hbb e5; have hk5 := HoldT.step hstab hk_ e5)
    | (go_at_call 60; refine (Partsr_any _ _ [seed, name, put64 (i / 4).toNat] (exBB hbb) HFL.out).mono ?_; rintro e x6 ⟨rfl, hb6⟩; rw [HS.out]; have e6 : Ext _ x6 := hb6; have hk6 := HoldT.step hstab hk_ e6)
    | (refine wpList_store_row rfl 23 _ _ rfl B4 (keyA S) _ _ rfl rfl (exK hh) (by rw [keyA_size, keyA_size, HSL.out]; rfl) (by rw [keyA_size, HSL.out]; exact info_key) (keyA_one _) ?_; intro x7 hg7 hs7 hR7
       have hk7 : HoldT (StrB g seed name i) w x7 := ⟨Blk.grownBy hk_.has hg7 (some_ne (by omega)), hk_.up.grown hg7 hk_.up.size (fun k hk => by cases hk; exact hlw4)⟩))
      refine phPost_hold (by first | with_reducible assumption | exact HoldT.alloc hstab (by with_reducible assumption) _ | exact HoldT.alloc hstab (HoldT.alloc hstab (by with_reducible assumption) _) _) ?_
      intro hk_
      refine wpTr_step ?_
      simp only [pickOps, List.flatMap_nil]
      refine wpQuiet_nil ?_
      refine wpTr_one ?_
      simp only [pickOps, List.flatMap_cons, List.flatMap_nil, List.drop_succ_cons, List.drop_zero, List.take_succ_cons, List.take_zero, List.cons_append, List.nil_append, List.append_nil]
      go_wp2_with (first
    | (at_builtin; refine appB (W := w) rfl _ _ rfl (.slice none 0 0) [] rfl (ownB_nil _ _) _ seed rfl (strm_seed hk_.has HK.out) (by rw [HK.out, List.length_nil]; decide) hk_.up ?_; intro v1 x1 hown1 hg1 hb1; rw [List.nil_append] at hown1; have e1 := ext_none hg1; clear hg1; have hk1 := HoldT.step hstab hk_ e1)
    | (refine wpList_strB rfl _ rfl name rfl (by omega) ?_; intro x2 v2 hs2 ho2 e2; have hk2 := HoldT.step hstab hk_ e2)
    | (go_at_call 71; refine (Put64r_any _ _ [] (i / 4) (Sees.nil _ _) (by omega) (by omega) (by decide)).mono ?_; rintro e x3 ⟨v3, rfl, hown3, hb3⟩; rw [List.nil_append] at hown3; have e3 : Ext _ x3 := hb3; have hk3 := HoldT.step hstab hk_ e3)
    | (refine wpList_allocB rfl _ rfl _ run_allocKey ?_; intro x4 B4 hh hB4 e4; have hlt4 : g < B4 := Nat.lt_of_lt_of_le (Blk.lt hk_.has) hB4; have hlw4 : w.heap.size ≤ B4 := Nat.le_trans hk_.up.size hB4; have hk4 := HoldT.step hstab hk_ e4)
    | (refine wpList_lit3 rfl _ _ _ rfl _ _ _ seed name (put64 (i / 4).toNat) rfl rfl rfl (owns_one hown1) ho2 (owns_one hown3) (exB (sees_of_owns hown1)) (exB hs2) (exB (sees_of_owns hown3)) ?_; intro x5 B5 hbb e5; have hk5 := HoldT.step hstab hk_ e5)
    | (go_at_call 60; refine (Partsr_any _ _ [seed, name, put64 (i / 4).toNat] (exBB hbb) HFL.out).mono ?_; rintro e x6 ⟨rfl, hb6⟩; rw [HS.out]; have e6 : Ext _ x6 := hb6; have hk6 := HoldT.step hstab hk_ e6)
    | (refine wpList_store_row rfl 23 _ _ rfl B4 (keyA S) _ _ rfl rfl (exK hh) (by rw [keyA_size, keyA_size, HSL.out]; rfl) (by rw [keyA_size, HSL.out]; exact info_key) (keyA_one _) ?_; intro x7 hg7 hs7 hR7
       have hk7 : HoldT (StrB g seed name i) w x7 := ⟨Blk.grownBy hk_.has hg7 (some_ne (by omega)), hk_.up.grown hg7 hk_.up.size (fun k hk => by cases hk; exact hlw4)⟩))
      refine phPost_hold (by first | with_reducible assumption | exact HoldT.alloc hstab (by with_reducible assumption) _ | exact HoldT.alloc hstab (HoldT.alloc hstab (by with_reducible assumption) _) _) ?_
      intro hk_
      refine wpTr_fin ?_
      simp only [pickOps, List.flatMap_nil]
      refine wpQuiet_nil ?_
      have hstab2 : Stab (fun u => StrB g seed name i u ∧ KE2 B4 S u) := Stab.and (stabStrB g seed name i) (Stab.blk _ _ _)
      have hkz : HoldT (fun u => StrB g seed name i u ∧ KE2 B4 S u) w x7.drew := HoldT.drew hstab2 ⟨⟨hk_.has, hR7⟩, hk_.up⟩
      have hT1 : ∀ e : InC (fun u => StrB g seed name i u ∧ KE2 B4 S u), e.u.cell? ⟨g, 33, none⟩ = some (.int .u64 i) := fun e => strm_i e.has.1 HK.out
      clear hg7 hs7 hR7
      go_wp2_with fail
      try change Code.wp _ _ _ (Act.mk _ _) _
      haveI hne_ : Nonempty (InC (fun u => StrB g seed name i u ∧ KE2 B4 S u)) := ⟨⟨_, (hkz).1⟩⟩
      refine wp_region_tr (C := fun w_ => ∃ e_ : InC (fun u => StrB g seed name i u ∧ KE2 B4 S u), w_ = e_.u) (.step [0, 1, 2, 3, 4, 5, 6, 7] (.alt 8 (.fin [9, 10, 11, 12, 13]) .nil)) (by kernel_rfl) (by kernel_rfl) (fun _ _ _ _ hd_ h_ => ⟨hd_.symm.trans h_.1, h_.2⟩) ⟨⟨World.drew _, (hkz).1⟩, rfl⟩ ?_
      have hk_ := hkz
      refine wpTr_step ?_
      simp only [pickOps, List.flatMap_cons, List.flatMap_nil, List.drop_succ_cons, List.drop_zero, List.take_succ_cons, List.take_zero, List.cons_append, List.nil_append, List.append_nil]
      iterate 8 (go_big_quiet_step (exact rfl))
      refine wpQuiet_nil ?_
      refine wpTr_one ?_
      simp only [pickOps, List.flatMap_cons, List.flatMap_nil, List.drop_succ_cons, List.drop_zero, List.take_succ_cons, List.take_zero, List.cons_append, List.nil_append, List.append_nil]
      go_wp2_with (first
        | (go_at_call 120; refine (Get64r_ok _ _ S (8 * (i % 4)) (seesB_key hk_.has.2 HSL.out) (by omega) (by rw [HSL.out]; omega)).mono ?_; rintro e y1 ⟨rfl, rfl⟩; rw [← HW.out]))
      refine phPost_hold (by first | with_reducible assumption | exact HoldT.alloc hstab (by with_reducible assumption) _ | exact HoldT.alloc hstab (HoldT.alloc hstab (by with_reducible assumption) _) _) ?_
      intro hk_
      refine wpTr_fin ?_
      simp only [pickOps, List.flatMap_cons, List.flatMap_nil, List.drop_succ_cons, List.drop_zero, List.take_succ_cons, List.take_zero, List.cons_append, List.nil_append, List.append_nil]
      iterate 5 (go_big_quiet_step (exact rfl))
      refine wpQuiet_nil ?_
      have hci := strm_i hk_.has.1 HK.out
      have hfi := Blk.free hk_.has.1 33
      have hend := Blk.set hk_.has.1 33 (.int .u64 (i + 1))
      rw [strmC_set seed name i (i + 1) HK.out] at hend
      have hgr := grownBy_set ((show Ext w _ from hk_.up).g (some g)) 33 (.int .u64 (i + 1))
      go_wp2_with fail
      go_ret
      exact ⟨rfl, hend, hgr⟩
    refine wpTr_alt ?_ ?_
    focus
      simp only [pickOps, List.flatMap_cons, List.flatMap_nil, List.drop_succ_cons, List.drop_zero, List.take_succ_cons, List.take_zero, List.cons_append, List.nil_append, List.append_nil]
      go_wp2_with (first
    | (at_builtin; refine appB (W := w) rfl _ _ rfl (.slice none 0 0) [] rfl (ownB_nil _ _) _ seed rfl (strm_seed hk_.has HK.out) (by rw [HK.out, List.length_nil]; decide) hk_.up ?_; intro v1 x1 hown1 hg1 hb1; rw [List.nil_append] at hown1; have e1 := ext_none hg1; clear hg1; have hk1 := HoldT.step hstab hk_ e1)
    | (refine wpList_strB rfl _ rfl name rfl (by omega) ?_; intro x2 v2 hs2 ho2 e2; have hk2 := HoldT.step hstab hk_ e2)
    | (go_at_call 71; refine (Put64r_any _ _ [] (i / 4) (Sees.nil _ _) (by omega) (by omega) (by decide)).mono ?_; rintro e x3 ⟨v3, rfl, hown3, hb3⟩; rw [List.nil_append] at hown3; have e3 : Ext _ x3 := hb3; have hk3 := HoldT.step hstab hk_ e3)
    | (refine wpList_allocB rfl _ rfl _ run_allocKey ?_; intro x4 B4 hh hB4 e4; have hlt4 : g < B4 := Nat.lt_of_lt_of_le (Blk.lt hk_.has) hB4; have hlw4 : w.heap.size ≤ B4 := Nat.le_trans hk_.up.size hB4; have hk4 := HoldT.step hstab hk_ e4)
    | (refine wpList_lit3 rfl _ _ _ rfl _ _ _ seed name (put64 (i / 4).toNat) rfl rfl rfl (owns_one hown1) ho2 (owns_one hown3) (exB (sees_of_owns hown1)) (exB hs2) (exB (sees_of_owns hown3)) ?_; intro x5 B5 hbb e5; have hk5 := HoldT.step hstab hk_ e5)
    | (go_at_call 60; refine (Partsr_any _ _ [seed, name, put64 (i / 4).toNat] (exBB hbb) HFL.out).mono ?_; rintro e x6 ⟨rfl, hb6⟩; rw [HS.out]; have e6 : Ext _ x6 := hb6; have hk6 := HoldT.step hstab hk_ e6)
    | (refine wpList_store_row rfl 23 _ _ rfl B4 (keyA S) _ _ rfl rfl (exK hh) (by rw [keyA_size, keyA_size, HSL.out]; rfl) (by rw [keyA_size, HSL.out]; exact info_key) (keyA_one _) ?_; intro x7 hg7 hs7 hR7
       have hk7 : HoldT (StrB g seed name i) w x7 := ⟨Blk.grownBy hk_.has hg7 (some_ne (by omega)), hk_.up.grown hg7 hk_.up.size (fun k hk => by cases hk; exact hlw4)⟩))
      refine phPost_hold (by first | with_reducible assumption | exact HoldT.alloc hstab (by with_reducible assumption) _ | exact HoldT.alloc hstab (HoldT.alloc hstab (by with_reducible assumption) _) _) ?_
      intro hk_
      refine wpTr_step ?_
      simp only [pickOps, List.flatMap_nil]
      refine wpQuiet_nil ?_
      refine wpTr_alt ?_ ?_
      focus
        simp only [pickOps, List.flatMap_cons, List.flatMap_nil, List.drop_succ_cons, List.drop_zero, List.take_succ_cons, List.take_zero, List.cons_append, List.nil_append, List.append_nil]
        go_wp2_with (first
    | (at_builtin; refine appB (W := w) rfl _ _ rfl (.slice none 0 0) [] rfl (ownB_nil _ _) _ seed rfl (strm_seed hk_.has HK.out) (by rw [HK.out, List.length_nil]; decide) hk_.up ?_; intro v1 x1 hown1 hg1 hb1; rw [List.nil_append] at hown1; have e1 := ext_none hg1; clear hg1; have hk1 := HoldT.step hstab hk_ e1)
    | (refine wpList_strB rfl _ rfl name rfl (by omega) ?_; intro x2 v2 hs2 ho2 e2; have hk2 := HoldT.step hstab hk_ e2)
    | (go_at_call 71; refine (Put64r_any _ _ [] (i / 4) (Sees.nil _ _) (by omega) (by omega) (by decide)).mono ?_; rintro e x3 ⟨v3, rfl, hown3, hb3⟩; rw [List.nil_append] at hown3; have e3 : Ext _ x3 := hb3; have hk3 := HoldT.step hstab hk_ e3)
    | (refine wpList_allocB rfl _ rfl _ run_allocKey ?_; intro x4 B4 hh hB4 e4; have hlt4 : g < B4 := Nat.lt_of_lt_of_le (Blk.lt hk_.has) hB4; have hlw4 : w.heap.size ≤ B4 := Nat.le_trans hk_.up.size hB4; have hk4 := HoldT.step hstab hk_ e4)
    | (refine wpList_lit3 rfl _ _ _ rfl _ _ _ seed name (put64 (i / 4).toNat) rfl rfl rfl (owns_one hown1) ho2 (owns_one hown3) (exB (sees_of_owns hown1)) (exB hs2) (exB (sees_of_owns hown3)) ?_; intro x5 B5 hbb e5; have hk5 := HoldT.step hstab hk_ e5)
    | (go_at_call 60; refine (Partsr_any _ _ [seed, name, put64 (i / 4).toNat] (exBB hbb) HFL.out).mono ?_; rintro e x6 ⟨rfl, hb6⟩; rw [HS.out]; have e6 : Ext _ x6 := hb6; have hk6 := HoldT.step hstab hk_ e6)
    | (refine wpList_store_row rfl 23 _ _ rfl B4 (keyA S) _ _ rfl rfl (exK hh) (by rw [keyA_size, keyA_size, HSL.out]; rfl) (by rw [keyA_size, HSL.out]; exact info_key) (keyA_one _) ?_; intro x7 hg7 hs7 hR7
       have hk7 : HoldT (StrB g seed name i) w x7 := ⟨Blk.grownBy hk_.has hg7 (some_ne (by omega)), hk_.up.grown hg7 hk_.up.size (fun k hk => by cases hk; exact hlw4)⟩))
        refine phPost_hold (by first | with_reducible assumption | exact HoldT.alloc hstab (by with_reducible assumption) _ | exact HoldT.alloc hstab (HoldT.alloc hstab (by with_reducible assumption) _) _) ?_
        intro hk_
        refine wpTr_step ?_
        simp only [pickOps, List.flatMap_nil]
        refine wpQuiet_nil ?_
        refine wpTr_alt ?_ ?_
        focus
          simp only [pickOps, List.flatMap_cons, List.flatMap_nil, List.drop_succ_cons, List.drop_zero, List.take_succ_cons, List.take_zero, List.cons_append, List.nil_append, List.append_nil]
          go_wp2_with (first
    | (at_builtin; refine appB (W := w) rfl _ _ rfl (.slice none 0 0) [] rfl (ownB_nil _ _) _ seed rfl (strm_seed hk_.has HK.out) (by rw [HK.out, List.length_nil]; decide) hk_.up ?_; intro v1 x1 hown1 hg1 hb1; rw [List.nil_append] at hown1; have e1 := ext_none hg1; clear hg1; have hk1 := HoldT.step hstab hk_ e1)
    | (refine wpList_strB rfl _ rfl name rfl (by omega) ?_; intro x2 v2 hs2 ho2 e2; have hk2 := HoldT.step hstab hk_ e2)
    | (go_at_call 71; refine (Put64r_any _ _ [] (i / 4) (Sees.nil _ _) (by omega) (by omega) (by decide)).mono ?_; rintro e x3 ⟨v3, rfl, hown3, hb3⟩; rw [List.nil_append] at hown3; have e3 : Ext _ x3 := hb3; have hk3 := HoldT.step hstab hk_ e3)
    | (refine wpList_allocB rfl _ rfl _ run_allocKey ?_; intro x4 B4 hh hB4 e4; have hlt4 : g < B4 := Nat.lt_of_lt_of_le (Blk.lt hk_.has) hB4; have hlw4 : w.heap.size ≤ B4 := Nat.le_trans hk_.up.size hB4; have hk4 := HoldT.step hstab hk_ e4)
    | (refine wpList_lit3 rfl _ _ _ rfl _ _ _ seed name (put64 (i / 4).toNat) rfl rfl rfl (owns_one hown1) ho2 (owns_one hown3) (exB (sees_of_owns hown1)) (exB hs2) (exB (sees_of_owns hown3)) ?_; intro x5 B5 hbb e5; have hk5 := HoldT.step hstab hk_ e5)
    | (go_at_call 60; refine (Partsr_any _ _ [seed, name, put64 (i / 4).toNat] (exBB hbb) HFL.out).mono ?_; rintro e x6 ⟨rfl, hb6⟩; rw [HS.out]; have e6 : Ext _ x6 := hb6; have hk6 := HoldT.step hstab hk_ e6)
    | (refine wpList_store_row rfl 23 _ _ rfl B4 (keyA S) _ _ rfl rfl (exK hh) (by rw [keyA_size, keyA_size, HSL.out]; rfl) (by rw [keyA_size, HSL.out]; exact info_key) (keyA_one _) ?_; intro x7 hg7 hs7 hR7
       have hk7 : HoldT (StrB g seed name i) w x7 := ⟨Blk.grownBy hk_.has hg7 (some_ne (by omega)), hk_.up.grown hg7 hk_.up.size (fun k hk => by cases hk; exact hlw4)⟩))
          refine phPost_hold (by first | with_reducible assumption | exact HoldT.alloc hstab (by with_reducible assumption) _ | exact HoldT.alloc hstab (HoldT.alloc hstab (by with_reducible assumption) _) _) ?_
          intro hk_
          refine wpTr_step ?_
          simp only [pickOps, List.flatMap_nil]
          refine wpQuiet_nil ?_
          refine wpTr_alt ?_ ?_
          focus
            simp only [pickOps, List.flatMap_cons, List.flatMap_nil, List.drop_succ_cons, List.drop_zero, List.take_succ_cons, List.take_zero, List.cons_append, List.nil_append, List.append_nil]
            go_wp2_with (first
    | (at_builtin; refine appB (W := w) rfl _ _ rfl (.slice none 0 0) [] rfl (ownB_nil _ _) _ seed rfl (strm_seed hk_.has HK.out) (by rw [HK.out, List.length_nil]; decide) hk_.up ?_; intro v1 x1 hown1 hg1 hb1; rw [List.nil_append] at hown1; have e1 := ext_none hg1; clear hg1; have hk1 := HoldT.step hstab hk_ e1)
    | (refine wpList_strB rfl _ rfl name rfl (by omega) ?_; intro x2 v2 hs2 ho2 e2; have hk2 := HoldT.step hstab hk_ e2)
    | (go_at_call 71; refine (Put64r_any _ _ [] (i / 4) (Sees.nil _ _) (by omega) (by omega) (by decide)).mono ?_; rintro e x3 ⟨v3, rfl, hown3, hb3⟩; rw [List.nil_append] at hown3; have e3 : Ext _ x3 := hb3; have hk3 := HoldT.step hstab hk_ e3)
    | (refine wpList_allocB rfl _ rfl _ run_allocKey ?_; intro x4 B4 hh hB4 e4; have hlt4 : g < B4 := Nat.lt_of_lt_of_le (Blk.lt hk_.has) hB4; have hlw4 : w.heap.size ≤ B4 := Nat.le_trans hk_.up.size hB4; have hk4 := HoldT.step hstab hk_ e4)
    | (refine wpList_lit3 rfl _ _ _ rfl _ _ _ seed name (put64 (i / 4).toNat) rfl rfl rfl (owns_one hown1) ho2 (owns_one hown3) (exB (sees_of_owns hown1)) (exB hs2) (exB (sees_of_owns hown3)) ?_; intro x5 B5 hbb e5; have hk5 := HoldT.step hstab hk_ e5)
    | (go_at_call 60; refine (Partsr_any _ _ [seed, name, put64 (i / 4).toNat] (exBB hbb) HFL.out).mono ?_; rintro e x6 ⟨rfl, hb6⟩; rw [HS.out]; have e6 : Ext _ x6 := hb6; have hk6 := HoldT.step hstab hk_ e6)
    | (refine wpList_store_row rfl 23 _ _ rfl B4 (keyA S) _ _ rfl rfl (exK hh) (by rw [keyA_size, keyA_size, HSL.out]; rfl) (by rw [keyA_size, HSL.out]; exact info_key) (keyA_one _) ?_; intro x7 hg7 hs7 hR7
       have hk7 : HoldT (StrB g seed name i) w x7 := ⟨Blk.grownBy hk_.has hg7 (some_ne (by omega)), hk_.up.grown hg7 hk_.up.size (fun k hk => by cases hk; exact hlw4)⟩))
            refine phPost_hold (by first | with_reducible assumption | exact HoldT.alloc hstab (by with_reducible assumption) _ | exact HoldT.alloc hstab (HoldT.alloc hstab (by with_reducible assumption) _) _) ?_
            intro hk_
            refine wpTr_step ?_
            simp only [pickOps, List.flatMap_nil]
            refine wpQuiet_nil ?_
            refine wpTr_one ?_
            simp only [pickOps, List.flatMap_cons, List.flatMap_nil, List.drop_succ_cons, List.drop_zero, List.take_succ_cons, List.take_zero, List.cons_append, List.nil_append, List.append_nil]
            go_wp2_with (first
    | (at_builtin; refine appB (W := w) rfl _ _ rfl (.slice none 0 0) [] rfl (ownB_nil _ _) _ seed rfl (strm_seed hk_.has HK.out) (by rw [HK.out, List.length_nil]; decide) hk_.up ?_; intro v1 x1 hown1 hg1 hb1; rw [List.nil_append] at hown1; have e1 := ext_none hg1; clear hg1; have hk1 := HoldT.step hstab hk_ e1)
    | (refine wpList_strB rfl _ rfl name rfl (by omega) ?_; intro x2 v2 hs2 ho2 e2; have hk2 := HoldT.step hstab hk_ e2)
    | (go_at_call 71; refine (Put64r_any _ _ [] (i / 4) (Sees.nil _ _) (by omega) (by omega) (by decide)).mono ?_; rintro e x3 ⟨v3, rfl, hown3, hb3⟩; rw [List.nil_append] at hown3; have e3 : Ext _ x3 := hb3; have hk3 := HoldT.step hstab hk_ e3)
    | (refine wpList_allocB rfl _ rfl _ run_allocKey ?_; intro x4 B4 hh hB4 e4; have hlt4 : g < B4 := Nat.lt_of_lt_of_le (Blk.lt hk_.has) hB4; have hlw4 : w.heap.size ≤ B4 := Nat.le_trans hk_.up.size hB4; have hk4 := HoldT.step hstab hk_ e4)
    | (refine wpList_lit3 rfl _ _ _ rfl _ _ _ seed name (put64 (i / 4).toNat) rfl rfl rfl (owns_one hown1) ho2 (owns_one hown3) (exB (sees_of_owns hown1)) (exB hs2) (exB (sees_of_owns hown3)) ?_; intro x5 B5 hbb e5; have hk5 := HoldT.step hstab hk_ e5)
    | (go_at_call 60; refine (Partsr_any _ _ [seed, name, put64 (i / 4).toNat] (exBB hbb) HFL.out).mono ?_; rintro e x6 ⟨rfl, hb6⟩; rw [HS.out]; have e6 : Ext _ x6 := hb6; have hk6 := HoldT.step hstab hk_ e6)
    | (refine wpList_store_row rfl 23 _ _ rfl B4 (keyA S) _ _ rfl rfl (exK hh) (by rw [keyA_size, keyA_size, HSL.out]; rfl) (by rw [keyA_size, HSL.out]; exact info_key) (keyA_one _) ?_; intro x7 hg7 hs7 hR7
       have hk7 : HoldT (StrB g seed name i) w x7 := ⟨Blk.grownBy hk_.has hg7 (some_ne (by omega)), hk_.up.grown hg7 hk_.up.size (fun k hk => by cases hk; exact hlw4)⟩))
            refine phPost_hold (by first | with_reducible assumption | exact HoldT.alloc hstab (by with_reducible assumption) _ | exact HoldT.alloc hstab (HoldT.alloc hstab (by with_reducible assumption) _) _) ?_
            intro hk_
            refine wpTr_step ?_
            simp only [pickOps, List.flatMap_nil]
            refine wpQuiet_nil ?_
            refine wpTr_one ?_
            simp only [pickOps, List.flatMap_cons, List.flatMap_nil, List.drop_succ_cons, List.drop_zero, List.take_succ_cons, List.take_zero, List.cons_append, List.nil_append, List.append_nil]
            go_wp2_with (first
    | (at_builtin; refine appB (W := w) rfl _ _ rfl (.slice none 0 0) [] rfl (ownB_nil _ _) _ seed rfl (strm_seed hk_.has HK.out) (by rw [HK.out, List.length_nil]; decide) hk_.up ?_; intro v1 x1 hown1 hg1 hb1; rw [List.nil_append] at hown1; have e1 := ext_none hg1; clear hg1; have hk1 := HoldT.step hstab hk_ e1)
    | (refine wpList_strB rfl _ rfl name rfl (by omega) ?_; intro x2 v2 hs2 ho2 e2; have hk2 := HoldT.step hstab hk_ e2)
    | (go_at_call 71; refine (Put64r_any _ _ [] (i / 4) (Sees.nil _ _) (by omega) (by omega) (by decide)).mono ?_; rintro e x3 ⟨v3, rfl, hown3, hb3⟩; rw [List.nil_append] at hown3; have e3 : Ext _ x3 := hb3; have hk3 := HoldT.step hstab hk_ e3)
    | (refine wpList_allocB rfl _ rfl _ run_allocKey ?_; intro x4 B4 hh hB4 e4; have hlt4 : g < B4 := Nat.lt_of_lt_of_le (Blk.lt hk_.has) hB4; have hlw4 : w.heap.size ≤ B4 := Nat.le_trans hk_.up.size hB4; have hk4 := HoldT.step hstab hk_ e4)
    | (refine wpList_lit3 rfl _ _ _ rfl _ _ _ seed name (put64 (i / 4).toNat) rfl rfl rfl (owns_one hown1) ho2 (owns_one hown3) (exB (sees_of_owns hown1)) (exB hs2) (exB (sees_of_owns hown3)) ?_; intro x5 B5 hbb e5; have hk5 := HoldT.step hstab hk_ e5)
    | (go_at_call 60; refine (Partsr_any _ _ [seed, name, put64 (i / 4).toNat] (exBB hbb) HFL.out).mono ?_; rintro e x6 ⟨rfl, hb6⟩; rw [HS.out]; have e6 : Ext _ x6 := hb6; have hk6 := HoldT.step hstab hk_ e6)
    | (refine wpList_store_row rfl 23 _ _ rfl B4 (keyA S) _ _ rfl rfl (exK hh) (by rw [keyA_size, keyA_size, HSL.out]; rfl) (by rw [keyA_size, HSL.out]; exact info_key) (keyA_one _) ?_; intro x7 hg7 hs7 hR7
       have hk7 : HoldT (StrB g seed name i) w x7 := ⟨Blk.grownBy hk_.has hg7 (some_ne (by omega)), hk_.up.grown hg7 hk_.up.size (fun k hk => by cases hk; exact hlw4)⟩))
            refine phPost_hold (by first | with_reducible assumption | exact HoldT.alloc hstab (by with_reducible assumption) _ | exact HoldT.alloc hstab (HoldT.alloc hstab (by with_reducible assumption) _) _) ?_
            intro hk_
            refine wpTr_fin ?_
            simp only [pickOps, List.flatMap_nil]
            refine wpQuiet_nil ?_
            have hstab2 : Stab (fun u => StrB g seed name i u ∧ KE2 B4 S u) := Stab.and (stabStrB g seed name i) (Stab.blk _ _ _)
            have hkz : HoldT (fun u => StrB g seed name i u ∧ KE2 B4 S u) w x7.drew := HoldT.drew hstab2 ⟨⟨hk_.has, hR7⟩, hk_.up⟩
            have hT1 : ∀ e : InC (fun u => StrB g seed name i u ∧ KE2 B4 S u), e.u.cell? ⟨g, 33, none⟩ = some (.int .u64 i) := fun e => strm_i e.has.1 HK.out
            clear hg7 hs7 hR7
            go_wp2_with fail
            try change Code.wp _ _ _ (Act.mk _ _) _
            haveI hne_ : Nonempty (InC (fun u => StrB g seed name i u ∧ KE2 B4 S u)) := ⟨⟨_, (hkz).1⟩⟩
            refine wp_region_tr (C := fun w_ => ∃ e_ : InC (fun u => StrB g seed name i u ∧ KE2 B4 S u), w_ = e_.u) (.step [0, 1, 2, 3, 4, 5, 6, 7] (.alt 8 (.fin [9, 10, 11, 12, 13]) .nil)) (by kernel_rfl) (by kernel_rfl) (fun _ _ _ _ hd_ h_ => ⟨hd_.symm.trans h_.1, h_.2⟩) ⟨⟨World.drew _, (hkz).1⟩, rfl⟩ ?_
            have hk_ := hkz
            refine wpTr_step ?_
            simp only [pickOps, List.flatMap_cons, List.flatMap_nil, List.drop_succ_cons, List.drop_zero, List.take_succ_cons, List.take_zero, List.cons_append, List.nil_append, List.append_nil]
            iterate 8 (go_big_quiet_step (exact rfl))
            refine wpQuiet_nil ?_
            refine wpTr_one ?_
            simp only [pickOps, List.flatMap_cons, List.flatMap_nil, List.drop_succ_cons, List.drop_zero, List.take_succ_cons, List.take_zero, List.cons_append, List.nil_append, List.append_nil]
            go_wp2_with (first
              | (go_at_call 120; refine (Get64r_ok _ _ S (8 * (i % 4)) (seesB_key hk_.has.2 HSL.out) (by omega) (by rw [HSL.out]; omega)).mono ?_; rintro e y1 ⟨rfl, rfl⟩; rw [← HW.out]))
            refine phPost_hold (by first | with_reducible assumption | exact HoldT.alloc hstab (by with_reducible assumption) _ | exact HoldT.alloc hstab (HoldT.alloc hstab (by with_reducible assumption) _) _) ?_
            intro hk_
            refine wpTr_fin ?_
            simp only [pickOps, List.flatMap_cons, List.flatMap_nil, List.drop_succ_cons, List.drop_zero, List.take_succ_cons, List.take_zero, List.cons_append, List.nil_append, List.append_nil]
            iterate 5 (go_big_quiet_step (exact rfl))
            refine wpQuiet_nil ?_
            have hci := strm_i hk_.has.1 HK.out
            have hfi := Blk.free hk_.has.1 33
            have hend := Blk.set hk_.has.1 33 (.int .u64 (i + 1))
            rw [strmC_set seed name i (i + 1) HK.out] at hend
            have hgr := grownBy_set ((show Ext w _ from hk_.up).g (some g)) 33 (.int .u64 (i + 1))
            go_wp2_with fail
            go_ret
            exact ⟨rfl, hend, hgr⟩
          refine wpTr_one ?_
          simp only [pickOps, List.flatMap_cons, List.flatMap_nil, List.drop_succ_cons, List.drop_zero, List.take_succ_cons, List.take_zero, List.cons_append, List.nil_append, List.append_nil]
          go_wp2_with (first
    | (at_builtin; refine appB (W := w) rfl _ _ rfl (.slice none 0 0) [] rfl (ownB_nil _ _) _ seed rfl (strm_seed hk_.has HK.out) (by rw [HK.out, List.length_nil]; decide) hk_.up ?_; intro v1 x1 hown1 hg1 hb1; rw [List.nil_append] at hown1; have e1 := ext_none hg1; clear hg1; have hk1 := HoldT.step hstab hk_ e1)
    | (refine wpList_strB rfl _ rfl name rfl (by omega) ?_; intro x2 v2 hs2 ho2 e2; have hk2 := HoldT.step hstab hk_ e2)
    | (go_at_call 71; refine (Put64r_any _ _ [] (i / 4) (Sees.nil _ _) (by omega) (by omega) (by decide)).mono ?_; rintro e x3 ⟨v3, rfl, hown3, hb3⟩; rw [List.nil_append] at hown3; have e3 : Ext _ x3 := hb3; have hk3 := HoldT.step hstab hk_ e3)
    | (refine wpList_allocB rfl _ rfl _ run_allocKey ?_; intro x4 B4 hh hB4 e4; have hlt4 : g < B4 := Nat.lt_of_lt_of_le (Blk.lt hk_.has) hB4; have hlw4 : w.heap.size ≤ B4 := Nat.le_trans hk_.up.size hB4; have hk4 := HoldT.step hstab hk_ e4)
    | (refine wpList_lit3 rfl _ _ _ rfl _ _ _ seed name (put64 (i / 4).toNat) rfl rfl rfl (owns_one hown1) ho2 (owns_one hown3) (exB (sees_of_owns hown1)) (exB hs2) (exB (sees_of_owns hown3)) ?_; intro x5 B5 hbb e5; have hk5 := HoldT.step hstab hk_ e5)
    | (go_at_call 60; refine (Partsr_any _ _ [seed, name, put64 (i / 4).toNat] (exBB hbb) HFL.out).mono ?_; rintro e x6 ⟨rfl, hb6⟩; rw [HS.out]; have e6 : Ext _ x6 := hb6; have hk6 := HoldT.step hstab hk_ e6)
    | (refine wpList_store_row rfl 23 _ _ rfl B4 (keyA S) _ _ rfl rfl (exK hh) (by rw [keyA_size, keyA_size, HSL.out]; rfl) (by rw [keyA_size, HSL.out]; exact info_key) (keyA_one _) ?_; intro x7 hg7 hs7 hR7
       have hk7 : HoldT (StrB g seed name i) w x7 := ⟨Blk.grownBy hk_.has hg7 (some_ne (by omega)), hk_.up.grown hg7 hk_.up.size (fun k hk => by cases hk; exact hlw4)⟩))
          refine phPost_hold (by first | with_reducible assumption | exact HoldT.alloc hstab (by with_reducible assumption) _ | exact HoldT.alloc hstab (HoldT.alloc hstab (by with_reducible assumption) _) _) ?_
          intro hk_
          refine wpTr_step ?_
          simp only [pickOps, List.flatMap_nil]
          refine wpQuiet_nil ?_
          refine wpTr_one ?_
          simp only [pickOps, List.flatMap_cons, List.flatMap_nil, List.drop_succ_cons, List.drop_zero, List.take_succ_cons, List.take_zero, List.cons_append, List.nil_append, List.append_nil]
          go_wp2_with (first
    | (at_builtin; refine appB (W := w) rfl _ _ rfl (.slice none 0 0) [] rfl (ownB_nil _ _) _ seed rfl (strm_seed hk_.has HK.out) (by rw [HK.out, List.length_nil]; decide) hk_.up ?_; intro v1 x1 hown1 hg1 hb1; rw [List.nil_append] at hown1; have e1 := ext_none hg1; clear hg1; have hk1 := HoldT.step hstab hk_ e1)
    | (refine wpList_strB rfl _ rfl name rfl (by omega) ?_; intro x2 v2 hs2 ho2 e2; have hk2 := HoldT.step hstab hk_ e2)
    | (go_at_call 71; refine (Put64r_any _ _ [] (i / 4) (Sees.nil _ _) (by omega) (by omega) (by decide)).mono ?_; rintro e x3 ⟨v3, rfl, hown3, hb3⟩; rw [List.nil_append] at hown3; have e3 : Ext _ x3 := hb3; have hk3 := HoldT.step hstab hk_ e3)
    | (refine wpList_allocB rfl _ rfl _ run_allocKey ?_; intro x4 B4 hh hB4 e4; have hlt4 : g < B4 := Nat.lt_of_lt_of_le (Blk.lt hk_.has) hB4; have hlw4 : w.heap.size ≤ B4 := Nat.le_trans hk_.up.size hB4; have hk4 := HoldT.step hstab hk_ e4)
    | (refine wpList_lit3 rfl _ _ _ rfl _ _ _ seed name (put64 (i / 4).toNat) rfl rfl rfl (owns_one hown1) ho2 (owns_one hown3) (exB (sees_of_owns hown1)) (exB hs2) (exB (sees_of_owns hown3)) ?_; intro x5 B5 hbb e5; have hk5 := HoldT.step hstab hk_ e5)
    | (go_at_call 60; refine (Partsr_any _ _ [seed, name, put64 (i / 4).toNat] (exBB hbb) HFL.out).mono ?_; rintro e x6 ⟨rfl, hb6⟩; rw [HS.out]; have e6 : Ext _ x6 := hb6; have hk6 := HoldT.step hstab hk_ e6)
    | (refine wpList_store_row rfl 23 _ _ rfl B4 (keyA S) _ _ rfl rfl (exK hh) (by rw [keyA_size, keyA_size, HSL.out]; rfl) (by rw [keyA_size, HSL.out]; exact info_key) (keyA_one _) ?_; intro x7 hg7 hs7 hR7
       have hk7 : HoldT (StrB g seed name i) w x7 := ⟨Blk.grownBy hk_.has hg7 (some_ne (by omega)), hk_.up.grown hg7 hk_.up.size (fun k hk => by cases hk; exact hlw4)⟩))
          refine phPost_hold (by first | with_reducible assumption | exact HoldT.alloc hstab (by with_reducible assumption) _ | exact HoldT.alloc hstab (HoldT.alloc hstab (by with_reducible assumption) _) _) ?_
          intro hk_
          refine wpTr_step ?_
          simp only [pickOps, List.flatMap_nil]
          refine wpQuiet_nil ?_
          refine wpTr_one ?_
          simp only [pickOps, List.flatMap_cons, List.flatMap_nil, List.drop_succ_cons, List.drop_zero, List.take_succ_cons, List.take_zero, List.cons_append, List.nil_append, List.append_nil]
          go_wp2_with (first
    | (at_builtin; refine appB (W := w) rfl _ _ rfl (.slice none 0 0) [] rfl (ownB_nil _ _) _ seed rfl (strm_seed hk_.has HK.out) (by rw [HK.out, List.length_nil]; decide) hk_.up ?_; intro v1 x1 hown1 hg1 hb1; rw [List.nil_append] at hown1; have e1 := ext_none hg1; clear hg1; have hk1 := HoldT.step hstab hk_ e1)
    | (refine wpList_strB rfl _ rfl name rfl (by omega) ?_; intro x2 v2 hs2 ho2 e2; have hk2 := HoldT.step hstab hk_ e2)
    | (go_at_call 71; refine (Put64r_any _ _ [] (i / 4) (Sees.nil _ _) (by omega) (by omega) (by decide)).mono ?_; rintro e x3 ⟨v3, rfl, hown3, hb3⟩; rw [List.nil_append] at hown3; have e3 : Ext _ x3 := hb3; have hk3 := HoldT.step hstab hk_ e3)
    | (refine wpList_allocB rfl _ rfl _ run_allocKey ?_; intro x4 B4 hh hB4 e4; have hlt4 : g < B4 := Nat.lt_of_lt_of_le (Blk.lt hk_.has) hB4; have hlw4 : w.heap.size ≤ B4 := Nat.le_trans hk_.up.size hB4; have hk4 := HoldT.step hstab hk_ e4)
    | (refine wpList_lit3 rfl _ _ _ rfl _ _ _ seed name (put64 (i / 4).toNat) rfl rfl rfl (owns_one hown1) ho2 (owns_one hown3) (exB (sees_of_owns hown1)) (exB hs2) (exB (sees_of_owns hown3)) ?_; intro x5 B5 hbb e5; have hk5 := HoldT.step hstab hk_ e5)
    | (go_at_call 60; refine (Partsr_any _ _ [seed, name, put64 (i / 4).toNat] (exBB hbb) HFL.out).mono ?_; rintro e x6 ⟨rfl, hb6⟩; rw [HS.out]; have e6 : Ext _ x6 := hb6; have hk6 := HoldT.step hstab hk_ e6)
    | (refine wpList_store_row rfl 23 _ _ rfl B4 (keyA S) _ _ rfl rfl (exK hh) (by rw [keyA_size, keyA_size, HSL.out]; rfl) (by rw [keyA_size, HSL.out]; exact info_key) (keyA_one _) ?_; intro x7 hg7 hs7 hR7
       have hk7 : HoldT (StrB g seed name i) w x7 := ⟨Blk.grownBy hk_.has hg7 (some_ne (by omega)), hk_.up.grown hg7 hk_.up.size (fun k hk => by cases hk; exact hlw4)⟩))
          refine phPost_hold (by first | with_reducible assumption | exact HoldT.alloc hstab (by with_reducible assumption) _ | exact HoldT.alloc hstab (HoldT.alloc hstab (by with_reducible assumption) _) _) ?_
          intro hk_
          refine wpTr_fin ?_
          simp only [pickOps, List.flatMap_nil]
          refine wpQuiet_nil ?_
          have hstab2 : Stab (fun u => StrB g seed name i u ∧ KE2 B4 S u) := Stab.and (stabStrB g seed name i) (Stab.blk _ _ _)
          have hkz : HoldT (fun u => StrB g seed name i u ∧ KE2 B4 S u) w x7.drew := HoldT.drew hstab2 ⟨⟨hk_.has, hR7⟩, hk_.up⟩
          have hT1 : ∀ e : InC (fun u => StrB g seed name i u ∧ KE2 B4 S u), e.u.cell? ⟨g, 33, none⟩ = some (.int .u64 i) := fun e => strm_i e.has.1 HK.out
          clear hg7 hs7 hR7
          go_wp2_with fail
          try change Code.wp _ _ _ (Act.mk _ _) _
          haveI hne_ : Nonempty (InC (fun u => StrB g seed name i u ∧ KE2 B4 S u)) := ⟨⟨_, (hkz).1⟩⟩
          refine wp_region_tr (C := fun w_ => ∃ e_ : InC (fun u => StrB g seed name i u ∧ KE2 B4 S u), w_ = e_.u) (.step [0, 1, 2, 3, 4, 5, 6, 7] (.alt 8 (.fin [9, 10, 11, 12, 13]) .nil)) (by kernel_rfl) (by kernel_rfl) (fun _ _ _ _ hd_ h_ => ⟨hd_.symm.trans h_.1, h_.2⟩) ⟨⟨World.drew _, (hkz).1⟩, rfl⟩ ?_
          have hk_ := hkz
          refine wpTr_step ?_
          simp only [pickOps, List.flatMap_cons, List.flatMap_nil, List.drop_succ_cons, List.drop_zero, List.take_succ_cons, List.take_zero, List.cons_append, List.nil_append, List.append_nil]
          iterate 8 (go_big_quiet_step (exact rfl))
          refine wpQuiet_nil ?_
          refine wpTr_one ?_
          simp only [pickOps, List.flatMap_cons, List.flatMap_nil, List.drop_succ_cons, List.drop_zero, List.take_succ_cons, List.take_zero, List.cons_append, List.nil_append, List.append_nil]
          go_wp2_with (first
            | (go_at_call 120; refine (Get64r_ok _ _ S (8 * (i % 4)) (seesB_key hk_.has.2 HSL.out) (by omega) (by rw [HSL.out]; omega)).mono ?_; rintro e y1 ⟨rfl, rfl⟩; rw [← HW.out]))
          refine phPost_hold (by first | with_reducible assumption | exact HoldT.alloc hstab (by with_reducible assumption) _ | exact HoldT.alloc hstab (HoldT.alloc hstab (by with_reducible assumption) _) _) ?_
          intro hk_
          refine wpTr_fin ?_
          simp only [pickOps, List.flatMap_cons, List.flatMap_nil, List.drop_succ_cons, List.drop_zero, List.take_succ_cons, List.take_zero, List.cons_append, List.nil_append, List.append_nil]
          iterate 5 (go_big_quiet_step (exact rfl))
          refine wpQuiet_nil ?_
          have hci := strm_i hk_.has.1 HK.out
          have hfi := Blk.free hk_.has.1 33
          have hend := Blk.set hk_.has.1 33 (.int .u64 (i + 1))
          rw [strmC_set seed name i (i + 1) HK.out] at hend
          have hgr := grownBy_set ((show Ext w _ from hk_.up).g (some g)) 33 (.int .u64 (i + 1))
          go_wp2_with fail
          go_ret
          exact ⟨rfl, hend, hgr⟩
        refine wpTr_one ?_
        simp only [pickOps, List.flatMap_cons, List.flatMap_nil, List.drop_succ_cons, List.drop_zero, List.take_succ_cons, List.take_zero, List.cons_append, List.nil_append, List.append_nil]
        go_wp2_with (first
    | (at_builtin; refine appB (W := w) rfl _ _ rfl (.slice none 0 0) [] rfl (ownB_nil _ _) _ seed rfl (strm_seed hk_.has HK.out) (by rw [HK.out, List.length_nil]; decide) hk_.up ?_; intro v1 x1 hown1 hg1 hb1; rw [List.nil_append] at hown1; have e1 := ext_none hg1; clear hg1; have hk1 := HoldT.step hstab hk_ e1)
    | (refine wpList_strB rfl _ rfl name rfl (by omega) ?_; intro x2 v2 hs2 ho2 e2; have hk2 := HoldT.step hstab hk_ e2)
    | (go_at_call 71; refine (Put64r_any _ _ [] (i / 4) (Sees.nil _ _) (by omega) (by omega) (by decide)).mono ?_; rintro e x3 ⟨v3, rfl, hown3, hb3⟩; rw [List.nil_append] at hown3; have e3 : Ext _ x3 := hb3; have hk3 := HoldT.step hstab hk_ e3)
    | (refine wpList_allocB rfl _ rfl _ run_allocKey ?_; intro x4 B4 hh hB4 e4; have hlt4 : g < B4 := Nat.lt_of_lt_of_le (Blk.lt hk_.has) hB4; have hlw4 : w.heap.size ≤ B4 := Nat.le_trans hk_.up.size hB4; have hk4 := HoldT.step hstab hk_ e4)
    | (refine wpList_lit3 rfl _ _ _ rfl _ _ _ seed name (put64 (i / 4).toNat) rfl rfl rfl (owns_one hown1) ho2 (owns_one hown3) (exB (sees_of_owns hown1)) (exB hs2) (exB (sees_of_owns hown3)) ?_; intro x5 B5 hbb e5; have hk5 := HoldT.step hstab hk_ e5)
    | (go_at_call 60; refine (Partsr_any _ _ [seed, name, put64 (i / 4).toNat] (exBB hbb) HFL.out).mono ?_; rintro e x6 ⟨rfl, hb6⟩; rw [HS.out]; have e6 : Ext _ x6 := hb6; have hk6 := HoldT.step hstab hk_ e6)
    | (refine wpList_store_row rfl 23 _ _ rfl B4 (keyA S) _ _ rfl rfl (exK hh) (by rw [keyA_size, keyA_size, HSL.out]; rfl) (by rw [keyA_size, HSL.out]; exact info_key) (keyA_one _) ?_; intro x7 hg7 hs7 hR7
       have hk7 : HoldT (StrB g seed name i) w x7 := ⟨Blk.grownBy hk_.has hg7 (some_ne (by omega)), hk_.up.grown hg7 hk_.up.size (fun k hk => by cases hk; exact hlw4)⟩))
        refine phPost_hold (by first | with_reducible assumption | exact HoldT.alloc hstab (by with_reducible assumption) _ | exact HoldT.alloc hstab (HoldT.alloc hstab (by with_reducible assumption) _) _) ?_
        intro hk_
        refine wpTr_step ?_
        simp only [pickOps, List.flatMap_nil]
        refine wpQuiet_nil ?_
        refine wpTr_one ?_
        simp only [pickOps, List.flatMap_cons, List.flatMap_nil, List.drop_succ_cons, List.drop_zero, List.take_succ_cons, List.take_zero, List.cons_append, List.nil_append, List.append_nil]
        go_wp2_with (first
    | (at_builtin; refine appB (W := w) rfl _ _ rfl (.slice none 0 0) [] rfl (ownB_nil _ _) _ seed rfl (strm_seed hk_.has HK.out) (by rw [HK.out, List.length_nil]; decide) hk_.up ?_; intro v1 x1 hown1 hg1 hb1; rw [List.nil_append] at hown1; have e1 := ext_none hg1; clear hg1; have hk1 := HoldT.step hstab hk_ e1)
    | (refine wpList_strB rfl _ rfl name rfl (by omega) ?_; intro x2 v2 hs2 ho2 e2; have hk2 := HoldT.step hstab hk_ e2)
    | (go_at_call 71; refine (Put64r_any _ _ [] (i / 4) (Sees.nil _ _) (by omega) (by omega) (by decide)).mono ?_; rintro e x3 ⟨v3, rfl, hown3, hb3⟩; rw [List.nil_append] at hown3; have e3 : Ext _ x3 := hb3; have hk3 := HoldT.step hstab hk_ e3)
    | (refine wpList_allocB rfl _ rfl _ run_allocKey ?_; intro x4 B4 hh hB4 e4; have hlt4 : g < B4 := Nat.lt_of_lt_of_le (Blk.lt hk_.has) hB4; have hlw4 : w.heap.size ≤ B4 := Nat.le_trans hk_.up.size hB4; have hk4 := HoldT.step hstab hk_ e4)
    | (refine wpList_lit3 rfl _ _ _ rfl _ _ _ seed name (put64 (i / 4).toNat) rfl rfl rfl (owns_one hown1) ho2 (owns_one hown3) (exB (sees_of_owns hown1)) (exB hs2) (exB (sees_of_owns hown3)) ?_; intro x5 B5 hbb e5; have hk5 := HoldT.step hstab hk_ e5)
    | (go_at_call 60; refine (Partsr_any _ _ [seed, name, put64 (i / 4).toNat] (exBB hbb) HFL.out).mono ?_; rintro e x6 ⟨rfl, hb6⟩; rw [HS.out]; have e6 : Ext _ x6 := hb6; have hk6 := HoldT.step hstab hk_ e6)
    | (refine wpList_store_row rfl 23 _ _ rfl B4 (keyA S) _ _ rfl rfl (exK hh) (by rw [keyA_size, keyA_size, HSL.out]; rfl) (by rw [keyA_size, HSL.out]; exact info_key) (keyA_one _) ?_; intro x7 hg7 hs7 hR7
       have hk7 : HoldT (StrB g seed name i) w x7 := ⟨Blk.grownBy hk_.has hg7 (some_ne (by omega)), hk_.up.grown hg7 hk_.up.size (fun k hk => by cases hk; exact hlw4)⟩))
        refine phPost_hold (by first | with_reducible assumption | exact HoldT.alloc hstab (by with_reducible assumption) _ | exact HoldT.alloc hstab (HoldT.alloc hstab (by with_reducible assumption) _) _) ?_
        intro hk_
        refine wpTr_step ?_
        simp only [pickOps, List.flatMap_nil]
        refine wpQuiet_nil ?_
        refine wpTr_one ?_
        simp only [pickOps, List.flatMap_cons, List.flatMap_nil, List.drop_succ_cons, List.drop_zero, List.take_succ_cons, List.take_zero, List.cons_append, List.nil_append, List.append_nil]
        go_wp2_with (first
    | (at_builtin; refine appB (W := w) rfl _ _ rfl (.slice none 0 0) [] rfl (ownB_nil _ _) _ seed rfl (strm_seed hk_.has HK.out) (by rw [HK.out, List.length_nil]; decide) hk_.up ?_; intro v1 x1 hown1 hg1 hb1; rw [List.nil_append] at hown1; have e1 := ext_none hg1; clear hg1; have hk1 := HoldT.step hstab hk_ e1)
    | (refine wpList_strB rfl _ rfl name rfl (by omega) ?_; intro x2 v2 hs2 ho2 e2; have hk2 := HoldT.step hstab hk_ e2)
    | (go_at_call 71; refine (Put64r_any _ _ [] (i / 4) (Sees.nil _ _) (by omega) (by omega) (by decide)).mono ?_; rintro e x3 ⟨v3, rfl, hown3, hb3⟩; rw [List.nil_append] at hown3; have e3 : Ext _ x3 := hb3; have hk3 := HoldT.step hstab hk_ e3)
    | (refine wpList_allocB rfl _ rfl _ run_allocKey ?_; intro x4 B4 hh hB4 e4; have hlt4 : g < B4 := Nat.lt_of_lt_of_le (Blk.lt hk_.has) hB4; have hlw4 : w.heap.size ≤ B4 := Nat.le_trans hk_.up.size hB4; have hk4 := HoldT.step hstab hk_ e4)
    | (refine wpList_lit3 rfl _ _ _ rfl _ _ _ seed name (put64 (i / 4).toNat) rfl rfl rfl (owns_one hown1) ho2 (owns_one hown3) (exB (sees_of_owns hown1)) (exB hs2) (exB (sees_of_owns hown3)) ?_; intro x5 B5 hbb e5; have hk5 := HoldT.step hstab hk_ e5)
    | (go_at_call 60; refine (Partsr_any _ _ [seed, name, put64 (i / 4).toNat] (exBB hbb) HFL.out).mono ?_; rintro e x6 ⟨rfl, hb6⟩; rw [HS.out]; have e6 : Ext _ x6 := hb6; have hk6 := HoldT.step hstab hk_ e6)
    | (refine wpList_store_row rfl 23 _ _ rfl B4 (keyA S) _ _ rfl rfl (exK hh) (by rw [keyA_size, keyA_size, HSL.out]; rfl) (by rw [keyA_size, HSL.out]; exact info_key) (keyA_one _) ?_; intro x7 hg7 hs7 hR7
       have hk7 : HoldT (StrB g seed name i) w x7 := ⟨Blk.grownBy hk_.has hg7 (some_ne (by omega)), hk_.up.grown hg7 hk_.up.size (fun k hk => by cases hk; exact hlw4)⟩))
        refine phPost_hold (by first | with_reducible assumption | exact HoldT.alloc hstab (by with_reducible assumption) _ | exact HoldT.alloc hstab (HoldT.alloc hstab (by with_reducible assumption) _) _) ?_
        intro hk_
        refine wpTr_step ?_
        simp only [pickOps, List.flatMap_nil]
        refine wpQuiet_nil ?_
        refine wpTr_one ?_
        simp only [pickOps, List.flatMap_cons, List.flatMap_nil, List.drop_succ_cons, List.drop_zero, List.take_succ_cons, List.take_zero, List.cons_append, List.nil_append, List.append_nil]
        go_wp2_with (first
    | (at_builtin; refine appB (W := w) rfl _ _ rfl (.slice none 0 0) [] rfl (ownB_nil _ _) _ seed rfl (strm_seed hk_.has HK.out) (by rw [HK.out, List.length_nil]; decide) hk_.up ?_; intro v1 x1 hown1 hg1 hb1; rw [List.nil_append] at hown1; have e1 := ext_none hg1; clear hg1; have hk1 := HoldT.step hstab hk_ e1)
    | (refine wpList_strB rfl _ rfl name rfl (by omega) ?_; intro x2 v2 hs2 ho2 e2; have hk2 := HoldT.step hstab hk_ e2)
    | (go_at_call 71; refine (Put64r_any _ _ [] (i / 4) (Sees.nil _ _) (by omega) (by omega) (by decide)).mono ?_; rintro e x3 ⟨v3, rfl, hown3, hb3⟩; rw [List.nil_append] at hown3; have e3 : Ext _ x3 := hb3; have hk3 := HoldT.step hstab hk_ e3)
    | (refine wpList_allocB rfl _ rfl _ run_allocKey ?_; intro x4 B4 hh hB4 e4; have hlt4 : g < B4 := Nat.lt_of_lt_of_le (Blk.lt hk_.has) hB4; have hlw4 : w.heap.size ≤ B4 := Nat.le_trans hk_.up.size hB4; have hk4 := HoldT.step hstab hk_ e4)
    | (refine wpList_lit3 rfl _ _ _ rfl _ _ _ seed name (put64 (i / 4).toNat) rfl rfl rfl (owns_one hown1) ho2 (owns_one hown3) (exB (sees_of_owns hown1)) (exB hs2) (exB (sees_of_owns hown3)) ?_; intro x5 B5 hbb e5; have hk5 := HoldT.step hstab hk_ e5)
    | (go_at_call 60; refine (Partsr_any _ _ [seed, name, put64 (i / 4).toNat] (exBB hbb) HFL.out).mono ?_; rintro e x6 ⟨rfl, hb6⟩; rw [HS.out]; have e6 : Ext _ x6 := hb6; have hk6 := HoldT.step hstab hk_ e6)
    | (refine wpList_store_row rfl 23 _ _ rfl B4 (keyA S) _ _ rfl rfl (exK hh) (by rw [keyA_size, keyA_size, HSL.out]; rfl) (by rw [keyA_size, HSL.out]; exact info_key) (keyA_one _) ?_; intro x7 hg7 hs7 hR7
       have hk7 : HoldT (StrB g seed name i) w x7 := ⟨Blk.grownBy hk_.has hg7 (some_ne (by omega)), hk_.up.grown hg7 hk_.up.size (fun k hk => by cases hk; exact hlw4)⟩))
        refine phPost_hold (by first | with_reducible assumption | exact HoldT.alloc hstab (by with_reducible assumption) _ | exact HoldT.alloc hstab (HoldT.alloc hstab (by with_reducible assumption) _) _) ?_
        intro hk_
        refine wpTr_fin ?_
        simp only [pickOps, List.flatMap_nil]
        refine wpQuiet_nil ?_
        have hstab2 : Stab (fun u => StrB g seed name i u ∧ KE2 B4 S u) := Stab.and (stabStrB g seed name i) (Stab.blk _ _ _)
        have hkz : HoldT (fun u => StrB g seed name i u ∧ KE2 B4 S u) w x7.drew := HoldT.drew hstab2 ⟨⟨hk_.has, hR7⟩, hk_.up⟩
        have hT1 : ∀ e : InC (fun u => StrB g seed name i u ∧ KE2 B4 S u), e.u.cell? ⟨g, 33, none⟩ = some (.int .u64 i) := fun e => strm_i e.has.1 HK.out
        clear hg7 hs7 hR7
        go_wp2_with fail
        try change Code.wp _ _ _ (Act.mk _ _) _
        haveI hne_ : Nonempty (InC (fun u => StrB g seed name i u ∧ KE2 B4 S u)) := ⟨⟨_, (hkz).1⟩⟩
        refine wp_region_tr (C := fun w_ => ∃ e_ : InC (fun u => StrB g seed name i u ∧ KE2 B4 S u), w_ = e_.u) (.step [0, 1, 2, 3, 4, 5, 6, 7] (.alt 8 (.fin [9, 10, 11, 12, 13]) .nil)) (by kernel_rfl) (by kernel_rfl) (fun _ _ _ _ hd_ h_ => ⟨hd_.symm.trans h_.1, h_.2⟩) ⟨⟨World.drew _, (hkz).1⟩, rfl⟩ ?_
        have hk_ := hkz
        refine wpTr_step ?_
        simp only [pickOps, List.flatMap_cons, List.flatMap_nil, List.drop_succ_cons, List.drop_zero, List.take_succ_cons, List.take_zero, List.cons_append, List.nil_append, List.append_nil]
        iterate 8 (go_big_quiet_step (exact rfl))
        refine wpQuiet_nil ?_
        refine wpTr_one ?_
        simp only [pickOps, List.flatMap_cons, List.flatMap_nil, List.drop_succ_cons, List.drop_zero, List.take_succ_cons, List.take_zero, List.cons_append, List.nil_append, List.append_nil]
        go_wp2_with (first
          | (go_at_call 120; refine (Get64r_ok _ _ S (8 * (i % 4)) (seesB_key hk_.has.2 HSL.out) (by omega) (by rw [HSL.out]; omega)).mono ?_; rintro e y1 ⟨rfl, rfl⟩; rw [← HW.out]))
        refine phPost_hold (by first | with_reducible assumption | exact HoldT.alloc hstab (by with_reducible assumption) _ | exact HoldT.alloc hstab (HoldT.alloc hstab (by with_reducible assumption) _) _) ?_
        intro hk_
        refine wpTr_fin ?_
        simp only [pickOps, List.flatMap_cons, List.flatMap_nil, List.drop_succ_cons, List.drop_zero, List.take_succ_cons, List.take_zero, List.cons_append, List.nil_append, List.append_nil]
        iterate 5 (go_big_quiet_step (exact rfl))
        refine wpQuiet_nil ?_
        have hci := strm_i hk_.has.1 HK.out
        have hfi := Blk.free hk_.has.1 33
        have hend := Blk.set hk_.has.1 33 (.int .u64 (i + 1))
        rw [strmC_set seed name i (i + 1) HK.out] at hend
        have hgr := grownBy_set ((show Ext w _ from hk_.up).g (some g)) 33 (.int .u64 (i + 1))
        go_wp2_with fail
        go_ret
        exact ⟨rfl, hend, hgr⟩
      refine wpTr_one ?_
      simp only [pickOps, List.flatMap_cons, List.flatMap_nil, List.drop_succ_cons, List.drop_zero, List.take_succ_cons, List.take_zero, List.cons_append, List.nil_append, List.append_nil]
      go_wp2_with (first
    | (at_builtin; refine appB (W := w) rfl _ _ rfl (.slice none 0 0) [] rfl (ownB_nil _ _) _ seed rfl (strm_seed hk_.has HK.out) (by rw [HK.out, List.length_nil]; decide) hk_.up ?_; intro v1 x1 hown1 hg1 hb1; rw [List.nil_append] at hown1; have e1 := ext_none hg1; clear hg1; have hk1 := HoldT.step hstab hk_ e1)
    | (refine wpList_strB rfl _ rfl name rfl (by omega) ?_; intro x2 v2 hs2 ho2 e2; have hk2 := HoldT.step hstab hk_ e2)
    | (go_at_call 71; refine (Put64r_any _ _ [] (i / 4) (Sees.nil _ _) (by omega) (by omega) (by decide)).mono ?_; rintro e x3 ⟨v3, rfl, hown3, hb3⟩; rw [List.nil_append] at hown3; have e3 : Ext _ x3 := hb3; have hk3 := HoldT.step hstab hk_ e3)
    | (refine wpList_allocB rfl _ rfl _ run_allocKey ?_; intro x4 B4 hh hB4 e4; have hlt4 : g < B4 := Nat.lt_of_lt_of_le (Blk.lt hk_.has) hB4; have hlw4 : w.heap.size ≤ B4 := Nat.le_trans hk_.up.size hB4; have hk4 := HoldT.step hstab hk_ e4)
    | (refine wpList_lit3 rfl _ _ _ rfl _ _ _ seed name (put64 (i / 4).toNat) rfl rfl rfl (owns_one hown1) ho2 (owns_one hown3) (exB (sees_of_owns hown1)) (exB hs2) (exB (sees_of_owns hown3)) ?_; intro x5 B5 hbb e5; have hk5 := HoldT.step hstab hk_ e5)
    | (go_at_call 60; refine (Partsr_any _ _ [seed, name, put64 (i / 4).toNat] (exBB hbb) HFL.out).mono ?_; rintro e x6 ⟨rfl, hb6⟩; rw [HS.out]; have e6 : Ext _ x6 := hb6; have hk6 := HoldT.step hstab hk_ e6)
    | (refine wpList_store_row rfl 23 _ _ rfl B4 (keyA S) _ _ rfl rfl (exK hh) (by rw [keyA_size, keyA_size, HSL.out]; rfl) (by rw [keyA_size, HSL.out]; exact info_key) (keyA_one _) ?_; intro x7 hg7 hs7 hR7
       have hk7 : HoldT (StrB g seed name i) w x7 := ⟨Blk.grownBy hk_.has hg7 (some_ne (by omega)), hk_.up.grown hg7 hk_.up.size (fun k hk => by cases hk; exact hlw4)⟩))
      refine phPost_hold (by first | with_reducible assumption | exact HoldT.alloc hstab (by with_reducible assumption) _ | exact HoldT.alloc hstab (HoldT.alloc hstab (by with_reducible assumption) _) _) ?_
      intro hk_
      refine wpTr_step ?_
      simp only [pickOps, List.flatMap_nil]
      refine wpQuiet_nil ?_
      refine wpTr_one ?_
      simp only [pickOps, List.flatMap_cons, List.flatMap_nil, List.drop_succ_cons, List.drop_zero, List.take_succ_cons, List.take_zero, List.cons_append, List.nil_append, List.append_nil]
      go_wp2_with (first
    | (at_builtin; refine appB (W := w) rfl _ _ rfl (.slice none 0 0) [] rfl (ownB_nil _ _) _ seed rfl (strm_seed hk_.has HK.out) (by rw [HK.out, List.length_nil]; decide) hk_.up ?_; intro v1 x1 hown1 hg1 hb1; rw [List.nil_append] at hown1; have e1 := ext_none hg1; clear hg1; have hk1 := HoldT.step hstab hk_ e1)
    | (refine wpList_strB rfl _ rfl name rfl (by omega) ?_; intro x2 v2 hs2 ho2 e2; have hk2 := HoldT.step hstab hk_ e2)
    | (go_at_call 71; refine (Put64r_any _ _ [] (i / 4) (Sees.nil _ _) (by omega) (by omega) (by decide)).mono ?_; rintro e x3 ⟨v3, rfl, hown3, hb3⟩; rw [List.nil_append] at hown3; have e3 : Ext _ x3 := hb3; have hk3 := HoldT.step hstab hk_ e3)
    | (refine wpList_allocB rfl _ rfl _ run_allocKey ?_; intro x4 B4 hh hB4 e4; have hlt4 : g < B4 := Nat.lt_of_lt_of_le (Blk.lt hk_.has) hB4; have hlw4 : w.heap.size ≤ B4 := Nat.le_trans hk_.up.size hB4; have hk4 := HoldT.step hstab hk_ e4)
    | (refine wpList_lit3 rfl _ _ _ rfl _ _ _ seed name (put64 (i / 4).toNat) rfl rfl rfl (owns_one hown1) ho2 (owns_one hown3) (exB (sees_of_owns hown1)) (exB hs2) (exB (sees_of_owns hown3)) ?_; intro x5 B5 hbb e5; have hk5 := HoldT.step hstab hk_ e5)
    | (go_at_call 60; refine (Partsr_any _ _ [seed, name, put64 (i / 4).toNat] (exBB hbb) HFL.out).mono ?_; rintro e x6 ⟨rfl, hb6⟩; rw [HS.out]; have e6 : Ext _ x6 := hb6; have hk6 := HoldT.step hstab hk_ e6)
    | (refine wpList_store_row rfl 23 _ _ rfl B4 (keyA S) _ _ rfl rfl (exK hh) (by rw [keyA_size, keyA_size, HSL.out]; rfl) (by rw [keyA_size, HSL.out]; exact info_key) (keyA_one _) ?_; intro x7 hg7 hs7 hR7
       have hk7 : HoldT (StrB g seed name i) w x7 := ⟨Blk.grownBy hk_.has hg7 (some_ne (by omega)), hk_.up.grown hg7 hk_.up.size (fun k hk => by cases hk; exact hlw4)⟩))
      refine phPost_hold (by first | with_reducible assumption | exact HoldT.alloc hstab (by with_reducible assumption) _ | exact HoldT.alloc hstab (HoldT.alloc hstab (by with_reducible assumption) _) _) ?_
      intro hk_
      refine wpTr_step ?_
      simp only [pickOps, List.flatMap_nil]
      refine wpQuiet_nil ?_
      refine wpTr_one ?_
      simp only [pickOps, List.flatMap_cons, List.flatMap_nil, List.drop_succ_cons, List.drop_zero, List.take_succ_cons, List.take_zero, List.cons_append, List.nil_append, List.append_nil]
      go_wp2_with (first
    | (at_builtin; refine appB (W := w) rfl _ _ rfl (.slice none 0 0) [] rfl (ownB_nil _ _) _ seed rfl (strm_seed hk_.has HK.out) (by rw [HK.out, List.length_nil]; decide) hk_.up ?_; intro v1 x1 hown1 hg1 hb1; rw [List.nil_append] at hown1; have e1 := ext_none hg1; clear hg1; have hk1 := HoldT.step hstab hk_ e1)
    | (refine wpList_strB rfl _ rfl name rfl (by omega) ?_; intro x2 v2 hs2 ho2 e2; have hk2 := HoldT.step hstab hk_ e2)
    | (go_at_call 71; refine (Put64r_any _ _ [] (i / 4) (Sees.nil _ _) (by omega) (by omega) (by decide)).mono ?_; rintro e x3 ⟨v3, rfl, hown3, hb3⟩; rw [List.nil_append] at hown3; have e3 : Ext _ x3 := hb3; have hk3 := HoldT.step hstab hk_ e3)
    | (refine wpList_allocB rfl _ rfl _ run_allocKey ?_; intro x4 B4 hh hB4 e4; have hlt4 : g < B4 := Nat.lt_of_lt_of_le (Blk.lt hk_.has) hB4; have hlw4 : w.heap.size ≤ B4 := Nat.le_trans hk_.up.size hB4; have hk4 := HoldT.step hstab hk_ e4)
    | (refine wpList_lit3 rfl _ _ _ rfl _ _ _ seed name (put64 (i / 4).toNat) rfl rfl rfl (owns_one hown1) ho2 (owns_one hown3) (exB (sees_of_owns hown1)) (exB hs2) (exB (sees_of_owns hown3)) ?_; intro x5 B5 hbb e5; have hk5 := HoldT.step hstab hk_ e5)
    | (go_at_call 60; refine (Partsr_any _ _ [seed, name, put64 (i / 4).toNat] (exBB hbb) HFL.out).mono ?_; rintro e x6 ⟨rfl, hb6⟩; rw [HS.out]; have e6 : Ext _ x6 := hb6; have hk6 := HoldT.step hstab hk_ e6)
    | (refine wpList_store_row rfl 23 _ _ rfl B4 (keyA S) _ _ rfl rfl (exK hh) (by rw [keyA_size, keyA_size, HSL.out]; rfl) (by rw [keyA_size, HSL.out]; exact info_key) (keyA_one _) ?_; intro x7 hg7 hs7 hR7
       have hk7 : HoldT (StrB g seed name i) w x7 := ⟨Blk.grownBy hk_.has hg7 (some_ne (by omega)), hk_.up.grown hg7 hk_.up.size (fun k hk => by cases hk; exact hlw4)⟩))
      refine phPost_hold (by first | with_reducible assumption | exact HoldT.alloc hstab (by with_reducible assumption) _ | exact HoldT.alloc hstab (HoldT.alloc hstab (by with_reducible assumption) _) _) ?_
      intro hk_
      refine wpTr_step ?_
      simp only [pickOps, List.flatMap_nil]
      refine wpQuiet_nil ?_
      refine wpTr_one ?_
      simp only [pickOps, List.flatMap_cons, List.flatMap_nil, List.drop_succ_cons, List.drop_zero, List.take_succ_cons, List.take_zero, List.cons_append, List.nil_append, List.append_nil]
      go_wp2_with (first
    | (at_builtin; refine appB (W := w) rfl _ _ rfl (.slice none 0 0) [] rfl (ownB_nil _ _) _ seed rfl (strm_seed hk_.has HK.out) (by rw [HK.out, List.length_nil]; decide) hk_.up ?_; intro v1 x1 hown1 hg1 hb1; rw [List.nil_append] at hown1; have e1 := ext_none hg1; clear hg1; have hk1 := HoldT.step hstab hk_ e1)
    | (refine wpList_strB rfl _ rfl name rfl (by omega) ?_; intro x2 v2 hs2 ho2 e2; have hk2 := HoldT.step hstab hk_ e2)
    | (go_at_call 71; refine (Put64r_any _ _ [] (i / 4) (Sees.nil _ _) (by omega) (by omega) (by decide)).mono ?_; rintro e x3 ⟨v3, rfl, hown3, hb3⟩; rw [List.nil_append] at hown3; have e3 : Ext _ x3 := hb3; have hk3 := HoldT.step hstab hk_ e3)
    | (refine wpList_allocB rfl _ rfl _ run_allocKey ?_; intro x4 B4 hh hB4 e4; have hlt4 : g < B4 := Nat.lt_of_lt_of_le (Blk.lt hk_.has) hB4; have hlw4 : w.heap.size ≤ B4 := Nat.le_trans hk_.up.size hB4; have hk4 := HoldT.step hstab hk_ e4)
    | (refine wpList_lit3 rfl _ _ _ rfl _ _ _ seed name (put64 (i / 4).toNat) rfl rfl rfl (owns_one hown1) ho2 (owns_one hown3) (exB (sees_of_owns hown1)) (exB hs2) (exB (sees_of_owns hown3)) ?_; intro x5 B5 hbb e5; have hk5 := HoldT.step hstab hk_ e5)
    | (go_at_call 60; refine (Partsr_any _ _ [seed, name, put64 (i / 4).toNat] (exBB hbb) HFL.out).mono ?_; rintro e x6 ⟨rfl, hb6⟩; rw [HS.out]; have e6 : Ext _ x6 := hb6; have hk6 := HoldT.step hstab hk_ e6)
    | (refine wpList_store_row rfl 23 _ _ rfl B4 (keyA S) _ _ rfl rfl (exK hh) (by rw [keyA_size, keyA_size, HSL.out]; rfl) (by rw [keyA_size, HSL.out]; exact info_key) (keyA_one _) ?_; intro x7 hg7 hs7 hR7
       have hk7 : HoldT (StrB g seed name i) w x7 := ⟨Blk.grownBy hk_.has hg7 (some_ne (by omega)), hk_.up.grown hg7 hk_.up.size (fun k hk => by cases hk; exact hlw4)⟩))
      refine phPost_hold (by first | with_reducible assumption | exact HoldT.alloc hstab (by with_reducible assumption) _ | exact HoldT.alloc hstab (HoldT.alloc hstab (by with_reducible assumption) _) _) ?_
      intro hk_
      refine wpTr_step ?_
      simp only [pickOps, List.flatMap_nil]
      refine wpQuiet_nil ?_
      refine wpTr_one ?_
      simp only [pickOps, List.flatMap_cons, List.flatMap_nil, List.drop_succ_cons, List.drop_zero, List.take_succ_cons, List.take_zero, List.cons_append, List.nil_append, List.append_nil]
      go_wp2_with (first
    | (at_builtin; refine appB (W := w) rfl _ _ rfl (.slice none 0 0) [] rfl (ownB_nil _ _) _ seed rfl (strm_seed hk_.has HK.out) (by rw [HK.out, List.length_nil]; decide) hk_.up ?_; intro v1 x1 hown1 hg1 hb1; rw [List.nil_append] at hown1; have e1 := ext_none hg1; clear hg1; have hk1 := HoldT.step hstab hk_ e1)
    | (refine wpList_strB rfl _ rfl name rfl (by omega) ?_; intro x2 v2 hs2 ho2 e2; have hk2 := HoldT.step hstab hk_ e2)
    | (go_at_call 71; refine (Put64r_any _ _ [] (i / 4) (Sees.nil _ _) (by omega) (by omega) (by decide)).mono ?_; rintro e x3 ⟨v3, rfl, hown3, hb3⟩; rw [List.nil_append] at hown3; have e3 : Ext _ x3 := hb3; have hk3 := HoldT.step hstab hk_ e3)
    | (refine wpList_allocB rfl _ rfl _ run_allocKey ?_; intro x4 B4 hh hB4 e4; have hlt4 : g < B4 := Nat.lt_of_lt_of_le (Blk.lt hk_.has) hB4; have hlw4 : w.heap.size ≤ B4 := Nat.le_trans hk_.up.size hB4; have hk4 := HoldT.step hstab hk_ e4)
    | (refine wpList_lit3 rfl _ _ _ rfl _ _ _ seed name (put64 (i / 4).toNat) rfl rfl rfl (owns_one hown1) ho2 (owns_one hown3) (exB (sees_of_owns hown1)) (exB hs2) (exB (sees_of_owns hown3)) ?_; intro x5 B5 hbb e5; have hk5 := HoldT.step hstab hk_ e5)
    | (go_at_call 60; refine (Partsr_any _ _ [seed, name, put64 (i / 4).toNat] (exBB hbb) HFL.out).mono ?_; rintro e x6 ⟨rfl, hb6⟩; rw [HS.out]; have e6 : Ext _ x6 := hb6; have hk6 := HoldT.step hstab hk_ e6)
    | (refine wpList_store_row rfl 23 _ _ rfl B4 (keyA S) _ _ rfl rfl (exK hh) (by rw [keyA_size, keyA_size, HSL.out]; rfl) (by rw [keyA_size, HSL.out]; exact info_key) (keyA_one _) ?_; intro x7 hg7 hs7 hR7
       have hk7 : HoldT (StrB g seed name i) w x7 := ⟨Blk.grownBy hk_.has hg7 (some_ne (by omega)), hk_.up.grown hg7 hk_.up.size (fun k hk => by cases hk; exact hlw4)⟩))
      refine phPost_hold (by first | with_reducible assumption | exact HoldT.alloc hstab (by with_reducible assumption) _ | exact HoldT.alloc hstab (HoldT.alloc hstab (by with_reducible assumption) _) _) ?_
      intro hk_
      refine wpTr_fin ?_
      simp only [pickOps, List.flatMap_nil]
      refine wpQuiet_nil ?_
      have hstab2 : Stab (fun u => StrB g seed name i u ∧ KE2 B4 S u) := Stab.and (stabStrB g seed name i) (Stab.blk _ _ _)
      have hkz : HoldT (fun u => StrB g seed name i u ∧ KE2 B4 S u) w x7.drew := HoldT.drew hstab2 ⟨⟨hk_.has, hR7⟩, hk_.up⟩
      have hT1 : ∀ e : InC (fun u => StrB g seed name i u ∧ KE2 B4 S u), e.u.cell? ⟨g, 33, none⟩ = some (.int .u64 i) := fun e => strm_i e.has.1 HK.out
      clear hg7 hs7 hR7
      go_wp2_with fail
      try change Code.wp _ _ _ (Act.mk _ _) _
      haveI hne_ : Nonempty (InC (fun u => StrB g seed name i u ∧ KE2 B4 S u)) := ⟨⟨_, (hkz).1⟩⟩
      refine wp_region_tr (C := fun w_ => ∃ e_ : InC (fun u => StrB g seed name i u ∧ KE2 B4 S u), w_ = e_.u) (.step [0, 1, 2, 3, 4, 5, 6, 7] (.alt 8 (.fin [9, 10, 11, 12, 13]) .nil)) (by kernel_rfl) (by kernel_rfl) (fun _ _ _ _ hd_ h_ => ⟨hd_.symm.trans h_.1, h_.2⟩) ⟨⟨World.drew _, (hkz).1⟩, rfl⟩ ?_
      have hk_ := hkz
      refine wpTr_step ?_
      simp only [pickOps, List.flatMap_cons, List.flatMap_nil, List.drop_succ_cons, List.drop_zero, List.take_succ_cons, List.take_zero, List.cons_append, List.nil_append, List.append_nil]
      iterate 8 (go_big_quiet_step (exact rfl))
      refine wpQuiet_nil ?_
      refine wpTr_one ?_
      simp only [pickOps, List.flatMap_cons, List.flatMap_nil, List.drop_succ_cons, List.drop_zero, List.take_succ_cons, List.take_zero, List.cons_append, List.nil_append, List.append_nil]
      go_wp2_with (first
        | (go_at_call 120; refine (Get64r_ok _ _ S (8 * (i % 4)) (seesB_key hk_.has.2 HSL.out) (by omega) (by rw [HSL.out]; omega)).mono ?_; rintro e y1 ⟨rfl, rfl⟩; rw [← HW.out]))
      refine phPost_hold (by first | with_reducible assumption | exact HoldT.alloc hstab (by with_reducible assumption) _ | exact HoldT.alloc hstab (HoldT.alloc hstab (by with_reducible assumption) _) _) ?_
      intro hk_
      refine wpTr_fin ?_
      simp only [pickOps, List.flatMap_cons, List.flatMap_nil, List.drop_succ_cons, List.drop_zero, List.take_succ_cons, List.take_zero, List.cons_append, List.nil_append, List.append_nil]
      iterate 5 (go_big_quiet_step (exact rfl))
      refine wpQuiet_nil ?_
      have hci := strm_i hk_.has.1 HK.out
      have hfi := Blk.free hk_.has.1 33
      have hend := Blk.set hk_.has.1 33 (.int .u64 (i + 1))
      rw [strmC_set seed name i (i + 1) HK.out] at hend
      have hgr := grownBy_set ((show Ext w _ from hk_.up).g (some g)) 33 (.int .u64 (i + 1))
      go_wp2_with fail
      go_ret
      exact ⟨rfl, hend, hgr⟩
    refine wpTr_one ?_
    simp only [pickOps, List.flatMap_cons, List.flatMap_nil, List.drop_succ_cons, List.drop_zero, List.take_succ_cons, List.take_zero, List.cons_append, List.nil_append, List.append_nil]
    go_wp2_with (first
    | (at_builtin; refine appB (W := w) rfl _ _ rfl (.slice none 0 0) [] rfl (ownB_nil _ _) _ seed rfl (strm_seed hk_.has HK.out) (by rw [HK.out, List.length_nil]; decide) hk_.up ?_; intro v1 x1 hown1 hg1 hb1; rw [List.nil_append] at hown1; have e1 := ext_none hg1; clear hg1; have hk1 := HoldT.step hstab hk_ e1)
    | (refine wpList_strB rfl _ rfl name rfl (by omega) ?_; intro x2 v2 hs2 ho2 e2; have hk2 := HoldT.step hstab hk_ e2)
    | (go_at_call 71; refine (Put64r_any _ _ [] (i / 4) (Sees.nil _ _) (by omega) (by omega) (by decide)).mono ?_; rintro e x3 ⟨v3, rfl, hown3, hb3⟩; rw [List.nil_append] at hown3; have e3 : Ext _ x3 := hb3; have hk3 := HoldT.step hstab hk_ e3)
    | (refine wpList_allocB rfl _ rfl _ run_allocKey ?_; intro x4 B4 hh hB4 e4; have hlt4 : g < B4 := Nat.lt_of_lt_of_le (Blk.lt hk_.has) hB4; have hlw4 : w.heap.size ≤ B4 := Nat.le_trans hk_.up.size hB4; have hk4 := HoldT.step hstab hk_ e4)
    | (refine wpList_lit3 rfl _ _ _ rfl _ _ _ seed name (put64 (i / 4).toNat) rfl rfl rfl (owns_one hown1) ho2 (owns_one hown3) (exB (sees_of_owns hown1)) (exB hs2) (exB (sees_of_owns hown3)) ?_; intro x5 B5 hbb e5; have hk5 := HoldT.step hstab hk_ e5)
    | (go_at_call 60; refine (Partsr_any _ _ [seed, name, put64 (i / 4).toNat] (exBB hbb) HFL.out).mono ?_; rintro e x6 ⟨rfl, hb6⟩; rw [HS.out]; have e6 : Ext _ x6 := hb6; have hk6 := HoldT.step hstab hk_ e6)
    | (refine wpList_store_row rfl 23 _ _ rfl B4 (keyA S) _ _ rfl rfl (exK hh) (by rw [keyA_size, keyA_size, HSL.out]; rfl) (by rw [keyA_size, HSL.out]; exact info_key) (keyA_one _) ?_; intro x7 hg7 hs7 hR7
       have hk7 : HoldT (StrB g seed name i) w x7 := ⟨Blk.grownBy hk_.has hg7 (some_ne (by omega)), hk_.up.grown hg7 hk_.up.size (fun k hk => by cases hk; exact hlw4)⟩))
    refine phPost_hold (by first | with_reducible assumption | exact HoldT.alloc hstab (by with_reducible assumption) _ | exact HoldT.alloc hstab (HoldT.alloc hstab (by with_reducible assumption) _) _) ?_
    intro hk_
    refine wpTr_step ?_
    simp only [pickOps, List.flatMap_nil]
    refine wpQuiet_nil ?_
    refine wpTr_alt ?_ ?_
    focus
      simp only [pickOps, List.flatMap_cons, List.flatMap_nil, List.drop_succ_cons, List.drop_zero, List.take_succ_cons, List.take_zero, List.cons_append, List.nil_append, List.append_nil]
      go_wp2_with (first
    | (at_builtin; refine appB (W := w) rfl _ _ rfl (.slice none 0 0) [] rfl (ownB_nil _ _) _ seed rfl (strm_seed hk_.has HK.out) (by rw [HK.out, List.length_nil]; decide) hk_.up ?_; intro v1 x1 hown1 hg1 hb1; rw [List.nil_append] at hown1; have e1 := ext_none hg1; clear hg1; have hk1 := HoldT.step hstab hk_ e1)
    | (refine wpList_strB rfl _ rfl name rfl (by omega) ?_; intro x2 v2 hs2 ho2 e2; have hk2 := HoldT.step hstab hk_ e2)
    | (go_at_call 71; refine (Put64r_any _ _ [] (i / 4) (Sees.nil _ _) (by omega) (by omega) (by decide)).mono ?_; rintro e x3 ⟨v3, rfl, hown3, hb3⟩; rw [List.nil_append] at hown3; have e3 : Ext _ x3 := hb3; have hk3 := HoldT.step hstab hk_ e3)
    | (refine wpList_allocB rfl _ rfl _ run_allocKey ?_; intro x4 B4 hh hB4 e4; have hlt4 : g < B4 := Nat.lt_of_lt_of_le (Blk.lt hk_.has) hB4; have hlw4 : w.heap.size ≤ B4 := Nat.le_trans hk_.up.size hB4; have hk4 := HoldT.step hstab hk_ e4)
    | (refine wpList_lit3 rfl _ _ _ rfl _ _ _ seed name (put64 (i / 4).toNat) rfl rfl rfl (owns_one hown1) ho2 (owns_one hown3) (exB (sees_of_owns hown1)) (exB hs2) (exB (sees_of_owns hown3)) ?_; intro x5 B5 hbb e5; have hk5 := HoldT.step hstab hk_ e5)
    | (go_at_call 60; refine (Partsr_any _ _ [seed, name, put64 (i / 4).toNat] (exBB hbb) HFL.out).mono ?_; rintro e x6 ⟨rfl, hb6⟩; rw [HS.out]; have e6 : Ext _ x6 := hb6; have hk6 := HoldT.step hstab hk_ e6)
    | (refine wpList_store_row rfl 23 _ _ rfl B4 (keyA S) _ _ rfl rfl (exK hh) (by rw [keyA_size, keyA_size, HSL.out]; rfl) (by rw [keyA_size, HSL.out]; exact info_key) (keyA_one _) ?_; intro x7 hg7 hs7 hR7
       have hk7 : HoldT (StrB g seed name i) w x7 := ⟨Blk.grownBy hk_.has hg7 (some_ne (by omega)), hk_.up.grown hg7 hk_.up.size (fun k hk => by cases hk; exact hlw4)⟩))
      refine phPost_hold (by first | with_reducible assumption | exact HoldT.alloc hstab (by with_reducible assumption) _ | exact HoldT.alloc hstab (HoldT.alloc hstab (by with_reducible assumption) _) _) ?_
      intro hk_
      refine wpTr_step ?_
      simp only [pickOps, List.flatMap_nil]
      refine wpQuiet_nil ?_
      refine wpTr_one ?_
      simp only [pickOps, List.flatMap_cons, List.flatMap_nil, List.drop_succ_cons, List.drop_zero, List.take_succ_cons, List.take_zero, List.cons_append, List.nil_append, List.append_nil]
      go_wp2_with (first
    | (at_builtin; refine appB (W := w) rfl _ _ rfl (.slice none 0 0) [] rfl (ownB_nil _ _) _ seed rfl (strm_seed hk_.has HK.out) (by rw [HK.out, List.length_nil]; decide) hk_.up ?_; intro v1 x1 hown1 hg1 hb1; rw [List.nil_append] at hown1; have e1 := ext_none hg1; clear hg1; have hk1 := HoldT.step hstab hk_ e1)
    | (refine wpList_strB rfl _ rfl name rfl (by omega) ?_; intro x2 v2 hs2 ho2 e2; have hk2 := HoldT.step hstab hk_ e2)
    | (go_at_call 71; refine (Put64r_any _ _ [] (i / 4) (Sees.nil _ _) (by omega) (by omega) (by decide)).mono ?_; rintro e x3 ⟨v3, rfl, hown3, hb3⟩; rw [List.nil_append] at hown3; have e3 : Ext _ x3 := hb3; have hk3 := HoldT.step hstab hk_ e3)
    | (refine wpList_allocB rfl _ rfl _ run_allocKey ?_; intro x4 B4 hh hB4 e4; have hlt4 : g < B4 := Nat.lt_of_lt_of_le (Blk.lt hk_.has) hB4; have hlw4 : w.heap.size ≤ B4 := Nat.le_trans hk_.up.size hB4; have hk4 := HoldT.step hstab hk_ e4)
    | (refine wpList_lit3 rfl _ _ _ rfl _ _ _ seed name (put64 (i / 4).toNat) rfl rfl rfl (owns_one hown1) ho2 (owns_one hown3) (exB (sees_of_owns hown1)) (exB hs2) (exB (sees_of_owns hown3)) ?_; intro x5 B5 hbb e5; have hk5 := HoldT.step hstab hk_ e5)
    | (go_at_call 60; refine (Partsr_any _ _ [seed, name, put64 (i / 4).toNat] (exBB hbb) HFL.out).mono ?_; rintro e x6 ⟨rfl, hb6⟩; rw [HS.out]; have e6 : Ext _ x6 := hb6; have hk6 := HoldT.step hstab hk_ e6)
    | (refine wpList_store_row rfl 23 _ _ rfl B4 (keyA S) _ _ rfl rfl (exK hh) (by rw [keyA_size, keyA_size, HSL.out]; rfl) (by rw [keyA_size, HSL.out]; exact info_key) (keyA_one _) ?_; intro x7 hg7 hs7 hR7
       have hk7 : HoldT (StrB g seed name i) w x7 := ⟨Blk.grownBy hk_.has hg7 (some_ne (by omega)), hk_.up.grown hg7 hk_.up.size (fun k hk => by cases hk; exact hlw4)⟩))
      refine phPost_hold (by first | with_reducible assumption | exact HoldT.alloc hstab (by with_reducible assumption) _ | exact HoldT.alloc hstab (HoldT.alloc hstab (by with_reducible assumption) _) _) ?_
      intro hk_
      refine wpTr_step ?_
      simp only [pickOps, List.flatMap_nil]
      refine wpQuiet_nil ?_
      refine wpTr_one ?_
      simp only [pickOps, List.flatMap_cons, List.flatMap_nil, List.drop_succ_cons, List.drop_zero, List.take_succ_cons, List.take_zero, List.cons_append, List.nil_append, List.append_nil]
      go_wp2_with (first
    | (at_builtin; refine appB (W := w) rfl _ _ rfl (.slice none 0 0) [] rfl (ownB_nil _ _) _ seed rfl (strm_seed hk_.has HK.out) (by rw [HK.out, List.length_nil]; decide) hk_.up ?_; intro v1 x1 hown1 hg1 hb1; rw [List.nil_append] at hown1; have e1 := ext_none hg1; clear hg1; have hk1 := HoldT.step hstab hk_ e1)
    | (refine wpList_strB rfl _ rfl name rfl (by omega) ?_; intro x2 v2 hs2 ho2 e2; have hk2 := HoldT.step hstab hk_ e2)
    | (go_at_call 71; refine (Put64r_any _ _ [] (i / 4) (Sees.nil _ _) (by omega) (by omega) (by decide)).mono ?_; rintro e x3 ⟨v3, rfl, hown3, hb3⟩; rw [List.nil_append] at hown3; have e3 : Ext _ x3 := hb3; have hk3 := HoldT.step hstab hk_ e3)
    | (refine wpList_allocB rfl _ rfl _ run_allocKey ?_; intro x4 B4 hh hB4 e4; have hlt4 : g < B4 := Nat.lt_of_lt_of_le (Blk.lt hk_.has) hB4; have hlw4 : w.heap.size ≤ B4 := Nat.le_trans hk_.up.size hB4; have hk4 := HoldT.step hstab hk_ e4)
    | (refine wpList_lit3 rfl _ _ _ rfl _ _ _ seed name (put64 (i / 4).toNat) rfl rfl rfl (owns_one hown1) ho2 (owns_one hown3) (exB (sees_of_owns hown1)) (exB hs2) (exB (sees_of_owns hown3)) ?_; intro x5 B5 hbb e5; have hk5 := HoldT.step hstab hk_ e5)
    | (go_at_call 60; refine (Partsr_any _ _ [seed, name, put64 (i / 4).toNat] (exBB hbb) HFL.out).mono ?_; rintro e x6 ⟨rfl, hb6⟩; rw [HS.out]; have e6 : Ext _ x6 := hb6; have hk6 := HoldT.step hstab hk_ e6)
    | (refine wpList_store_row rfl 23 _ _ rfl B4 (keyA S) _ _ rfl rfl (exK hh) (by rw [keyA_size, keyA_size, HSL.out]; rfl) (by rw [keyA_size, HSL.out]; exact info_key) (keyA_one _) ?_; intro x7 hg7 hs7 hR7
       have hk7 : HoldT (StrB g seed name i) w x7 := ⟨Blk.grownBy hk_.has hg7 (some_ne (by omega)), hk_.up.grown hg7 hk_.up.size (fun k hk => by cases hk; exact hlw4)⟩))
      refine phPost_hold (by first | with_reducible assumption | exact HoldT.alloc hstab (by with_reducible assumption) _ | exact HoldT.alloc hstab (HoldT.alloc hstab (by with_reducible assumption) _) _) ?_
      intro hk_
      refine wpTr_step ?_
      simp only [pickOps, List.flatMap_nil]
      refine wpQuiet_nil ?_
      refine wpTr_one ?_
      simp only [pickOps, List.flatMap_cons, List.flatMap_nil, List.drop_succ_cons, List.drop_zero, List.take_succ_cons, List.take_zero, List.cons_append, List.nil_append, List.append_nil]
      go_wp2_with (first
    | (at_builtin; refine appB (W := w) rfl _ _ rfl (.slice none 0 0) [] rfl (ownB_nil _ _) _ seed rfl (strm_seed hk_.has HK.out) (by rw [HK.out, List.length_nil]; decide) hk_.up ?_; intro v1 x1 hown1 hg1 hb1; rw [List.nil_append] at hown1; have e1 := ext_none hg1; clear hg1; have hk1 := HoldT.step hstab hk_ e1)
    | (refine wpList_strB rfl _ rfl name rfl (by omega) ?_; intro x2 v2 hs2 ho2 e2; have hk2 := HoldT.step hstab hk_ e2)
    | (go_at_call 71; refine (Put64r_any _ _ [] (i / 4) (Sees.nil _ _) (by omega) (by omega) (by decide)).mono ?_; rintro e x3 ⟨v3, rfl, hown3, hb3⟩; rw [List.nil_append] at hown3; have e3 : Ext _ x3 := hb3; have hk3 := HoldT.step hstab hk_ e3)
    | (refine wpList_allocB rfl _ rfl _ run_allocKey ?_; intro x4 B4 hh hB4 e4; have hlt4 : g < B4 := Nat.lt_of_lt_of_le (Blk.lt hk_.has) hB4; have hlw4 : w.heap.size ≤ B4 := Nat.le_trans hk_.up.size hB4; have hk4 := HoldT.step hstab hk_ e4)
    | (refine wpList_lit3 rfl _ _ _ rfl _ _ _ seed name (put64 (i / 4).toNat) rfl rfl rfl (owns_one hown1) ho2 (owns_one hown3) (exB (sees_of_owns hown1)) (exB hs2) (exB (sees_of_owns hown3)) ?_; intro x5 B5 hbb e5; have hk5 := HoldT.step hstab hk_ e5)
    | (go_at_call 60; refine (Partsr_any _ _ [seed, name, put64 (i / 4).toNat] (exBB hbb) HFL.out).mono ?_; rintro e x6 ⟨rfl, hb6⟩; rw [HS.out]; have e6 : Ext _ x6 := hb6; have hk6 := HoldT.step hstab hk_ e6)
    | (refine wpList_store_row rfl 23 _ _ rfl B4 (keyA S) _ _ rfl rfl (exK hh) (by rw [keyA_size, keyA_size, HSL.out]; rfl) (by rw [keyA_size, HSL.out]; exact info_key) (keyA_one _) ?_; intro x7 hg7 hs7 hR7
       have hk7 : HoldT (StrB g seed name i) w x7 := ⟨Blk.grownBy hk_.has hg7 (some_ne (by omega)), hk_.up.grown hg7 hk_.up.size (fun k hk => by cases hk; exact hlw4)⟩))
      refine phPost_hold (by first | with_reducible assumption | exact HoldT.alloc hstab (by with_reducible assumption) _ | exact HoldT.alloc hstab (HoldT.alloc hstab (by with_reducible assumption) _) _) ?_
      intro hk_
      refine wpTr_step ?_
      simp only [pickOps, List.flatMap_nil]
      refine wpQuiet_nil ?_
      refine wpTr_one ?_
      simp only [pickOps, List.flatMap_cons, List.flatMap_nil, List.drop_succ_cons, List.drop_zero, List.take_succ_cons, List.take_zero, List.cons_append, List.nil_append, List.append_nil]
      go_wp2_with (first
    | (at_builtin; refine appB (W := w) rfl _ _ rfl (.slice none 0 0) [] rfl (ownB_nil _ _) _ seed rfl (strm_seed hk_.has HK.out) (by rw [HK.out, List.length_nil]; decide) hk_.up ?_; intro v1 x1 hown1 hg1 hb1; rw [List.nil_append] at hown1; have e1 := ext_none hg1; clear hg1; have hk1 := HoldT.step hstab hk_ e1)
    | (refine wpList_strB rfl _ rfl name rfl (by omega) ?_; intro x2 v2 hs2 ho2 e2; have hk2 := HoldT.step hstab hk_ e2)
    | (go_at_call 71; refine (Put64r_any _ _ [] (i / 4) (Sees.nil _ _) (by omega) (by omega) (by decide)).mono ?_; rintro e x3 ⟨v3, rfl, hown3, hb3⟩; rw [List.nil_append] at hown3; have e3 : Ext _ x3 := hb3; have hk3 := HoldT.step hstab hk_ e3)
    | (refine wpList_allocB rfl _ rfl _ run_allocKey ?_; intro x4 B4 hh hB4 e4; have hlt4 : g < B4 := Nat.lt_of_lt_of_le (Blk.lt hk_.has) hB4; have hlw4 : w.heap.size ≤ B4 := Nat.le_trans hk_.up.size hB4; have hk4 := HoldT.step hstab hk_ e4)
    | (refine wpList_lit3 rfl _ _ _ rfl _ _ _ seed name (put64 (i / 4).toNat) rfl rfl rfl (owns_one hown1) ho2 (owns_one hown3) (exB (sees_of_owns hown1)) (exB hs2) (exB (sees_of_owns hown3)) ?_; intro x5 B5 hbb e5; have hk5 := HoldT.step hstab hk_ e5)
    | (go_at_call 60; refine (Partsr_any _ _ [seed, name, put64 (i / 4).toNat] (exBB hbb) HFL.out).mono ?_; rintro e x6 ⟨rfl, hb6⟩; rw [HS.out]; have e6 : Ext _ x6 := hb6; have hk6 := HoldT.step hstab hk_ e6)
    | (refine wpList_store_row rfl 23 _ _ rfl B4 (keyA S) _ _ rfl rfl (exK hh) (by rw [keyA_size, keyA_size, HSL.out]; rfl) (by rw [keyA_size, HSL.out]; exact info_key) (keyA_one _) ?_; intro x7 hg7 hs7 hR7
       have hk7 : HoldT (StrB g seed name i) w x7 := ⟨Blk.grownBy hk_.has hg7 (some_ne (by omega)), hk_.up.grown hg7 hk_.up.size (fun k hk => by cases hk; exact hlw4)⟩))
      refine phPost_hold (by first | with_reducible assumption | exact HoldT.alloc hstab (by with_reducible assumption) _ | exact HoldT.alloc hstab (HoldT.alloc hstab (by with_reducible assumption) _) _) ?_
      intro hk_
      refine wpTr_fin ?_
      simp only [pickOps, List.flatMap_nil]
      refine wpQuiet_nil ?_
      have hstab2 : Stab (fun u => StrB g seed name i u ∧ KE2 B4 S u) := Stab.and (stabStrB g seed name i) (Stab.blk _ _ _)
      have hkz : HoldT (fun u => StrB g seed name i u ∧ KE2 B4 S u) w x7.drew := HoldT.drew hstab2 ⟨⟨hk_.has, hR7⟩, hk_.up⟩
      have hT1 : ∀ e : InC (fun u => StrB g seed name i u ∧ KE2 B4 S u), e.u.cell? ⟨g, 33, none⟩ = some (.int .u64 i) := fun e => strm_i e.has.1 HK.out
      clear hg7 hs7 hR7
      go_wp2_with fail
      try change Code.wp _ _ _ (Act.mk _ _) _
      haveI hne_ : Nonempty (InC (fun u => StrB g seed name i u ∧ KE2 B4 S u)) := ⟨⟨_, (hkz).1⟩⟩
      refine wp_region_tr (C := fun w_ => ∃ e_ : InC (fun u => StrB g seed name i u ∧ KE2 B4 S u), w_ = e_.u) (.step [0, 1, 2, 3, 4, 5, 6, 7] (.alt 8 (.fin [9, 10, 11, 12, 13]) .nil)) (by kernel_rfl) (by kernel_rfl) (fun _ _ _ _ hd_ h_ => ⟨hd_.symm.trans h_.1, h_.2⟩) ⟨⟨World.drew _, (hkz).1⟩, rfl⟩ ?_
      have hk_ := hkz
      refine wpTr_step ?_
      simp only [pickOps, List.flatMap_cons, List.flatMap_nil, List.drop_succ_cons, List.drop_zero, List.take_succ_cons, List.take_zero, List.cons_append, List.nil_append, List.append_nil]
      iterate 8 (go_big_quiet_step (exact rfl))
      refine wpQuiet_nil ?_
      refine wpTr_one ?_
      simp only [pickOps, List.flatMap_cons, List.flatMap_nil, List.drop_succ_cons, List.drop_zero, List.take_succ_cons, List.take_zero, List.cons_append, List.nil_append, List.append_nil]
      go_wp2_with (first
        | (go_at_call 120; refine (Get64r_ok _ _ S (8 * (i % 4)) (seesB_key hk_.has.2 HSL.out) (by omega) (by rw [HSL.out]; omega)).mono ?_; rintro e y1 ⟨rfl, rfl⟩; rw [← HW.out]))
      refine phPost_hold (by first | with_reducible assumption | exact HoldT.alloc hstab (by with_reducible assumption) _ | exact HoldT.alloc hstab (HoldT.alloc hstab (by with_reducible assumption) _) _) ?_
      intro hk_
      refine wpTr_fin ?_
      simp only [pickOps, List.flatMap_cons, List.flatMap_nil, List.drop_succ_cons, List.drop_zero, List.take_succ_cons, List.take_zero, List.cons_append, List.nil_append, List.append_nil]
      iterate 5 (go_big_quiet_step (exact rfl))
      refine wpQuiet_nil ?_
      have hci := strm_i hk_.has.1 HK.out
      have hfi := Blk.free hk_.has.1 33
      have hend := Blk.set hk_.has.1 33 (.int .u64 (i + 1))
      rw [strmC_set seed name i (i + 1) HK.out] at hend
      have hgr := grownBy_set ((show Ext w _ from hk_.up).g (some g)) 33 (.int .u64 (i + 1))
      go_wp2_with fail
      go_ret
      exact ⟨rfl, hend, hgr⟩
    refine wpTr_one ?_
    simp only [pickOps, List.flatMap_cons, List.flatMap_nil, List.drop_succ_cons, List.drop_zero, List.take_succ_cons, List.take_zero, List.cons_append, List.nil_append, List.append_nil]
    go_wp2_with (first
    | (at_builtin; refine appB (W := w) rfl _ _ rfl (.slice none 0 0) [] rfl (ownB_nil _ _) _ seed rfl (strm_seed hk_.has HK.out) (by rw [HK.out, List.length_nil]; decide) hk_.up ?_; intro v1 x1 hown1 hg1 hb1; rw [List.nil_append] at hown1; have e1 := ext_none hg1; clear hg1; have hk1 := HoldT.step hstab hk_ e1)
    | (refine wpList_strB rfl _ rfl name rfl (by omega) ?_; intro x2 v2 hs2 ho2 e2; have hk2 := HoldT.step hstab hk_ e2)
    | (go_at_call 71; refine (Put64r_any _ _ [] (i / 4) (Sees.nil _ _) (by omega) (by omega) (by decide)).mono ?_; rintro e x3 ⟨v3, rfl, hown3, hb3⟩; rw [List.nil_append] at hown3; have e3 : Ext _ x3 := hb3; have hk3 := HoldT.step hstab hk_ e3)
    | (refine wpList_allocB rfl _ rfl _ run_allocKey ?_; intro x4 B4 hh hB4 e4; have hlt4 : g < B4 := Nat.lt_of_lt_of_le (Blk.lt hk_.has) hB4; have hlw4 : w.heap.size ≤ B4 := Nat.le_trans hk_.up.size hB4; have hk4 := HoldT.step hstab hk_ e4)
    | (refine wpList_lit3 rfl _ _ _ rfl _ _ _ seed name (put64 (i / 4).toNat) rfl rfl rfl (owns_one hown1) ho2 (owns_one hown3) (exB (sees_of_owns hown1)) (exB hs2) (exB (sees_of_owns hown3)) ?_; intro x5 B5 hbb e5; have hk5 := HoldT.step hstab hk_ e5)
    | (go_at_call 60; refine (Partsr_any _ _ [seed, name, put64 (i / 4).toNat] (exBB hbb) HFL.out).mono ?_; rintro e x6 ⟨rfl, hb6⟩; rw [HS.out]; have e6 : Ext _ x6 := hb6; have hk6 := HoldT.step hstab hk_ e6)
    | (refine wpList_store_row rfl 23 _ _ rfl B4 (keyA S) _ _ rfl rfl (exK hh) (by rw [keyA_size, keyA_size, HSL.out]; rfl) (by rw [keyA_size, HSL.out]; exact info_key) (keyA_one _) ?_; intro x7 hg7 hs7 hR7
       have hk7 : HoldT (StrB g seed name i) w x7 := ⟨Blk.grownBy hk_.has hg7 (some_ne (by omega)), hk_.up.grown hg7 hk_.up.size (fun k hk => by cases hk; exact hlw4)⟩))
    refine phPost_hold (by first | with_reducible assumption | exact HoldT.alloc hstab (by with_reducible assumption) _ | exact HoldT.alloc hstab (HoldT.alloc hstab (by with_reducible assumption) _) _) ?_
    intro hk_
    refine wpTr_step ?_
    simp only [pickOps, List.flatMap_nil]
    refine wpQuiet_nil ?_
    refine wpTr_one ?_
    simp only [pickOps, List.flatMap_cons, List.flatMap_nil, List.drop_succ_cons, List.drop_zero, List.take_succ_cons, List.take_zero, List.cons_append, List.nil_append, List.append_nil]
    go_wp2_with (first
    | (at_builtin; refine appB (W := w) rfl _ _ rfl (.slice none 0 0) [] rfl (ownB_nil _ _) _ seed rfl (strm_seed hk_.has HK.out) (by rw [HK.out, List.length_nil]; decide) hk_.up ?_; intro v1 x1 hown1 hg1 hb1; rw [List.nil_append] at hown1; have e1 := ext_none hg1; clear hg1; have hk1 := HoldT.step hstab hk_ e1)
    | (refine wpList_strB rfl _ rfl name rfl (by omega) ?_; intro x2 v2 hs2 ho2 e2; have hk2 := HoldT.step hstab hk_ e2)
    | (go_at_call 71; refine (Put64r_any _ _ [] (i / 4) (Sees.nil _ _) (by omega) (by omega) (by decide)).mono ?_; rintro e x3 ⟨v3, rfl, hown3, hb3⟩; rw [List.nil_append] at hown3; have e3 : Ext _ x3 := hb3; have hk3 := HoldT.step hstab hk_ e3)
    | (refine wpList_allocB rfl _ rfl _ run_allocKey ?_; intro x4 B4 hh hB4 e4; have hlt4 : g < B4 := Nat.lt_of_lt_of_le (Blk.lt hk_.has) hB4; have hlw4 : w.heap.size ≤ B4 := Nat.le_trans hk_.up.size hB4; have hk4 := HoldT.step hstab hk_ e4)
    | (refine wpList_lit3 rfl _ _ _ rfl _ _ _ seed name (put64 (i / 4).toNat) rfl rfl rfl (owns_one hown1) ho2 (owns_one hown3) (exB (sees_of_owns hown1)) (exB hs2) (exB (sees_of_owns hown3)) ?_; intro x5 B5 hbb e5; have hk5 := HoldT.step hstab hk_ e5)
    | (go_at_call 60; refine (Partsr_any _ _ [seed, name, put64 (i / 4).toNat] (exBB hbb) HFL.out).mono ?_; rintro e x6 ⟨rfl, hb6⟩; rw [HS.out]; have e6 : Ext _ x6 := hb6; have hk6 := HoldT.step hstab hk_ e6)
    | (refine wpList_store_row rfl 23 _ _ rfl B4 (keyA S) _ _ rfl rfl (exK hh) (by rw [keyA_size, keyA_size, HSL.out]; rfl) (by rw [keyA_size, HSL.out]; exact info_key) (keyA_one _) ?_; intro x7 hg7 hs7 hR7
       have hk7 : HoldT (StrB g seed name i) w x7 := ⟨Blk.grownBy hk_.has hg7 (some_ne (by omega)), hk_.up.grown hg7 hk_.up.size (fun k hk => by cases hk; exact hlw4)⟩))
    refine phPost_hold (by first | with_reducible assumption | exact HoldT.alloc hstab (by with_reducible assumption) _ | exact HoldT.alloc hstab (HoldT.alloc hstab (by with_reducible assumption) _) _) ?_
    intro hk_
    refine wpTr_step ?_
    simp only [pickOps, List.flatMap_nil]
    refine wpQuiet_nil ?_
    refine wpTr_one ?_
    simp only [pickOps, List.flatMap_cons, List.flatMap_nil, List.drop_succ_cons, List.drop_zero, List.take_succ_cons, List.take_zero, List.cons_append, List.nil_append, List.append_nil]
    go_wp2_with (first
    | (at_builtin; refine appB (W := w) rfl _ _ rfl (.slice none 0 0) [] rfl (ownB_nil _ _) _ seed rfl (strm_seed hk_.has HK.out) (by rw [HK.out, List.length_nil]; decide) hk_.up ?_; intro v1 x1 hown1 hg1 hb1; rw [List.nil_append] at hown1; have e1 := ext_none hg1; clear hg1; have hk1 := HoldT.step hstab hk_ e1)
    | (refine wpList_strB rfl _ rfl name rfl (by omega) ?_; intro x2 v2 hs2 ho2 e2; have hk2 := HoldT.step hstab hk_ e2)
    | (go_at_call 71; refine (Put64r_any _ _ [] (i / 4) (Sees.nil _ _) (by omega) (by omega) (by decide)).mono ?_; rintro e x3 ⟨v3, rfl, hown3, hb3⟩; rw [List.nil_append] at hown3; have e3 : Ext _ x3 := hb3; have hk3 := HoldT.step hstab hk_ e3)
    | (refine wpList_allocB rfl _ rfl _ run_allocKey ?_; intro x4 B4 hh hB4 e4; have hlt4 : g < B4 := Nat.lt_of_lt_of_le (Blk.lt hk_.has) hB4; have hlw4 : w.heap.size ≤ B4 := Nat.le_trans hk_.up.size hB4; have hk4 := HoldT.step hstab hk_ e4)
    | (refine wpList_lit3 rfl _ _ _ rfl _ _ _ seed name (put64 (i / 4).toNat) rfl rfl rfl (owns_one hown1) ho2 (owns_one hown3) (exB (sees_of_owns hown1)) (exB hs2) (exB (sees_of_owns hown3)) ?_; intro x5 B5 hbb e5; have hk5 := HoldT.step hstab hk_ e5)
    | (go_at_call 60; refine (Partsr_any _ _ [seed, name, put64 (i / 4).toNat] (exBB hbb) HFL.out).mono ?_; rintro e x6 ⟨rfl, hb6⟩; rw [HS.out]; have e6 : Ext _ x6 := hb6; have hk6 := HoldT.step hstab hk_ e6)
    | (refine wpList_store_row rfl 23 _ _ rfl B4 (keyA S) _ _ rfl rfl (exK hh) (by rw [keyA_size, keyA_size, HSL.out]; rfl) (by rw [keyA_size, HSL.out]; exact info_key) (keyA_one _) ?_; intro x7 hg7 hs7 hR7
       have hk7 : HoldT (StrB g seed name i) w x7 := ⟨Blk.grownBy hk_.has hg7 (some_ne (by omega)), hk_.up.grown hg7 hk_.up.size (fun k hk => by cases hk; exact hlw4)⟩))
    refine phPost_hold (by first | with_reducible assumption | exact HoldT.alloc hstab (by with_reducible assumption) _ | exact HoldT.alloc hstab (HoldT.alloc hstab (by with_reducible assumption) _) _) ?_
    intro hk_
    refine wpTr_step ?_
    simp only [pickOps, List.flatMap_nil]
    refine wpQuiet_nil ?_
    refine wpTr_one ?_
    simp only [pickOps, List.flatMap_cons, List.flatMap_nil, List.drop_succ_cons, List.drop_zero, List.take_succ_cons, List.take_zero, List.cons_append, List.nil_append, List.append_nil]
    go_wp2_with (first
    | (at_builtin; refine appB (W := w) rfl _ _ rfl (.slice none 0 0) [] rfl (ownB_nil _ _) _ seed rfl (strm_seed hk_.has HK.out) (by rw [HK.out, List.length_nil]; decide) hk_.up ?_; intro v1 x1 hown1 hg1 hb1; rw [List.nil_append] at hown1; have e1 := ext_none hg1; clear hg1; have hk1 := HoldT.step hstab hk_ e1)
    | (refine wpList_strB rfl _ rfl name rfl (by omega) ?_; intro x2 v2 hs2 ho2 e2; have hk2 := HoldT.step hstab hk_ e2)
    | (go_at_call 71; refine (Put64r_any _ _ [] (i / 4) (Sees.nil _ _) (by omega) (by omega) (by decide)).mono ?_; rintro e x3 ⟨v3, rfl, hown3, hb3⟩; rw [List.nil_append] at hown3; have e3 : Ext _ x3 := hb3; have hk3 := HoldT.step hstab hk_ e3)
    | (refine wpList_allocB rfl _ rfl _ run_allocKey ?_; intro x4 B4 hh hB4 e4; have hlt4 : g < B4 := Nat.lt_of_lt_of_le (Blk.lt hk_.has) hB4; have hlw4 : w.heap.size ≤ B4 := Nat.le_trans hk_.up.size hB4; have hk4 := HoldT.step hstab hk_ e4)
    | (refine wpList_lit3 rfl _ _ _ rfl _ _ _ seed name (put64 (i / 4).toNat) rfl rfl rfl (owns_one hown1) ho2 (owns_one hown3) (exB (sees_of_owns hown1)) (exB hs2) (exB (sees_of_owns hown3)) ?_; intro x5 B5 hbb e5; have hk5 := HoldT.step hstab hk_ e5)
    | (go_at_call 60; refine (Partsr_any _ _ [seed, name, put64 (i / 4).toNat] (exBB hbb) HFL.out).mono ?_; rintro e x6 ⟨rfl, hb6⟩; rw [HS.out]; have e6 : Ext _ x6 := hb6; have hk6 := HoldT.step hstab hk_ e6)
    | (refine wpList_store_row rfl 23 _ _ rfl B4 (keyA S) _ _ rfl rfl (exK hh) (by rw [keyA_size, keyA_size, HSL.out]; rfl) (by rw [keyA_size, HSL.out]; exact info_key) (keyA_one _) ?_; intro x7 hg7 hs7 hR7
       have hk7 : HoldT (StrB g seed name i) w x7 := ⟨Blk.grownBy hk_.has hg7 (some_ne (by omega)), hk_.up.grown hg7 hk_.up.size (fun k hk => by cases hk; exact hlw4)⟩))
    refine phPost_hold (by first | with_reducible assumption | exact HoldT.alloc hstab (by with_reducible assumption) _ | exact HoldT.alloc hstab (HoldT.alloc hstab (by with_reducible assumption) _) _) ?_
    intro hk_
    refine wpTr_step ?_
    simp only [pickOps, List.flatMap_nil]
    refine wpQuiet_nil ?_
    refine wpTr_one ?_
    simp only [pickOps, List.flatMap_cons, List.flatMap_nil, List.drop_succ_cons, List.drop_zero, List.take_succ_cons, List.take_zero, List.cons_append, List.nil_append, List.append_nil]
    go_wp2_with (first
    | (at_builtin; refine appB (W := w) rfl _ _ rfl (.slice none 0 0) [] rfl (ownB_nil _ _) _ seed rfl (strm_seed hk_.has HK.out) (by rw [HK.out, List.length_nil]; decide) hk_.up ?_; intro v1 x1 hown1 hg1 hb1; rw [List.nil_append] at hown1; have e1 := ext_none hg1; clear hg1; have hk1 := HoldT.step hstab hk_ e1)
    | (refine wpList_strB rfl _ rfl name rfl (by omega) ?_; intro x2 v2 hs2 ho2 e2; have hk2 := HoldT.step hstab hk_ e2)
    | (go_at_call 71; refine (Put64r_any _ _ [] (i / 4) (Sees.nil _ _) (by omega) (by omega) (by decide)).mono ?_; rintro e x3 ⟨v3, rfl, hown3, hb3⟩; rw [List.nil_append] at hown3; have e3 : Ext _ x3 := hb3; have hk3 := HoldT.step hstab hk_ e3)
    | (refine wpList_allocB rfl _ rfl _ run_allocKey ?_; intro x4 B4 hh hB4 e4; have hlt4 : g < B4 := Nat.lt_of_lt_of_le (Blk.lt hk_.has) hB4; have hlw4 : w.heap.size ≤ B4 := Nat.le_trans hk_.up.size hB4; have hk4 := HoldT.step hstab hk_ e4)
    | (refine wpList_lit3 rfl _ _ _ rfl _ _ _ seed name (put64 (i / 4).toNat) rfl rfl rfl (owns_one hown1) ho2 (owns_one hown3) (exB (sees_of_owns hown1)) (exB hs2) (exB (sees_of_owns hown3)) ?_; intro x5 B5 hbb e5; have hk5 := HoldT.step hstab hk_ e5)
    | (go_at_call 60; refine (Partsr_any _ _ [seed, name, put64 (i / 4).toNat] (exBB hbb) HFL.out).mono ?_; rintro e x6 ⟨rfl, hb6⟩; rw [HS.out]; have e6 : Ext _ x6 := hb6; have hk6 := HoldT.step hstab hk_ e6)
    | (refine wpList_store_row rfl 23 _ _ rfl B4 (keyA S) _ _ rfl rfl (exK hh) (by rw [keyA_size, keyA_size, HSL.out]; rfl) (by rw [keyA_size, HSL.out]; exact info_key) (keyA_one _) ?_; intro x7 hg7 hs7 hR7
       have hk7 : HoldT (StrB g seed name i) w x7 := ⟨Blk.grownBy hk_.has hg7 (some_ne (by omega)), hk_.up.grown hg7 hk_.up.size (fun k hk => by cases hk; exact hlw4)⟩))
    refine phPost_hold (by first | with_reducible assumption | exact HoldT.alloc hstab (by with_reducible assumption) _ | exact HoldT.alloc hstab (HoldT.alloc hstab (by with_reducible assumption) _) _) ?_
    intro hk_
    refine wpTr_fin ?_
    simp only [pickOps, List.flatMap_nil]
    refine wpQuiet_nil ?_
    have hstab2 : Stab (fun u => StrB g seed name i u ∧ KE2 B4 S u) := Stab.and (stabStrB g seed name i) (Stab.blk _ _ _)
    have hkz : HoldT (fun u => StrB g seed name i u ∧ KE2 B4 S u) w x7.drew := HoldT.drew hstab2 ⟨⟨hk_.has, hR7⟩, hk_.up⟩
    have hT1 : ∀ e : InC (fun u => StrB g seed name i u ∧ KE2 B4 S u), e.u.cell? ⟨g, 33, none⟩ = some (.int .u64 i) := fun e => strm_i e.has.1 HK.out
    clear hg7 hs7 hR7
    go_wp2_with fail
    try change Code.wp _ _ _ (Act.mk _ _) _
    haveI hne_ : Nonempty (InC (fun u => StrB g seed name i u ∧ KE2 B4 S u)) := ⟨⟨_, (hkz).1⟩⟩
    refine wp_region_tr (C := fun w_ => ∃ e_ : InC (fun u => StrB g seed name i u ∧ KE2 B4 S u), w_ = e_.u) (.step [0, 1, 2, 3, 4, 5, 6, 7] (.alt 8 (.fin [9, 10, 11, 12, 13]) .nil)) (by kernel_rfl) (by kernel_rfl) (fun _ _ _ _ hd_ h_ => ⟨hd_.symm.trans h_.1, h_.2⟩) ⟨⟨World.drew _, (hkz).1⟩, rfl⟩ ?_
    have hk_ := hkz
    refine wpTr_step ?_
    simp only [pickOps, List.flatMap_cons, List.flatMap_nil, List.drop_succ_cons, List.drop_zero, List.take_succ_cons, List.take_zero, List.cons_append, List.nil_append, List.append_nil]
    iterate 8 (go_big_quiet_step (exact rfl))
    refine wpQuiet_nil ?_
    refine wpTr_one ?_
    simp only [pickOps, List.flatMap_cons, List.flatMap_nil, List.drop_succ_cons, List.drop_zero, List.take_succ_cons, List.take_zero, List.cons_append, List.nil_append, List.append_nil]
    go_wp2_with (first
      | (go_at_call 120; refine (Get64r_ok _ _ S (8 * (i % 4)) (seesB_key hk_.has.2 HSL.out) (by omega) (by rw [HSL.out]; omega)).mono ?_; rintro e y1 ⟨rfl, rfl⟩; rw [← HW.out]))
    refine phPost_hold (by first | with_reducible assumption | exact HoldT.alloc hstab (by with_reducible assumption) _ | exact HoldT.alloc hstab (HoldT.alloc hstab (by with_reducible assumption) _) _) ?_
    intro hk_
    refine wpTr_fin ?_
    simp only [pickOps, List.flatMap_cons, List.flatMap_nil, List.drop_succ_cons, List.drop_zero, List.take_succ_cons, List.take_zero, List.cons_append, List.nil_append, List.append_nil]
    iterate 5 (go_big_quiet_step (exact rfl))
    refine wpQuiet_nil ?_
    have hci := strm_i hk_.has.1 HK.out
    have hfi := Blk.free hk_.has.1 33
    have hend := Blk.set hk_.has.1 33 (.int .u64 (i + 1))
    rw [strmC_set seed name i (i + 1) HK.out] at hend
    have hgr := grownBy_set ((show Ext w _ from hk_.up).g (some g)) 33 (.int .u64 (i + 1))
    go_wp2_with fail
    go_ret
    exact ⟨rfl, hend, hgr⟩
  refine wpTr_alt ?_ ?_
  focus
    simp only [pickOps, List.flatMap_cons, List.flatMap_nil, List.drop_succ_cons, List.drop_zero, List.take_succ_cons, List.take_zero, List.cons_append, List.nil_append, List.append_nil]
    go_wp2_with (first
    | (at_builtin; refine appB (W := w) rfl _ _ rfl (.slice none 0 0) [] rfl (ownB_nil _ _) _ seed rfl (strm_seed hk_.has HK.out) (by rw [HK.out, List.length_nil]; decide) hk_.up ?_; intro v1 x1 hown1 hg1 hb1; rw [List.nil_append] at hown1; have e1 := ext_none hg1; clear hg1; have hk1 := HoldT.step hstab hk_ e1)
    | (refine wpList_strB rfl _ rfl name rfl (by omega) ?_; intro x2 v2 hs2 ho2 e2; have hk2 := HoldT.step hstab hk_ e2)
    | (go_at_call 71; refine (Put64r_any _ _ [] (i / 4) (Sees.nil _ _) (by omega) (by omega) (by decide)).mono ?_; rintro e x3 ⟨v3, rfl, hown3, hb3⟩; rw [List.nil_append] at hown3; have e3 : Ext _ x3 := hb3; have hk3 := HoldT.step hstab hk_ e3)
    | (refine wpList_allocB rfl _ rfl _ run_allocKey ?_; intro x4 B4 hh hB4 e4; have hlt4 : g < B4 := Nat.lt_of_lt_of_le (Blk.lt hk_.has) hB4; have hlw4 : w.heap.size ≤ B4 := Nat.le_trans hk_.up.size hB4; have hk4 := HoldT.step hstab hk_ e4)
    | (refine wpList_lit3 rfl _ _ _ rfl _ _ _ seed name (put64 (i / 4).toNat) rfl rfl rfl (owns_one hown1) ho2 (owns_one hown3) (exB (sees_of_owns hown1)) (exB hs2) (exB (sees_of_owns hown3)) ?_; intro x5 B5 hbb e5; have hk5 := HoldT.step hstab hk_ e5)
    | (go_at_call 60; refine (Partsr_any _ _ [seed, name, put64 (i / 4).toNat] (exBB hbb) HFL.out).mono ?_; rintro e x6 ⟨rfl, hb6⟩; rw [HS.out]; have e6 : Ext _ x6 := hb6; have hk6 := HoldT.step hstab hk_ e6)
    | (refine wpList_store_row rfl 23 _ _ rfl B4 (keyA S) _ _ rfl rfl (exK hh) (by rw [keyA_size, keyA_size, HSL.out]; rfl) (by rw [keyA_size, HSL.out]; exact info_key) (keyA_one _) ?_; intro x7 hg7 hs7 hR7
       have hk7 : HoldT (StrB g seed name i) w x7 := ⟨Blk.grownBy hk_.has hg7 (some_ne (by omega)), hk_.up.grown hg7 hk_.up.size (fun k hk => by cases hk; exact hlw4)⟩))
    refine phPost_hold (by first | with_reducible assumption | exact HoldT.alloc hstab (by with_reducible assumption) _ | exact HoldT.alloc hstab (HoldT.alloc hstab (by with_reducible assumption) _) _) ?_
    intro hk_
    refine wpTr_step ?_
    simp only [pickOps, List.flatMap_nil]
    refine wpQuiet_nil ?_
    refine wpTr_alt ?_ ?_
    focus
      simp only [pickOps, List.flatMap_cons, List.flatMap_nil, List.drop_succ_cons, List.drop_zero, List.take_succ_cons, List.take_zero, List.cons_append, List.nil_append, List.append_nil]
      go_wp2_with (first
    | (at_builtin; refine appB (W := w) rfl _ _ rfl (.slice none 0 0) [] rfl (ownB_nil _ _) _ seed rfl (strm_seed hk_.has HK.out) (by rw [HK.out, List.length_nil]; decide) hk_.up ?_; intro v1 x1 hown1 hg1 hb1; rw [List.nil_append] at hown1; have e1 := ext_none hg1; clear hg1; have hk1 := HoldT.step hstab hk_ e1)
    | (refine wpList_strB rfl _ rfl name rfl (by omega) ?_; intro x2 v2 hs2 ho2 e2; have hk2 := HoldT.step hstab hk_ e2)
    | (go_at_call 71; refine (Put64r_any _ _ [] (i / 4) (Sees.nil _ _) (by omega) (by omega) (by decide)).mono ?_; rintro e x3 ⟨v3, rfl, hown3, hb3⟩; rw [List.nil_append] at hown3; have e3 : Ext _ x3 := hb3; have hk3 := HoldT.step hstab hk_ e3)
    | (refine wpList_allocB rfl _ rfl _ run_allocKey ?_; intro x4 B4 hh hB4 e4; have hlt4 : g < B4 := Nat.lt_of_lt_of_le (Blk.lt hk_.has) hB4; have hlw4 : w.heap.size ≤ B4 := Nat.le_trans hk_.up.size hB4; have hk4 := HoldT.step hstab hk_ e4)
    | (refine wpList_lit3 rfl _ _ _ rfl _ _ _ seed name (put64 (i / 4).toNat) rfl rfl rfl (owns_one hown1) ho2 (owns_one hown3) (exB (sees_of_owns hown1)) (exB hs2) (exB (sees_of_owns hown3)) ?_; intro x5 B5 hbb e5; have hk5 := HoldT.step hstab hk_ e5)
    | (go_at_call 60; refine (Partsr_any _ _ [seed, name, put64 (i / 4).toNat] (exBB hbb) HFL.out).mono ?_; rintro e x6 ⟨rfl, hb6⟩; rw [HS.out]; have e6 : Ext _ x6 := hb6; have hk6 := HoldT.step hstab hk_ e6)
    | (refine wpList_store_row rfl 23 _ _ rfl B4 (keyA S) _ _ rfl rfl (exK hh) (by rw [keyA_size, keyA_size, HSL.out]; rfl) (by rw [keyA_size, HSL.out]; exact info_key) (keyA_one _) ?_; intro x7 hg7 hs7 hR7
       have hk7 : HoldT (StrB g seed name i) w x7 := ⟨Blk.grownBy hk_.has hg7 (some_ne (by omega)), hk_.up.grown hg7 hk_.up.size (fun k hk => by cases hk; exact hlw4)⟩))
      refine phPost_hold (by first | with_reducible assumption | exact HoldT.alloc hstab (by with_reducible assumption) _ | exact HoldT.alloc hstab (HoldT.alloc hstab (by with_reducible assumption) _) _) ?_
      intro hk_
      refine wpTr_step ?_
      simp only [pickOps, List.flatMap_nil]
      refine wpQuiet_nil ?_
      refine wpTr_alt ?_ ?_
      focus
        simp only [pickOps, List.flatMap_cons, List.flatMap_nil, List.drop_succ_cons, List.drop_zero, List.take_succ_cons, List.take_zero, List.cons_append, List.nil_append, List.append_nil]
        go_wp2_with (first
    | (at_builtin; refine appB (W := w) rfl _ _ rfl (.slice none 0 0) [] rfl (ownB_nil _ _) _ seed rfl (strm_seed hk_.has HK.out) (by rw [HK.out, List.length_nil]; decide) hk_.up ?_; intro v1 x1 hown1 hg1 hb1; rw [List.nil_append] at hown1; have e1 := ext_none hg1; clear hg1; have hk1 := HoldT.step hstab hk_ e1)
    | (refine wpList_strB rfl _ rfl name rfl (by omega) ?_; intro x2 v2 hs2 ho2 e2; have hk2 := HoldT.step hstab hk_ e2)
    | (go_at_call 71; refine (Put64r_any _ _ [] (i / 4) (Sees.nil _ _) (by omega) (by omega) (by decide)).mono ?_; rintro e x3 ⟨v3, rfl, hown3, hb3⟩; rw [List.nil_append] at hown3; have e3 : Ext _ x3 := hb3; have hk3 := HoldT.step hstab hk_ e3)
    | (refine wpList_allocB rfl _ rfl _ run_allocKey ?_; intro x4 B4 hh hB4 e4; have hlt4 : g < B4 := Nat.lt_of_lt_of_le (Blk.lt hk_.has) hB4; have hlw4 : w.heap.size ≤ B4 := Nat.le_trans hk_.up.size hB4; have hk4 := HoldT.step hstab hk_ e4)
    | (refine wpList_lit3 rfl _ _ _ rfl _ _ _ seed name (put64 (i / 4).toNat) rfl rfl rfl (owns_one hown1) ho2 (owns_one hown3) (exB (sees_of_owns hown1)) (exB hs2) (exB (sees_of_owns hown3)) ?_; intro x5 B5 hbb e5; have hk5 := HoldT.step hstab hk_ e5)
    | (go_at_call 60; refine (Partsr_any _ _ [seed, name, put64 (i / 4).toNat] (exBB hbb) HFL.out).mono ?_; rintro e x6 ⟨rfl, hb6⟩; rw [HS.out]; have e6 : Ext _ x6 := hb6; have hk6 := HoldT.step hstab hk_ e6)
    | (refine wpList_store_row rfl 23 _ _ rfl B4 (keyA S) _ _ rfl rfl (exK hh) (by rw [keyA_size, keyA_size, HSL.out]; rfl) (by rw [keyA_size, HSL.out]; exact info_key) (keyA_one _) ?_; intro x7 hg7 hs7 hR7
       have hk7 : HoldT (StrB g seed name i) w x7 := ⟨Blk.grownBy hk_.has hg7 (some_ne (by omega)), hk_.up.grown hg7 hk_.up.size (fun k hk => by cases hk; exact hlw4)⟩))
        refine phPost_hold (by first | with_reducible assumption | exact HoldT.alloc hstab (by with_reducible assumption) _ | exact HoldT.alloc hstab (HoldT.alloc hstab (by with_reducible assumption) _) _) ?_
        intro hk_
        refine wpTr_step ?_
        simp only [pickOps, List.flatMap_nil]
        refine wpQuiet_nil ?_
        refine wpTr_alt ?_ ?_
        focus
          simp only [pickOps, List.flatMap_cons, List.flatMap_nil, List.drop_succ_cons, List.drop_zero, List.take_succ_cons, List.take_zero, List.cons_append, List.nil_append, List.append_nil]
          go_wp2_with (first
    | (at_builtin; refine appB (W := w) rfl _ _ rfl (.slice none 0 0) [] rfl (ownB_nil _ _) _ seed rfl (strm_seed hk_.has HK.out) (by rw [HK.out, List.length_nil]; decide) hk_.up ?_; intro v1 x1 hown1 hg1 hb1; rw [List.nil_append] at hown1; have e1 := ext_none hg1; clear hg1; have hk1 := HoldT.step hstab hk_ e1)
    | (refine wpList_strB rfl _ rfl name rfl (by omega) ?_; intro x2 v2 hs2 ho2 e2; have hk2 := HoldT.step hstab hk_ e2)
    | (go_at_call 71; refine (Put64r_any _ _ [] (i / 4) (Sees.nil _ _) (by omega) (by omega) (by decide)).mono ?_; rintro e x3 ⟨v3, rfl, hown3, hb3⟩; rw [List.nil_append] at hown3; have e3 : Ext _ x3 := hb3; have hk3 := HoldT.step hstab hk_ e3)
    | (refine wpList_allocB rfl _ rfl _ run_allocKey ?_; intro x4 B4 hh hB4 e4; have hlt4 : g < B4 := Nat.lt_of_lt_of_le (Blk.lt hk_.has) hB4; have hlw4 : w.heap.size ≤ B4 := Nat.le_trans hk_.up.size hB4; have hk4 := HoldT.step hstab hk_ e4)
    | (refine wpList_lit3 rfl _ _ _ rfl _ _ _ seed name (put64 (i / 4).toNat) rfl rfl rfl (owns_one hown1) ho2 (owns_one hown3) (exB (sees_of_owns hown1)) (exB hs2) (exB (sees_of_owns hown3)) ?_; intro x5 B5 hbb e5; have hk5 := HoldT.step hstab hk_ e5)
    | (go_at_call 60; refine (Partsr_any _ _ [seed, name, put64 (i / 4).toNat] (exBB hbb) HFL.out).mono ?_; rintro e x6 ⟨rfl, hb6⟩; rw [HS.out]; have e6 : Ext _ x6 := hb6; have hk6 := HoldT.step hstab hk_ e6)
    | (refine wpList_store_row rfl 23 _ _ rfl B4 (keyA S) _ _ rfl rfl (exK hh) (by rw [keyA_size, keyA_size, HSL.out]; rfl) (by rw [keyA_size, HSL.out]; exact info_key) (keyA_one _) ?_; intro x7 hg7 hs7 hR7
       have hk7 : HoldT (StrB g seed name i) w x7 := ⟨Blk.grownBy hk_.has hg7 (some_ne (by omega)), hk_.up.grown hg7 hk_.up.size (fun k hk => by cases hk; exact hlw4)⟩))
          refine phPost_hold (by first | with_reducible assumption | exact HoldT.alloc hstab (by with_reducible assumption) _ | exact HoldT.alloc hstab (HoldT.alloc hstab (by with_reducible assumption) _) _) ?_
          intro hk_
          refine wpTr_step ?_
          simp only [pickOps, List.flatMap_nil]
          refine wpQuiet_nil ?_
          refine wpTr_alt ?_ ?_
          focus
            simp only [pickOps, List.flatMap_cons, List.flatMap_nil, List.drop_succ_cons, List.drop_zero, List.take_succ_cons, List.take_zero, List.cons_append, List.nil_append, List.append_nil]
            go_wp2_with (first
    | (at_builtin; refine appB (W := w) rfl _ _ rfl (.slice none 0 0) [] rfl (ownB_nil _ _) _ seed rfl (strm_seed hk_.has HK.out) (by rw [HK.out, List.length_nil]; decide) hk_.up ?_; intro v1 x1 hown1 hg1 hb1; rw [List.nil_append] at hown1; have e1 := ext_none hg1; clear hg1; have hk1 := HoldT.step hstab hk_ e1)
    | (refine wpList_strB rfl _ rfl name rfl (by omega) ?_; intro x2 v2 hs2 ho2 e2; have hk2 := HoldT.step hstab hk_ e2)
    | (go_at_call 71; refine (Put64r_any _ _ [] (i / 4) (Sees.nil _ _) (by omega) (by omega) (by decide)).mono ?_; rintro e x3 ⟨v3, rfl, hown3, hb3⟩; rw [List.nil_append] at hown3; have e3 : Ext _ x3 := hb3; have hk3 := HoldT.step hstab hk_ e3)
    | (refine wpList_allocB rfl _ rfl _ run_allocKey ?_; intro x4 B4 hh hB4 e4; have hlt4 : g < B4 := Nat.lt_of_lt_of_le (Blk.lt hk_.has) hB4; have hlw4 : w.heap.size ≤ B4 := Nat.le_trans hk_.up.size hB4; have hk4 := HoldT.step hstab hk_ e4)
    | (refine wpList_lit3 rfl _ _ _ rfl _ _ _ seed name (put64 (i / 4).toNat) rfl rfl rfl (owns_one hown1) ho2 (owns_one hown3) (exB (sees_of_owns hown1)) (exB hs2) (exB (sees_of_owns hown3)) ?_; intro x5 B5 hbb e5; have hk5 := HoldT.step hstab hk_ e5)
    | (go_at_call 60; refine (Partsr_any _ _ [seed, name, put64 (i / 4).toNat] (exBB hbb) HFL.out).mono ?_; rintro e x6 ⟨rfl, hb6⟩; rw [HS.out]; have e6 : Ext _ x6 := hb6; have hk6 := HoldT.step hstab hk_ e6)
    | (refine wpList_store_row rfl 23 _ _ rfl B4 (keyA S) _ _ rfl rfl (exK hh) (by rw [keyA_size, keyA_size, HSL.out]; rfl) (by rw [keyA_size, HSL.out]; exact info_key) (keyA_one _) ?_; intro x7 hg7 hs7 hR7
       have hk7 : HoldT (StrB g seed name i) w x7 := ⟨Blk.grownBy hk_.has hg7 (some_ne (by omega)), hk_.up.grown hg7 hk_.up.size (fun k hk => by cases hk; exact hlw4)⟩))
            refine phPost_hold (by first | with_reducible assumption | exact HoldT.alloc hstab (by with_reducible assumption) _ | exact HoldT.alloc hstab (HoldT.alloc hstab (by with_reducible assumption) _) _) ?_
            intro hk_
            refine wpTr_step ?_
            simp only [pickOps, List.flatMap_nil]
            refine wpQuiet_nil ?_
            refine wpTr_one ?_
            simp only [pickOps, List.flatMap_cons, List.flatMap_nil, List.drop_succ_cons, List.drop_zero, List.take_succ_cons, List.take_zero, List.cons_append, List.nil_append, List.append_nil]
            go_wp2_with (first
    | (at_builtin; refine appB (W := w) rfl _ _ rfl (.slice none 0 0) [] rfl (ownB_nil _ _) _ seed rfl (strm_seed hk_.has HK.out) (by rw [HK.out, List.length_nil]; decide) hk_.up ?_; intro v1 x1 hown1 hg1 hb1; rw [List.nil_append] at hown1; have e1 := ext_none hg1; clear hg1; have hk1 := HoldT.step hstab hk_ e1)
    | (refine wpList_strB rfl _ rfl name rfl (by omega) ?_; intro x2 v2 hs2 ho2 e2; have hk2 := HoldT.step hstab hk_ e2)
    | (go_at_call 71; refine (Put64r_any _ _ [] (i / 4) (Sees.nil _ _) (by omega) (by omega) (by decide)).mono ?_; rintro e x3 ⟨v3, rfl, hown3, hb3⟩; rw [List.nil_append] at hown3; have e3 : Ext _ x3 := hb3; have hk3 := HoldT.step hstab hk_ e3)
    | (refine wpList_allocB rfl _ rfl _ run_allocKey ?_; intro x4 B4 hh hB4 e4; have hlt4 : g < B4 := Nat.lt_of_lt_of_le (Blk.lt hk_.has) hB4; have hlw4 : w.heap.size ≤ B4 := Nat.le_trans hk_.up.size hB4; have hk4 := HoldT.step hstab hk_ e4)
    | (refine wpList_lit3 rfl _ _ _ rfl _ _ _ seed name (put64 (i / 4).toNat) rfl rfl rfl (owns_one hown1) ho2 (owns_one hown3) (exB (sees_of_owns hown1)) (exB hs2) (exB (sees_of_owns hown3)) ?_; intro x5 B5 hbb e5; have hk5 := HoldT.step hstab hk_ e5)
    | (go_at_call 60; refine (Partsr_any _ _ [seed, name, put64 (i / 4).toNat] (exBB hbb) HFL.out).mono ?_; rintro e x6 ⟨rfl, hb6⟩; rw [HS.out]; have e6 : Ext _ x6 := hb6; have hk6 := HoldT.step hstab hk_ e6)
    | (refine wpList_store_row rfl 23 _ _ rfl B4 (keyA S) _ _ rfl rfl (exK hh) (by rw [keyA_size, keyA_size, HSL.out]; rfl) (by rw [keyA_size, HSL.out]; exact info_key) (keyA_one _) ?_; intro x7 hg7 hs7 hR7
       have hk7 : HoldT (StrB g seed name i) w x7 := ⟨Blk.grownBy hk_.has hg7 (some_ne (by omega)), hk_.up.grown hg7 hk_.up.size (fun k hk => by cases hk; exact hlw4)⟩))
            refine phPost_hold (by first | with_reducible assumption | exact HoldT.alloc hstab (by with_reducible assumption) _ | exact HoldT.alloc hstab (HoldT.alloc hstab (by with_reducible assumption) _) _) ?_
            intro hk_
            refine wpTr_step ?_
            simp only [pickOps, List.flatMap_nil]
            refine wpQuiet_nil ?_
            refine wpTr_one ?_
            simp only [pickOps, List.flatMap_cons, List.flatMap_nil, List.drop_succ_cons, List.drop_zero, List.take_succ_cons, List.take_zero, List.cons_append, List.nil_append, List.append_nil]
            go_wp2_with (first
    | (at_builtin; refine appB (W := w) rfl _ _ rfl (.slice none 0 0) [] rfl (ownB_nil _ _) _ seed rfl (strm_seed hk_.has HK.out) (by rw [HK.out, List.length_nil]; decide) hk_.up ?_; intro v1 x1 hown1 hg1 hb1; rw [List.nil_append] at hown1; have e1 := ext_none hg1; clear hg1; have hk1 := HoldT.step hstab hk_ e1)
    | (refine wpList_strB rfl _ rfl name rfl (by omega) ?_; intro x2 v2 hs2 ho2 e2; have hk2 := HoldT.step hstab hk_ e2)
    | (go_at_call 71; refine (Put64r_any _ _ [] (i / 4) (Sees.nil _ _) (by omega) (by omega) (by decide)).mono ?_; rintro e x3 ⟨v3, rfl, hown3, hb3⟩; rw [List.nil_append] at hown3; have e3 : Ext _ x3 := hb3; have hk3 := HoldT.step hstab hk_ e3)
    | (refine wpList_allocB rfl _ rfl _ run_allocKey ?_; intro x4 B4 hh hB4 e4; have hlt4 : g < B4 := Nat.lt_of_lt_of_le (Blk.lt hk_.has) hB4; have hlw4 : w.heap.size ≤ B4 := Nat.le_trans hk_.up.size hB4; have hk4 := HoldT.step hstab hk_ e4)
    | (refine wpList_lit3 rfl _ _ _ rfl _ _ _ seed name (put64 (i / 4).toNat) rfl rfl rfl (owns_one hown1) ho2 (owns_one hown3) (exB (sees_of_owns hown1)) (exB hs2) (exB (sees_of_owns hown3)) ?_; intro x5 B5 hbb e5; have hk5 := HoldT.step hstab hk_ e5)
    | (go_at_call 60; refine (Partsr_any _ _ [seed, name, put64 (i / 4).toNat] (exBB hbb) HFL.out).mono ?_; rintro e x6 ⟨rfl, hb6⟩; rw [HS.out]; have e6 : Ext _ x6 := hb6; have hk6 := HoldT.step hstab hk_ e6)
    | (refine wpList_store_row rfl 23 _ _ rfl B4 (keyA S) _ _ rfl rfl (exK hh) (by rw [keyA_size, keyA_size, HSL.out]; rfl) (by rw [keyA_size, HSL.out]; exact info_key) (keyA_one _) ?_; intro x7 hg7 hs7 hR7
       have hk7 : HoldT (StrB g seed name i) w x7 := ⟨Blk.grownBy hk_.has hg7 (some_ne (by omega)), hk_.up.grown hg7 hk_.up.size (fun k hk => by cases hk; exact hlw4)⟩))
            refine phPost_hold (by first | with_reducible assumption | exact HoldT.alloc hstab (by with_reducible assumption) _ | exact HoldT.alloc hstab (HoldT.alloc hstab (by with_reducible assumption) _) _) ?_
            intro hk_
            refine wpTr_fin ?_
            simp only [pickOps, List.flatMap_nil]
            refine wpQuiet_nil ?_
            have hstab2 : Stab (fun u => StrB g seed name i u ∧ KE2 B4 S u) := Stab.and (stabStrB g seed name i) (Stab.blk _ _ _)
            have hkz : HoldT (fun u => StrB g seed name i u ∧ KE2 B4 S u) w x7.drew := HoldT.drew hstab2 ⟨⟨hk_.has, hR7⟩, hk_.up⟩
            have hT1 : ∀ e : InC (fun u => StrB g seed name i u ∧ KE2 B4 S u), e.u.cell? ⟨g, 33, none⟩ = some (.int .u64 i) := fun e => strm_i e.has.1 HK.out
            clear hg7 hs7 hR7
            go_wp2_with fail
            try change Code.wp _ _ _ (Act.mk _ _) _
            haveI hne_ : Nonempty (InC (fun u => StrB g seed name i u ∧ KE2 B4 S u)) := ⟨⟨_, (hkz).1⟩⟩
            refine wp_region_tr (C := fun w_ => ∃ e_ : InC (fun u => StrB g seed name i u ∧ KE2 B4 S u), w_ = e_.u) (.step [0, 1, 2, 3, 4, 5, 6, 7] (.alt 8 (.fin [9, 10, 11, 12, 13]) .nil)) (by kernel_rfl) (by kernel_rfl) (fun _ _ _ _ hd_ h_ => ⟨hd_.symm.trans h_.1, h_.2⟩) ⟨⟨World.drew _, (hkz).1⟩, rfl⟩ ?_
            have hk_ := hkz
            refine wpTr_step ?_
            simp only [pickOps, List.flatMap_cons, List.flatMap_nil, List.drop_succ_cons, List.drop_zero, List.take_succ_cons, List.take_zero, List.cons_append, List.nil_append, List.append_nil]
            iterate 8 (go_big_quiet_step (exact rfl))
            refine wpQuiet_nil ?_
            refine wpTr_one ?_
            simp only [pickOps, List.flatMap_cons, List.flatMap_nil, List.drop_succ_cons, List.drop_zero, List.take_succ_cons, List.take_zero, List.cons_append, List.nil_append, List.append_nil]
            go_wp2_with (first
              | (go_at_call 120; refine (Get64r_ok _ _ S (8 * (i % 4)) (seesB_key hk_.has.2 HSL.out) (by omega) (by rw [HSL.out]; omega)).mono ?_; rintro e y1 ⟨rfl, rfl⟩; rw [← HW.out]))
            refine phPost_hold (by first | with_reducible assumption | exact HoldT.alloc hstab (by with_reducible assumption) _ | exact HoldT.alloc hstab (HoldT.alloc hstab (by with_reducible assumption) _) _) ?_
            intro hk_
            refine wpTr_fin ?_
            simp only [pickOps, List.flatMap_cons, List.flatMap_nil, List.drop_succ_cons, List.drop_zero, List.take_succ_cons, List.take_zero, List.cons_append, List.nil_append, List.append_nil]
            iterate 5 (go_big_quiet_step (exact rfl))
            refine wpQuiet_nil ?_
            have hci := strm_i hk_.has.1 HK.out
            have hfi := Blk.free hk_.has.1 33
            have hend := Blk.set hk_.has.1 33 (.int .u64 (i + 1))
            rw [strmC_set seed name i (i + 1) HK.out] at hend
            have hgr := grownBy_set ((show Ext w _ from hk_.up).g (some g)) 33 (.int .u64 (i + 1))
            go_wp2_with fail
            go_ret
            exact ⟨rfl, hend, hgr⟩
          refine wpTr_one ?_
          simp only [pickOps, List.flatMap_cons, List.flatMap_nil, List.drop_succ_cons, List.drop_zero, List.take_succ_cons, List.take_zero, List.cons_append, List.nil_append, List.append_nil]
          go_wp2_with (first
    | (at_builtin; refine appB (W := w) rfl _ _ rfl (.slice none 0 0) [] rfl (ownB_nil _ _) _ seed rfl (strm_seed hk_.has HK.out) (by rw [HK.out, List.length_nil]; decide) hk_.up ?_; intro v1 x1 hown1 hg1 hb1; rw [List.nil_append] at hown1; have e1 := ext_none hg1; clear hg1; have hk1 := HoldT.step hstab hk_ e1)
    | (refine wpList_strB rfl _ rfl name rfl (by omega) ?_; intro x2 v2 hs2 ho2 e2; have hk2 := HoldT.step hstab hk_ e2)
    | (go_at_call 71; refine (Put64r_any _ _ [] (i / 4) (Sees.nil _ _) (by omega) (by omega) (by decide)).mono ?_; rintro e x3 ⟨v3, rfl, hown3, hb3⟩; rw [List.nil_append] at hown3; have e3 : Ext _ x3 := hb3; have hk3 := HoldT.step hstab hk_ e3)
    | (refine wpList_allocB rfl _ rfl _ run_allocKey ?_; intro x4 B4 hh hB4 e4; have hlt4 : g < B4 := Nat.lt_of_lt_of_le (Blk.lt hk_.has) hB4; have hlw4 : w.heap.size ≤ B4 := Nat.le_trans hk_.up.size hB4; have hk4 := HoldT.step hstab hk_ e4)
    | (refine wpList_lit3 rfl _ _ _ rfl _ _ _ seed name (put64 (i / 4).toNat) rfl rfl rfl (owns_one hown1) ho2 (owns_one hown3) (exB (sees_of_owns hown1)) (exB hs2) (exB (sees_of_owns hown3)) ?_; intro x5 B5 hbb e5; have hk5 := HoldT.step hstab hk_ e5)
    | (go_at_call 60; refine (Partsr_any _ _ [seed, name, put64 (i / 4).toNat] (exBB hbb) HFL.out).mono ?_; rintro e x6 ⟨rfl, hb6⟩; rw [HS.out]; have e6 : Ext _ x6 := hb6; have hk6 := HoldT.step hstab hk_ e6)
    | (refine wpList_store_row rfl 23 _ _ rfl B4 (keyA S) _ _ rfl rfl (exK hh) (by rw [keyA_size, keyA_size, HSL.out]; rfl) (by rw [keyA_size, HSL.out]; exact info_key) (keyA_one _) ?_; intro x7 hg7 hs7 hR7
       have hk7 : HoldT (StrB g seed name i) w x7 := ⟨Blk.grownBy hk_.has hg7 (some_ne (by omega)), hk_.up.grown hg7 hk_.up.size (fun k hk => by cases hk; exact hlw4)⟩))
          refine phPost_hold (by first | with_reducible assumption | exact HoldT.alloc hstab (by with_reducible assumption) _ | exact HoldT.alloc hstab (HoldT.alloc hstab (by with_reducible assumption) _) _) ?_
          intro hk_
          refine wpTr_step ?_
          simp only [pickOps, List.flatMap_nil]
          refine wpQuiet_nil ?_
          refine wpTr_one ?_
          simp only [pickOps, List.flatMap_cons, List.flatMap_nil, List.drop_succ_cons, List.drop_zero, List.take_succ_cons, List.take_zero, List.cons_append, List.nil_append, List.append_nil]
          go_wp2_with (first
    | (at_builtin; refine appB (W := w) rfl _ _ rfl (.slice none 0 0) [] rfl (ownB_nil _ _) _ seed rfl (strm_seed hk_.has HK.out) (by rw [HK.out, List.length_nil]; decide) hk_.up ?_; intro v1 x1 hown1 hg1 hb1; rw [List.nil_append] at hown1; have e1 := ext_none hg1; clear hg1; have hk1 := HoldT.step hstab hk_ e1)
    | (refine wpList_strB rfl _ rfl name rfl (by omega) ?_; intro x2 v2 hs2 ho2 e2; have hk2 := HoldT.step hstab hk_ e2)
    | (go_at_call 71; refine (Put64r_any _ _ [] (i / 4) (Sees.nil _ _) (by omega) (by omega) (by decide)).mono ?_; rintro e x3 ⟨v3, rfl, hown3, hb3⟩; rw [List.nil_append] at hown3; have e3 : Ext _ x3 := hb3; have hk3 := HoldT.step hstab hk_ e3)
    | (refine wpList_allocB rfl _ rfl _ run_allocKey ?_; intro x4 B4 hh hB4 e4; have hlt4 : g < B4 := Nat.lt_of_lt_of_le (Blk.lt hk_.has) hB4; have hlw4 : w.heap.size ≤ B4 := Nat.le_trans hk_.up.size hB4; have hk4 := HoldT.step hstab hk_ e4)
    | (refine wpList_lit3 rfl _ _ _ rfl _ _ _ seed name (put64 (i / 4).toNat) rfl rfl rfl (owns_one hown1) ho2 (owns_one hown3) (exB (sees_of_owns hown1)) (exB hs2) (exB (sees_of_owns hown3)) ?_; intro x5 B5 hbb e5; have hk5 := HoldT.step hstab hk_ e5)
    | (go_at_call 60; refine (Partsr_any _ _ [seed, name, put64 (i / 4).toNat] (exBB hbb) HFL.out).mono ?_; rintro e x6 ⟨rfl, hb6⟩; rw [HS.out]; have e6 : Ext _ x6 := hb6; have hk6 := HoldT.step hstab hk_ e6)
    | (refine wpList_store_row rfl 23 _ _ rfl B4 (keyA S) _ _ rfl rfl (exK hh) (by rw [keyA_size, keyA_size, HSL.out]; rfl) (by rw [keyA_size, HSL.out]; exact info_key) (keyA_one _) ?_; intro x7 hg7 hs7 hR7
       have hk7 : HoldT (StrB g seed name i) w x7 := ⟨Blk.grownBy hk_.has hg7 (some_ne (by omega)), hk_.up.grown hg7 hk_.up.size (fun k hk => by cases hk; exact hlw4)⟩))
          refine phPost_hold (by first | with_reducible assumption | exact HoldT.alloc hstab (by with_reducible assumption) _ | exact HoldT.alloc hstab (HoldT.alloc hstab (by with_reducible assumption) _) _) ?_
          intro hk_
          refine wpTr_step ?_
          simp only [pickOps, List.flatMap_nil]
          refine wpQuiet_nil ?_
          refine wpTr_one ?_
          simp only [pickOps, List.flatMap_cons, List.flatMap_nil, List.drop_succ_cons, List.drop_zero, List.take_succ_cons, List.take_zero, List.cons_append, List.nil_append, List.append_nil]
          go_wp2_with (first
    | (at_builtin; refine appB (W := w) rfl _ _ rfl (.slice none 0 0) [] rfl (ownB_nil _ _) _ seed rfl (strm_seed hk_.has HK.out) (by rw [HK.out, List.length_nil]; decide) hk_.up ?_; intro v1 x1 hown1 hg1 hb1; rw [List.nil_append] at hown1; have e1 := ext_none hg1; clear hg1; have hk1 := HoldT.step hstab hk_ e1)
    | (refine wpList_strB rfl _ rfl name rfl (by omega) ?_; intro x2 v2 hs2 ho2 e2; have hk2 := HoldT.step hstab hk_ e2)
    | (go_at_call 71; refine (Put64r_any _ _ [] (i / 4) (Sees.nil _ _) (by omega) (by omega) (by decide)).mono ?_; rintro e x3 ⟨v3, rfl, hown3, hb3⟩; rw [List.nil_append] at hown3; have e3 : Ext _ x3 := hb3; have hk3 := HoldT.step hstab hk_ e3)
    | (refine wpList_allocB rfl _ rfl _ run_allocKey ?_; intro x4 B4 hh hB4 e4; have hlt4 : g < B4 := Nat.lt_of_lt_of_le (Blk.lt hk_.has) hB4; have hlw4 : w.heap.size ≤ B4 := Nat.le_trans hk_.up.size hB4; have hk4 := HoldT.step hstab hk_ e4)
    | (refine wpList_lit3 rfl _ _ _ rfl _ _ _ seed name (put64 (i / 4).toNat) rfl rfl rfl (owns_one hown1) ho2 (owns_one hown3) (exB (sees_of_owns hown1)) (exB hs2) (exB (sees_of_owns hown3)) ?_; intro x5 B5 hbb e5; have hk5 := HoldT.step hstab hk_ e5)
    | (go_at_call 60; refine (Partsr_any _ _ [seed, name, put64 (i / 4).toNat] (exBB hbb) HFL.out).mono ?_; rintro e x6 ⟨rfl, hb6⟩; rw [HS.out]; have e6 : Ext _ x6 := hb6; have hk6 := HoldT.step hstab hk_ e6)
    | (refine wpList_store_row rfl 23 _ _ rfl B4 (keyA S) _ _ rfl rfl (exK hh) (by rw [keyA_size, keyA_size, HSL.out]; rfl) (by rw [keyA_size, HSL.out]; exact info_key) (keyA_one _) ?_; intro x7 hg7 hs7 hR7
       have hk7 : HoldT (StrB g seed name i) w x7 := ⟨Blk.grownBy hk_.has hg7 (some_ne (by omega)), hk_.up.grown hg7 hk_.up.size (fun k hk => by cases hk; exact hlw4)⟩))
          refine phPost_hold (by first | with_reducible assumption | exact HoldT.alloc hstab (by with_reducible assumption) _ | exact HoldT.alloc hstab (HoldT.alloc hstab (by with_reducible assumption) _) _) ?_
          intro hk_
          refine wpTr_fin ?_
          simp only [pickOps, List.flatMap_nil]
          refine wpQuiet_nil ?_
          have hstab2 : Stab (fun u => StrB g seed name i u ∧ KE2 B4 S u) := Stab.and (stabStrB g seed name i) (Stab.blk _ _ _)
          have hkz : HoldT (fun u => StrB g seed name i u ∧ KE2 B4 S u) w x7.drew := HoldT.drew hstab2 ⟨⟨hk_.has, hR7⟩, hk_.up⟩
          have hT1 : ∀ e : InC (fun u => StrB g seed name i u ∧ KE2 B4 S u), e.u.cell? ⟨g, 33, none⟩ = some (.int .u64 i) := fun e => strm_i e.has.1 HK.out
          clear hg7 hs7 hR7
          go_wp2_with fail
          try change Code.wp _ _ _ (Act.mk _ _) _
          haveI hne_ : Nonempty (InC (fun u => StrB g seed name i u ∧ KE2 B4 S u)) := ⟨⟨_, (hkz).1⟩⟩
          refine wp_region_tr (C := fun w_ => ∃ e_ : InC (fun u => StrB g seed name i u ∧ KE2 B4 S u), w_ = e_.u) (.step [0, 1, 2, 3, 4, 5, 6, 7] (.alt 8 (.fin [9, 10, 11, 12, 13]) .nil)) (by kernel_rfl) (by kernel_rfl) (fun _ _ _ _ hd_ h_ => ⟨hd_.symm.trans h_.1, h_.2⟩) ⟨⟨World.drew _, (hkz).1⟩, rfl⟩ ?_
          have hk_ := hkz
          refine wpTr_step ?_
          simp only [pickOps, List.flatMap_cons, List.flatMap_nil, List.drop_succ_cons, List.drop_zero, List.take_succ_cons, List.take_zero, List.cons_append, List.nil_append, List.append_nil]
          iterate 8 (go_big_quiet_step (exact rfl))
          refine wpQuiet_nil ?_
          refine wpTr_one ?_
          simp only [pickOps, List.flatMap_cons, List.flatMap_nil, List.drop_succ_cons, List.drop_zero, List.take_succ_cons, List.take_zero, List.cons_append, List.nil_append, List.append_nil]
          go_wp2_with (first
            | (go_at_call 120; refine (Get64r_ok _ _ S (8 * (i % 4)) (seesB_key hk_.has.2 HSL.out) (by omega) (by rw [HSL.out]; omega)).mono ?_; rintro e y1 ⟨rfl, rfl⟩; rw [← HW.out]))
          refine phPost_hold (by first | with_reducible assumption | exact HoldT.alloc hstab (by with_reducible assumption) _ | exact HoldT.alloc hstab (HoldT.alloc hstab (by with_reducible assumption) _) _) ?_
          intro hk_
          refine wpTr_fin ?_
          simp only [pickOps, List.flatMap_cons, List.flatMap_nil, List.drop_succ_cons, List.drop_zero, List.take_succ_cons, List.take_zero, List.cons_append, List.nil_append, List.append_nil]
          iterate 5 (go_big_quiet_step (exact rfl))
          refine wpQuiet_nil ?_
          have hci := strm_i hk_.has.1 HK.out
          have hfi := Blk.free hk_.has.1 33
          have hend := Blk.set hk_.has.1 33 (.int .u64 (i + 1))
          rw [strmC_set seed name i (i + 1) HK.out] at hend
          have hgr := grownBy_set ((show Ext w _ from hk_.up).g (some g)) 33 (.int .u64 (i + 1))
          go_wp2_with fail
          go_ret
          exact ⟨rfl, hend, hgr⟩
        refine wpTr_one ?_
        simp only [pickOps, List.flatMap_cons, List.flatMap_nil, List.drop_succ_cons, List.drop_zero, List.take_succ_cons, List.take_zero, List.cons_append, List.nil_append, List.append_nil]
        go_wp2_with (first
    | (at_builtin; refine appB (W := w) rfl _ _ rfl (.slice none 0 0) [] rfl (ownB_nil _ _) _ seed rfl (strm_seed hk_.has HK.out) (by rw [HK.out, List.length_nil]; decide) hk_.up ?_; intro v1 x1 hown1 hg1 hb1; rw [List.nil_append] at hown1; have e1 := ext_none hg1; clear hg1; have hk1 := HoldT.step hstab hk_ e1)
    | (refine wpList_strB rfl _ rfl name rfl (by omega) ?_; intro x2 v2 hs2 ho2 e2; have hk2 := HoldT.step hstab hk_ e2)
    | (go_at_call 71; refine (Put64r_any _ _ [] (i / 4) (Sees.nil _ _) (by omega) (by omega) (by decide)).mono ?_; rintro e x3 ⟨v3, rfl, hown3, hb3⟩; rw [List.nil_append] at hown3; have e3 : Ext _ x3 := hb3; have hk3 := HoldT.step hstab hk_ e3)
    | (refine wpList_allocB rfl _ rfl _ run_allocKey ?_; intro x4 B4 hh hB4 e4; have hlt4 : g < B4 := Nat.lt_of_lt_of_le (Blk.lt hk_.has) hB4; have hlw4 : w.heap.size ≤ B4 := Nat.le_trans hk_.up.size hB4; have hk4 := HoldT.step hstab hk_ e4)
    | (refine wpList_lit3 rfl _ _ _ rfl _ _ _ seed name (put64 (i / 4).toNat) rfl rfl rfl (owns_one hown1) ho2 (owns_one hown3) (exB (sees_of_owns hown1)) (exB hs2) (exB (sees_of_owns hown3)) ?_; intro x5 B5 hbb e5; have hk5 := HoldT.step hstab hk_ e5)
    | (go_at_call 60; refine (Partsr_any _ _ [seed, name, put64 (i / 4).toNat] (exBB hbb) HFL.out).mono ?_; rintro e x6 ⟨rfl, hb6⟩; rw [HS.out]; have e6 : Ext _ x6 := hb6; have hk6 := HoldT.step hstab hk_ e6)
    | (refine wpList_store_row rfl 23 _ _ rfl B4 (keyA S) _ _ rfl rfl (exK hh) (by rw [keyA_size, keyA_size, HSL.out]; rfl) (by rw [keyA_size, HSL.out]; exact info_key) (keyA_one _) ?_; intro x7 hg7 hs7 hR7
       have hk7 : HoldT (StrB g seed name i) w x7 := ⟨Blk.grownBy hk_.has hg7 (some_ne (by omega)), hk_.up.grown hg7 hk_.up.size (fun k hk => by cases hk; exact hlw4)⟩))
        refine phPost_hold (by first | with_reducible assumption | exact HoldT.alloc hstab (by with_reducible assumption) _ | exact HoldT.alloc hstab (HoldT.alloc hstab (by with_reducible assumption) _) _) ?_
        intro hk_
        refine wpTr_step ?_
        simp only [pickOps, List.flatMap_nil]
        refine wpQuiet_nil ?_
        refine wpTr_one ?_
        simp only [pickOps, List.flatMap_cons, List.flatMap_nil, List.drop_succ_cons, List.drop_zero, List.take_succ_cons, List.take_zero, List.cons_append, List.nil_append, List.append_nil]
        go_wp2_with (first
    | (at_builtin; refine appB (W := w) rfl _ _ rfl (.slice none 0 0) [] rfl (ownB_nil _ _) _ seed rfl (strm_seed hk_.has HK.out) (by rw [HK.out, List.length_nil]; decide) hk_.up ?_; intro v1 x1 hown1 hg1 hb1; rw [List.nil_append] at hown1; have e1 := ext_none hg1; clear hg1; have hk1 := HoldT.step hstab hk_ e1)
    | (refine wpList_strB rfl _ rfl name rfl (by omega) ?_; intro x2 v2 hs2 ho2 e2; have hk2 := HoldT.step hstab hk_ e2)
    | (go_at_call 71; refine (Put64r_any _ _ [] (i / 4) (Sees.nil _ _) (by omega) (by omega) (by decide)).mono ?_; rintro e x3 ⟨v3, rfl, hown3, hb3⟩; rw [List.nil_append] at hown3; have e3 : Ext _ x3 := hb3; have hk3 := HoldT.step hstab hk_ e3)
    | (refine wpList_allocB rfl _ rfl _ run_allocKey ?_; intro x4 B4 hh hB4 e4; have hlt4 : g < B4 := Nat.lt_of_lt_of_le (Blk.lt hk_.has) hB4; have hlw4 : w.heap.size ≤ B4 := Nat.le_trans hk_.up.size hB4; have hk4 := HoldT.step hstab hk_ e4)
    | (refine wpList_lit3 rfl _ _ _ rfl _ _ _ seed name (put64 (i / 4).toNat) rfl rfl rfl (owns_one hown1) ho2 (owns_one hown3) (exB (sees_of_owns hown1)) (exB hs2) (exB (sees_of_owns hown3)) ?_; intro x5 B5 hbb e5; have hk5 := HoldT.step hstab hk_ e5)
    | (go_at_call 60; refine (Partsr_any _ _ [seed, name, put64 (i / 4).toNat] (exBB hbb) HFL.out).mono ?_; rintro e x6 ⟨rfl, hb6⟩; rw [HS.out]; have e6 : Ext _ x6 := hb6; have hk6 := HoldT.step hstab hk_ e6)
    | (refine wpList_store_row rfl 23 _ _ rfl B4 (keyA S) _ _ rfl rfl (exK hh) (by rw [keyA_size, keyA_size, HSL.out]; rfl) (by rw [keyA_size, HSL.out]; exact info_key) (keyA_one _) ?_; intro x7 hg7 hs7 hR7
       have hk7 : HoldT (StrB g seed name i) w x7 := ⟨Blk.grownBy hk_.has hg7 (some_ne (by omega)), hk_.up.grown hg7 hk_.up.size (fun k hk => by cases hk; exact hlw4)⟩))
        refine phPost_hold (by first | with_reducible assumption | exact HoldT.alloc hstab (by with_reducible assumption) _ | exact HoldT.alloc hstab (HoldT.alloc hstab (by with_reducible assumption) _) _) ?_
        intro hk_
        refine wpTr_step ?_
        simp only [pickOps, List.flatMap_nil]
        refine wpQuiet_nil ?_
        refine wpTr_one ?_
        simp only [pickOps, List.flatMap_cons, List.flatMap_nil, List.drop_succ_cons, List.drop_zero, List.take_succ_cons, List.take_zero, List.cons_append, List.nil_append, List.append_nil]
        go_wp2_with (first
    | (at_builtin; refine appB (W := w) rfl _ _ rfl (.slice none 0 0) [] rfl (ownB_nil _ _) _ seed rfl (strm_seed hk_.has HK.out) (by rw [HK.out, List.length_nil]; decide) hk_.up ?_; intro v1 x1 hown1 hg1 hb1; rw [List.nil_append] at hown1; have e1 := ext_none hg1; clear hg1; have hk1 := HoldT.step hstab hk_ e1)
    | (refine wpList_strB rfl _ rfl name rfl (by omega) ?_; intro x2 v2 hs2 ho2 e2; have hk2 := HoldT.step hstab hk_ e2)
    | (go_at_call 71; refine (Put64r_any _ _ [] (i / 4) (Sees.nil _ _) (by omega) (by omega) (by decide)).mono ?_; rintro e x3 ⟨v3, rfl, hown3, hb3⟩; rw [List.nil_append] at hown3; have e3 : Ext _ x3 := hb3; have hk3 := HoldT.step hstab hk_ e3)
    | (refine wpList_allocB rfl _ rfl _ run_allocKey ?_; intro x4 B4 hh hB4 e4; have hlt4 : g < B4 := Nat.lt_of_lt_of_le (Blk.lt hk_.has) hB4; have hlw4 : w.heap.size ≤ B4 := Nat.le_trans hk_.up.size hB4; have hk4 := HoldT.step hstab hk_ e4)
    | (refine wpList_lit3 rfl _ _ _ rfl _ _ _ seed name (put64 (i / 4).toNat) rfl rfl rfl (owns_one hown1) ho2 (owns_one hown3) (exB (sees_of_owns hown1)) (exB hs2) (exB (sees_of_owns hown3)) ?_; intro x5 B5 hbb e5; have hk5 := HoldT.step hstab hk_ e5)
    | (go_at_call 60; refine (Partsr_any _ _ [seed, name, put64 (i / 4).toNat] (exBB hbb) HFL.out).mono ?_; rintro e x6 ⟨rfl, hb6⟩; rw [HS.out]; have e6 : Ext _ x6 := hb6; have hk6 := HoldT.step hstab hk_ e6)
    | (refine wpList_store_row rfl 23 _ _ rfl B4 (keyA S) _ _ rfl rfl (exK hh) (by rw [keyA_size, keyA_size, HSL.out]; rfl) (by rw [keyA_size, HSL.out]; exact info_key) (keyA_one _) ?_; intro x7 hg7 hs7 hR7
       have hk7 : HoldT (StrB g seed name i) w x7 := ⟨Blk.grownBy hk_.has hg7 (some_ne (by omega)), hk_.up.grown hg7 hk_.up.size (fun k hk => by cases hk; exact hlw4)⟩))
        refine phPost_hold (by first | with_reducible assumption | exact HoldT.alloc hstab (by with_reducible assumption) _ | exact HoldT.alloc hstab (HoldT.alloc hstab (by with_reducible assumption) _) _) ?_
        intro hk_
        refine wpTr_step ?_
        simp only [pickOps, List.flatMap_nil]
        refine wpQuiet_nil ?_
        refine wpTr_one ?_
        simp only [pickOps, List.flatMap_cons, List.flatMap_nil, List.drop_succ_cons, List.drop_zero, List.take_succ_cons, List.take_zero, List.cons_append, List.nil_append, List.append_nil]
        go_wp2_with (first
    | (at_builtin; refine appB (W := w) rfl _ _ rfl (.slice none 0 0) [] rfl (ownB_nil _ _) _ seed rfl (strm_seed hk_.has HK.out) (by rw [HK.out, List.length_nil]; decide) hk_.up ?_; intro v1 x1 hown1 hg1 hb1; rw [List.nil_append] at hown1; have e1 := ext_none hg1; clear hg1; have hk1 := HoldT.step hstab hk_ e1)
    | (refine wpList_strB rfl _ rfl name rfl (by omega) ?_; intro x2 v2 hs2 ho2 e2; have hk2 := HoldT.step hstab hk_ e2)
    | (go_at_call 71; refine (Put64r_any _ _ [] (i / 4) (Sees.nil _ _) (by omega) (by omega) (by decide)).mono ?_; rintro e x3 ⟨v3, rfl, hown3, hb3⟩; rw [List.nil_append] at hown3; have e3 : Ext _ x3 := hb3; have hk3 := HoldT.step hstab hk_ e3)
    | (refine wpList_allocB rfl _ rfl _ run_allocKey ?_; intro x4 B4 hh hB4 e4; have hlt4 : g < B4 := Nat.lt_of_lt_of_le (Blk.lt hk_.has) hB4; have hlw4 : w.heap.size ≤ B4 := Nat.le_trans hk_.up.size hB4; have hk4 := HoldT.step hstab hk_ e4)
    | (refine wpList_lit3 rfl _ _ _ rfl _ _ _ seed name (put64 (i / 4).toNat) rfl rfl rfl (owns_one hown1) ho2 (owns_one hown3) (exB (sees_of_owns hown1)) (exB hs2) (exB (sees_of_owns hown3)) ?_; intro x5 B5 hbb e5; have hk5 := HoldT.step hstab hk_ e5)
    | (go_at_call 60; refine (Partsr_any _ _ [seed, name, put64 (i / 4).toNat] (exBB hbb) HFL.out).mono ?_; rintro e x6 ⟨rfl, hb6⟩; rw [HS.out]; have e6 : Ext _ x6 := hb6; have hk6 := HoldT.step hstab hk_ e6)
    | (refine wpList_store_row rfl 23 _ _ rfl B4 (keyA S) _ _ rfl rfl (exK hh) (by rw [keyA_size, keyA_size, HSL.out]; rfl) (by rw [keyA_size, HSL.out]; exact info_key) (keyA_one _) ?_; intro x7 hg7 hs7 hR7
       have hk7 : HoldT (StrB g seed name i) w x7 := ⟨Blk.grownBy hk_.has hg7 (some_ne (by omega)), hk_.up.grown hg7 hk_.up.size (fun k hk => by cases hk; exact hlw4)⟩))
        refine phPost_hold (by first | with_reducible assumption | exact HoldT.alloc hstab (by with_reducible assumption) _ | exact HoldT.alloc hstab (HoldT.alloc hstab (by with_reducible assumption) _) _) ?_
        intro hk_
        refine wpTr_fin ?_
        simp only [pickOps, List.flatMap_nil]
        refine wpQuiet_nil ?_
        have hstab2 : Stab (fun u => StrB g seed name i u ∧ KE2 B4 S u) := Stab.and (stabStrB g seed name i) (Stab.blk _ _ _)
        have hkz : HoldT (fun u => StrB g seed name i u ∧ KE2 B4 S u) w x7.drew := HoldT.drew hstab2 ⟨⟨hk_.has, hR7⟩, hk_.up⟩
        have hT1 : ∀ e : InC (fun u => StrB g seed name i u ∧ KE2 B4 S u), e.u.cell? ⟨g, 33, none⟩ = some (.int .u64 i) := fun e => strm_i e.has.1 HK.out
        clear hg7 hs7 hR7
        go_wp2_with fail
        try change Code.wp _ _ _ (Act.mk _ _) _
        haveI hne_ : Nonempty (InC (fun u => StrB g seed name i u ∧ KE2 B4 S u)) := ⟨⟨_, (hkz).1⟩⟩
        refine wp_region_tr (C := fun w_ => ∃ e_ : InC (fun u => StrB g seed name i u ∧ KE2 B4 S u), w_ = e_.u) (.step [0, 1, 2, 3, 4, 5, 6, 7] (.alt 8 (.fin [9, 10, 11, 12, 13]) .nil)) (by kernel_rfl) (by kernel_rfl) (fun _ _ _ _ hd_ h_ => ⟨hd_.symm.trans h_.1, h_.2⟩) ⟨⟨World.drew _, (hkz).1⟩, rfl⟩ ?_
        have hk_ := hkz
        refine wpTr_step ?_
        simp only [pickOps, List.flatMap_cons, List.flatMap_nil, List.drop_succ_cons, List.drop_zero, List.take_succ_cons, List.take_zero, List.cons_append, List.nil_append, List.append_nil]
        iterate 8 (go_big_quiet_step (exact rfl))
        refine wpQuiet_nil ?_
        refine wpTr_one ?_
        simp only [pickOps, List.flatMap_cons, List.flatMap_nil, List.drop_succ_cons, List.drop_zero, List.take_succ_cons, List.take_zero, List.cons_append, List.nil_append, List.append_nil]
        go_wp2_with (first
          | (go_at_call 120; refine (Get64r_ok _ _ S (8 * (i % 4)) (seesB_key hk_.has.2 HSL.out) (by omega) (by rw [HSL.out]; omega)).mono ?_; rintro e y1 ⟨rfl, rfl⟩; rw [← HW.out]))
        refine phPost_hold (by first | with_reducible assumption | exact HoldT.alloc hstab (by with_reducible assumption) _ | exact HoldT.alloc hstab (HoldT.alloc hstab (by with_reducible assumption) _) _) ?_
        intro hk_
        refine wpTr_fin ?_
        simp only [pickOps, List.flatMap_cons, List.flatMap_nil, List.drop_succ_cons, List.drop_zero, List.take_succ_cons, List.take_zero, List.cons_append, List.nil_append, List.append_nil]
        iterate 5 (go_big_quiet_step (exact rfl))
        refine wpQuiet_nil ?_
        have hci := strm_i hk_.has.1 HK.out
        have hfi := Blk.free hk_.has.1 33
        have hend := Blk.set hk_.has.1 33 (.int .u64 (i + 1))
        rw [strmC_set seed name i (i + 1) HK.out] at hend
        have hgr := grownBy_set ((show Ext w _ from hk_.up).g (some g)) 33 (.int .u64 (i + 1))
        go_wp2_with fail
        go_ret
        exact ⟨rfl, hend, hgr⟩
      refine wpTr_one ?_
      simp only [pickOps, List.flatMap_cons, List.flatMap_nil, List.drop_succ_cons, List.drop_zero, List.take_succ_cons, List.take_zero, List.cons_append, List.nil_append, List.append_nil]
      go_wp2_with (first
    | (at_builtin; refine appB (W := w) rfl _ _ rfl (.slice none 0 0) [] rfl (ownB_nil _ _) _ seed rfl (strm_seed hk_.has HK.out) (by rw [HK.out, List.length_nil]; decide) hk_.up ?_; intro v1 x1 hown1 hg1 hb1; rw [List.nil_append] at hown1; have e1 := ext_none hg1; clear hg1; have hk1 := HoldT.step hstab hk_ e1)
    | (refine wpList_strB rfl _ rfl name rfl (by omega) ?_; intro x2 v2 hs2 ho2 e2; have hk2 := HoldT.step hstab hk_ e2)
    | (go_at_call 71; refine (Put64r_any _ _ [] (i / 4) (Sees.nil _ _) (by omega) (by omega) (by decide)).mono ?_; rintro e x3 ⟨v3, rfl, hown3, hb3⟩; rw [List.nil_append] at hown3; have e3 : Ext _ x3 := hb3; have hk3 := HoldT.step hstab hk_ e3)
    | (refine wpList_allocB rfl _ rfl _ run_allocKey ?_; intro x4 B4 hh hB4 e4; have hlt4 : g < B4 := Nat.lt_of_lt_of_le (Blk.lt hk_.has) hB4; have hlw4 : w.heap.size ≤ B4 := Nat.le_trans hk_.up.size hB4; have hk4 := HoldT.step hstab hk_ e4)
    | (refine wpList_lit3 rfl _ _ _ rfl _ _ _ seed name (put64 (i / 4).toNat) rfl rfl rfl (owns_one hown1) ho2 (owns_one hown3) (exB (sees_of_owns hown1)) (exB hs2) (exB (sees_of_owns hown3)) ?_; intro x5 B5 hbb e5; have hk5 := HoldT.step hstab hk_ e5)
    | (go_at_call 60; refine (Partsr_any _ _ [seed, name, put64 (i / 4).toNat] (exBB hbb) HFL.out).mono ?_; rintro e x6 ⟨rfl, hb6⟩; rw [HS.out]; have e6 : Ext _ x6 := hb6; have hk6 := HoldT.step hstab hk_ e6)
    | (refine wpList_store_row rfl 23 _ _ rfl B4 (keyA S) _ _ rfl rfl (exK hh) (by rw [keyA_size, keyA_size, HSL.out]; rfl) (by rw [keyA_size, HSL.out]; exact info_key) (keyA_one _) ?_; intro x7 hg7 hs7 hR7
       have hk7 : HoldT (StrB g seed name i) w x7 := ⟨Blk.grownBy hk_.has hg7 (some_ne (by omega)), hk_.up.grown hg7 hk_.up.size (fun k hk => by cases hk; exact hlw4)⟩))
      refine phPost_hold (by first | with_reducible assumption | exact HoldT.alloc hstab (by with_reducible assumption) _ | exact HoldT.alloc hstab (HoldT.alloc hstab (by with_reducible assumption) _) _) ?_
      intro hk_
      refine wpTr_step ?_
      simp only [pickOps, List.flatMap_nil]
      refine wpQuiet_nil ?_
      refine wpTr_one ?_
      simp only [pickOps, List.flatMap_cons, List.flatMap_nil, List.drop_succ_cons, List.drop_zero, List.take_succ_cons, List.take_zero, List.cons_append, List.nil_append, List.append_nil]
      go_wp2_with (first
    | (at_builtin; refine appB (W := w) rfl _ _ rfl (.slice none 0 0) [] rfl (ownB_nil _ _) _ seed rfl (strm_seed hk_.has HK.out) (by rw [HK.out, List.length_nil]; decide) hk_.up ?_; intro v1 x1 hown1 hg1 hb1; rw [List.nil_append] at hown1; have e1 := ext_none hg1; clear hg1; have hk1 := HoldT.step hstab hk_ e1)
    | (refine wpList_strB rfl _ rfl name rfl (by omega) ?_; intro x2 v2 hs2 ho2 e2; have hk2 := HoldT.step hstab hk_ e2)
    | (go_at_call 71; refine (Put64r_any _ _ [] (i / 4) (Sees.nil _ _) (by omega) (by omega) (by decide)).mono ?_; rintro e x3 ⟨v3, rfl, hown3, hb3⟩; rw [List.nil_append] at hown3; have e3 : Ext _ x3 := hb3; have hk3 := HoldT.step hstab hk_ e3)
    | (refine wpList_allocB rfl _ rfl _ run_allocKey ?_; intro x4 B4 hh hB4 e4; have hlt4 : g < B4 := Nat.lt_of_lt_of_le (Blk.lt hk_.has) hB4; have hlw4 : w.heap.size ≤ B4 := Nat.le_trans hk_.up.size hB4; have hk4 := HoldT.step hstab hk_ e4)
    | (refine wpList_lit3 rfl _ _ _ rfl _ _ _ seed name (put64 (i / 4).toNat) rfl rfl rfl (owns_one hown1) ho2 (owns_one hown3) (exB (sees_of_owns hown1)) (exB hs2) (exB (sees_of_owns hown3)) ?_; intro x5 B5 hbb e5; have hk5 := HoldT.step hstab hk_ e5)
    | (go_at_call 60; refine (Partsr_any _ _ [seed, name, put64 (i / 4).toNat] (exBB hbb) HFL.out).mono ?_; rintro e x6 ⟨rfl, hb6⟩; rw [HS.out]; have e6 : Ext _ x6 := hb6; have hk6 := HoldT.step hstab hk_ e6)
    | (refine wpList_store_row rfl 23 _ _ rfl B4 (keyA S) _ _ rfl rfl (exK hh) (by rw [keyA_size, keyA_size, HSL.out]; rfl) (by rw [keyA_size, HSL.out]; exact info_key) (keyA_one _) ?_; intro x7 hg7 hs7 hR7
       have hk7 : HoldT (StrB g seed name i) w x7 := ⟨Blk.grownBy hk_.has hg7 (some_ne (by omega)), hk_.up.grown hg7 hk_.up.size (fun k hk => by cases hk; exact hlw4)⟩))
      refine phPost_hold (by first | with_reducible assumption | exact HoldT.alloc hstab (by with_reducible assumption) _ | exact HoldT.alloc hstab (HoldT.alloc hstab (by with_reducible assumption) _) _) ?_
      intro hk_
      refine wpTr_step ?_
      simp only [pickOps, List.flatMap_nil]
      refine wpQuiet_nil ?_
      refine wpTr_one ?_
      simp only [pickOps, List.flatMap_cons, List.flatMap_nil, List.drop_succ_cons, List.drop_zero, List.take_succ_cons, List.take_zero, List.cons_append, List.nil_append, List.append_nil]
      go_wp2_with (first
    | (at_builtin; refine appB (W := w) rfl _ _ rfl (.slice none 0 0) [] rfl (ownB_nil _ _) _ seed rfl (strm_seed hk_.has HK.out) (by rw [HK.out, List.length_nil]; decide) hk_.up ?_; intro v1 x1 hown1 hg1 hb1; rw [List.nil_append] at hown1; have e1 := ext_none hg1; clear hg1; have hk1 := HoldT.step hstab hk_ e1)
    | (refine wpList_strB rfl _ rfl name rfl (by omega) ?_; intro x2 v2 hs2 ho2 e2; have hk2 := HoldT.step hstab hk_ e2)
    | (go_at_call 71; refine (Put64r_any _ _ [] (i / 4) (Sees.nil _ _) (by omega) (by omega) (by decide)).mono ?_; rintro e x3 ⟨v3, rfl, hown3, hb3⟩; rw [List.nil_append] at hown3; have e3 : Ext _ x3 := hb3; have hk3 := HoldT.step hstab hk_ e3)
    | (refine wpList_allocB rfl _ rfl _ run_allocKey ?_; intro x4 B4 hh hB4 e4; have hlt4 : g < B4 := Nat.lt_of_lt_of_le (Blk.lt hk_.has) hB4; have hlw4 : w.heap.size ≤ B4 := Nat.le_trans hk_.up.size hB4; have hk4 := HoldT.step hstab hk_ e4)
    | (refine wpList_lit3 rfl _ _ _ rfl _ _ _ seed name (put64 (i / 4).toNat) rfl rfl rfl (owns_one hown1) ho2 (owns_one hown3) (exB (sees_of_owns hown1)) (exB hs2) (exB (sees_of_owns hown3)) ?_; intro x5 B5 hbb e5; have hk5 := HoldT.step hstab hk_ e5)
    | (go_at_call 60; refine (Partsr_any _ _ [seed, name, put64 (i / 4).toNat] (exBB hbb) HFL.out).mono ?_; rintro e x6 ⟨rfl, hb6⟩; rw [HS.out]; have e6 : Ext _ x6 := hb6; have hk6 := HoldT.step hstab hk_ e6)
    | (refine wpList_store_row rfl 23 _ _ rfl B4 (keyA S) _ _ rfl rfl (exK hh) (by rw [keyA_size, keyA_size, HSL.out]; rfl) (by rw [keyA_size, HSL.out]; exact info_key) (keyA_one _) ?_; intro x7 hg7 hs7 hR7
       have hk7 : HoldT (StrB g seed name i) w x7 := ⟨Blk.grownBy hk_.has hg7 (some_ne (by omega)), hk_.up.grown hg7 hk_.up.size (fun k hk => by cases hk; exact hlw4)⟩))
      refine phPost_hold (by first | with_reducible assumption | exact HoldT.alloc hstab (by with_reducible assumption) _ | exact HoldT.alloc hstab (HoldT.alloc hstab (by with_reducible assumption) _) _) ?_
      intro hk_
      refine wpTr_step ?_
      simp only [pickOps, List.flatMap_nil]
      refine wpQuiet_nil ?_
      refine wpTr_one ?_
      simp only [pickOps, List.flatMap_cons, List.flatMap_nil, List.drop_succ_cons, List.drop_zero, List.take_succ_cons, List.take_zero, List.cons_append, List.nil_append, List.append_nil]
      go_wp2_with (first
    | (at_builtin; refine appB (W := w) rfl _ _ rfl (.slice none 0 0) [] rfl (ownB_nil _ _) _ seed rfl (strm_seed hk_.has HK.out) (by rw [HK.out, List.length_nil]; decide) hk_.up ?_; intro v1 x1 hown1 hg1 hb1; rw [List.nil_append] at hown1; have e1 := ext_none hg1; clear hg1; have hk1 := HoldT.step hstab hk_ e1)
    | (refine wpList_strB rfl _ rfl name rfl (by omega) ?_; intro x2 v2 hs2 ho2 e2; have hk2 := HoldT.step hstab hk_ e2)
    | (go_at_call 71; refine (Put64r_any _ _ [] (i / 4) (Sees.nil _ _) (by omega) (by omega) (by decide)).mono ?_; rintro e x3 ⟨v3, rfl, hown3, hb3⟩; rw [List.nil_append] at hown3; have e3 : Ext _ x3 := hb3; have hk3 := HoldT.step hstab hk_ e3)
    | (refine wpList_allocB rfl _ rfl _ run_allocKey ?_; intro x4 B4 hh hB4 e4; have hlt4 : g < B4 := Nat.lt_of_lt_of_le (Blk.lt hk_.has) hB4; have hlw4 : w.heap.size ≤ B4 := Nat.le_trans hk_.up.size hB4; have hk4 := HoldT.step hstab hk_ e4)
    | (refine wpList_lit3 rfl _ _ _ rfl _ _ _ seed name (put64 (i / 4).toNat) rfl rfl rfl (owns_one hown1) ho2 (owns_one hown3) (exB (sees_of_owns hown1)) (exB hs2) (exB (sees_of_owns hown3)) ?_; intro x5 B5 hbb e5; have hk5 := HoldT.step hstab hk_ e5)
    | (go_at_call 60; refine (Partsr_any _ _ [seed, name, put64 (i / 4).toNat] (exBB hbb) HFL.out).mono ?_; rintro e x6 ⟨rfl, hb6⟩; rw [HS.out]; have e6 : Ext _ x6 := hb6; have hk6 := HoldT.step hstab hk_ e6)
    | (refine wpList_store_row rfl 23 _ _ rfl B4 (keyA S) _ _ rfl rfl (exK hh) (by rw [keyA_size, keyA_size, HSL.out]; rfl) (by rw [keyA_size, HSL.out]; exact info_key) (keyA_one _) ?_; intro x7 hg7 hs7 hR7
       have hk7 : HoldT (StrB g seed name i) w x7 := ⟨Blk.grownBy hk_.has hg7 (some_ne (by omega)), hk_.up.grown hg7 hk_.up.size (fun k hk => by cases hk; exact hlw4)⟩))
      refine phPost_hold (by first | with_reducible assumption | exact HoldT.alloc hstab (by with_reducible assumption) _ | exact HoldT.alloc hstab (HoldT.alloc hstab (by with_reducible assumption) _) _) ?_
      intro hk_
      refine wpTr_step ?_
      simp only [pickOps, List.flatMap_nil]
      refine wpQuiet_nil ?_
      refine wpTr_one ?_
      simp only [pickOps, List.flatMap_cons, List.flatMap_nil, List.drop_succ_cons, List.drop_zero, List.take_succ_cons, List.take_zero, List.cons_append, List.nil_append, List.append_nil]
      go_wp2_with (first
    | (at_builtin; refine appB (W := w) rfl _ _ rfl (.slice none 0 0) [] rfl (ownB_nil _ _) _ seed rfl (strm_seed hk_.has HK.out) (by rw [HK.out, List.length_nil]; decide) hk_.up ?_; intro v1 x1 hown1 hg1 hb1; rw [List.nil_append] at hown1; have e1 := ext_none hg1; clear hg1; have hk1 := HoldT.step hstab hk_ e1)
    | (refine wpList_strB rfl _ rfl name rfl (by omega) ?_; intro x2 v2 hs2 ho2 e2; have hk2 := HoldT.step hstab hk_ e2)
    | (go_at_call 71; refine (Put64r_any _ _ [] (i / 4) (Sees.nil _ _) (by omega) (by omega) (by decide)).mono ?_; rintro e x3 ⟨v3, rfl, hown3, hb3⟩; rw [List.nil_append] at hown3; have e3 : Ext _ x3 := hb3; have hk3 := HoldT.step hstab hk_ e3)
    | (refine wpList_allocB rfl _ rfl _ run_allocKey ?_; intro x4 B4 hh hB4 e4; have hlt4 : g < B4 := Nat.lt_of_lt_of_le (Blk.lt hk_.has) hB4; have hlw4 : w.heap.size ≤ B4 := Nat.le_trans hk_.up.size hB4; have hk4 := HoldT.step hstab hk_ e4)
    | (refine wpList_lit3 rfl _ _ _ rfl _ _ _ seed name (put64 (i / 4).toNat) rfl rfl rfl (owns_one hown1) ho2 (owns_one hown3) (exB (sees_of_owns hown1)) (exB hs2) (exB (sees_of_owns hown3)) ?_; intro x5 B5 hbb e5; have hk5 := HoldT.step hstab hk_ e5)
    | (go_at_call 60; refine (Partsr_any _ _ [seed, name, put64 (i / 4).toNat] (exBB hbb) HFL.out).mono ?_; rintro e x6 ⟨rfl, hb6⟩; rw [HS.out]; have e6 : Ext _ x6 := hb6; have hk6 := HoldT.step hstab hk_ e6)
    | (refine wpList_store_row rfl 23 _ _ rfl B4 (keyA S) _ _ rfl rfl (exK hh) (by rw [keyA_size, keyA_size, HSL.out]; rfl) (by rw [keyA_size, HSL.out]; exact info_key) (keyA_one _) ?_; intro x7 hg7 hs7 hR7
       have hk7 : HoldT (StrB g seed name i) w x7 := ⟨Blk.grownBy hk_.has hg7 (some_ne (by omega)), hk_.up.grown hg7 hk_.up.size (fun k hk => by cases hk; exact hlw4)⟩))
      refine phPost_hold (by first | with_reducible assumption | exact HoldT.alloc hstab (by with_reducible assumption) _ | exact HoldT.alloc hstab (HoldT.alloc hstab (by with_reducible assumption) _) _) ?_
      intro hk_
      refine wpTr_fin ?_
      simp only [pickOps, List.flatMap_nil]
      refine wpQuiet_nil ?_
      have hstab2 : Stab (fun u => StrB g seed name i u ∧ KE2 B4 S u) := Stab.and (stabStrB g seed name i) (Stab.blk _ _ _)
      have hkz : HoldT (fun u => StrB g seed name i u ∧ KE2 B4 S u) w x7.drew := HoldT.drew hstab2 ⟨⟨hk_.has, hR7⟩, hk_.up⟩
      have hT1 : ∀ e : InC (fun u => StrB g seed name i u ∧ KE2 B4 S u), e.u.cell? ⟨g, 33, none⟩ = some (.int .u64 i) := fun e => strm_i e.has.1 HK.out
      clear hg7 hs7 hR7
      go_wp2_with fail
      try change Code.wp _ _ _ (Act.mk _ _) _
      haveI hne_ : Nonempty (InC (fun u => StrB g seed name i u ∧ KE2 B4 S u)) := ⟨⟨_, (hkz).1⟩⟩
      refine wp_region_tr (C := fun w_ => ∃ e_ : InC (fun u => StrB g seed name i u ∧ KE2 B4 S u), w_ = e_.u) (.step [0, 1, 2, 3, 4, 5, 6, 7] (.alt 8 (.fin [9, 10, 11, 12, 13]) .nil)) (by kernel_rfl) (by kernel_rfl) (fun _ _ _ _ hd_ h_ => ⟨hd_.symm.trans h_.1, h_.2⟩) ⟨⟨World.drew _, (hkz).1⟩, rfl⟩ ?_
      have hk_ := hkz
      refine wpTr_step ?_
      simp only [pickOps, List.flatMap_cons, List.flatMap_nil, List.drop_succ_cons, List.drop_zero, List.take_succ_cons, List.take_zero, List.cons_append, List.nil_append, List.append_nil]
      iterate 8 (go_big_quiet_step (exact rfl))
      refine wpQuiet_nil ?_
      refine wpTr_one ?_
      simp only [pickOps, List.flatMap_cons, List.flatMap_nil, List.drop_succ_cons, List.drop_zero, List.take_succ_cons, List.take_zero, List.cons_append, List.nil_append, List.append_nil]
      go_wp2_with (first
        | (go_at_call 120; refine (Get64r_ok _ _ S (8 * (i % 4)) (seesB_key hk_.has.2 HSL.out) (by omega) (by rw [HSL.out]; omega)).mono ?_; rintro e y1 ⟨rfl, rfl⟩; rw [← HW.out]))
      refine phPost_hold (by first | with_reducible assumption | exact HoldT.alloc hstab (by with_reducible assumption) _ | exact HoldT.alloc hstab (HoldT.alloc hstab (by with_reducible assumption) _) _) ?_
      intro hk_
      refine wpTr_fin ?_
      simp only [pickOps, List.flatMap_cons, List.flatMap_nil, List.drop_succ_cons, List.drop_zero, List.take_succ_cons, List.take_zero, List.cons_append, List.nil_append, List.append_nil]
      iterate 5 (go_big_quiet_step (exact rfl))
      refine wpQuiet_nil ?_
      have hci := strm_i hk_.has.1 HK.out
      have hfi := Blk.free hk_.has.1 33
      have hend := Blk.set hk_.has.1 33 (.int .u64 (i + 1))
      rw [strmC_set seed name i (i + 1) HK.out] at hend
      have hgr := grownBy_set ((show Ext w _ from hk_.up).g (some g)) 33 (.int .u64 (i + 1))
      go_wp2_with fail
      go_ret
      exact ⟨rfl, hend, hgr⟩
    refine wpTr_one ?_
    simp only [pickOps, List.flatMap_cons, List.flatMap_nil, List.drop_succ_cons, List.drop_zero, List.take_succ_cons, List.take_zero, List.cons_append, List.nil_append, List.append_nil]
    go_wp2_with (first
    | (at_builtin; refine appB (W := w) rfl _ _ rfl (.slice none 0 0) [] rfl (ownB_nil _ _) _ seed rfl (strm_seed hk_.has HK.out) (by rw [HK.out, List.length_nil]; decide) hk_.up ?_; intro v1 x1 hown1 hg1 hb1; rw [List.nil_append] at hown1; have e1 := ext_none hg1; clear hg1; have hk1 := HoldT.step hstab hk_ e1)
    | (refine wpList_strB rfl _ rfl name rfl (by omega) ?_; intro x2 v2 hs2 ho2 e2; have hk2 := HoldT.step hstab hk_ e2)
    | (go_at_call 71; refine (Put64r_any _ _ [] (i / 4) (Sees.nil _ _) (by omega) (by omega) (by decide)).mono ?_; rintro e x3 ⟨v3, rfl, hown3, hb3⟩; rw [List.nil_append] at hown3; have e3 : Ext _ x3 := hb3; have hk3 := HoldT.step hstab hk_ e3)
    | (refine wpList_allocB rfl _ rfl _ run_allocKey ?_; intro x4 B4 hh hB4 e4; have hlt4 : g < B4 := Nat.lt_of_lt_of_le (Blk.lt hk_.has) hB4; have hlw4 : w.heap.size ≤ B4 := Nat.le_trans hk_.up.size hB4; have hk4 := HoldT.step hstab hk_ e4)
    | (refine wpList_lit3 rfl _ _ _ rfl _ _ _ seed name (put64 (i / 4).toNat) rfl rfl rfl (owns_one hown1) ho2 (owns_one hown3) (exB (sees_of_owns hown1)) (exB hs2) (exB (sees_of_owns hown3)) ?_; intro x5 B5 hbb e5; have hk5 := HoldT.step hstab hk_ e5)
    | (go_at_call 60; refine (Partsr_any _ _ [seed, name, put64 (i / 4).toNat] (exBB hbb) HFL.out).mono ?_; rintro e x6 ⟨rfl, hb6⟩; rw [HS.out]; have e6 : Ext _ x6 := hb6; have hk6 := HoldT.step hstab hk_ e6)
    | (refine wpList_store_row rfl 23 _ _ rfl B4 (keyA S) _ _ rfl rfl (exK hh) (by rw [keyA_size, keyA_size, HSL.out]; rfl) (by rw [keyA_size, HSL.out]; exact info_key) (keyA_one _) ?_; intro x7 hg7 hs7 hR7
       have hk7 : HoldT (StrB g seed name i) w x7 := ⟨Blk.grownBy hk_.has hg7 (some_ne (by omega)), hk_.up.grown hg7 hk_.up.size (fun k hk => by cases hk; exact hlw4)⟩))
    refine phPost_hold (by first | with_reducible assumption | exact HoldT.alloc hstab (by with_reducible assumption) _ | exact HoldT.alloc hstab (HoldT.alloc hstab (by with_reducible assumption) _) _) ?_
    intro hk_
    refine wpTr_step ?_
    simp only [pickOps, List.flatMap_nil]
    refine wpQuiet_nil ?_
    refine wpTr_one ?_
    simp only [pickOps, List.flatMap_cons, List.flatMap_nil, List.drop_succ_cons, List.drop_zero, List.take_succ_cons, List.take_zero, List.cons_append, List.nil_append, List.append_nil]
    go_wp2_with (first
    | (at_builtin; refine appB (W := w) rfl _ _ rfl (.slice none 0 0) [] rfl (ownB_nil _ _) _ seed rfl (strm_seed hk_.has HK.out) (by rw [HK.out, List.length_nil]; decide) hk_.up ?_; intro v1 x1 hown1 hg1 hb1; rw [List.nil_append] at hown1; have e1 := ext_none hg1; clear hg1; have hk1 := HoldT.step hstab hk_ e1)
    | (refine wpList_strB rfl _ rfl name rfl (by omega) ?_; intro x2 v2 hs2 ho2 e2; have hk2 := HoldT.step hstab hk_ e2)
    | (go_at_call 71; refine (Put64r_any _ _ [] (i / 4) (Sees.nil _ _) (by omega) (by omega) (by decide)).mono ?_; rintro e x3 ⟨v3, rfl, hown3, hb3⟩; rw [List.nil_append] at hown3; have e3 : Ext _ x3 := hb3; have hk3 := HoldT.step hstab hk_ e3)
    | (refine wpList_allocB rfl _ rfl _ run_allocKey ?_; intro x4 B4 hh hB4 e4; have hlt4 : g < B4 := Nat.lt_of_lt_of_le (Blk.lt hk_.has) hB4; have hlw4 : w.heap.size ≤ B4 := Nat.le_trans hk_.up.size hB4; have hk4 := HoldT.step hstab hk_ e4)
    | (refine wpList_lit3 rfl _ _ _ rfl _ _ _ seed name (put64 (i / 4).toNat) rfl rfl rfl (owns_one hown1) ho2 (owns_one hown3) (exB (sees_of_owns hown1)) (exB hs2) (exB (sees_of_owns hown3)) ?_; intro x5 B5 hbb e5; have hk5 := HoldT.step hstab hk_ e5)
    | (go_at_call 60; refine (Partsr_any _ _ [seed, name, put64 (i / 4).toNat] (exBB hbb) HFL.out).mono ?_; rintro e x6 ⟨rfl, hb6⟩; rw [HS.out]; have e6 : Ext _ x6 := hb6; have hk6 := HoldT.step hstab hk_ e6)
    | (refine wpList_store_row rfl 23 _ _ rfl B4 (keyA S) _ _ rfl rfl (exK hh) (by rw [keyA_size, keyA_size, HSL.out]; rfl) (by rw [keyA_size, HSL.out]; exact info_key) (keyA_one _) ?_; intro x7 hg7 hs7 hR7
       have hk7 : HoldT (StrB g seed name i) w x7 := ⟨Blk.grownBy hk_.has hg7 (some_ne (by omega)), hk_.up.grown hg7 hk_.up.size (fun k hk => by cases hk; exact hlw4)⟩))
    refine phPost_hold (by first | with_reducible assumption | exact HoldT.alloc hstab (by with_reducible assumption) _ | exact HoldT.alloc hstab (HoldT.alloc hstab (by with_reducible assumption) _) _) ?_
    intro hk_
    refine wpTr_step ?_
    simp only [pickOps, List.flatMap_nil]
    refine wpQuiet_nil ?_
    refine wpTr_one ?_
    simp only [pickOps, List.flatMap_cons, List.flatMap_nil, List.drop_succ_cons, List.drop_zero, List.take_succ_cons, List.take_zero, List.cons_append, List.nil_append, List.append_nil]
    go_wp2_with (first
    | (at_builtin; refine appB (W := w) rfl _ _ rfl (.slice none 0 0) [] rfl (ownB_nil _ _) _ seed rfl (strm_seed hk_.has HK.out) (by rw [HK.out, List.length_nil]; decide) hk_.up ?_; intro v1 x1 hown1 hg1 hb1; rw [List.nil_append] at hown1; have e1 := ext_none hg1; clear hg1; have hk1 := HoldT.step hstab hk_ e1)
    | (refine wpList_strB rfl _ rfl name rfl (by omega) ?_; intro x2 v2 hs2 ho2 e2; have hk2 := HoldT.step hstab hk_ e2)
    | (go_at_call 71; refine (Put64r_any _ _ [] (i / 4) (Sees.nil _ _) (by omega) (by omega) (by decide)).mono ?_; rintro e x3 ⟨v3, rfl, hown3, hb3⟩; rw [List.nil_append] at hown3; have e3 : Ext _ x3 := hb3; have hk3 := HoldT.step hstab hk_ e3)
    | (refine wpList_allocB rfl _ rfl _ run_allocKey ?_; intro x4 B4 hh hB4 e4; have hlt4 : g < B4 := Nat.lt_of_lt_of_le (Blk.lt hk_.has) hB4; have hlw4 : w.heap.size ≤ B4 := Nat.le_trans hk_.up.size hB4; have hk4 := HoldT.step hstab hk_ e4)
    | (refine wpList_lit3 rfl _ _ _ rfl _ _ _ seed name (put64 (i / 4).toNat) rfl rfl rfl (owns_one hown1) ho2 (owns_one hown3) (exB (sees_of_owns hown1)) (exB hs2) (exB (sees_of_owns hown3)) ?_; intro x5 B5 hbb e5; have hk5 := HoldT.step hstab hk_ e5)
    | (go_at_call 60; refine (Partsr_any _ _ [seed, name, put64 (i / 4).toNat] (exBB hbb) HFL.out).mono ?_; rintro e x6 ⟨rfl, hb6⟩; rw [HS.out]; have e6 : Ext _ x6 := hb6; have hk6 := HoldT.step hstab hk_ e6)
    | (refine wpList_store_row rfl 23 _ _ rfl B4 (keyA S) _ _ rfl rfl (exK hh) (by rw [keyA_size, keyA_size, HSL.out]; rfl) (by rw [keyA_size, HSL.out]; exact info_key) (keyA_one _) ?_; intro x7 hg7 hs7 hR7
       have hk7 : HoldT (StrB g seed name i) w x7 := ⟨Blk.grownBy hk_.has hg7 (some_ne (by omega)), hk_.up.grown hg7 hk_.up.size (fun k hk => by cases hk; exact hlw4)⟩))
    refine phPost_hold (by first | with_reducible assumption | exact HoldT.alloc hstab (by with_reducible assumption) _ | exact HoldT.alloc hstab (HoldT.alloc hstab (by with_reducible assumption) _) _) ?_
    intro hk_
    refine wpTr_step ?_
    simp only [pickOps, List.flatMap_nil]
    refine wpQuiet_nil ?_
    refine wpTr_one ?_
    simp only [pickOps, List.flatMap_cons, List.flatMap_nil, List.drop_succ_cons, List.drop_zero, List.take_succ_cons, List.take_zero, List.cons_append, List.nil_append, List.append_nil]
    go_wp2_with (first
    | (at_builtin; refine appB (W := w) rfl _ _ rfl (.slice none 0 0) [] rfl (ownB_nil _ _) _ seed rfl (strm_seed hk_.has HK.out) (by rw [HK.out, List.length_nil]; decide) hk_.up ?_; intro v1 x1 hown1 hg1 hb1; rw [List.nil_append] at hown1; have e1 := ext_none hg1; clear hg1; have hk1 := HoldT.step hstab hk_ e1)
    | (refine wpList_strB rfl _ rfl name rfl (by omega) ?_; intro x2 v2 hs2 ho2 e2; have hk2 := HoldT.step hstab hk_ e2)
    | (go_at_call 71; refine (Put64r_any _ _ [] (i / 4) (Sees.nil _ _) (by omega) (by omega) (by decide)).mono ?_; rintro e x3 ⟨v3, rfl, hown3, hb3⟩; rw [List.nil_append] at hown3; have e3 : Ext _ x3 := hb3; have hk3 := HoldT.step hstab hk_ e3)
    | (refine wpList_allocB rfl _ rfl _ run_allocKey ?_; intro x4 B4 hh hB4 e4; have hlt4 : g < B4 := Nat.lt_of_lt_of_le (Blk.lt hk_.has) hB4; have hlw4 : w.heap.size ≤ B4 := Nat.le_trans hk_.up.size hB4; have hk4 := HoldT.step hstab hk_ e4)
    | (refine wpList_lit3 rfl _ _ _ rfl _ _ _ seed name (put64 (i / 4).toNat) rfl rfl rfl (owns_one hown1) ho2 (owns_one hown3) (exB (sees_of_owns hown1)) (exB hs2) (exB (sees_of_owns hown3)) ?_; intro x5 B5 hbb e5; have hk5 := HoldT.step hstab hk_ e5)
    | (go_at_call 60; refine (Partsr_any _ _ [seed, name, put64 (i / 4).toNat] (exBB hbb) HFL.out).mono ?_; rintro e x6 ⟨rfl, hb6⟩; rw [HS.out]; have e6 : Ext _ x6 := hb6; have hk6 := HoldT.step hstab hk_ e6)
    | (refine wpList_store_row rfl 23 _ _ rfl B4 (keyA S) _ _ rfl rfl (exK hh) (by rw [keyA_size, keyA_size, HSL.out]; rfl) (by rw [keyA_size, HSL.out]; exact info_key) (keyA_one _) ?_; intro x7 hg7 hs7 hR7
       have hk7 : HoldT (StrB g seed name i) w x7 := ⟨Blk.grownBy hk_.has hg7 (some_ne (by omega)), hk_.up.grown hg7 hk_.up.size (fun k hk => by cases hk; exact hlw4)⟩))
    refine phPost_hold (by first | with_reducible assumption | exact HoldT.alloc hstab (by with_reducible assumption) _ | exact HoldT.alloc hstab (HoldT.alloc hstab (by with_reducible assumption) _) _) ?_
    intro hk_
    refine wpTr_step ?_
    simp only [pickOps, List.flatMap_nil]
    refine wpQuiet_nil ?_
    refine wpTr_one ?_
    simp only [pickOps, List.flatMap_cons, List.flatMap_nil, List.drop_succ_cons, List.drop_zero, List.take_succ_cons, List.take_zero, List.cons_append, List.nil_append, List.append_nil]
    go_wp2_with (first
    | (at_builtin; refine appB (W := w) rfl _ _ rfl (.slice none 0 0) [] rfl (ownB_nil _ _) _ seed rfl (strm_seed hk_.has HK.out) (by rw [HK.out, List.length_nil]; decide) hk_.up ?_; intro v1 x1 hown1 hg1 hb1; rw [List.nil_append] at hown1; have e1 := ext_none hg1; clear hg1; have hk1 := HoldT.step hstab hk_ e1)
    | (refine wpList_strB rfl _ rfl name rfl (by omega) ?_; intro x2 v2 hs2 ho2 e2; have hk2 := HoldT.step hstab hk_ e2)
    | (go_at_call 71; refine (Put64r_any _ _ [] (i / 4) (Sees.nil _ _) (by omega) (by omega) (by decide)).mono ?_; rintro e x3 ⟨v3, rfl, hown3, hb3⟩; rw [List.nil_append] at hown3; have e3 : Ext _ x3 := hb3; have hk3 := HoldT.step hstab hk_ e3)
    | (refine wpList_allocB rfl _ rfl _ run_allocKey ?_; intro x4 B4 hh hB4 e4; have hlt4 : g < B4 := Nat.lt_of_lt_of_le (Blk.lt hk_.has) hB4; have hlw4 : w.heap.size ≤ B4 := Nat.le_trans hk_.up.size hB4; have hk4 := HoldT.step hstab hk_ e4)
    | (refine wpList_lit3 rfl _ _ _ rfl _ _ _ seed name (put64 (i / 4).toNat) rfl rfl rfl (owns_one hown1) ho2 (owns_one hown3) (exB (sees_of_owns hown1)) (exB hs2) (exB (sees_of_owns hown3)) ?_; intro x5 B5 hbb e5; have hk5 := HoldT.step hstab hk_ e5)
    | (go_at_call 60; refine (Partsr_any _ _ [seed, name, put64 (i / 4).toNat] (exBB hbb) HFL.out).mono ?_; rintro e x6 ⟨rfl, hb6⟩; rw [HS.out]; have e6 : Ext _ x6 := hb6; have hk6 := HoldT.step hstab hk_ e6)
    | (refine wpList_store_row rfl 23 _ _ rfl B4 (keyA S) _ _ rfl rfl (exK hh) (by rw [keyA_size, keyA_size, HSL.out]; rfl) (by rw [keyA_size, HSL.out]; exact info_key) (keyA_one _) ?_; intro x7 hg7 hs7 hR7
       have hk7 : HoldT (StrB g seed name i) w x7 := ⟨Blk.grownBy hk_.has hg7 (some_ne (by omega)), hk_.up.grown hg7 hk_.up.size (fun k hk => by cases hk; exact hlw4)⟩))
    refine phPost_hold (by first | with_reducible assumption | exact HoldT.alloc hstab (by with_reducible assumption) _ | exact HoldT.alloc hstab (HoldT.alloc hstab (by with_reducible assumption) _) _) ?_
    intro hk_
    refine wpTr_step ?_
    simp only [pickOps, List.flatMap_nil]
    refine wpQuiet_nil ?_
    refine wpTr_one ?_
    simp only [pickOps, List.flatMap_cons, List.flatMap_nil, List.drop_succ_cons, List.drop_zero, List.take_succ_cons, List.take_zero, List.cons_append, List.nil_append, List.append_nil]
    go_wp2_with (first
    | (at_builtin; refine appB (W := w) rfl _ _ rfl (.slice none 0 0) [] rfl (ownB_nil _ _) _ seed rfl (strm_seed hk_.has HK.out) (by rw [HK.out, List.length_nil]; decide) hk_.up ?_; intro v1 x1 hown1 hg1 hb1; rw [List.nil_append] at hown1; have e1 := ext_none hg1; clear hg1; have hk1 := HoldT.step hstab hk_ e1)
    | (refine wpList_strB rfl _ rfl name rfl (by omega) ?_; intro x2 v2 hs2 ho2 e2; have hk2 := HoldT.step hstab hk_ e2)
    | (go_at_call 71; refine (Put64r_any _ _ [] (i / 4) (Sees.nil _ _) (by omega) (by omega) (by decide)).mono ?_; rintro e x3 ⟨v3, rfl, hown3, hb3⟩; rw [List.nil_append] at hown3; have e3 : Ext _ x3 := hb3; have hk3 := HoldT.step hstab hk_ e3)
    | (refine wpList_allocB rfl _ rfl _ run_allocKey ?_; intro x4 B4 hh hB4 e4; have hlt4 : g < B4 := Nat.lt_of_lt_of_le (Blk.lt hk_.has) hB4; have hlw4 : w.heap.size ≤ B4 := Nat.le_trans hk_.up.size hB4; have hk4 := HoldT.step hstab hk_ e4)
    | (refine wpList_lit3 rfl _ _ _ rfl _ _ _ seed name (put64 (i / 4).toNat) rfl rfl rfl (owns_one hown1) ho2 (owns_one hown3) (exB (sees_of_owns hown1)) (exB hs2) (exB (sees_of_owns hown3)) ?_; intro x5 B5 hbb e5; have hk5 := HoldT.step hstab hk_ e5)
    | (go_at_call 60; refine (Partsr_any _ _ [seed, name, put64 (i / 4).toNat] (exBB hbb) HFL.out).mono ?_; rintro e x6 ⟨rfl, hb6⟩; rw [HS.out]; have e6 : Ext _ x6 := hb6; have hk6 := HoldT.step hstab hk_ e6)
    | (refine wpList_store_row rfl 23 _ _ rfl B4 (keyA S) _ _ rfl rfl (exK hh) (by rw [keyA_size, keyA_size, HSL.out]; rfl) (by rw [keyA_size, HSL.out]; exact info_key) (keyA_one _) ?_; intro x7 hg7 hs7 hR7
       have hk7 : HoldT (StrB g seed name i) w x7 := ⟨Blk.grownBy hk_.has hg7 (some_ne (by omega)), hk_.up.grown hg7 hk_.up.size (fun k hk => by cases hk; exact hlw4)⟩))
    refine phPost_hold (by first | with_reducible assumption | exact HoldT.alloc hstab (by with_reducible assumption) _ | exact HoldT.alloc hstab (HoldT.alloc hstab (by with_reducible assumption) _) _) ?_
    intro hk_
    refine wpTr_fin ?_
    simp only [pickOps, List.flatMap_nil]
    refine wpQuiet_nil ?_
    have hstab2 : Stab (fun u => StrB g seed name i u ∧ KE2 B4 S u) := Stab.and (stabStrB g seed name i) (Stab.blk _ _ _)
    have hkz : HoldT (fun u => StrB g seed name i u ∧ KE2 B4 S u) w x7.drew := HoldT.drew hstab2 ⟨⟨hk_.has, hR7⟩, hk_.up⟩
    have hT1 : ∀ e : InC (fun u => StrB g seed name i u ∧ KE2 B4 S u), e.u.cell? ⟨g, 33, none⟩ = some (.int .u64 i) := fun e => strm_i e.has.1 HK.out
    clear hg7 hs7 hR7
    go_wp2_with fail
    try change Code.wp _ _ _ (Act.mk _ _) _
    haveI hne_ : Nonempty (InC (fun u => StrB g seed name i u ∧ KE2 B4 S u)) := ⟨⟨_, (hkz).1⟩⟩
    refine wp_region_tr (C := fun w_ => ∃ e_ : InC (fun u => StrB g seed name i u ∧ KE2 B4 S u), w_ = e_.u) (.step [0, 1, 2, 3, 4, 5, 6, 7] (.alt 8 (.fin [9, 10, 11, 12, 13]) .nil)) (by kernel_rfl) (by kernel_rfl) (fun _ _ _ _ hd_ h_ => ⟨hd_.symm.trans h_.1, h_.2⟩) ⟨⟨World.drew _, (hkz).1⟩, rfl⟩ ?_
    have hk_ := hkz
    refine wpTr_step ?_
    simp only [pickOps, List.flatMap_cons, List.flatMap_nil, List.drop_succ_cons, List.drop_zero, List.take_succ_cons, List.take_zero, List.cons_append, List.nil_append, List.append_nil]
    iterate 8 (go_big_quiet_step (exact rfl))
    refine wpQuiet_nil ?_
    refine wpTr_one ?_
    simp only [pickOps, List.flatMap_cons, List.flatMap_nil, List.drop_succ_cons, List.drop_zero, List.take_succ_cons, List.take_zero, List.cons_append, List.nil_append, List.append_nil]
    go_wp2_with (first
      | (go_at_call 120; refine (Get64r_ok _ _ S (8 * (i % 4)) (seesB_key hk_.has.2 HSL.out) (by omega) (by rw [HSL.out]; omega)).mono ?_; rintro e y1 ⟨rfl, rfl⟩; rw [← HW.out]))
    refine phPost_hold (by first | with_reducible assumption | exact HoldT.alloc hstab (by with_reducible assumption) _ | exact HoldT.alloc hstab (HoldT.alloc hstab (by with_reducible assumption) _) _) ?_
    intro hk_
    refine wpTr_fin ?_
    simp only [pickOps, List.flatMap_cons, List.flatMap_nil, List.drop_succ_cons, List.drop_zero, List.take_succ_cons, List.take_zero, List.cons_append, List.nil_append, List.append_nil]
    iterate 5 (go_big_quiet_step (exact rfl))
    refine wpQuiet_nil ?_
    have hci := strm_i hk_.has.1 HK.out
    have hfi := Blk.free hk_.has.1 33
    have hend := Blk.set hk_.has.1 33 (.int .u64 (i + 1))
    rw [strmC_set seed name i (i + 1) HK.out] at hend
    have hgr := grownBy_set ((show Ext w _ from hk_.up).g (some g)) 33 (.int .u64 (i + 1))
    go_wp2_with fail
    go_ret
    exact ⟨rfl, hend, hgr⟩
  refine wpTr_one ?_
  simp only [pickOps, List.flatMap_cons, List.flatMap_nil, List.drop_succ_cons, List.drop_zero, List.take_succ_cons, List.take_zero, List.cons_append, List.nil_append, List.append_nil]
  go_wp2_with (first
    | (at_builtin; refine appB (W := w) rfl _ _ rfl (.slice none 0 0) [] rfl (ownB_nil _ _) _ seed rfl (strm_seed hk_.has HK.out) (by rw [HK.out, List.length_nil]; decide) hk_.up ?_; intro v1 x1 hown1 hg1 hb1; rw [List.nil_append] at hown1; have e1 := ext_none hg1; clear hg1; have hk1 := HoldT.step hstab hk_ e1)
    | (refine wpList_strB rfl _ rfl name rfl (by omega) ?_; intro x2 v2 hs2 ho2 e2; have hk2 := HoldT.step hstab hk_ e2)
    | (go_at_call 71; refine (Put64r_any _ _ [] (i / 4) (Sees.nil _ _) (by omega) (by omega) (by decide)).mono ?_; rintro e x3 ⟨v3, rfl, hown3, hb3⟩; rw [List.nil_append] at hown3; have e3 : Ext _ x3 := hb3; have hk3 := HoldT.step hstab hk_ e3)
    | (refine wpList_allocB rfl _ rfl _ run_allocKey ?_; intro x4 B4 hh hB4 e4; have hlt4 : g < B4 := Nat.lt_of_lt_of_le (Blk.lt hk_.has) hB4; have hlw4 : w.heap.size ≤ B4 := Nat.le_trans hk_.up.size hB4; have hk4 := HoldT.step hstab hk_ e4)
    | (refine wpList_lit3 rfl _ _ _ rfl _ _ _ seed name (put64 (i / 4).toNat) rfl rfl rfl (owns_one hown1) ho2 (owns_one hown3) (exB (sees_of_owns hown1)) (exB hs2) (exB (sees_of_owns hown3)) ?_; intro x5 B5 hbb e5; have hk5 := HoldT.step hstab hk_ e5)
    | (go_at_call 60; refine (Partsr_any _ _ [seed, name, put64 (i / 4).toNat] (exBB hbb) HFL.out).mono ?_; rintro e x6 ⟨rfl, hb6⟩; rw [HS.out]; have e6 : Ext _ x6 := hb6; have hk6 := HoldT.step hstab hk_ e6)
    | (refine wpList_store_row rfl 23 _ _ rfl B4 (keyA S) _ _ rfl rfl (exK hh) (by rw [keyA_size, keyA_size, HSL.out]; rfl) (by rw [keyA_size, HSL.out]; exact info_key) (keyA_one _) ?_; intro x7 hg7 hs7 hR7
       have hk7 : HoldT (StrB g seed name i) w x7 := ⟨Blk.grownBy hk_.has hg7 (some_ne (by omega)), hk_.up.grown hg7 hk_.up.size (fun k hk => by cases hk; exact hlw4)⟩))
  refine phPost_hold (by first | with_reducible assumption | exact HoldT.alloc hstab (by with_reducible assumption) _ | exact HoldT.alloc hstab (HoldT.alloc hstab (by with_reducible assumption) _) _) ?_
  intro hk_
  refine wpTr_step ?_
  simp only [pickOps, List.flatMap_nil]
  refine wpQuiet_nil ?_
  refine wpTr_alt ?_ ?_
  focus
    simp only [pickOps, List.flatMap_cons, List.flatMap_nil, List.drop_succ_cons, List.drop_zero, List.take_succ_cons, List.take_zero, List.cons_append, List.nil_append, List.append_nil]
    go_wp2_with (first
    | (at_builtin; refine appB (W := w) rfl _ _ rfl (.slice none 0 0) [] rfl (ownB_nil _ _) _ seed rfl (strm_seed hk_.has HK.out) (by rw [HK.out, List.length_nil]; decide) hk_.up ?_; intro v1 x1 hown1 hg1 hb1; rw [List.nil_append] at hown1; have e1 := ext_none hg1; clear hg1; have hk1 := HoldT.step hstab hk_ e1)
    | (refine wpList_strB rfl _ rfl name rfl (by omega) ?_; intro x2 v2 hs2 ho2 e2; have hk2 := HoldT.step hstab hk_ e2)
    | (go_at_call 71; refine (Put64r_any _ _ [] (i / 4) (Sees.nil _ _) (by omega) (by omega) (by decide)).mono ?_; rintro e x3 ⟨v3, rfl, hown3, hb3⟩; rw [List.nil_append] at hown3; have e3 : Ext _ x3 := hb3; have hk3 := HoldT.step hstab hk_ e3)
    | (refine wpList_allocB rfl _ rfl _ run_allocKey ?_; intro x4 B4 hh hB4 e4; have hlt4 : g < B4 := Nat.lt_of_lt_of_le (Blk.lt hk_.has) hB4; have hlw4 : w.heap.size ≤ B4 := Nat.le_trans hk_.up.size hB4; have hk4 := HoldT.step hstab hk_ e4)
    | (refine wpList_lit3 rfl _ _ _ rfl _ _ _ seed name (put64 (i / 4).toNat) rfl rfl rfl (owns_one hown1) ho2 (owns_one hown3) (exB (sees_of_owns hown1)) (exB hs2) (exB (sees_of_owns hown3)) ?_; intro x5 B5 hbb e5; have hk5 := HoldT.step hstab hk_ e5)
    | (go_at_call 60; refine (Partsr_any _ _ [seed, name, put64 (i / 4).toNat] (exBB hbb) HFL.out).mono ?_; rintro e x6 ⟨rfl, hb6⟩; rw [HS.out]; have e6 : Ext _ x6 := hb6; have hk6 := HoldT.step hstab hk_ e6)
    | (refine wpList_store_row rfl 23 _ _ rfl B4 (keyA S) _ _ rfl rfl (exK hh) (by rw [keyA_size, keyA_size, HSL.out]; rfl) (by rw [keyA_size, HSL.out]; exact info_key) (keyA_one _) ?_; intro x7 hg7 hs7 hR7
       have hk7 : HoldT (StrB g seed name i) w x7 := ⟨Blk.grownBy hk_.has hg7 (some_ne (by omega)), hk_.up.grown hg7 hk_.up.size (fun k hk => by cases hk; exact hlw4)⟩))
    refine phPost_hold (by first | with_reducible assumption | exact HoldT.alloc hstab (by with_reducible assumption) _ | exact HoldT.alloc hstab (HoldT.alloc hstab (by with_reducible assumption) _) _) ?_
    intro hk_
    refine wpTr_step ?_
    simp only [pickOps, List.flatMap_nil]
    refine wpQuiet_nil ?_
    refine wpTr_alt ?_ ?_
    focus
      simp only [pickOps, List.flatMap_cons, List.flatMap_nil, List.drop_succ_cons, List.drop_zero, List.take_succ_cons, List.take_zero, List.cons_append, List.nil_append, List.append_nil]
      go_wp2_with (first
    | (at_builtin; refine appB (W := w) rfl _ _ rfl (.slice none 0 0) [] rfl (ownB_nil _ _) _ seed rfl (strm_seed hk_.has HK.out) (by rw [HK.out, List.length_nil]; decide) hk_.up ?_; intro v1 x1 hown1 hg1 hb1; rw [List.nil_append] at hown1; have e1 := ext_none hg1; clear hg1; have hk1 := HoldT.step hstab hk_ e1)
    | (refine wpList_strB rfl _ rfl name rfl (by omega) ?_; intro x2 v2 hs2 ho2 e2; have hk2 := HoldT.step hstab hk_ e2)
    | (go_at_call 71; refine (Put64r_any _ _ [] (i / 4) (Sees.nil _ _) (by omega) (by omega) (by decide)).mono ?_; rintro e x3 ⟨v3, rfl, hown3, hb3⟩; rw [List.nil_append] at hown3; have e3 : Ext _ x3 := hb3; have hk3 := HoldT.step hstab hk_ e3)
    | (refine wpList_allocB rfl _ rfl _ run_allocKey ?_; intro x4 B4 hh hB4 e4; have hlt4 : g < B4 := Nat.lt_of_lt_of_le (Blk.lt hk_.has) hB4; have hlw4 : w.heap.size ≤ B4 := Nat.le_trans hk_.up.size hB4; have hk4 := HoldT.step hstab hk_ e4)
    | (refine wpList_lit3 rfl _ _ _ rfl _ _ _ seed name (put64 (i / 4).toNat) rfl rfl rfl (owns_one hown1) ho2 (owns_one hown3) (exB (sees_of_owns hown1)) (exB hs2) (exB (sees_of_owns hown3)) ?_; intro x5 B5 hbb e5; have hk5 := HoldT.step hstab hk_ e5)
    | (go_at_call 60; refine (Partsr_any _ _ [seed, name, put64 (i / 4).toNat] (exBB hbb) HFL.out).mono ?_; rintro e x6 ⟨rfl, hb6⟩; rw [HS.out]; have e6 : Ext _ x6 := hb6; have hk6 := HoldT.step hstab hk_ e6)
    | (refine wpList_store_row rfl 23 _ _ rfl B4 (keyA S) _ _ rfl rfl (exK hh) (by rw [keyA_size, keyA_size, HSL.out]; rfl) (by rw [keyA_size, HSL.out]; exact info_key) (keyA_one _) ?_; intro x7 hg7 hs7 hR7
       have hk7 : HoldT (StrB g seed name i) w x7 := ⟨Blk.grownBy hk_.has hg7 (some_ne (by omega)), hk_.up.grown hg7 hk_.up.size (fun k hk => by cases hk; exact hlw4)⟩))
      refine phPost_hold (by first | with_reducible assumption | exact HoldT.alloc hstab (by with_reducible assumption) _ | exact HoldT.alloc hstab (HoldT.alloc hstab (by with_reducible assumption) _) _) ?_
      intro hk_
      refine wpTr_step ?_
      simp only [pickOps, List.flatMap_nil]
      refine wpQuiet_nil ?_
      refine wpTr_one ?_
      simp only [pickOps, List.flatMap_cons, List.flatMap_nil, List.drop_succ_cons, List.drop_zero, List.take_succ_cons, List.take_zero, List.cons_append, List.nil_append, List.append_nil]
      go_wp2_with (first
    | (at_builtin; refine appB (W := w) rfl _ _ rfl (.slice none 0 0) [] rfl (ownB_nil _ _) _ seed rfl (strm_seed hk_.has HK.out) (by rw [HK.out, List.length_nil]; decide) hk_.up ?_; intro v1 x1 hown1 hg1 hb1; rw [List.nil_append] at hown1; have e1 := ext_none hg1; clear hg1; have hk1 := HoldT.step hstab hk_ e1)
    | (refine wpList_strB rfl _ rfl name rfl (by omega) ?_; intro x2 v2 hs2 ho2 e2; have hk2 := HoldT.step hstab hk_ e2)
    | (go_at_call 71; refine (Put64r_any _ _ [] (i / 4) (Sees.nil _ _) (by omega) (by omega) (by decide)).mono ?_; rintro e x3 ⟨v3, rfl, hown3, hb3⟩; rw [List.nil_append] at hown3; have e3 : Ext _ x3 := hb3; have hk3 := HoldT.step hstab hk_ e3)
    | (refine wpList_allocB rfl _ rfl _ run_allocKey ?_; intro x4 B4 hh hB4 e4; have hlt4 : g < B4 := Nat.lt_of_lt_of_le (Blk.lt hk_.has) hB4; have hlw4 : w.heap.size ≤ B4 := Nat.le_trans hk_.up.size hB4; have hk4 := HoldT.step hstab hk_ e4)
    | (refine wpList_lit3 rfl _ _ _ rfl _ _ _ seed name (put64 (i / 4).toNat) rfl rfl rfl (owns_one hown1) ho2 (owns_one hown3) (exB (sees_of_owns hown1)) (exB hs2) (exB (sees_of_owns hown3)) ?_; intro x5 B5 hbb e5; have hk5 := HoldT.step hstab hk_ e5)
    | (go_at_call 60; refine (Partsr_any _ _ [seed, name, put64 (i / 4).toNat] (exBB hbb) HFL.out).mono ?_; rintro e x6 ⟨rfl, hb6⟩; rw [HS.out]; have e6 : Ext _ x6 := hb6; have hk6 := HoldT.step hstab hk_ e6)
    | (refine wpList_store_row rfl 23 _ _ rfl B4 (keyA S) _ _ rfl rfl (exK hh) (by rw [keyA_size, keyA_size, HSL.out]; rfl) (by rw [keyA_size, HSL.out]; exact info_key) (keyA_one _) ?_; intro x7 hg7 hs7 hR7
       have hk7 : HoldT (StrB g seed name i) w x7 := ⟨Blk.grownBy hk_.has hg7 (some_ne (by omega)), hk_.up.grown hg7 hk_.up.size (fun k hk => by cases hk; exact hlw4)⟩))
      refine phPost_hold (by first | with_reducible assumption | exact HoldT.alloc hstab (by with_reducible assumption) _ | exact HoldT.alloc hstab (HoldT.alloc hstab (by with_reducible assumption) _) _) ?_
      intro hk_
      refine wpTr_step ?_
      simp only [pickOps, List.flatMap_nil]
      refine wpQuiet_nil ?_
      refine wpTr_one ?_
      simp only [pickOps, List.flatMap_cons, List.flatMap_nil, List.drop_succ_cons, List.drop_zero, List.take_succ_cons, List.take_zero, List.cons_append, List.nil_append, List.append_nil]
      go_wp2_with (first
    | (at_builtin; refine appB (W := w) rfl _ _ rfl (.slice none 0 0) [] rfl (ownB_nil _ _) _ seed rfl (strm_seed hk_.has HK.out) (by rw [HK.out, List.length_nil]; decide) hk_.up ?_; intro v1 x1 hown1 hg1 hb1; rw [List.nil_append] at hown1; have e1 := ext_none hg1; clear hg1; have hk1 := HoldT.step hstab hk_ e1)
    | (refine wpList_strB rfl _ rfl name rfl (by omega) ?_; intro x2 v2 hs2 ho2 e2; have hk2 := HoldT.step hstab hk_ e2)
    | (go_at_call 71; refine (Put64r_any _ _ [] (i / 4) (Sees.nil _ _) (by omega) (by omega) (by decide)).mono ?_; rintro e x3 ⟨v3, rfl, hown3, hb3⟩; rw [List.nil_append] at hown3; have e3 : Ext _ x3 := hb3; have hk3 := HoldT.step hstab hk_ e3)
    | (refine wpList_allocB rfl _ rfl _ run_allocKey ?_; intro x4 B4 hh hB4 e4; have hlt4 : g < B4 := Nat.lt_of_lt_of_le (Blk.lt hk_.has) hB4; have hlw4 : w.heap.size ≤ B4 := Nat.le_trans hk_.up.size hB4; have hk4 := HoldT.step hstab hk_ e4)
    | (refine wpList_lit3 rfl _ _ _ rfl _ _ _ seed name (put64 (i / 4).toNat) rfl rfl rfl (owns_one hown1) ho2 (owns_one hown3) (exB (sees_of_owns hown1)) (exB hs2) (exB (sees_of_owns hown3)) ?_; intro x5 B5 hbb e5; have hk5 := HoldT.step hstab hk_ e5)
    | (go_at_call 60; refine (Partsr_any _ _ [seed, name, put64 (i / 4).toNat] (exBB hbb) HFL.out).mono ?_; rintro e x6 ⟨rfl, hb6⟩; rw [HS.out]; have e6 : Ext _ x6 := hb6; have hk6 := HoldT.step hstab hk_ e6)
    | (refine wpList_store_row rfl 23 _ _ rfl B4 (keyA S) _ _ rfl rfl (exK hh) (by rw [keyA_size, keyA_size, HSL.out]; rfl) (by rw [keyA_size, HSL.out]; exact info_key) (keyA_one _) ?_; intro x7 hg7 hs7 hR7
       have hk7 : HoldT (StrB g seed name i) w x7 := ⟨Blk.grownBy hk_.has hg7 (some_ne (by omega)), hk_.up.grown hg7 hk_.up.size (fun k hk => by cases hk; exact hlw4)⟩))
      refine phPost_hold (by first | with_reducible assumption | exact HoldT.alloc hstab (by with_reducible assumption) _ | exact HoldT.alloc hstab (HoldT.alloc hstab (by with_reducible assumption) _) _) ?_
      intro hk_
      refine wpTr_step ?_
      simp only [pickOps, List.flatMap_nil]
      refine wpQuiet_nil ?_
      refine wpTr_one ?_
      simp only [pickOps, List.flatMap_cons, List.flatMap_nil, List.drop_succ_cons, List.drop_zero, List.take_succ_cons, List.take_zero, List.cons_append, List.nil_append, List.append_nil]
      go_wp2_with (first
    | (at_builtin; refine appB (W := w) rfl _ _ rfl (.slice none 0 0) [] rfl (ownB_nil _ _) _ seed rfl (strm_seed hk_.has HK.out) (by rw [HK.out, List.length_nil]; decide) hk_.up ?_; intro v1 x1 hown1 hg1 hb1; rw [List.nil_append] at hown1; have e1 := ext_none hg1; clear hg1; have hk1 := HoldT.step hstab hk_ e1)
    | (refine wpList_strB rfl _ rfl name rfl (by omega) ?_; intro x2 v2 hs2 ho2 e2; have hk2 := HoldT.step hstab hk_ e2)
    | (go_at_call 71; refine (Put64r_any _ _ [] (i / 4) (Sees.nil _ _) (by omega) (by omega) (by decide)).mono ?_; rintro e x3 ⟨v3, rfl, hown3, hb3⟩; rw [List.nil_append] at hown3; have e3 : Ext _ x3 := hb3; have hk3 := HoldT.step hstab hk_ e3)
    | (refine wpList_allocB rfl _ rfl _ run_allocKey ?_; intro x4 B4 hh hB4 e4; have hlt4 : g < B4 := Nat.lt_of_lt_of_le (Blk.lt hk_.has) hB4; have hlw4 : w.heap.size ≤ B4 := Nat.le_trans hk_.up.size hB4; have hk4 := HoldT.step hstab hk_ e4)
    | (refine wpList_lit3 rfl _ _ _ rfl _ _ _ seed name (put64 (i / 4).toNat) rfl rfl rfl (owns_one hown1) ho2 (owns_one hown3) (exB (sees_of_owns hown1)) (exB hs2) (exB (sees_of_owns hown3)) ?_; intro x5 B5 hbb e5; have hk5 := HoldT.step hstab hk_ e5)
    | (go_at_call 60; refine (Partsr_any _ _ [seed, name, put64 (i / 4).toNat] (exBB hbb) HFL.out).mono ?_; rintro e x6 ⟨rfl, hb6⟩; rw [HS.out]; have e6 : Ext _ x6 := hb6; have hk6 := HoldT.step hstab hk_ e6)
    | (refine wpList_store_row rfl 23 _ _ rfl B4 (keyA S) _ _ rfl rfl (exK hh) (by rw [keyA_size, keyA_size, HSL.out]; rfl) (by rw [keyA_size, HSL.out]; exact info_key) (keyA_one _) ?_; intro x7 hg7 hs7 hR7
       have hk7 : HoldT (StrB g seed name i) w x7 := ⟨Blk.grownBy hk_.has hg7 (some_ne (by omega)), hk_.up.grown hg7 hk_.up.size (fun k hk => by cases hk; exact hlw4)⟩))
      refine phPost_hold (by first | with_reducible assumption | exact HoldT.alloc hstab (by with_reducible assumption) _ | exact HoldT.alloc hstab (HoldT.alloc hstab (by with_reducible assumption) _) _) ?_
      intro hk_
      refine wpTr_step ?_
      simp only [pickOps, List.flatMap_nil]
      refine wpQuiet_nil ?_
      refine wpTr_one ?_
      simp only [pickOps, List.flatMap_cons, List.flatMap_nil, List.drop_succ_cons, List.drop_zero, List.take_succ_cons, List.take_zero, List.cons_append, List.nil_append, List.append_nil]
      go_wp2_with (first
    | (at_builtin; refine appB (W := w) rfl _ _ rfl (.slice none 0 0) [] rfl (ownB_nil _ _) _ seed rfl (strm_seed hk_.has HK.out) (by rw [HK.out, List.length_nil]; decide) hk_.up ?_; intro v1 x1 hown1 hg1 hb1; rw [List.nil_append] at hown1; have e1 := ext_none hg1; clear hg1; have hk1 := HoldT.step hstab hk_ e1)
    | (refine wpList_strB rfl _ rfl name rfl (by omega) ?_; intro x2 v2 hs2 ho2 e2; have hk2 := HoldT.step hstab hk_ e2)
    | (go_at_call 71; refine (Put64r_any _ _ [] (i / 4) (Sees.nil _ _) (by omega) (by omega) (by decide)).mono ?_; rintro e x3 ⟨v3, rfl, hown3, hb3⟩; rw [List.nil_append] at hown3; have e3 : Ext _ x3 := hb3; have hk3 := HoldT.step hstab hk_ e3)
    | (refine wpList_allocB rfl _ rfl _ run_allocKey ?_; intro x4 B4 hh hB4 e4; have hlt4 : g < B4 := Nat.lt_of_lt_of_le (Blk.lt hk_.has) hB4; have hlw4 : w.heap.size ≤ B4 := Nat.le_trans hk_.up.size hB4; have hk4 := HoldT.step hstab hk_ e4)
    | (refine wpList_lit3 rfl _ _ _ rfl _ _ _ seed name (put64 (i / 4).toNat) rfl rfl rfl (owns_one hown1) ho2 (owns_one hown3) (exB (sees_of_owns hown1)) (exB hs2) (exB (sees_of_owns hown3)) ?_; intro x5 B5 hbb e5; have hk5 := HoldT.step hstab hk_ e5)
    | (go_at_call 60; refine (Partsr_any _ _ [seed, name, put64 (i / 4).toNat] (exBB hbb) HFL.out).mono ?_; rintro e x6 ⟨rfl, hb6⟩; rw [HS.out]; have e6 : Ext _ x6 := hb6; have hk6 := HoldT.step hstab hk_ e6)
    | (refine wpList_store_row rfl 23 _ _ rfl B4 (keyA S) _ _ rfl rfl (exK hh) (by rw [keyA_size, keyA_size, HSL.out]; rfl) (by rw [keyA_size, HSL.out]; exact info_key) (keyA_one _) ?_; intro x7 hg7 hs7 hR7
       have hk7 : HoldT (StrB g seed name i) w x7 := ⟨Blk.grownBy hk_.has hg7 (some_ne (by omega)), hk_.up.grown hg7 hk_.up.size (fun k hk => by cases hk; exact hlw4)⟩))
      refine phPost_hold (by first | with_reducible assumption | exact HoldT.alloc hstab (by with_reducible assumption) _ | exact HoldT.alloc hstab (HoldT.alloc hstab (by with_reducible assumption) _) _) ?_
      intro hk_
      refine wpTr_fin ?_
      simp only [pickOps, List.flatMap_nil]
      refine wpQuiet_nil ?_
      have hstab2 : Stab (fun u => StrB g seed name i u ∧ KE2 B4 S u) := Stab.and (stabStrB g seed name i) (Stab.blk _ _ _)
      have hkz : HoldT (fun u => StrB g seed name i u ∧ KE2 B4 S u) w x7.drew := HoldT.drew hstab2 ⟨⟨hk_.has, hR7⟩, hk_.up⟩
      have hT1 : ∀ e : InC (fun u => StrB g seed name i u ∧ KE2 B4 S u), e.u.cell? ⟨g, 33, none⟩ = some (.int .u64 i) := fun e => strm_i e.has.1 HK.out
      clear hg7 hs7 hR7
      go_wp2_with fail
      try change Code.wp _ _ _ (Act.mk _ _) _
      haveI hne_ : Nonempty (InC (fun u => StrB g seed name i u ∧ KE2 B4 S u)) := ⟨⟨_, (hkz).1⟩⟩
      refine wp_region_tr (C := fun w_ => ∃ e_ : InC (fun u => StrB g seed name i u ∧ KE2 B4 S u), w_ = e_.u) (.step [0, 1, 2, 3, 4, 5, 6, 7] (.alt 8 (.fin [9, 10, 11, 12, 13]) .nil)) (by kernel_rfl) (by kernel_rfl) (fun _ _ _ _ hd_ h_ => ⟨hd_.symm.trans h_.1, h_.2⟩) ⟨⟨World.drew _, (hkz).1⟩, rfl⟩ ?_
      have hk_ := hkz
      refine wpTr_step ?_
      simp only [pickOps, List.flatMap_cons, List.flatMap_nil, List.drop_succ_cons, List.drop_zero, List.take_succ_cons, List.take_zero, List.cons_append, List.nil_append, List.append_nil]
      iterate 8 (go_big_quiet_step (exact rfl))
      refine wpQuiet_nil ?_
      refine wpTr_one ?_
      simp only [pickOps, List.flatMap_cons, List.flatMap_nil, List.drop_succ_cons, List.drop_zero, List.take_succ_cons, List.take_zero, List.cons_append, List.nil_append, List.append_nil]
      go_wp2_with (first
        | (go_at_call 120; refine (Get64r_ok _ _ S (8 * (i % 4)) (seesB_key hk_.has.2 HSL.out) (by omega) (by rw [HSL.out]; omega)).mono ?_; rintro e y1 ⟨rfl, rfl⟩; rw [← HW.out]))
      refine phPost_hold (by first | with_reducible assumption | exact HoldT.alloc hstab (by with_reducible assumption) _ | exact HoldT.alloc hstab (HoldT.alloc hstab (by with_reducible assumption) _) _) ?_
      intro hk_
      refine wpTr_fin ?_
      simp only [pickOps, List.flatMap_cons, List.flatMap_nil, List.drop_succ_cons, List.drop_zero, List.take_succ_cons, List.take_zero, List.cons_append, List.nil_append, List.append_nil]
      iterate 5 (go_big_quiet_step (exact rfl))
      refine wpQuiet_nil ?_
      have hci := strm_i hk_.has.1 HK.out
      have hfi := Blk.free hk_.has.1 33
      have hend := Blk.set hk_.has.1 33 (.int .u64 (i + 1))
      rw [strmC_set seed name i (i + 1) HK.out] at hend
      have hgr := grownBy_set ((show Ext w _ from hk_.up).g (some g)) 33 (.int .u64 (i + 1))
      go_wp2_with fail
      go_ret
      exact ⟨rfl, hend, hgr⟩
    refine wpTr_one ?_
    simp only [pickOps, List.flatMap_cons, List.flatMap_nil, List.drop_succ_cons, List.drop_zero, List.take_succ_cons, List.take_zero, List.cons_append, List.nil_append, List.append_nil]
    go_wp2_with (first
    | (at_builtin; refine appB (W := w) rfl _ _ rfl (.slice none 0 0) [] rfl (ownB_nil _ _) _ seed rfl (strm_seed hk_.has HK.out) (by rw [HK.out, List.length_nil]; decide) hk_.up ?_; intro v1 x1 hown1 hg1 hb1; rw [List.nil_append] at hown1; have e1 := ext_none hg1; clear hg1; have hk1 := HoldT.step hstab hk_ e1)
    | (refine wpList_strB rfl _ rfl name rfl (by omega) ?_; intro x2 v2 hs2 ho2 e2; have hk2 := HoldT.step hstab hk_ e2)
    | (go_at_call 71; refine (Put64r_any _ _ [] (i / 4) (Sees.nil _ _) (by omega) (by omega) (by decide)).mono ?_; rintro e x3 ⟨v3, rfl, hown3, hb3⟩; rw [List.nil_append] at hown3; have e3 : Ext _ x3 := hb3; have hk3 := HoldT.step hstab hk_ e3)
    | (refine wpList_allocB rfl _ rfl _ run_allocKey ?_; intro x4 B4 hh hB4 e4; have hlt4 : g < B4 := Nat.lt_of_lt_of_le (Blk.lt hk_.has) hB4; have hlw4 : w.heap.size ≤ B4 := Nat.le_trans hk_.up.size hB4; have hk4 := HoldT.step hstab hk_ e4)
    | (refine wpList_lit3 rfl _ _ _ rfl _ _ _ seed name (put64 (i / 4).toNat) rfl rfl rfl (owns_one hown1) ho2 (owns_one hown3) (exB (sees_of_owns hown1)) (exB hs2) (exB (sees_of_owns hown3)) ?_; intro x5 B5 hbb e5; have hk5 := HoldT.step hstab hk_ e5)
    | (go_at_call 60; refine (Partsr_any _ _ [seed, name, put64 (i / 4).toNat] (exBB hbb) HFL.out).mono ?_; rintro e x6 ⟨rfl, hb6⟩; rw [HS.out]; have e6 : Ext _ x6 := hb6; have hk6 := HoldT.step hstab hk_ e6)
    | (refine wpList_store_row rfl 23 _ _ rfl B4 (keyA S) _ _ rfl rfl (exK hh) (by rw [keyA_size, keyA_size, HSL.out]; rfl) (by rw [keyA_size, HSL.out]; exact info_key) (keyA_one _) ?_; intro x7 hg7 hs7 hR7
       have hk7 : HoldT (StrB g seed name i) w x7 := ⟨Blk.grownBy hk_.has hg7 (some_ne (by omega)), hk_.up.grown hg7 hk_.up.size (fun k hk => by cases hk; exact hlw4)⟩))
    refine phPost_hold (by first | with_reducible assumption | exact HoldT.alloc hstab (by with_reducible assumption) _ | exact HoldT.alloc hstab (HoldT.alloc hstab (by with_reducible assumption) _) _) ?_
    intro hk_
    refine wpTr_step ?_
    simp only [pickOps, List.flatMap_nil]
    refine wpQuiet_nil ?_
    refine wpTr_one ?_
    simp only [pickOps, List.flatMap_cons, List.flatMap_nil, List.drop_succ_cons, List.drop_zero, List.take_succ_cons, List.take_zero, List.cons_append, List.nil_append, List.append_nil]
    go_wp2_with (first
    | (at_builtin; refine appB (W := w) rfl _ _ rfl (.slice none 0 0) [] rfl (ownB_nil _ _) _ seed rfl (strm_seed hk_.has HK.out) (by rw [HK.out, List.length_nil]; decide) hk_.up ?_; intro v1 x1 hown1 hg1 hb1; rw [List.nil_append] at hown1; have e1 := ext_none hg1; clear hg1; have hk1 := HoldT.step hstab hk_ e1)
    | (refine wpList_strB rfl _ rfl name rfl (by omega) ?_; intro x2 v2 hs2 ho2 e2; have hk2 := HoldT.step hstab hk_ e2)
    | (go_at_call 71; refine (Put64r_any _ _ [] (i / 4) (Sees.nil _ _) (by omega) (by omega) (by decide)).mono ?_; rintro e x3 ⟨v3, rfl, hown3, hb3⟩; rw [List.nil_append] at hown3; have e3 : Ext _ x3 := hb3; have hk3 := HoldT.step hstab hk_ e3)
    | (refine wpList_allocB rfl _ rfl _ run_allocKey ?_; intro x4 B4 hh hB4 e4; have hlt4 : g < B4 := Nat.lt_of_lt_of_le (Blk.lt hk_.has) hB4; have hlw4 : w.heap.size ≤ B4 := Nat.le_trans hk_.up.size hB4; have hk4 := HoldT.step hstab hk_ e4)
    | (refine wpList_lit3 rfl _ _ _ rfl _ _ _ seed name (put64 (i / 4).toNat) rfl rfl rfl (owns_one hown1) ho2 (owns_one hown3) (exB (sees_of_owns hown1)) (exB hs2) (exB (sees_of_owns hown3)) ?_; intro x5 B5 hbb e5; have hk5 := HoldT.step hstab hk_ e5)
    | (go_at_call 60; refine (Partsr_any _ _ [seed, name, put64 (i / 4).toNat] (exBB hbb) HFL.out).mono ?_; rintro e x6 ⟨rfl, hb6⟩; rw [HS.out]; have e6 : Ext _ x6 := hb6; have hk6 := HoldT.step hstab hk_ e6)
    | (refine wpList_store_row rfl 23 _ _ rfl B4 (keyA S) _ _ rfl rfl (exK hh) (by rw [keyA_size, keyA_size, HSL.out]; rfl) (by rw [keyA_size, HSL.out]; exact info_key) (keyA_one _) ?_; intro x7 hg7 hs7 hR7
       have hk7 : HoldT (StrB g seed name i) w x7 := ⟨Blk.grownBy hk_.has hg7 (some_ne (by omega)), hk_.up.grown hg7 hk_.up.size (fun k hk => by cases hk; exact hlw4)⟩))
    refine phPost_hold (by first | with_reducible assumption | exact HoldT.alloc hstab (by with_reducible assumption) _ | exact HoldT.alloc hstab (HoldT.alloc hstab (by with_reducible assumption) _) _) ?_
    intro hk_
    refine wpTr_step ?_
    simp only [pickOps, List.flatMap_nil]
    refine wpQuiet_nil ?_
    refine wpTr_one ?_
    simp only [pickOps, List.flatMap_cons, List.flatMap_nil, List.drop_succ_cons, List.drop_zero, List.take_succ_cons, List.take_zero, List.cons_append, List.nil_append, List.append_nil]
    go_wp2_with (first
    | (at_builtin; refine appB (W := w) rfl _ _ rfl (.slice none 0 0) [] rfl (ownB_nil _ _) _ seed rfl (strm_seed hk_.has HK.out) (by rw [HK.out, List.length_nil]; decide) hk_.up ?_; intro v1 x1 hown1 hg1 hb1; rw [List.nil_append] at hown1; have e1 := ext_none hg1; clear hg1; have hk1 := HoldT.step hstab hk_ e1)
    | (refine wpList_strB rfl _ rfl name rfl (by omega) ?_; intro x2 v2 hs2 ho2 e2; have hk2 := HoldT.step hstab hk_ e2)
    | (go_at_call 71; refine (Put64r_any _ _ [] (i / 4) (Sees.nil _ _) (by omega) (by omega) (by decide)).mono ?_; rintro e x3 ⟨v3, rfl, hown3, hb3⟩; rw [List.nil_append] at hown3; have e3 : Ext _ x3 := hb3; have hk3 := HoldT.step hstab hk_ e3)
    | (refine wpList_allocB rfl _ rfl _ run_allocKey ?_; intro x4 B4 hh hB4 e4; have hlt4 : g < B4 := Nat.lt_of_lt_of_le (Blk.lt hk_.has) hB4; have hlw4 : w.heap.size ≤ B4 := Nat.le_trans hk_.up.size hB4; have hk4 := HoldT.step hstab hk_ e4)
    | (refine wpList_lit3 rfl _ _ _ rfl _ _ _ seed name (put64 (i / 4).toNat) rfl rfl rfl (owns_one hown1) ho2 (owns_one hown3) (exB (sees_of_owns hown1)) (exB hs2) (exB (sees_of_owns hown3)) ?_; intro x5 B5 hbb e5; have hk5 := HoldT.step hstab hk_ e5)
    | (go_at_call 60; refine (Partsr_any _ _ [seed, name, put64 (i / 4).toNat] (exBB hbb) HFL.out).mono ?_; rintro e x6 ⟨rfl, hb6⟩; rw [HS.out]; have e6 : Ext _ x6 := hb6; have hk6 := HoldT.step hstab hk_ e6)
    | (refine wpList_store_row rfl 23 _ _ rfl B4 (keyA S) _ _ rfl rfl (exK hh) (by rw [keyA_size, keyA_size, HSL.out]; rfl) (by rw [keyA_size, HSL.out]; exact info_key) (keyA_one _) ?_; intro x7 hg7 hs7 hR7
       have hk7 : HoldT (StrB g seed name i) w x7 := ⟨Blk.grownBy hk_.has hg7 (some_ne (by omega)), hk_.up.grown hg7 hk_.up.size (fun k hk => by cases hk; exact hlw4)⟩))
    refine phPost_hold (by first | with_reducible assumption | exact HoldT.alloc hstab (by with_reducible assumption) _ | exact HoldT.alloc hstab (HoldT.alloc hstab (by with_reducible assumption) _) _) ?_
    intro hk_
    refine wpTr_step ?_
    simp only [pickOps, List.flatMap_nil]
    refine wpQuiet_nil ?_
    refine wpTr_one ?_
    simp only [pickOps, List.flatMap_cons, List.flatMap_nil, List.drop_succ_cons, List.drop_zero, List.take_succ_cons, List.take_zero, List.cons_append, List.nil_append, List.append_nil]
    go_wp2_with (first
    | (at_builtin; refine appB (W := w) rfl _ _ rfl (.slice none 0 0) [] rfl (ownB_nil _ _) _ seed rfl (strm_seed hk_.has HK.out) (by rw [HK.out, List.length_nil]; decide) hk_.up ?_; intro v1 x1 hown1 hg1 hb1; rw [List.nil_append] at hown1; have e1 := ext_none hg1; clear hg1; have hk1 := HoldT.step hstab hk_ e1)
    | (refine wpList_strB rfl _ rfl name rfl (by omega) ?_; intro x2 v2 hs2 ho2 e2; have hk2 := HoldT.step hstab hk_ e2)
    | (go_at_call 71; refine (Put64r_any _ _ [] (i / 4) (Sees.nil _ _) (by omega) (by omega) (by decide)).mono ?_; rintro e x3 ⟨v3, rfl, hown3, hb3⟩; rw [List.nil_append] at hown3; have e3 : Ext _ x3 := hb3; have hk3 := HoldT.step hstab hk_ e3)
    | (refine wpList_allocB rfl _ rfl _ run_allocKey ?_; intro x4 B4 hh hB4 e4; have hlt4 : g < B4 := Nat.lt_of_lt_of_le (Blk.lt hk_.has) hB4; have hlw4 : w.heap.size ≤ B4 := Nat.le_trans hk_.up.size hB4; have hk4 := HoldT.step hstab hk_ e4)
    | (refine wpList_lit3 rfl _ _ _ rfl _ _ _ seed name (put64 (i / 4).toNat) rfl rfl rfl (owns_one hown1) ho2 (owns_one hown3) (exB (sees_of_owns hown1)) (exB hs2) (exB (sees_of_owns hown3)) ?_; intro x5 B5 hbb e5; have hk5 := HoldT.step hstab hk_ e5)
    | (go_at_call 60; refine (Partsr_any _ _ [seed, name, put64 (i / 4).toNat] (exBB hbb) HFL.out).mono ?_; rintro e x6 ⟨rfl, hb6⟩; rw [HS.out]; have e6 : Ext _ x6 := hb6; have hk6 := HoldT.step hstab hk_ e6)
    | (refine wpList_store_row rfl 23 _ _ rfl B4 (keyA S) _ _ rfl rfl (exK hh) (by rw [keyA_size, keyA_size, HSL.out]; rfl) (by rw [keyA_size, HSL.out]; exact info_key) (keyA_one _) ?_; intro x7 hg7 hs7 hR7
       have hk7 : HoldT (StrB g seed name i) w x7 := ⟨Blk.grownBy hk_.has hg7 (some_ne (by omega)), hk_.up.grown hg7 hk_.up.size (fun k hk => by cases hk; exact hlw4)⟩))
    refine phPost_hold (by first | with_reducible assumption | exact HoldT.alloc hstab (by with_reducible assumption) _ | exact HoldT.alloc hstab (HoldT.alloc hstab (by with_reducible assumption) _) _) ?_
    intro hk_
    refine wpTr_step ?_
    simp only [pickOps, List.flatMap_nil]
    refine wpQuiet_nil ?_
    refine wpTr_one ?_
    simp only [pickOps, List.flatMap_cons, List.flatMap_nil, List.drop_succ_cons, List.drop_zero, List.take_succ_cons, List.take_zero, List.cons_append, List.nil_append, List.append_nil]
    go_wp2_with (first
    | (at_builtin; refine appB (W := w) rfl _ _ rfl (.slice none 0 0) [] rfl (ownB_nil _ _) _ seed rfl (strm_seed hk_.has HK.out) (by rw [HK.out, List.length_nil]; decide) hk_.up ?_; intro v1 x1 hown1 hg1 hb1; rw [List.nil_append] at hown1; have e1 := ext_none hg1; clear hg1; have hk1 := HoldT.step hstab hk_ e1)
    | (refine wpList_strB rfl _ rfl name rfl (by omega) ?_; intro x2 v2 hs2 ho2 e2; have hk2 := HoldT.step hstab hk_ e2)
    | (go_at_call 71; refine (Put64r_any _ _ [] (i / 4) (Sees.nil _ _) (by omega) (by omega) (by decide)).mono ?_; rintro e x3 ⟨v3, rfl, hown3, hb3⟩; rw [List.nil_append] at hown3; have e3 : Ext _ x3 := hb3; have hk3 := HoldT.step hstab hk_ e3)
    | (refine wpList_allocB rfl _ rfl _ run_allocKey ?_; intro x4 B4 hh hB4 e4; have hlt4 : g < B4 := Nat.lt_of_lt_of_le (Blk.lt hk_.has) hB4; have hlw4 : w.heap.size ≤ B4 := Nat.le_trans hk_.up.size hB4; have hk4 := HoldT.step hstab hk_ e4)
    | (refine wpList_lit3 rfl _ _ _ rfl _ _ _ seed name (put64 (i / 4).toNat) rfl rfl rfl (owns_one hown1) ho2 (owns_one hown3) (exB (sees_of_owns hown1)) (exB hs2) (exB (sees_of_owns hown3)) ?_; intro x5 B5 hbb e5; have hk5 := HoldT.step hstab hk_ e5)
    | (go_at_call 60; refine (Partsr_any _ _ [seed, name, put64 (i / 4).toNat] (exBB hbb) HFL.out).mono ?_; rintro e x6 ⟨rfl, hb6⟩; rw [HS.out]; have e6 : Ext _ x6 := hb6; have hk6 := HoldT.step hstab hk_ e6)
    | (refine wpList_store_row rfl 23 _ _ rfl B4 (keyA S) _ _ rfl rfl (exK hh) (by rw [keyA_size, keyA_size, HSL.out]; rfl) (by rw [keyA_size, HSL.out]; exact info_key) (keyA_one _) ?_; intro x7 hg7 hs7 hR7
       have hk7 : HoldT (StrB g seed name i) w x7 := ⟨Blk.grownBy hk_.has hg7 (some_ne (by omega)), hk_.up.grown hg7 hk_.up.size (fun k hk => by cases hk; exact hlw4)⟩))
    refine phPost_hold (by first | with_reducible assumption | exact HoldT.alloc hstab (by with_reducible assumption) _ | exact HoldT.alloc hstab (HoldT.alloc hstab (by with_reducible assumption) _) _) ?_
    intro hk_
    refine wpTr_fin ?_
    simp only [pickOps, List.flatMap_nil]
    refine wpQuiet_nil ?_
    have hstab2 : Stab (fun u => StrB g seed name i u ∧ KE2 B4 S u) := Stab.and (stabStrB g seed name i) (Stab.blk _ _ _)
    have hkz : HoldT (fun u => StrB g seed name i u ∧ KE2 B4 S u) w x7.drew := HoldT.drew hstab2 ⟨⟨hk_.has, hR7⟩, hk_.up⟩
    have hT1 : ∀ e : InC (fun u => StrB g seed name i u ∧ KE2 B4 S u), e.u.cell? ⟨g, 33, none⟩ = some (.int .u64 i) := fun e => strm_i e.has.1 HK.out
    clear hg7 hs7 hR7
    go_wp2_with fail
    try change Code.wp _ _ _ (Act.mk _ _) _
    haveI hne_ : Nonempty (InC (fun u => StrB g seed name i u ∧ KE2 B4 S u)) := ⟨⟨_, (hkz).1⟩⟩
    refine wp_region_tr (C := fun w_ => ∃ e_ : InC (fun u => StrB g seed name i u ∧ KE2 B4 S u), w_ = e_.u) (.step [0, 1, 2, 3, 4, 5, 6, 7] (.alt 8 (.fin [9, 10, 11, 12, 13]) .nil)) (by kernel_rfl) (by kernel_rfl) (fun _ _ _ _ hd_ h_ => ⟨hd_.symm.trans h_.1, h_.2⟩) ⟨⟨World.drew _, (hkz).1⟩, rfl⟩ ?_
    have hk_ := hkz
    refine wpTr_step ?_
    simp only [pickOps, List.flatMap_cons, List.flatMap_nil, List.drop_succ_cons, List.drop_zero, List.take_succ_cons, List.take_zero, List.cons_append, List.nil_append, List.append_nil]
    iterate 8 (go_big_quiet_step (exact rfl))
    refine wpQuiet_nil ?_
    refine wpTr_one ?_
    simp only [pickOps, List.flatMap_cons, List.flatMap_nil, List.drop_succ_cons, List.drop_zero, List.take_succ_cons, List.take_zero, List.cons_append, List.nil_append, List.append_nil]
    go_wp2_with (first
      | (go_at_call 120; refine (Get64r_ok _ _ S (8 * (i % 4)) (seesB_key hk_.has.2 HSL.out) (by omega) (by rw [HSL.out]; omega)).mono ?_; rintro e y1 ⟨rfl, rfl⟩; rw [← HW.out]))
    refine phPost_hold (by first | with_reducible assumption | exact HoldT.alloc hstab (by with_reducible assumption) _ | exact HoldT.alloc hstab (HoldT.alloc hstab (by with_reducible assumption) _) _) ?_
    intro hk_
    refine wpTr_fin ?_
    simp only [pickOps, List.flatMap_cons, List.flatMap_nil, List.drop_succ_cons, List.drop_zero, List.take_succ_cons, List.take_zero, List.cons_append, List.nil_append, List.append_nil]
    iterate 5 (go_big_quiet_step (exact rfl))
    refine wpQuiet_nil ?_
    have hci := strm_i hk_.has.1 HK.out
    have hfi := Blk.free hk_.has.1 33
    have hend := Blk.set hk_.has.1 33 (.int .u64 (i + 1))
    rw [strmC_set seed name i (i + 1) HK.out] at hend
    have hgr := grownBy_set ((show Ext w _ from hk_.up).g (some g)) 33 (.int .u64 (i + 1))
    go_wp2_with fail
    go_ret
    exact ⟨rfl, hend, hgr⟩
  refine wpTr_one ?_
  simp only [pickOps, List.flatMap_cons, List.flatMap_nil, List.drop_succ_cons, List.drop_zero, List.take_succ_cons, List.take_zero, List.cons_append, List.nil_append, List.append_nil]
  go_wp2_with (first
    | (at_builtin; refine appB (W := w) rfl _ _ rfl (.slice none 0 0) [] rfl (ownB_nil _ _) _ seed rfl (strm_seed hk_.has HK.out) (by rw [HK.out, List.length_nil]; decide) hk_.up ?_; intro v1 x1 hown1 hg1 hb1; rw [List.nil_append] at hown1; have e1 := ext_none hg1; clear hg1; have hk1 := HoldT.step hstab hk_ e1)
    | (refine wpList_strB rfl _ rfl name rfl (by omega) ?_; intro x2 v2 hs2 ho2 e2; have hk2 := HoldT.step hstab hk_ e2)
    | (go_at_call 71; refine (Put64r_any _ _ [] (i / 4) (Sees.nil _ _) (by omega) (by omega) (by decide)).mono ?_; rintro e x3 ⟨v3, rfl, hown3, hb3⟩; rw [List.nil_append] at hown3; have e3 : Ext _ x3 := hb3; have hk3 := HoldT.step hstab hk_ e3)
    | (refine wpList_allocB rfl _ rfl _ run_allocKey ?_; intro x4 B4 hh hB4 e4; have hlt4 : g < B4 := Nat.lt_of_lt_of_le (Blk.lt hk_.has) hB4; have hlw4 : w.heap.size ≤ B4 := Nat.le_trans hk_.up.size hB4; have hk4 := HoldT.step hstab hk_ e4)
    | (refine wpList_lit3 rfl _ _ _ rfl _ _ _ seed name (put64 (i / 4).toNat) rfl rfl rfl (owns_one hown1) ho2 (owns_one hown3) (exB (sees_of_owns hown1)) (exB hs2) (exB (sees_of_owns hown3)) ?_; intro x5 B5 hbb e5; have hk5 := HoldT.step hstab hk_ e5)
    | (go_at_call 60; refine (Partsr_any _ _ [seed, name, put64 (i / 4).toNat] (exBB hbb) HFL.out).mono ?_; rintro e x6 ⟨rfl, hb6⟩; rw [HS.out]; have e6 : Ext _ x6 := hb6; have hk6 := HoldT.step hstab hk_ e6)
    | (refine wpList_store_row rfl 23 _ _ rfl B4 (keyA S) _ _ rfl rfl (exK hh) (by rw [keyA_size, keyA_size, HSL.out]; rfl) (by rw [keyA_size, HSL.out]; exact info_key) (keyA_one _) ?_; intro x7 hg7 hs7 hR7
       have hk7 : HoldT (StrB g seed name i) w x7 := ⟨Blk.grownBy hk_.has hg7 (some_ne (by omega)), hk_.up.grown hg7 hk_.up.size (fun k hk => by cases hk; exact hlw4)⟩))
  refine phPost_hold (by first | with_reducible assumption | exact HoldT.alloc hstab (by with_reducible assumption) _ | exact HoldT.alloc hstab (HoldT.alloc hstab (by with_reducible assumption) _) _) ?_
  intro hk_
  refine wpTr_step ?_
  simp only [pickOps, List.flatMap_nil]
  refine wpQuiet_nil ?_
  refine wpTr_one ?_
  simp only [pickOps, List.flatMap_cons, List.flatMap_nil, List.drop_succ_cons, List.drop_zero, List.take_succ_cons, List.take_zero, List.cons_append, List.nil_append, List.append_nil]
  go_wp2_with (first
    | (at_builtin; refine appB (W := w) rfl _ _ rfl (.slice none 0 0) [] rfl (ownB_nil _ _) _ seed rfl (strm_seed hk_.has HK.out) (by rw [HK.out, List.length_nil]; decide) hk_.up ?_; intro v1 x1 hown1 hg1 hb1; rw [List.nil_append] at hown1; have e1 := ext_none hg1; clear hg1; have hk1 := HoldT.step hstab hk_ e1)
    | (refine wpList_strB rfl _ rfl name rfl (by omega) ?_; intro x2 v2 hs2 ho2 e2; have hk2 := HoldT.step hstab hk_ e2)
    | (go_at_call 71; refine (Put64r_any _ _ [] (i / 4) (Sees.nil _ _) (by omega) (by omega) (by decide)).mono ?_; rintro e x3 ⟨v3, rfl, hown3, hb3⟩; rw [List.nil_append] at hown3; have e3 : Ext _ x3 := hb3; have hk3 := HoldT.step hstab hk_ e3)
    | (refine wpList_allocB rfl _ rfl _ run_allocKey ?_; intro x4 B4 hh hB4 e4; have hlt4 : g < B4 := Nat.lt_of_lt_of_le (Blk.lt hk_.has) hB4; have hlw4 : w.heap.size ≤ B4 := Nat.le_trans hk_.up.size hB4; have hk4 := HoldT.step hstab hk_ e4)
    | (refine wpList_lit3 rfl _ _ _ rfl _ _ _ seed name (put64 (i / 4).toNat) rfl rfl rfl (owns_one hown1) ho2 (owns_one hown3) (exB (sees_of_owns hown1)) (exB hs2) (exB (sees_of_owns hown3)) ?_; intro x5 B5 hbb e5; have hk5 := HoldT.step hstab hk_ e5)
    | (go_at_call 60; refine (Partsr_any _ _ [seed, name, put64 (i / 4).toNat] (exBB hbb) HFL.out).mono ?_; rintro e x6 ⟨rfl, hb6⟩; rw [HS.out]; have e6 : Ext _ x6 := hb6; have hk6 := HoldT.step hstab hk_ e6)
    | (refine wpList_store_row rfl 23 _ _ rfl B4 (keyA S) _ _ rfl rfl (exK hh) (by rw [keyA_size, keyA_size, HSL.out]; rfl) (by rw [keyA_size, HSL.out]; exact info_key) (keyA_one _) ?_; intro x7 hg7 hs7 hR7
       have hk7 : HoldT (StrB g seed name i) w x7 := ⟨Blk.grownBy hk_.has hg7 (some_ne (by omega)), hk_.up.grown hg7 hk_.up.size (fun k hk => by cases hk; exact hlw4)⟩))
  refine phPost_hold (by first | with_reducible assumption | exact HoldT.alloc hstab (by with_reducible assumption) _ | exact HoldT.alloc hstab (HoldT.alloc hstab (by with_reducible assumption) _) _) ?_
  intro hk_
  refine wpTr_step ?_
  simp only [pickOps, List.flatMap_nil]
  refine wpQuiet_nil ?_
  refine wpTr_one ?_
  simp only [pickOps, List.flatMap_cons, List.flatMap_nil, List.drop_succ_cons, List.drop_zero, List.take_succ_cons, List.take_zero, List.cons_append, List.nil_append, List.append_nil]
  go_wp2_with (first
    | (at_builtin; refine appB (W := w) rfl _ _ rfl (.slice none 0 0) [] rfl (ownB_nil _ _) _ seed rfl (strm_seed hk_.has HK.out) (by rw [HK.out, List.length_nil]; decide) hk_.up ?_; intro v1 x1 hown1 hg1 hb1; rw [List.nil_append] at hown1; have e1 := ext_none hg1; clear hg1; have hk1 := HoldT.step hstab hk_ e1)
    | (refine wpList_strB rfl _ rfl name rfl (by omega) ?_; intro x2 v2 hs2 ho2 e2; have hk2 := HoldT.step hstab hk_ e2)
    | (go_at_call 71; refine (Put64r_any _ _ [] (i / 4) (Sees.nil _ _) (by omega) (by omega) (by decide)).mono ?_; rintro e x3 ⟨v3, rfl, hown3, hb3⟩; rw [List.nil_append] at hown3; have e3 : Ext _ x3 := hb3; have hk3 := HoldT.step hstab hk_ e3)
    | (refine wpList_allocB rfl _ rfl _ run_allocKey ?_; intro x4 B4 hh hB4 e4; have hlt4 : g < B4 := Nat.lt_of_lt_of_le (Blk.lt hk_.has) hB4; have hlw4 : w.heap.size ≤ B4 := Nat.le_trans hk_.up.size hB4; have hk4 := HoldT.step hstab hk_ e4)
    | (refine wpList_lit3 rfl _ _ _ rfl _ _ _ seed name (put64 (i / 4).toNat) rfl rfl rfl (owns_one hown1) ho2 (owns_one hown3) (exB (sees_of_owns hown1)) (exB hs2) (exB (sees_of_owns hown3)) ?_; intro x5 B5 hbb e5; have hk5 := HoldT.step hstab hk_ e5)
    | (go_at_call 60; refine (Partsr_any _ _ [seed, name, put64 (i / 4).toNat] (exBB hbb) HFL.out).mono ?_; rintro e x6 ⟨rfl, hb6⟩; rw [HS.out]; have e6 : Ext _ x6 := hb6; have hk6 := HoldT.step hstab hk_ e6)
    | (refine wpList_store_row rfl 23 _ _ rfl B4 (keyA S) _ _ rfl rfl (exK hh) (by rw [keyA_size, keyA_size, HSL.out]; rfl) (by rw [keyA_size, HSL.out]; exact info_key) (keyA_one _) ?_; intro x7 hg7 hs7 hR7
       have hk7 : HoldT (StrB g seed name i) w x7 := ⟨Blk.grownBy hk_.has hg7 (some_ne (by omega)), hk_.up.grown hg7 hk_.up.size (fun k hk => by cases hk; exact hlw4)⟩))
  refine phPost_hold (by first | with_reducible assumption | exact HoldT.alloc hstab (by with_reducible assumption) _ | exact HoldT.alloc hstab (HoldT.alloc hstab (by with_reducible assumption) _) _) ?_
  intro hk_
  refine wpTr_step ?_
  simp only [pickOps, List.flatMap_nil]
  refine wpQuiet_nil ?_
  refine wpTr_one ?_
  simp only [pickOps, List.flatMap_cons, List.flatMap_nil, List.drop_succ_cons, List.drop_zero, List.take_succ_cons, List.take_zero, List.cons_append, List.nil_append, List.append_nil]
  go_wp2_with (first
    | (at_builtin; refine appB (W := w) rfl _ _ rfl (.slice none 0 0) [] rfl (ownB_nil _ _) _ seed rfl (strm_seed hk_.has HK.out) (by rw [HK.out, List.length_nil]; decide) hk_.up ?_; intro v1 x1 hown1 hg1 hb1; rw [List.nil_append] at hown1; have e1 := ext_none hg1; clear hg1; have hk1 := HoldT.step hstab hk_ e1)
    | (refine wpList_strB rfl _ rfl name rfl (by omega) ?_; intro x2 v2 hs2 ho2 e2; have hk2 := HoldT.step hstab hk_ e2)
    | (go_at_call 71; refine (Put64r_any _ _ [] (i / 4) (Sees.nil _ _) (by omega) (by omega) (by decide)).mono ?_; rintro e x3 ⟨v3, rfl, hown3, hb3⟩; rw [List.nil_append] at hown3; have e3 : Ext _ x3 := hb3; have hk3 := HoldT.step hstab hk_ e3)
    | (refine wpList_allocB rfl _ rfl _ run_allocKey ?_; intro x4 B4 hh hB4 e4; have hlt4 : g < B4 := Nat.lt_of_lt_of_le (Blk.lt hk_.has) hB4; have hlw4 : w.heap.size ≤ B4 := Nat.le_trans hk_.up.size hB4; have hk4 := HoldT.step hstab hk_ e4)
    | (refine wpList_lit3 rfl _ _ _ rfl _ _ _ seed name (put64 (i / 4).toNat) rfl rfl rfl (owns_one hown1) ho2 (owns_one hown3) (exB (sees_of_owns hown1)) (exB hs2) (exB (sees_of_owns hown3)) ?_; intro x5 B5 hbb e5; have hk5 := HoldT.step hstab hk_ e5)
    | (go_at_call 60; refine (Partsr_any _ _ [seed, name, put64 (i / 4).toNat] (exBB hbb) HFL.out).mono ?_; rintro e x6 ⟨rfl, hb6⟩; rw [HS.out]; have e6 : Ext _ x6 := hb6; have hk6 := HoldT.step hstab hk_ e6)
    | (refine wpList_store_row rfl 23 _ _ rfl B4 (keyA S) _ _ rfl rfl (exK hh) (by rw [keyA_size, keyA_size, HSL.out]; rfl) (by rw [keyA_size, HSL.out]; exact info_key) (keyA_one _) ?_; intro x7 hg7 hs7 hR7
       have hk7 : HoldT (StrB g seed name i) w x7 := ⟨Blk.grownBy hk_.has hg7 (some_ne (by omega)), hk_.up.grown hg7 hk_.up.size (fun k hk => by cases hk; exact hlw4)⟩))
  refine phPost_hold (by first | with_reducible assumption | exact HoldT.alloc hstab (by with_reducible assumption) _ | exact HoldT.alloc hstab (HoldT.alloc hstab (by with_reducible assumption) _) _) ?_
  intro hk_
  refine wpTr_step ?_
  simp only [pickOps, List.flatMap_nil]
  refine wpQuiet_nil ?_
  refine wpTr_one ?_
  simp only [pickOps, List.flatMap_cons, List.flatMap_nil, List.drop_succ_cons, List.drop_zero, List.take_succ_cons, List.take_zero, List.cons_append, List.nil_append, List.append_nil]
  go_wp2_with (first
    | (at_builtin; refine appB (W := w) rfl _ _ rfl (.slice none 0 0) [] rfl (ownB_nil _ _) _ seed rfl (strm_seed hk_.has HK.out) (by rw [HK.out, List.length_nil]; decide) hk_.up ?_; intro v1 x1 hown1 hg1 hb1; rw [List.nil_append] at hown1; have e1 := ext_none hg1; clear hg1; have hk1 := HoldT.step hstab hk_ e1)
    | (refine wpList_strB rfl _ rfl name rfl (by omega) ?_; intro x2 v2 hs2 ho2 e2; have hk2 := HoldT.step hstab hk_ e2)
    | (go_at_call 71; refine (Put64r_any _ _ [] (i / 4) (Sees.nil _ _) (by omega) (by omega) (by decide)).mono ?_; rintro e x3 ⟨v3, rfl, hown3, hb3⟩; rw [List.nil_append] at hown3; have e3 : Ext _ x3 := hb3; have hk3 := HoldT.step hstab hk_ e3)
    | (refine wpList_allocB rfl _ rfl _ run_allocKey ?_; intro x4 B4 hh hB4 e4; have hlt4 : g < B4 := Nat.lt_of_lt_of_le (Blk.lt hk_.has) hB4; have hlw4 : w.heap.size ≤ B4 := Nat.le_trans hk_.up.size hB4; have hk4 := HoldT.step hstab hk_ e4)
    | (refine wpList_lit3 rfl _ _ _ rfl _ _ _ seed name (put64 (i / 4).toNat) rfl rfl rfl (owns_one hown1) ho2 (owns_one hown3) (exB (sees_of_owns hown1)) (exB hs2) (exB (sees_of_owns hown3)) ?_; intro x5 B5 hbb e5; have hk5 := HoldT.step hstab hk_ e5)
    | (go_at_call 60; refine (Partsr_any _ _ [seed, name, put64 (i / 4).toNat] (exBB hbb) HFL.out).mono ?_; rintro e x6 ⟨rfl, hb6⟩; rw [HS.out]; have e6 : Ext _ x6 := hb6; have hk6 := HoldT.step hstab hk_ e6)
    | (refine wpList_store_row rfl 23 _ _ rfl B4 (keyA S) _ _ rfl rfl (exK hh) (by rw [keyA_size, keyA_size, HSL.out]; rfl) (by rw [keyA_size, HSL.out]; exact info_key) (keyA_one _) ?_; intro x7 hg7 hs7 hR7
       have hk7 : HoldT (StrB g seed name i) w x7 := ⟨Blk.grownBy hk_.has hg7 (some_ne (by omega)), hk_.up.grown hg7 hk_.up.size (fun k hk => by cases hk; exact hlw4)⟩))
  refine phPost_hold (by first | with_reducible assumption | exact HoldT.alloc hstab (by with_reducible assumption) _ | exact HoldT.alloc hstab (HoldT.alloc hstab (by with_reducible assumption) _) _) ?_
  intro hk_
  refine wpTr_step ?_
  simp only [pickOps, List.flatMap_nil]
  refine wpQuiet_nil ?_
  refine wpTr_one ?_
  simp only [pickOps, List.flatMap_cons, List.flatMap_nil, List.drop_succ_cons, List.drop_zero, List.take_succ_cons, List.take_zero, List.cons_append, List.nil_append, List.append_nil]
  go_wp2_with (first
    | (at_builtin; refine appB (W := w) rfl _ _ rfl (.slice none 0 0) [] rfl (ownB_nil _ _) _ seed rfl (strm_seed hk_.has HK.out) (by rw [HK.out, List.length_nil]; decide) hk_.up ?_; intro v1 x1 hown1 hg1 hb1; rw [List.nil_append] at hown1; have e1 := ext_none hg1; clear hg1; have hk1 := HoldT.step hstab hk_ e1)
    | (refine wpList_strB rfl _ rfl name rfl (by omega) ?_; intro x2 v2 hs2 ho2 e2; have hk2 := HoldT.step hstab hk_ e2)
    | (go_at_call 71; refine (Put64r_any _ _ [] (i / 4) (Sees.nil _ _) (by omega) (by omega) (by decide)).mono ?_; rintro e x3 ⟨v3, rfl, hown3, hb3⟩; rw [List.nil_append] at hown3; have e3 : Ext _ x3 := hb3; have hk3 := HoldT.step hstab hk_ e3)
    | (refine wpList_allocB rfl _ rfl _ run_allocKey ?_; intro x4 B4 hh hB4 e4; have hlt4 : g < B4 := Nat.lt_of_lt_of_le (Blk.lt hk_.has) hB4; have hlw4 : w.heap.size ≤ B4 := Nat.le_trans hk_.up.size hB4; have hk4 := HoldT.step hstab hk_ e4)
    | (refine wpList_lit3 rfl _ _ _ rfl _ _ _ seed name (put64 (i / 4).toNat) rfl rfl rfl (owns_one hown1) ho2 (owns_one hown3) (exB (sees_of_owns hown1)) (exB hs2) (exB (sees_of_owns hown3)) ?_; intro x5 B5 hbb e5; have hk5 := HoldT.step hstab hk_ e5)
    | (go_at_call 60; refine (Partsr_any _ _ [seed, name, put64 (i / 4).toNat] (exBB hbb) HFL.out).mono ?_; rintro e x6 ⟨rfl, hb6⟩; rw [HS.out]; have e6 : Ext _ x6 := hb6; have hk6 := HoldT.step hstab hk_ e6)
    | (refine wpList_store_row rfl 23 _ _ rfl B4 (keyA S) _ _ rfl rfl (exK hh) (by rw [keyA_size, keyA_size, HSL.out]; rfl) (by rw [keyA_size, HSL.out]; exact info_key) (keyA_one _) ?_; intro x7 hg7 hs7 hR7
       have hk7 : HoldT (StrB g seed name i) w x7 := ⟨Blk.grownBy hk_.has hg7 (some_ne (by omega)), hk_.up.grown hg7 hk_.up.size (fun k hk => by cases hk; exact hlw4)⟩))
  refine phPost_hold (by first | with_reducible assumption | exact HoldT.alloc hstab (by with_reducible assumption) _ | exact HoldT.alloc hstab (HoldT.alloc hstab (by with_reducible assumption) _) _) ?_
  intro hk_
  refine wpTr_fin ?_
  simp only [pickOps, List.flatMap_nil]
  refine wpQuiet_nil ?_
  have hstab2 : Stab (fun u => StrB g seed name i u ∧ KE2 B4 S u) := Stab.and (stabStrB g seed name i) (Stab.blk _ _ _)
  have hkz : HoldT (fun u => StrB g seed name i u ∧ KE2 B4 S u) w x7.drew := HoldT.drew hstab2 ⟨⟨hk_.has, hR7⟩, hk_.up⟩
  have hT1 : ∀ e : InC (fun u => StrB g seed name i u ∧ KE2 B4 S u), e.u.cell? ⟨g, 33, none⟩ = some (.int .u64 i) := fun e => strm_i e.has.1 HK.out
  clear hg7 hs7 hR7
  go_wp2_with fail
  try change Code.wp _ _ _ (Act.mk _ _) _
  haveI hne_ : Nonempty (InC (fun u => StrB g seed name i u ∧ KE2 B4 S u)) := ⟨⟨_, (hkz).1⟩⟩
  refine wp_region_tr (C := fun w_ => ∃ e_ : InC (fun u => StrB g seed name i u ∧ KE2 B4 S u), w_ = e_.u) (.step [0, 1, 2, 3, 4, 5, 6, 7] (.alt 8 (.fin [9, 10, 11, 12, 13]) .nil)) (by kernel_rfl) (by kernel_rfl) (fun _ _ _ _ hd_ h_ => ⟨hd_.symm.trans h_.1, h_.2⟩) ⟨⟨World.drew _, (hkz).1⟩, rfl⟩ ?_
  have hk_ := hkz
  refine wpTr_step ?_
  simp only [pickOps, List.flatMap_cons, List.flatMap_nil, List.drop_succ_cons, List.drop_zero, List.take_succ_cons, List.take_zero, List.cons_append, List.nil_append, List.append_nil]
  iterate 8 (go_big_quiet_step (exact rfl))
  refine wpQuiet_nil ?_
  refine wpTr_one ?_
  simp only [pickOps, List.flatMap_cons, List.flatMap_nil, List.drop_succ_cons, List.drop_zero, List.take_succ_cons, List.take_zero, List.cons_append, List.nil_append, List.append_nil]
  go_wp2_with (first
    | (go_at_call 120; refine (Get64r_ok _ _ S (8 * (i % 4)) (seesB_key hk_.has.2 HSL.out) (by omega) (by rw [HSL.out]; omega)).mono ?_; rintro e y1 ⟨rfl, rfl⟩; rw [← HW.out]))
  refine phPost_hold (by first | with_reducible assumption | exact HoldT.alloc hstab (by with_reducible assumption) _ | exact HoldT.alloc hstab (HoldT.alloc hstab (by with_reducible assumption) _) _) ?_
  intro hk_
  refine wpTr_fin ?_
  simp only [pickOps, List.flatMap_cons, List.flatMap_nil, List.drop_succ_cons, List.drop_zero, List.take_succ_cons, List.take_zero, List.cons_append, List.nil_append, List.append_nil]
  iterate 5 (go_big_quiet_step (exact rfl))
  refine wpQuiet_nil ?_
  have hci := strm_i hk_.has.1 HK.out
  have hfi := Blk.free hk_.has.1 33
  have hend := Blk.set hk_.has.1 33 (.int .u64 (i + 1))
  rw [strmC_set seed name i (i + 1) HK.out] at hend
  have hgr := grownBy_set ((show Ext w _ from hk_.up).g (some g)) 33 (.int .u64 (i + 1))
  go_wp2_with fail
  go_ret
  exact ⟨rfl, hend, hgr⟩
end Go.Proofs.Yteialfdhbfbkgaa
