/-
  What a hop answers in a blame: the reference.
-/
import Derived.Test.YtnmniblaefjekaaBl10
namespace Go.Proofs.Ytnmniblaefjekaa
set_option linter.unusedVariables false
set_option linter.unusedSimpArgs false
open Go Go.RowKit

/-- A value made of another one, of which something is known. -/
def Ph.map {R : World → World → Prop} (f : Value → Value) (φ : Ph R) : Ph R := ⟨fun v u => ∃ v', v = f v' ∧ φ.p v' u, fun _ _ _ ⟨v', h1, h2⟩ e => ⟨v', h1, φ.st v' _ _ h2 e⟩⟩
theorem run_allocStp (w : World) : (Instr.alloc 42 true (.tuple #[])).run Try.prog w = .ok (.pointer (some ⟨w.heap.size, 0, none⟩)) (w.alloc (.cells StpZ 42)) := by simp [go_sem]
abbrev StpP (frm x : Int) (v : Value) (sh bc bs mc ms : Int) : Array Value := #[.int .i64 frm, .int .u64 x, v, .int .u64 sh, .int .u64 bc, .int .u64 bs, .int .u64 mc, .int .u64 ms]
theorem one_stp (frm x : Int) (a : Option Addr) (n c : Nat) (sh bc bs mc ms : Int) : ∀ v ∈ (StpP frm x (.slice a n c) sh bc bs mc ms).toList, v.oneCell' = true := by
  intro v hv; simp at hv; rcases hv with rfl | rfl | rfl | rfl | rfl | rfl | rfl | rfl <;> rfl
set_option maxRecDepth 100000 in
set_option maxHeartbeats 4000000 in
theorem BAnswerr_any (s : Sec) (p : Pub) (frm : Int) (e : Ent) (a b : Int) (ve : Value) (w : World) (hs : s.ok) (hp : p.ok) (he : e.ok) (ha : in64 a) (hb : in64 b) (hve : SeesB w ve e.box) (hl : e.box.length ≤ 20000000000000) :
    Calls Try.prog 20 #[.agg s.cells.toArray, .agg p.cells.toArray, .int .i64 frm, .agg #[.int .u64 e.x, ve], .int .u64 a, .int .u64 b] w (RetSt (answerL s p frm e a b) w) := by
  obtain ⟨ae, ce, rfl, -, -⟩ := sees_form hve
  have hst : Stab (fun u => AnC w s.cells.toArray p.cells.toArray #[.int .u64 e.x, .slice ae e.box.length ce] StpZ u ∧ SeesB u (.slice ae e.box.length ce) e.box) := Stab.and (stabAnC _ _ _ _ _) (Stab.sees _ _ _ _ (by decide))
  have hk : HoldT (fun u => AnC w s.cells.toArray p.cells.toArray #[.int .u64 e.x, .slice ae e.box.length ce] StpZ u ∧ SeesB u (.slice ae e.box.length ce) e.box) w ((((w.alloc (.cells s.cells.toArray 53)).alloc (.cells p.cells.toArray 39)).alloc (.cells #[.int .u64 e.x, .slice ae e.box.length ce] 27)).alloc (.cells StpZ 42)).drew :=
    HoldT.drew hst ⟨⟨⟨((Blk.new _ _ _).alloc _ |>.alloc _ |>.alloc _), (Blk.new2 _ _ _ _).alloc _ |>.alloc _, (Blk.new3 _ _ _ _ _).alloc _, Blk.new4 _ _ _ _ _ _⟩, hve.below (show Ext w _ from (show Below w.heap.size w _ by go_grown)) (by decide)⟩, (show Below w.heap.size w _ by go_grown)⟩
  have HK := Lib.hid hk
  have HT1 := Lib.hid fun (w' : World) => Timesr_any e.x s.mix w' he.1 he.2 hs.2.1.1 hs.2.1.2
  have HTB := Lib.hid fun (w' : World) => Timesr_any e.x s.blind w' he.1 he.2 hs.1.1 hs.1.2
  have HE1 := Lib.hid fun (w' : World) => Equalr_any p.base p.blind e.x (timesP e.x s.blind) s.blind a w' hp.1 hp.2.1 he (in64_P (timesP_pos _ _)) hs.1 ha
  have HE2 := Lib.hid fun (w' : World) => Equalr_any p.base p.mix e.x (timesP e.x s.mix) s.mix b w' hp.1 hp.2.2.1 he (in64_P (timesP_pos _ _)) hs.2.1 hb
  have HPZ := Lib.hid (show p.cells.toArray.size = 10 by rw [List.size_toArray, p.length_cells])
  have HAN := Lib.hid fun (v : Value) => (show stpC (answerL s p frm e a b) v = StpP frm e.x v (timesP e.x s.mix) (equalC p.base p.blind e.x (timesP e.x s.blind) a) (ansP (equalC p.base p.blind e.x (timesP e.x s.blind) a) s.blind a) (equalC p.base p.mix e.x (timesP e.x s.mix) b) (ansP (equalC p.base p.mix e.x (timesP e.x s.mix) b) s.mix b) from rfl)
  have HBX := Lib.hid (show (answerL s p frm e a b).e.box = e.box from rfl)
  generalize answerL s p frm e a b = AL at *
  generalize ansP (equalC p.base p.blind e.x (timesP e.x s.blind) a) s.blind a = q1s at *
  generalize ansP (equalC p.base p.mix e.x (timesP e.x s.mix) b) s.mix b = q2s at *
  generalize equalC p.base p.blind e.x (timesP e.x s.blind) a = q1c at *
  generalize equalC p.base p.mix e.x (timesP e.x s.mix) b = q2c at *
  generalize timesP e.x s.mix = SH at *
  generalize timesP e.x s.blind = XB at *
  clear hk hve
  go_enter Try.func20, Try.ntmps20
  go_wp2_with fail
  have hk := HK.out
  try change Code.wp _ _ _ (Act.mk _ _) _
  refine wp_region_runR Ext 14 57 (HoldT (fun u => AnC w s.cells.toArray p.cells.toArray #[.int .u64 e.x, .slice ae e.box.length ce] StpZ u ∧ SeesB u (.slice ae e.box.length ce) e.box) _) [[], [], [(1, 15)], [], [(3, 17)], [(4, 18)], [(2, 16), (5, 19)], [], [(7, 21)], [], [(9, 23)], [(8, 22), (10, 24)], [(0, 14), (6, 20), (11, 25)], []] [(0, 14), (1, 15), (2, 16), (3, 17), (4, 18), (5, 19), (6, 20), (7, 21), (8, 22), (9, 23), (10, 24), (11, 25), (12, 26), (13, 13)] (by kernel_rfl) (by kernel_rfl) (by first | rfl | simp) (hk) ?_
  simp only [List.take_succ_cons, List.take_zero, List.drop_succ_cons, List.drop_zero]
  refine sp_op (Ph.eq _) (fun u hu => by
    refine spArg_nil ?_
    have k1 := sec_cell hu.has.1.1
    have k2 := pub_cell hu.has.1.2.1
    have k3 := ent_cell hu.has.1.2.2.1
    go_wp2_with (fail)
    exact ⟨rfl, hu, Ext.refl _, slot_eq rfl⟩) ?_
  refine sp_op (Ph.eq _) (fun u hu => by
    refine spArg_nil ?_
    have k1 := sec_cell hu.has.1.1
    have k2 := pub_cell hu.has.1.2.1
    have k3 := ent_cell hu.has.1.2.2.1
    go_wp2_with (fail)
    exact ⟨rfl, hu, Ext.refl _, slot_eq rfl⟩) ?_
  refine sp_op (Ph.eq _) (fun u hu => by
    refine spArg_eq 0 rfl rfl ?_
    refine spArg_nil ?_
    simp only [Act.put, List.setIfInBounds_toArray, List.set_cons_succ, List.set_cons_zero]
    have k1 := sec_cell hu.has.1.1
    have k2 := pub_cell hu.has.1.2.1
    have k3 := ent_cell hu.has.1.2.2.1
    go_wp2_with (fail)
    exact ⟨rfl, hu, Ext.refl _, slot_eq rfl⟩) ?_
  refine sp_op (Ph.eq _) (fun u hu => by
    refine spArg_nil ?_
    have k1 := sec_cell hu.has.1.1
    have k2 := pub_cell hu.has.1.2.1
    have k3 := ent_cell hu.has.1.2.2.1
    go_wp2_with (fail)
    exact ⟨rfl, hu, Ext.refl _, slot_eq rfl⟩) ?_
  refine sp_op (Ph.eq _) (fun u hu => by
    refine spArg_eq 0 rfl rfl ?_
    refine spArg_nil ?_
    simp only [Act.put, List.setIfInBounds_toArray, List.set_cons_succ, List.set_cons_zero]
    have k1 := sec_cell hu.has.1.1
    have k2 := pub_cell hu.has.1.2.1
    have k3 := ent_cell hu.has.1.2.2.1
    go_wp2_with (fail)
    exact ⟨rfl, hu, Ext.refl _, slot_eq rfl⟩) ?_
  refine sp_op (Ph.ownB w.heap.size e.box) (fun u hu => by
    refine spArg_eq 0 rfl rfl ?_
    refine spArg_nil ?_
    simp only [Act.put, List.setIfInBounds_toArray, List.set_cons_succ, List.set_cons_zero]
    have k1 := sec_cell hu.has.1.1
    have k2 := pub_cell hu.has.1.2.1
    have k3 := ent_cell hu.has.1.2.2.1
    go_wp2_with ((at_builtin; refine appB (W := w) rfl _ _ rfl _ [] rfl (ownB_nil _ _) _ e.box rfl hu.has.2 (by simp only [List.length_nil]; omega) hu.up ?_; intro v_ u_ how_ hg_ hb_))
    exact ⟨rfl, HoldT.step hst hu (ext_none hg_), ext_none hg_, slot_of rfl (show OwnB _ _ _ _ from (by simpa using how_))⟩) ?_
  refine sp_op (Ph.map (fun v => .agg #[.int .u64 e.x, v]) (Ph.ownB w.heap.size e.box)) (fun u hu => by
    refine spArg_eq 3 rfl rfl ?_
    refine spArg_in (φ := Ph.ownB w.heap.size e.box) 0 rfl rfl ?_; intro v5 h5
    obtain ⟨a5, c5, rfl, -, -⟩ := owns_form h5
    refine spArg_nil ?_
    simp only [Act.put, List.setIfInBounds_toArray, List.set_cons_succ, List.set_cons_zero]
    have k1 := sec_cell hu.has.1.1
    have k2 := pub_cell hu.has.1.2.1
    have k3 := ent_cell hu.has.1.2.2.1
    go_wp2_with (fail)
    exact ⟨rfl, hu, Ext.refl _, slot_of rfl ⟨_, rfl, h5⟩⟩) ?_
  refine sp_op (Ph.eq _) (fun u hu => by
    refine spArg_nil ?_
    have k1 := sec_cell hu.has.1.1
    have k2 := pub_cell hu.has.1.2.1
    have k3 := ent_cell hu.has.1.2.2.1
    go_wp2_with (fail)
    exact ⟨rfl, hu, Ext.refl _, slot_eq rfl⟩) ?_
  refine sp_op (Ph.eq _) (fun u hu => by
    refine spArg_eq 0 rfl rfl ?_
    refine spArg_nil ?_
    simp only [Act.put, List.setIfInBounds_toArray, List.set_cons_succ, List.set_cons_zero]
    have k1 := sec_cell hu.has.1.1
    have k2 := pub_cell hu.has.1.2.1
    have k3 := ent_cell hu.has.1.2.2.1
    go_wp2_with (fail)
    exact ⟨rfl, hu, Ext.refl _, slot_eq rfl⟩) ?_
  refine sp_op (Ph.eq _) (fun u hu => by
    refine spArg_nil ?_
    have k1 := sec_cell hu.has.1.1
    have k2 := pub_cell hu.has.1.2.1
    have k3 := ent_cell hu.has.1.2.2.1
    go_wp2_with (fail)
    exact ⟨rfl, hu, Ext.refl _, slot_eq rfl⟩) ?_
  refine sp_op (Ph.eq _) (fun u hu => by
    refine spArg_eq 0 rfl rfl ?_
    refine spArg_nil ?_
    simp only [Act.put, List.setIfInBounds_toArray, List.set_cons_succ, List.set_cons_zero]
    have k1 := sec_cell hu.has.1.1
    have k2 := pub_cell hu.has.1.2.1
    have k3 := ent_cell hu.has.1.2.2.1
    go_wp2_with (fail)
    exact ⟨rfl, hu, Ext.refl _, slot_eq rfl⟩) ?_
  refine sp_op (Ph.eq _) (fun u hu => by
    refine spArg_eq 2 rfl rfl ?_
    refine spArg_eq 0 rfl rfl ?_
    refine spArg_nil ?_
    simp only [Act.put, List.setIfInBounds_toArray, List.set_cons_succ, List.set_cons_zero]
    have k1 := sec_cell hu.has.1.1
    have k2 := pub_cell hu.has.1.2.1
    have k3 := ent_cell hu.has.1.2.2.1
    go_wp2_with ((go_at_call 44; refine (HT1.out _).mono ?_; rintro e_ x_ ⟨rfl, rfl⟩))
    exact ⟨rfl, hu, Ext.refl _, slot_eq rfl⟩) ?_
  refine sp_op (Ph.map (fun v => .agg (StpP frm e.x v SH 0 0 0 0)) (Ph.ownB w.heap.size e.box)) (fun u hu => by
    refine spArg_eq 11 rfl rfl ?_
    refine spArg_in (φ := Ph.map (fun v => .agg #[.int .u64 e.x, v]) (Ph.ownB w.heap.size e.box)) 5 rfl rfl ?_; intro v6 h6
    obtain ⟨v6', rfl, h6'⟩ := h6
    obtain ⟨a6, c6, rfl, -, -⟩ := owns_form h6'
    refine spArg_eq 0 rfl rfl ?_
    refine spArg_nil ?_
    simp only [Act.put, List.setIfInBounds_toArray, List.set_cons_succ, List.set_cons_zero]
    have k1 := sec_cell hu.has.1.1
    have k2 := pub_cell hu.has.1.2.1
    have k3 := ent_cell hu.has.1.2.2.1
    go_wp2_with (fail)
    exact ⟨rfl, hu, Ext.refl _, slot_of rfl ⟨_, rfl, h6'⟩⟩) ?_
  refine sp_op (Ph.blk (w.heap.size + 1 + 1 + 1 + 1) StpZ 42) (fun u hu => by
    refine spArg_nil ?_
    have k1 := sec_cell hu.has.1.1
    have k2 := pub_cell hu.has.1.2.1
    have k3 := ent_cell hu.has.1.2.2.1
    go_wp2_with ((refine wpList_allocB rfl _ rfl StpZ run_allocStp ?_; intro x_ B_ hh_ hB_ e_))
    exact ⟨rfl, HoldT.step hst hu e_, e_, slot_of rfl ⟨B_, rfl, (by have := hu.has.1.2.2.2.lt; omega), hh_⟩⟩) ?_
  refine sp_end ?_
  intro u hu
  refine spArg_eq 13 rfl rfl ?_
  refine spArg_eq 12 rfl rfl ?_
  refine spArg_eq 11 rfl rfl ?_
  refine spArg_eq 10 rfl rfl ?_
  refine spArg_eq 9 rfl rfl ?_
  refine spArg_in (φ := Ph.ownB w.heap.size e.box) 8 rfl rfl ?_; intro v5 h5
  obtain ⟨a5, c5, rfl, -, -⟩ := owns_form h5
  refine spArg_in (φ := Ph.map (fun v => .agg #[.int .u64 e.x, v]) (Ph.ownB w.heap.size e.box)) 7 rfl rfl ?_; intro v6 h6
  obtain ⟨v6', rfl, h6'⟩ := h6
  obtain ⟨a6, c6, rfl, -, -⟩ := owns_form h6'
  refine spArg_eq 6 rfl rfl ?_
  refine spArg_eq 5 rfl rfl ?_
  refine spArg_eq 4 rfl rfl ?_
  refine spArg_eq 3 rfl rfl ?_
  refine spArg_eq 2 rfl rfl ?_
  refine spArg_in (φ := Ph.map (fun v => .agg (StpP frm e.x v SH 0 0 0 0)) (Ph.ownB w.heap.size e.box)) 1 rfl rfl ?_; intro v12 h12
  obtain ⟨v12', rfl, h12'⟩ := h12
  obtain ⟨a12, c12, rfl, -, -⟩ := owns_form h12'
  refine spArg_in (φ := Ph.blk (w.heap.size + 1 + 1 + 1 + 1) StpZ 42) 0 rfl rfl ?_; intro v13 h13
  obtain ⟨g, rfl, hg0, hG⟩ := h13
  refine spArg_nil ?_
  simp only [Act.put, List.setIfInBounds_toArray, List.set_cons_succ, List.set_cons_zero]
  have h12 : OwnB u w.heap.size (.slice a12 e.box.length c12) e.box := h12'
  clear h5 h6' h12' hk HK
  go_wp2_with (refine wpList_store_row rfl 42 (.tmp 13) _ rfl g (StpP frm e.x (.slice a12 e.box.length c12) SH 0 0 0 0) _ _ rfl rfl hG rfl info_stp (one_stp _ _ _ _ _ _ _ _ _ _) ?_; intro x7 hg7 hs7 hR7)
  have hst2 : Stab (fun u => (AnC w s.cells.toArray p.cells.toArray #[.int .u64 e.x, .slice ae e.box.length ce] StpZ u ∧ OwnB u w.heap.size (.slice a12 e.box.length c12) e.box) ∧ Blk u g (StpP frm e.x (.slice a12 e.box.length c12) SH 0 0 0 0) 42) := Stab.and (Stab.and (stabAnC _ _ _ _ _) (fun _ _ h hb => owns_below h hb)) (Stab.blk _ _ _)
  have hk2 : HoldT (fun u => (AnC w s.cells.toArray p.cells.toArray #[.int .u64 e.x, .slice ae e.box.length ce] StpZ u ∧ OwnB u w.heap.size (.slice a12 e.box.length c12) e.box) ∧ Blk u g (StpP frm e.x (.slice a12 e.box.length c12) SH 0 0 0 0) 42) w x7.drew :=
    HoldT.drew hst2 ⟨⟨⟨⟨hu.has.1.1.grownBy hg7 (some_ne (by omega)), hu.has.1.2.1.grownBy hg7 (some_ne (by omega)), hu.has.1.2.2.1.grownBy hg7 (some_ne (by omega)), hu.has.1.2.2.2.grownBy hg7 (some_ne (by omega))⟩, own_grown h12 hg7 (RowT.blk hG) (by decide)⟩, hR7⟩, hu.up.grown hg7 hu.up.size (fun k hk => by cases hk; omega)⟩
  clear hs7 hg7 hR7 hG h12 hu hst
  have hst := hst2
  try change Code.wp _ _ _ (Act.mk _ _) _
  refine wp_region_runR Ext 16 57 (HoldT (fun u => (AnC w s.cells.toArray p.cells.toArray #[.int .u64 e.x, .slice ae e.box.length ce] StpZ u ∧ OwnB u w.heap.size (.slice a12 e.box.length c12) e.box) ∧ Blk u g (StpP frm e.x (.slice a12 e.box.length c12) SH 0 0 0 0) 42) _) [[], [(0, 27)], [], [(2, 29)], [], [(4, 31)], [], [(6, 33)], [], [(8, 35)], [(7, 34), (9, 36)], [], [(11, 38)], [], [(1, 28), (3, 30), (5, 32), (10, 37), (12, 39), (13, 40)], []] [(0, 27), (1, 28), (2, 29), (3, 30), (4, 31), (5, 32), (6, 33), (7, 34), (8, 35), (9, 36), (10, 37), (11, 38), (12, 39), (13, 40), (14, 41), (15, 42)] (by kernel_rfl) (by kernel_rfl) (by first | rfl | simp) (hk2) ?_
  simp only [List.take_succ_cons, List.take_zero, List.drop_succ_cons, List.drop_zero]
  refine sp_op (Ph.eq _) (fun u hu => by
    refine spArg_nil ?_
    have k1 := sec_cell hu.has.1.1.1
    have k2 := pub_cell hu.has.1.1.2.1
    have k3 := ent_cell hu.has.1.1.2.2.1
    go_wp2_with (fail)
    exact ⟨rfl, hu, Ext.refl _, slot_eq rfl⟩) ?_
  refine sp_op (Ph.eq _) (fun u hu => by
    refine spArg_eq 0 rfl rfl ?_
    refine spArg_nil ?_
    simp only [Act.put, List.setIfInBounds_toArray, List.set_cons_succ, List.set_cons_zero]
    have k1 := sec_cell hu.has.1.1.1
    have k2 := pub_cell hu.has.1.1.2.1
    have k3 := ent_cell hu.has.1.1.2.2.1
    go_wp2_with (fail)
    exact ⟨rfl, hu, Ext.refl _, slot_eq rfl⟩) ?_
  refine sp_op (Ph.eq _) (fun u hu => by
    refine spArg_nil ?_
    have k1 := sec_cell hu.has.1.1.1
    have k2 := pub_cell hu.has.1.1.2.1
    have k3 := ent_cell hu.has.1.1.2.2.1
    go_wp2_with (fail)
    exact ⟨rfl, hu, Ext.refl _, slot_eq rfl⟩) ?_
  refine sp_op (Ph.eq _) (fun u hu => by
    refine spArg_eq 0 rfl rfl ?_
    refine spArg_nil ?_
    simp only [Act.put, List.setIfInBounds_toArray, List.set_cons_succ, List.set_cons_zero]
    have k1 := sec_cell hu.has.1.1.1
    have k2 := pub_cell hu.has.1.1.2.1
    have k3 := ent_cell hu.has.1.1.2.2.1
    go_wp2_with (fail)
    exact ⟨rfl, hu, Ext.refl _, slot_eq rfl⟩) ?_
  refine sp_op (Ph.eq _) (fun u hu => by
    refine spArg_nil ?_
    have k1 := sec_cell hu.has.1.1.1
    have k2 := pub_cell hu.has.1.1.2.1
    have k3 := ent_cell hu.has.1.1.2.2.1
    go_wp2_with (fail)
    exact ⟨rfl, hu, Ext.refl _, slot_eq rfl⟩) ?_
  refine sp_op (Ph.eq _) (fun u hu => by
    refine spArg_eq 0 rfl rfl ?_
    refine spArg_nil ?_
    simp only [Act.put, List.setIfInBounds_toArray, List.set_cons_succ, List.set_cons_zero]
    have k1 := sec_cell hu.has.1.1.1
    have k2 := pub_cell hu.has.1.1.2.1
    have k3 := ent_cell hu.has.1.1.2.2.1
    go_wp2_with (fail)
    exact ⟨rfl, hu, Ext.refl _, slot_eq rfl⟩) ?_
  refine sp_op (Ph.eq _) (fun u hu => by
    refine spArg_nil ?_
    have k1 := sec_cell hu.has.1.1.1
    have k2 := pub_cell hu.has.1.1.2.1
    have k3 := ent_cell hu.has.1.1.2.2.1
    go_wp2_with (fail)
    exact ⟨rfl, hu, Ext.refl _, slot_eq rfl⟩) ?_
  refine sp_op (Ph.eq _) (fun u hu => by
    refine spArg_eq 0 rfl rfl ?_
    refine spArg_nil ?_
    simp only [Act.put, List.setIfInBounds_toArray, List.set_cons_succ, List.set_cons_zero]
    have k1 := sec_cell hu.has.1.1.1
    have k2 := pub_cell hu.has.1.1.2.1
    have k3 := ent_cell hu.has.1.1.2.2.1
    go_wp2_with (fail)
    exact ⟨rfl, hu, Ext.refl _, slot_eq rfl⟩) ?_
  refine sp_op (Ph.eq _) (fun u hu => by
    refine spArg_nil ?_
    have k1 := sec_cell hu.has.1.1.1
    have k2 := pub_cell hu.has.1.1.2.1
    have k3 := ent_cell hu.has.1.1.2.2.1
    go_wp2_with (fail)
    exact ⟨rfl, hu, Ext.refl _, slot_eq rfl⟩) ?_
  refine sp_op (Ph.eq _) (fun u hu => by
    refine spArg_eq 0 rfl rfl ?_
    refine spArg_nil ?_
    simp only [Act.put, List.setIfInBounds_toArray, List.set_cons_succ, List.set_cons_zero]
    have k1 := sec_cell hu.has.1.1.1
    have k2 := pub_cell hu.has.1.1.2.1
    have k3 := ent_cell hu.has.1.1.2.2.1
    go_wp2_with (fail)
    exact ⟨rfl, hu, Ext.refl _, slot_eq rfl⟩) ?_
  refine sp_op (Ph.eq _) (fun u hu => by
    refine spArg_eq 2 rfl rfl ?_
    refine spArg_eq 0 rfl rfl ?_
    refine spArg_nil ?_
    simp only [Act.put, List.setIfInBounds_toArray, List.set_cons_succ, List.set_cons_zero]
    have k1 := sec_cell hu.has.1.1.1
    have k2 := pub_cell hu.has.1.1.2.1
    have k3 := ent_cell hu.has.1.1.2.2.1
    go_wp2_with ((go_at_call 44; refine (HTB.out _).mono ?_; rintro e_ x_ ⟨rfl, rfl⟩))
    exact ⟨rfl, hu, Ext.refl _, slot_eq rfl⟩) ?_
  refine sp_op (Ph.eq _) (fun u hu => by
    refine spArg_nil ?_
    have k1 := sec_cell hu.has.1.1.1
    have k2 := pub_cell hu.has.1.1.2.1
    have k3 := ent_cell hu.has.1.1.2.2.1
    go_wp2_with (fail)
    exact ⟨rfl, hu, Ext.refl _, slot_eq rfl⟩) ?_
  refine sp_op (Ph.eq _) (fun u hu => by
    refine spArg_eq 0 rfl rfl ?_
    refine spArg_nil ?_
    simp only [Act.put, List.setIfInBounds_toArray, List.set_cons_succ, List.set_cons_zero]
    have k1 := sec_cell hu.has.1.1.1
    have k2 := pub_cell hu.has.1.1.2.1
    have k3 := ent_cell hu.has.1.1.2.2.1
    go_wp2_with (fail)
    exact ⟨rfl, hu, Ext.refl _, slot_eq rfl⟩) ?_
  refine sp_op (Ph.eq _) (fun u hu => by
    refine spArg_nil ?_
    have k1 := sec_cell hu.has.1.1.1
    have k2 := pub_cell hu.has.1.1.2.1
    have k3 := ent_cell hu.has.1.1.2.2.1
    go_wp2_with (fail)
    exact ⟨rfl, hu, Ext.refl _, slot_eq rfl⟩) ?_
  refine sp_op (Ph.eq _) (fun u hu => by
    refine spArg_eq 12 rfl rfl ?_
    refine spArg_eq 10 rfl rfl ?_
    refine spArg_eq 8 rfl rfl ?_
    refine spArg_eq 3 rfl rfl ?_
    refine spArg_eq 1 rfl rfl ?_
    refine spArg_eq 0 rfl rfl ?_
    refine spArg_nil ?_
    simp only [Act.put, List.setIfInBounds_toArray, List.set_cons_succ, List.set_cons_zero]
    have k1 := sec_cell hu.has.1.1.1
    have k2 := pub_cell hu.has.1.1.2.1
    have k3 := ent_cell hu.has.1.1.2.2.1
    go_wp2_with ((go_at_call 45; refine (HE1.out _).mono ?_; rintro e_ x_ ⟨rfl, hb_⟩))
    exact ⟨rfl, HoldT.step hst hu hb_, hb_, slot_eq rfl⟩) ?_
  refine sp_op (Ph.eq _) (fun u hu => by
    refine spArg_nil ?_
    have k1 := sec_cell hu.has.1.1.1
    have k2 := pub_cell hu.has.1.1.2.1
    have k3 := ent_cell hu.has.1.1.2.2.1
    go_wp2_with (fail)
    exact ⟨rfl, hu, Ext.refl _, slot_eq rfl⟩) ?_
  refine sp_end ?_
  intro u hu
  refine spArg_eq 15 rfl rfl ?_
  refine spArg_eq 14 rfl rfl ?_
  refine spArg_eq 13 rfl rfl ?_
  refine spArg_eq 12 rfl rfl ?_
  refine spArg_eq 11 rfl rfl ?_
  refine spArg_eq 10 rfl rfl ?_
  refine spArg_eq 9 rfl rfl ?_
  refine spArg_eq 8 rfl rfl ?_
  refine spArg_eq 7 rfl rfl ?_
  refine spArg_eq 6 rfl rfl ?_
  refine spArg_eq 5 rfl rfl ?_
  refine spArg_eq 4 rfl rfl ?_
  refine spArg_eq 3 rfl rfl ?_
  refine spArg_eq 2 rfl rfl ?_
  refine spArg_eq 1 rfl rfl ?_
  refine spArg_eq 0 rfl rfl ?_
  refine spArg_nil ?_
  simp only [Act.put, List.setIfInBounds_toArray, List.set_cons_succ, List.set_cons_zero]
  have hbel0 := hu.up
  go_wp2_with (first
    | (refine wpList_store_in rfl 29 (.tmp 42) _ rfl g 4 #[.int .u64 q1c, .int .u64 q1s] _ (StpP frm e.x (.slice a12 e.box.length c12) SH q1c q1s 0 0) _ rfl rfl hu.has.2 (show 6 ≤ 8 by decide) info_proof (by intro v hv; simp at hv; rcases hv with rfl | rfl <;> rfl) rfl ?_; intro x8 hg8 hs8 hR8
       have k1 := sec_cell (hu.has.1.1.1.grownBy hg8 (some_ne (by omega))); have k2 := pub_cell (hu.has.1.1.2.1.grownBy hg8 (some_ne (by omega))); have k3 := ent_cell (hu.has.1.1.2.2.1.grownBy hg8 (some_ne (by omega)))
       have k4 : x8.cell? ⟨g, 3, none⟩ = some (.int .u64 SH) := by rw [hR8.cell]; rfl
       have hZ8 := hu.has.1.1.2.2.2.grownBy hg8 (some_ne (by omega)); have hO8 := own_grown hu.has.1.2 hg8 (RowT.blk hu.has.2) (by decide)
       have hbel8 : Ext w x8 := hu.up.grown hg8 hu.up.size (fun k hk => by cases hk; omega)
       clear hs8)
    | (go_at_call 45; refine (HE2.out _).mono ?_; rintro r x9 ⟨rfl, hb9⟩
       have hR9 := hR8.below hb9; have hZ9 := hZ8.below hb9; have hO9 := owns_below hO8 hb9; have hbel9 : Ext w x9 := Ext.tr hbel8 hb9
       clear k1 k2 k3 k4)
    | (refine wpList_store_in rfl 29 (.tmp 55) _ rfl g 6 #[.int .u64 q2c, .int .u64 q2s] _ (StpP frm e.x (.slice a12 e.box.length c12) SH q1c q1s q2c q2s) _ rfl rfl hR9 (show 8 ≤ 8 by decide) info_proof (by intro v hv; simp at hv; rcases hv with rfl | rfl <;> rfl) rfl ?_; intro y hgy hsy hRy
       have hZy := hZ9.grownBy hgy (some_ne (by omega)); have hOy := own_grown hO9 hgy (RowT.blk hR9) (by decide)
       have hbely : Ext w y := Below.grown hbel9 hgy (Below.size hbel9) (fun k hk => by cases hk; omega)
       clear hsy)
    | (refine wpList_load_row rfl 42 (.tmp 13) rfl g rfl _ _ (0, 0) _ hRy Try.underlying42 rfl info_stp ?_)
    | (refine wpList_store_row rfl 42 (.tmp 12) _ rfl (w.heap.size + 1 + 1 + 1) (StpP frm e.x (.slice a12 e.box.length c12) SH q1c q1s q2c q2s) _ _ rfl rfl hZy rfl info_stp (one_stp _ _ _ _ _ _ _ _ _ _) ?_; intro z hgz hsz hRz))
  refine bodyPost_ret (results_cell_row Try.results20 _ _ (w.heap.size + 1 + 1 + 1) _ _ (0, 0) _ rfl hRz Try.underlying42 rfl info_stp) rfl ?_
  exact ⟨.slice a12 e.box.length c12, by rw [HAN.out], by rw [HBX.out]; exact own_grown hOy hgz (RowT.blk hZy) (by decide), Below.grown hbely hgz (Below.size hbely) (fun k hk => by cases hk; omega)⟩
end Go.Proofs.Ytnmniblaefjekaa
