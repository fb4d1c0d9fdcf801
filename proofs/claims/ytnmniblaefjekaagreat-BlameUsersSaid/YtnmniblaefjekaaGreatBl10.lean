/-
  What a hop answers in a blame: the program.
-/
import Derived.Test.YtnmniblaefjekaaGreatBl4
import Derived.Laws.Cover3
namespace Go.Proofs.YtnmniblaefjekaaGreat
set_option linter.unusedVariables false
set_option linter.unusedSimpArgs false
open Go Go.RowKit

theorem ext_row {w x u : World} {g : Nat} (e : Ext w x) (hg : x.grownBy u (some g)) (h : w.heap.size ≤ g) : Ext w u := Below.grown e hg (Below.size e) (fun k hk => by cases hk; exact h)
theorem ownB_lit0 (w : World) : OwnB (w.alloc (.cells #[] 5)) w.heap.size (.slice (some ⟨w.heap.size, 0, none⟩) 0 0) [] :=
  ⟨rfl, .inr ⟨w.heap.size, 0, #[], rfl, Nat.le_refl _, heap_alloc_new _ _, Nat.le_refl _, by decide, rfl, rfl⟩⟩
theorem run_eql_bytes_nil (a : Option Addr) (n c : Nat) (w : World) : (binOp .eql 25 (.slice a n c) (.slice none 0 0)).run Tryz.prog w = .ok (.bool a.isNone) w := by
  have h := run_equal_slice_nil (P := Tryz.prog) w 25 5 a n c u_bytes
  simp [binOp, h]
set_option maxRecDepth 100000 in
theorem Clone_any (l : List UInt8) (v : Value) (w : World) (h : SeesB w v l) (hl : l.length ≤ 20000000000000) : Calls Tryz.prog 56 #[v] w (RetB l w) := by
  obtain ⟨a, c, rfl, hc, hm⟩ := sees_form h
  have hq := fun W : World => run_eql_bytes_nil a l.length c W
  cases a with
  | none =>
    have h0 : l.length = 0 := by
      obtain ⟨_, a', c', he, hc', _, hn, _⟩ := h
      injection he with e1 _ e3
      have := hn e1.symm
      omega
    obtain rfl := List.eq_nil_of_length_eq_zero h0
    go_enter Tryz.func56, Tryz.ntmps56
    simp only [Option.isNone_none, List.length_nil] at hq
    have hc0 : c = 0 := by
      obtain ⟨_, a', c', he, _, _, hn, _⟩ := h
      injection he with e1 _ e3
      rw [e3]; exact hn e1.symm
    subst hc0
    go_wp2_with fail
    go_ret
    exact RetB.mk (ownB_nil _ _) (Below.refl _ _)
  | some a =>
    have HH := Lib.hid h; clear h
    simp only [Option.isNone_some] at hq
    go_enter Tryz.func56, Tryz.ntmps56
    go_wp2_with (at_builtin; refine appB (W := w) rfl _ _ rfl _ [] rfl (ownB_lit0 w) _ l rfl (HH.out.below (Ext.alloc _ _) (by decide)) (by simp only [List.length_nil]; omega) (Ext.alloc _ _) ?_; intro v1 w1 hown1 hg1 hb1)
    go_ret
    exact RetB.mk (by simpa using hown1) hb1

/-- A step whose box is the call's own. -/
def RetSt (t : Stp) (w : World) (e : Ending) (w' : World) : Prop := ∃ v', e = .returned (.agg (stpC t v')) ∧ OwnB w' w.heap.size v' t.e.box ∧ Below w.heap.size w w'
/-- What is known of such a call's own memory. -/
def AnC (w : World) (SC PC EC TC : Array Value) (u : World) : Prop := Blk u w.heap.size SC 54 ∧ Blk u (w.heap.size + 1) PC 60 ∧ Blk u (w.heap.size + 1 + 1) EC 32 ∧ Blk u (w.heap.size + 1 + 1 + 1) TC 57
theorem stabAnC (w : World) (SC PC EC TC : Array Value) : Stab (AnC w SC PC EC TC) := Stab.and (Stab.blk _ _ _) (Stab.and (Stab.blk _ _ _) (Stab.and (Stab.blk _ _ _) (Stab.blk _ _ _)))
theorem sec_cell {w : World} {g : Nat} {s : Sec} {t : TypeId} (h : Blk w g s.cells.toArray t) : w.cell? ⟨g, 0, none⟩ = some (.int .u64 s.blind) ∧ w.cell? ⟨g, 1, none⟩ = some (.int .u64 s.mix) ∧ w.cell? ⟨g, 2, none⟩ = some (.int .u64 s.inner) :=
  ⟨by rw [h.cell]; rfl, by rw [h.cell]; rfl, by rw [h.cell]; rfl⟩
abbrev StpZ : Array Value := #[.int .i64 0, .int .u64 0, .slice none 0 0, .int .u64 0, .int .u64 0, .int .u64 0, .int .u64 0, .int .u64 0]
set_option maxRecDepth 100000 in
set_option maxHeartbeats 4000000 in
theorem BAnswer_any (s : Sec) (p : Pub) (frm : Int) (e : Ent) (a b : Int) (ve : Value) (w : World) (hs : s.ok) (hp : p.ok) (he : e.ok) (ha : in64 a) (hb : in64 b) (hve : SeesB w ve e.box) (hl : e.box.length ≤ 20000000000000) :
    Calls Tryz.prog 23 #[.agg s.cells.toArray, .agg p.cells.toArray, .int .i64 frm, .agg #[.int .u64 e.x, ve], .int .u64 a, .int .u64 b] w (RetSt (answerL s p frm e a b) w) := by
  obtain ⟨ae, ce, rfl, -, -⟩ := sees_form hve
  have hA4 := Lib.hid (show AnC w s.cells.toArray p.cells.toArray #[.int .u64 e.x, .slice ae e.box.length ce] StpZ ((((w.alloc (.cells s.cells.toArray 54)).alloc (.cells p.cells.toArray 60)).alloc (.cells #[.int .u64 e.x, .slice ae e.box.length ce] 32)).alloc (.cells StpZ 57)) from
    ⟨((Blk.new _ _ _).alloc _ |>.alloc _ |>.alloc _), (Blk.new2 _ _ _ _).alloc _ |>.alloc _, (Blk.new3 _ _ _ _ _).alloc _, Blk.new4 _ _ _ _ _ _⟩)
  have hb0 := Lib.hid (show Ext w ((((w.alloc (.cells s.cells.toArray 54)).alloc (.cells p.cells.toArray 60)).alloc (.cells #[.int .u64 e.x, .slice ae e.box.length ce] 32)).alloc (.cells StpZ 57)) from (show Below w.heap.size w _ by go_grown))
  have HCL := Lib.hid fun (w' : World) (h : Ext w w') => Clone_any e.box (.slice ae e.box.length ce) w' (hve.below h (by decide)) hl
  have HT1 := Lib.hid fun (w' : World) => Times_any e.x s.mix w' he.1 he.2 hs.2.1.1 hs.2.1.2
  go_enter Tryz.func23, Tryz.ntmps23
  go_wp2_with (first
    | (go_at_call 56; refine (HCL.out _ hb0.out).mono ?_; rintro r x1 ⟨v1, rfl, hown1, hb1⟩
       obtain ⟨a1, c1, rfl, -, -⟩ := owns_form hown1
       have hA1 := stabAnC _ _ _ _ _ _ _ hA4.out hb1
       have q1 := ent_cell hA1.2.2.1; have q3 := hA1.2.2.1.free 1; have q2 := sec_cell hA1.1
       have hup1 : Ext w x1 := Ext.tr hb0.out hb1)
    | (go_at_call 57; refine (HT1.out _).mono ?_; rintro r x2 ⟨rfl, rfl⟩))
  have hst : Stab (fun u => AnC w s.cells.toArray p.cells.toArray #[.int .u64 e.x, .slice a1 e.box.length c1] StpZ u ∧ OwnB u w.heap.size (.slice a1 e.box.length c1) e.box) := Stab.and (stabAnC _ _ _ _ _) (fun _ _ h hb => owns_below h hb)
  have hk : HoldT (fun u => AnC w s.cells.toArray p.cells.toArray #[.int .u64 e.x, .slice a1 e.box.length c1] StpZ u ∧ OwnB u w.heap.size (.slice a1 e.box.length c1) e.box) w (x1.setCell ⟨w.heap.size + 1 + 1, 1, none⟩ (.slice a1 e.box.length c1)).drew :=
    HoldT.drew hst ⟨⟨⟨hA1.1.setCell _ _ (by show w.heap.size ≠ w.heap.size + 1 + 1; omega), hA1.2.1.setCell _ _ (by show w.heap.size + 1 ≠ w.heap.size + 1 + 1; omega), hA1.2.2.1.set 1 _, hA1.2.2.2.setCell _ _ (by show w.heap.size + 1 + 1 + 1 ≠ w.heap.size + 1 + 1; omega)⟩,
      owns_mono (ownsRow_setCell_below hown1 (by simp only [World.size_alloc]; omega) _) (by simp only [World.size_alloc]; omega)⟩, Below.setCell hup1 (by show w.heap.size ≤ w.heap.size + 1 + 1; omega) _⟩
  clear q1 q2 q3 hA1 hup1 hown1 hb1
  have HTB := Lib.hid fun (w' : World) => Times_any e.x s.blind w' he.1 he.2 hs.1.1 hs.1.2
  have HE1 := Lib.hid fun (w' : World) => Equal_any p.base p.blind e.x (timesP e.x s.blind) s.blind a w' hp.1 hp.2.1 he (in64_P (timesP_pos _ _)) hs.1 ha
  have HE2 := Lib.hid fun (w' : World) => Equal_any p.base p.mix e.x (timesP e.x s.mix) s.mix b w' hp.1 hp.2.2.1 he (in64_P (timesP_pos _ _)) hs.2.1 hb
  have HPZ := Lib.hid (show p.cells.toArray.size = 10 by rw [List.size_toArray, p.length_cells])
  have HAN := Lib.hid (show stpC (answerL s p frm e a b) (.slice a1 e.box.length c1) = #[.int .i64 frm, .int .u64 e.x, .slice a1 e.box.length c1, .int .u64 (timesP e.x s.mix), .int .u64 (equalC p.base p.blind e.x (timesP e.x s.blind) a), .int .u64 (ansP (equalC p.base p.blind e.x (timesP e.x s.blind) a) s.blind a), .int .u64 (equalC p.base p.mix e.x (timesP e.x s.mix) b), .int .u64 (ansP (equalC p.base p.mix e.x (timesP e.x s.mix) b) s.mix b)] from rfl)
  generalize hAC : stpC (answerL s p frm e a b) (.slice a1 e.box.length c1) = AC at HAN
  have HAC := Lib.hid hAC; clear hAC
  generalize ansP (equalC p.base p.blind e.x (timesP e.x s.blind) a) s.blind a = q1s at *
  generalize ansP (equalC p.base p.mix e.x (timesP e.x s.mix) b) s.mix b = q2s at *
  generalize equalC p.base p.blind e.x (timesP e.x s.blind) a = q1c at *
  generalize equalC p.base p.mix e.x (timesP e.x s.mix) b = q2c at *
  try change Code.wp _ _ _ (Act.mk _ _) _
  refine wp_region_runR Ext 30 53 (HoldT (fun u => AnC w s.cells.toArray p.cells.toArray #[.int .u64 e.x, .slice a1 e.box.length c1] StpZ u ∧ OwnB u w.heap.size (.slice a1 e.box.length c1) e.box) _) [[], [], [], [], [(3, 26)], [], [(5, 28)], [], [(7, 30)], [], [(9, 32)], [], [(11, 34)], [(10, 33), (12, 35)], [], [(14, 37)], [], [(4, 27), (6, 29), (8, 31), (13, 36), (15, 38), (16, 39)], [], [(18, 41)], [], [(20, 43)], [], [(22, 45)], [], [], [(25, 48)], [], [(19, 42), (21, 44), (23, 46), (24, 47), (26, 49), (27, 50)], [(0, 23), (1, 24), (2, 25), (17, 40), (28, 51)]] [(0, 23), (1, 24), (2, 25), (3, 26), (4, 27), (5, 28), (6, 29), (7, 30), (8, 31), (9, 32), (10, 33), (11, 34), (12, 35), (13, 36), (14, 37), (15, 38), (16, 39), (17, 40), (18, 41), (19, 42), (20, 43), (21, 44), (22, 45), (23, 46), (24, 47), (25, 48), (26, 49), (27, 50), (28, 51), (29, 52)] (by kernel_rfl) (by kernel_rfl) (by first | rfl | simp) (hk) ?_
  simp only [List.take_succ_cons, List.take_zero, List.drop_succ_cons, List.drop_zero]
  refine sp_op (Ph.eq _) (fun u hu => by
    refine spArg_nil ?_
    have k1 := sec_cell hu.has.1.1
    have k2 := pub_cell hu.has.1.2.1
    have k3 := ent_cell hu.has.1.2.2.1
    go_wp2_with (fail)
    exact ⟨rfl, hu, Ext.refl _, slot_eq rfl⟩) ?_
  refine sp_op (Ph.eq _) (fun u hu => by
    refine spArg_nil ?_
    have k1 := sec_cell hu.has.1.1
    have k2 := pub_cell hu.has.1.2.1
    have k3 := ent_cell hu.has.1.2.2.1
    go_wp2_with ((refine wpList_load_rowG rfl 32 _ rfl (w.heap.size + 1 + 1) rfl _ _ (0, 0) _ (hu.has.1.2.2.1) Tryz.underlying32 rfl (info_entry) ?_))
    exact ⟨rfl, hu, Ext.refl _, slot_eq rfl⟩) ?_
  refine sp_op (Ph.eq _) (fun u hu => by
    refine spArg_nil ?_
    have k1 := sec_cell hu.has.1.1
    have k2 := pub_cell hu.has.1.2.1
    have k3 := ent_cell hu.has.1.2.2.1
    go_wp2_with (fail)
    exact ⟨rfl, hu, Ext.refl _, slot_eq rfl⟩) ?_
  refine sp_op (Ph.eq _) (fun u hu => by
    refine spArg_nil ?_
    have k1 := sec_cell hu.has.1.1
    have k2 := pub_cell hu.has.1.2.1
    have k3 := ent_cell hu.has.1.2.2.1
    go_wp2_with (fail)
    exact ⟨rfl, hu, Ext.refl _, slot_eq rfl⟩) ?_
  refine sp_op (Ph.eq _) (fun u hu => by
    refine spArg_eq 0 rfl rfl ?_
    refine spArg_nil ?_
    simp only [Act.put, List.setIfInBounds_toArray, List.set_cons_succ, List.set_cons_zero]
    have k1 := sec_cell hu.has.1.1
    have k2 := pub_cell hu.has.1.2.1
    have k3 := ent_cell hu.has.1.2.2.1
    go_wp2_with (fail)
    exact ⟨rfl, hu, Ext.refl _, slot_eq rfl⟩) ?_
  refine sp_op (Ph.eq _) (fun u hu => by
    refine spArg_nil ?_
    have k1 := sec_cell hu.has.1.1
    have k2 := pub_cell hu.has.1.2.1
    have k3 := ent_cell hu.has.1.2.2.1
    go_wp2_with (fail)
    exact ⟨rfl, hu, Ext.refl _, slot_eq rfl⟩) ?_
  refine sp_op (Ph.eq _) (fun u hu => by
    refine spArg_eq 0 rfl rfl ?_
    refine spArg_nil ?_
    simp only [Act.put, List.setIfInBounds_toArray, List.set_cons_succ, List.set_cons_zero]
    have k1 := sec_cell hu.has.1.1
    have k2 := pub_cell hu.has.1.2.1
    have k3 := ent_cell hu.has.1.2.2.1
    go_wp2_with (fail)
    exact ⟨rfl, hu, Ext.refl _, slot_eq rfl⟩) ?_
  refine sp_op (Ph.eq _) (fun u hu => by
    refine spArg_nil ?_
    have k1 := sec_cell hu.has.1.1
    have k2 := pub_cell hu.has.1.2.1
    have k3 := ent_cell hu.has.1.2.2.1
    go_wp2_with (fail)
    exact ⟨rfl, hu, Ext.refl _, slot_eq rfl⟩) ?_
  refine sp_op (Ph.eq _) (fun u hu => by
    refine spArg_eq 0 rfl rfl ?_
    refine spArg_nil ?_
    simp only [Act.put, List.setIfInBounds_toArray, List.set_cons_succ, List.set_cons_zero]
    have k1 := sec_cell hu.has.1.1
    have k2 := pub_cell hu.has.1.2.1
    have k3 := ent_cell hu.has.1.2.2.1
    go_wp2_with (fail)
    exact ⟨rfl, hu, Ext.refl _, slot_eq rfl⟩) ?_
  refine sp_op (Ph.eq _) (fun u hu => by
    refine spArg_nil ?_
    have k1 := sec_cell hu.has.1.1
    have k2 := pub_cell hu.has.1.2.1
    have k3 := ent_cell hu.has.1.2.2.1
    go_wp2_with (fail)
    exact ⟨rfl, hu, Ext.refl _, slot_eq rfl⟩) ?_
  refine sp_op (Ph.eq _) (fun u hu => by
    refine spArg_eq 0 rfl rfl ?_
    refine spArg_nil ?_
    simp only [Act.put, List.setIfInBounds_toArray, List.set_cons_succ, List.set_cons_zero]
    have k1 := sec_cell hu.has.1.1
    have k2 := pub_cell hu.has.1.2.1
    have k3 := ent_cell hu.has.1.2.2.1
    go_wp2_with (fail)
    exact ⟨rfl, hu, Ext.refl _, slot_eq rfl⟩) ?_
  refine sp_op (Ph.eq _) (fun u hu => by
    refine spArg_nil ?_
    have k1 := sec_cell hu.has.1.1
    have k2 := pub_cell hu.has.1.2.1
    have k3 := ent_cell hu.has.1.2.2.1
    go_wp2_with (fail)
    exact ⟨rfl, hu, Ext.refl _, slot_eq rfl⟩) ?_
  refine sp_op (Ph.eq _) (fun u hu => by
    refine spArg_eq 0 rfl rfl ?_
    refine spArg_nil ?_
    simp only [Act.put, List.setIfInBounds_toArray, List.set_cons_succ, List.set_cons_zero]
    have k1 := sec_cell hu.has.1.1
    have k2 := pub_cell hu.has.1.2.1
    have k3 := ent_cell hu.has.1.2.2.1
    go_wp2_with (fail)
    exact ⟨rfl, hu, Ext.refl _, slot_eq rfl⟩) ?_
  refine sp_op (Ph.eq _) (fun u hu => by
    refine spArg_eq 2 rfl rfl ?_
    refine spArg_eq 0 rfl rfl ?_
    refine spArg_nil ?_
    simp only [Act.put, List.setIfInBounds_toArray, List.set_cons_succ, List.set_cons_zero]
    have k1 := sec_cell hu.has.1.1
    have k2 := pub_cell hu.has.1.2.1
    have k3 := ent_cell hu.has.1.2.2.1
    go_wp2_with ((go_at_call 57; refine (HTB.out _).mono ?_; rintro e_ x_ ⟨rfl, rfl⟩))
    exact ⟨rfl, hu, Ext.refl _, slot_eq rfl⟩) ?_
  refine sp_op (Ph.eq _) (fun u hu => by
    refine spArg_nil ?_
    have k1 := sec_cell hu.has.1.1
    have k2 := pub_cell hu.has.1.2.1
    have k3 := ent_cell hu.has.1.2.2.1
    go_wp2_with (fail)
    exact ⟨rfl, hu, Ext.refl _, slot_eq rfl⟩) ?_
  refine sp_op (Ph.eq _) (fun u hu => by
    refine spArg_eq 0 rfl rfl ?_
    refine spArg_nil ?_
    simp only [Act.put, List.setIfInBounds_toArray, List.set_cons_succ, List.set_cons_zero]
    have k1 := sec_cell hu.has.1.1
    have k2 := pub_cell hu.has.1.2.1
    have k3 := ent_cell hu.has.1.2.2.1
    go_wp2_with (fail)
    exact ⟨rfl, hu, Ext.refl _, slot_eq rfl⟩) ?_
  refine sp_op (Ph.eq _) (fun u hu => by
    refine spArg_nil ?_
    have k1 := sec_cell hu.has.1.1
    have k2 := pub_cell hu.has.1.2.1
    have k3 := ent_cell hu.has.1.2.2.1
    go_wp2_with (fail)
    exact ⟨rfl, hu, Ext.refl _, slot_eq rfl⟩) ?_
  refine sp_op (Ph.eq _) (fun u hu => by
    refine spArg_eq 12 rfl rfl ?_
    refine spArg_eq 10 rfl rfl ?_
    refine spArg_eq 8 rfl rfl ?_
    refine spArg_eq 3 rfl rfl ?_
    refine spArg_eq 1 rfl rfl ?_
    refine spArg_eq 0 rfl rfl ?_
    refine spArg_nil ?_
    simp only [Act.put, List.setIfInBounds_toArray, List.set_cons_succ, List.set_cons_zero]
    have k1 := sec_cell hu.has.1.1
    have k2 := pub_cell hu.has.1.2.1
    have k3 := ent_cell hu.has.1.2.2.1
    go_wp2_with ((go_at_call 58; refine (HE1.out _).mono ?_; rintro e_ x_ ⟨rfl, hb_⟩))
    exact ⟨rfl, HoldT.step hst hu hb_, hb_, slot_eq rfl⟩) ?_
  refine sp_op (Ph.eq _) (fun u hu => by
    refine spArg_nil ?_
    have k1 := sec_cell hu.has.1.1
    have k2 := pub_cell hu.has.1.2.1
    have k3 := ent_cell hu.has.1.2.2.1
    go_wp2_with (fail)
    exact ⟨rfl, hu, Ext.refl _, slot_eq rfl⟩) ?_
  refine sp_op (Ph.eq _) (fun u hu => by
    refine spArg_eq 0 rfl rfl ?_
    refine spArg_nil ?_
    simp only [Act.put, List.setIfInBounds_toArray, List.set_cons_succ, List.set_cons_zero]
    have k1 := sec_cell hu.has.1.1
    have k2 := pub_cell hu.has.1.2.1
    have k3 := ent_cell hu.has.1.2.2.1
    go_wp2_with (fail)
    exact ⟨rfl, hu, Ext.refl _, slot_eq rfl⟩) ?_
  refine sp_op (Ph.eq _) (fun u hu => by
    refine spArg_nil ?_
    have k1 := sec_cell hu.has.1.1
    have k2 := pub_cell hu.has.1.2.1
    have k3 := ent_cell hu.has.1.2.2.1
    go_wp2_with (fail)
    exact ⟨rfl, hu, Ext.refl _, slot_eq rfl⟩) ?_
  refine sp_op (Ph.eq _) (fun u hu => by
    refine spArg_eq 0 rfl rfl ?_
    refine spArg_nil ?_
    simp only [Act.put, List.setIfInBounds_toArray, List.set_cons_succ, List.set_cons_zero]
    have k1 := sec_cell hu.has.1.1
    have k2 := pub_cell hu.has.1.2.1
    have k3 := ent_cell hu.has.1.2.2.1
    go_wp2_with (fail)
    exact ⟨rfl, hu, Ext.refl _, slot_eq rfl⟩) ?_
  refine sp_op (Ph.eq _) (fun u hu => by
    refine spArg_nil ?_
    have k1 := sec_cell hu.has.1.1
    have k2 := pub_cell hu.has.1.2.1
    have k3 := ent_cell hu.has.1.2.2.1
    go_wp2_with (fail)
    exact ⟨rfl, hu, Ext.refl _, slot_eq rfl⟩) ?_
  refine sp_op (Ph.eq _) (fun u hu => by
    refine spArg_eq 0 rfl rfl ?_
    refine spArg_nil ?_
    simp only [Act.put, List.setIfInBounds_toArray, List.set_cons_succ, List.set_cons_zero]
    have k1 := sec_cell hu.has.1.1
    have k2 := pub_cell hu.has.1.2.1
    have k3 := ent_cell hu.has.1.2.2.1
    go_wp2_with (fail)
    exact ⟨rfl, hu, Ext.refl _, slot_eq rfl⟩) ?_
  refine sp_op (Ph.eq _) (fun u hu => by
    refine spArg_nil ?_
    have k1 := sec_cell hu.has.1.1
    have k2 := pub_cell hu.has.1.2.1
    have k3 := ent_cell hu.has.1.2.2.1
    go_wp2_with (fail)
    exact ⟨rfl, hu, Ext.refl _, slot_eq rfl⟩) ?_
  refine sp_op (Ph.eq _) (fun u hu => by
    refine spArg_nil ?_
    have k1 := sec_cell hu.has.1.1
    have k2 := pub_cell hu.has.1.2.1
    have k3 := ent_cell hu.has.1.2.2.1
    go_wp2_with (fail)
    exact ⟨rfl, hu, Ext.refl _, slot_eq rfl⟩) ?_
  refine sp_op (Ph.eq _) (fun u hu => by
    refine spArg_eq 0 rfl rfl ?_
    refine spArg_nil ?_
    simp only [Act.put, List.setIfInBounds_toArray, List.set_cons_succ, List.set_cons_zero]
    have k1 := sec_cell hu.has.1.1
    have k2 := pub_cell hu.has.1.2.1
    have k3 := ent_cell hu.has.1.2.2.1
    go_wp2_with (fail)
    exact ⟨rfl, hu, Ext.refl _, slot_eq rfl⟩) ?_
  refine sp_op (Ph.eq _) (fun u hu => by
    refine spArg_nil ?_
    have k1 := sec_cell hu.has.1.1
    have k2 := pub_cell hu.has.1.2.1
    have k3 := ent_cell hu.has.1.2.2.1
    go_wp2_with (fail)
    exact ⟨rfl, hu, Ext.refl _, slot_eq rfl⟩) ?_
  refine sp_op (Ph.eq _) (fun u hu => by
    refine spArg_eq 8 rfl rfl ?_
    refine spArg_eq 6 rfl rfl ?_
    refine spArg_eq 4 rfl rfl ?_
    refine spArg_eq 3 rfl rfl ?_
    refine spArg_eq 1 rfl rfl ?_
    refine spArg_eq 0 rfl rfl ?_
    refine spArg_nil ?_
    simp only [Act.put, List.setIfInBounds_toArray, List.set_cons_succ, List.set_cons_zero]
    have k1 := sec_cell hu.has.1.1
    have k2 := pub_cell hu.has.1.2.1
    have k3 := ent_cell hu.has.1.2.2.1
    go_wp2_with ((go_at_call 58; refine (HE2.out _).mono ?_; rintro e_ x_ ⟨rfl, hb_⟩))
    exact ⟨rfl, HoldT.step hst hu hb_, hb_, slot_eq rfl⟩) ?_
  refine sp_op (Ph.eq _) (fun u hu => by
    refine spArg_eq 28 rfl rfl ?_
    refine spArg_eq 27 rfl rfl ?_
    refine spArg_eq 26 rfl rfl ?_
    refine spArg_eq 11 rfl rfl ?_
    refine spArg_eq 0 rfl rfl ?_
    refine spArg_nil ?_
    simp only [Act.put, List.setIfInBounds_toArray, List.set_cons_succ, List.set_cons_zero]
    have k1 := sec_cell hu.has.1.1
    have k2 := pub_cell hu.has.1.2.1
    have k3 := ent_cell hu.has.1.2.2.1
    go_wp2_with (fail)
    exact ⟨rfl, hu, Ext.refl _, slot_eq rfl⟩) ?_
  refine sp_end ?_
  intro u hu
  refine spArg_eq 29 rfl rfl ?_
  refine spArg_eq 28 rfl rfl ?_
  refine spArg_eq 27 rfl rfl ?_
  refine spArg_eq 26 rfl rfl ?_
  refine spArg_eq 25 rfl rfl ?_
  refine spArg_eq 24 rfl rfl ?_
  refine spArg_eq 23 rfl rfl ?_
  refine spArg_eq 22 rfl rfl ?_
  refine spArg_eq 21 rfl rfl ?_
  refine spArg_eq 20 rfl rfl ?_
  refine spArg_eq 19 rfl rfl ?_
  refine spArg_eq 18 rfl rfl ?_
  refine spArg_eq 17 rfl rfl ?_
  refine spArg_eq 16 rfl rfl ?_
  refine spArg_eq 15 rfl rfl ?_
  refine spArg_eq 14 rfl rfl ?_
  refine spArg_eq 13 rfl rfl ?_
  refine spArg_eq 12 rfl rfl ?_
  refine spArg_eq 11 rfl rfl ?_
  refine spArg_eq 10 rfl rfl ?_
  refine spArg_eq 9 rfl rfl ?_
  refine spArg_eq 8 rfl rfl ?_
  refine spArg_eq 7 rfl rfl ?_
  refine spArg_eq 6 rfl rfl ?_
  refine spArg_eq 5 rfl rfl ?_
  refine spArg_eq 4 rfl rfl ?_
  refine spArg_eq 3 rfl rfl ?_
  refine spArg_eq 2 rfl rfl ?_
  refine spArg_eq 1 rfl rfl ?_
  refine spArg_eq 0 rfl rfl ?_
  refine spArg_nil ?_
  simp only [Act.put, List.setIfInBounds_toArray, List.set_cons_succ, List.set_cons_zero]
  go_wp2_with (refine wpList_store_row rfl 57 (.tmp 12) _ rfl (w.heap.size + 1 + 1 + 1) AC _ _ rfl (by rw [HAN.out]; rfl) hu.has.1.2.2.2 (by rw [HAN.out]; rfl) (by rw [HAN.out]; exact info_stp) (by rw [HAN.out]; intro v hv; simp at hv; rcases hv with rfl | rfl | rfl | rfl | rfl | rfl | rfl | rfl <;> rfl) ?_; intro x7 hg7 hs7 hR7)
  refine bodyPost_ret (results_cell_row Tryz.results23 _ _ (w.heap.size + 1 + 1 + 1) _ AC (0, 0) _ rfl hR7 Tryz.underlying57 rfl (by rw [HAN.out]; exact info_stp)) rfl ?_
  exact ⟨.slice a1 e.box.length c1, by rw [HAC.out], own_grown hu.has.2 hg7 (RowT.blk hu.has.1.2.2.2) (by decide), hu.up.grown hg7 hu.up.size (fun k hk => by cases hk; omega)⟩
end Go.Proofs.YtnmniblaefjekaaGreat
