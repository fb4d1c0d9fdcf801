/-
  Passed of the reference.
-/
import Derived.Test.YtnmniblaefjekaaBl4
namespace Go.Proofs.Ytnmniblaefjekaa
set_option linter.unusedVariables false
set_option linter.unusedSimpArgs false
open Go Go.RowKit

set_option maxRecDepth 100000 in
set_option maxHeartbeats 4000000 in
theorem Passedr_any (p : Pub) (at_ : Int) (ins : List Ent) (out : Ent) (t : Stp) (B : Nat) (vi vo vt : Value) (w : World) (hp : p.ok) (ho : out.ok) (ht : t.ok) (hi : SlR entR B w vi ins) (hvo : SeesB w vo out.box) (hvt : SeesB w vt t.e.box)
    (hl : t.e.box.length ≤ 20000000000000) (hil : ins.length ≤ 1000000000) :
    Calls Try.prog 13 #[.agg p.cells.toArray, .int .i64 at_, vi, .agg #[.int .u64 out.x, vo], .agg (stpC t vt)] w fun r w' => r = .returned (.bool (decide (passedL p at_ ins out t))) ∧ Below w.heap.size w w' := by
  obtain ⟨ai, ci, rfl, -, -⟩ := hi.form
  obtain ⟨ao, co, rfl, -, -⟩ := sees_form hvo
  obtain ⟨a2, c2, rfl, -, -⟩ := sees_form hvt
  obtain ⟨f0, f1⟩ := ht.1
  have hS0 : PsC w.heap.size p.cells.toArray #[.int .u64 out.x, .slice ao out.box.length co] (stpC t (.slice a2 t.e.box.length c2)) (((w.alloc (.cells p.cells.toArray 39)).alloc (.cells #[.int .u64 out.x, .slice ao out.box.length co] 27)).alloc (.cells (stpC t (.slice a2 t.e.box.length c2)) 42)) :=
    ⟨((Blk.new w p.cells.toArray 39).alloc _).alloc _, (Blk.new2 w (.cells p.cells.toArray 39) #[.int .u64 out.x, .slice ao out.box.length co] 27).alloc _, Blk.new3 w _ _ _ _⟩
  have hb0 : Below w.heap.size w (((w.alloc (.cells p.cells.toArray 39)).alloc (.cells #[.int .u64 out.x, .slice ao out.box.length co] 27)).alloc (.cells (stpC t (.slice a2 t.e.box.length c2)) 42)) := by go_grown
  have hst := stabPsC w.heap.size p.cells.toArray #[.int .u64 out.x, .slice ao out.box.length co] (stpC t (.slice a2 t.e.box.length c2))
  have hk0 := Lib.hid (HoldT.drew hst ⟨hS0, hb0⟩)
  have HPC := Lib.hid fun (u : World) (h : PsC w.heap.size p.cells.toArray #[.int .u64 out.x, .slice ao out.box.length co] (stpC t (.slice a2 t.e.box.length c2)) u) => pub_cell h.1
  have HEC := Lib.hid fun (u : World) (h : PsC w.heap.size p.cells.toArray #[.int .u64 out.x, .slice ao out.box.length co] (stpC t (.slice a2 t.e.box.length c2)) u) => ent_cell h.2.1
  have HTC := Lib.hid fun (u : World) (h : PsC w.heap.size p.cells.toArray #[.int .u64 out.x, .slice ao out.box.length co] (stpC t (.slice a2 t.e.box.length c2)) u) => stp_cell h.2.2
  have HPZ := Lib.hid (show p.cells.toArray.size = 10 by rw [List.size_toArray, p.length_cells])
  have HTZ := Lib.hid (show (stpC t (.slice a2 t.e.box.length c2)).size = 8 from rfl)
  have HM := fun (w' : World) => CheckEqualr_any p.base p.mix t.e.x t.shared t.m.c t.m.s w' hp.1 hp.2.2.1 ht.2.1 ht.2.2.1 ht.2.2.2.2.1 ht.2.2.2.2.2
  have hMD : decide (equalOk p.base p.mix t.e.x t.shared t.m.c t.m.s) = decide (mixedOk p t) := decide_eq_decide.2 (by unfold mixedOk; exact Iff.rfl)
  rw [hMD] at HM
  have HB := fun (w' : World) (h : SeesB w' (.slice a2 t.e.box.length c2) t.e.box) => peeled_any t.shared at_ t.e.box (.slice a2 t.e.box.length c2) w' ht.2.2.1 h hl
  have HC := fun (w' : World) => CheckEqualr_any p.base p.blind t.e.x out.x t.b.c t.b.s w' hp.1 hp.2.1 ht.2.1 ho ht.2.2.2.1.1 ht.2.2.2.1.2
  have HVO := Lib.hid hvo; have HVT := Lib.hid hvt; clear hvo hvt
  clear hS0 hb0
  by_cases hr : 0 ≤ t.frm ∧ t.frm < ins.length
  · obtain ⟨k, hk⟩ : ∃ k : Nat, t.frm = k := ⟨t.frm.toNat, by omega⟩
    have hkl : k < ins.length := by omega
    obtain ⟨b, o, c, hve, -, -⟩ := hi.open (by omega)
    obtain ⟨rfl, rfl⟩ : ai = some ⟨b, o, none⟩ ∧ ci = c := by injection hve with e1 _ e3; exact ⟨e1, e3⟩
    obtain ⟨ve, hrg, hvs⟩ := slE_at hi k ins[k] (List.getElem?_eq_getElem hkl)
    have hins : ins[t.frm.toNat]? = some ins[k] := by rw [hk, Int.toNat_natCast]; exact List.getElem?_eq_getElem hkl
    have HS := fun (w' : World) (h1 : SeesB w' ve ins[k].box) (h2 : SeesB w' (.slice a2 t.e.box.length c2) t.e.box) => Same2r_any ins[k] t.e ve (.slice a2 t.e.box.length c2) w' h1 h2
    have hF : decide (passedL p at_ ins out t) = (decide (ins[k] = t.e) && (decide (mixedOk p t) && (decide (openL (hopK t.shared) (besL at_) t.e.box = some out.box) && decide (equalOk p.base p.blind t.e.x out.x t.b.c t.b.s)))) := by
      rw [Bool.eq_iff_iff, decide_eq_true_iff]; unfold passedL; rw [hins]; simp only [Bool.and_eq_true, decide_eq_true_iff, Option.some.injEq]
      exact ⟨fun h => h.2, fun h => ⟨hr.1, h⟩⟩
    generalize decide (passedL p at_ ins out t) = D at *
    obtain ⟨av, cv, rfl, -, -⟩ := sees_form hvs
    have hd1 : decide ((k : Int) < 0) = false := decide_eq_false (by omega)
    have hd2 : decide (ins.length ≤ k) = false := decide_eq_false (by omega)
    rw [hk] at HTC
    clear hve hins hi hr hk
    generalize ins[k] = ek at *
    have HRG := Lib.hid hrg; have HVS := Lib.hid hvs; clear hrg hvs
    have hil2 := hil
    by_cases hs : ek = t.e
    · rw [decide_eq_true hs] at hF
      simp only [decide_eq_true hs] at HS
      clear hs
      generalize decide (equalOk p.base p.blind t.e.x out.x t.b.c t.b.s) = dc at *
      cases dc with
      | false =>
        have hF2 : D = false := by rw [hF]; simp
        clear hF
        have hF := hF2
        clear hF2
        generalize decide (mixedOk p t) = dm at *
        generalize openL (hopK t.shared) (besL at_) t.e.box = op at *
        have HSS := Lib.hid HS; have HMM := Lib.hid HM; have HBB := Lib.hid HB; have HCC := Lib.hid HC; have HFF := Lib.hid hF
        clear HS HM HB HC hF hp ho ht hMD
        generalize p.cells.toArray = PC at *
        generalize stpC t (.slice a2 t.e.box.length c2) = TC at *
        generalize hec : (#[.int .u64 out.x, .slice ao out.box.length co] : Array Value) = EC at *
        generalize p.base = pb at *
        generalize p.blind = pbl at *
        generalize p.mix = pm at *
        generalize t.e.x = TX at *
        generalize t.e.box = TB at *
        generalize t.shared = SH at *
        generalize t.b.c = bc at *
        generalize t.b.s = bs at *
        generalize t.m.c = mc at *
        generalize t.m.s = ms at *
        generalize out.x = OX at *
        generalize out.box = OB at *
        generalize ek.x = KX at *
        generalize ek.box = KB at *
        subst hec
        go_enter Try.func13, Try.ntmps13
        go_wp2_with fail
        have hk := hk0.out
        try change Code.wp _ _ _ (Act.mk _ _) _
        refine wp_region_runR Ext 21 81 (HoldT (PsC w.heap.size PC #[.int .u64 OX, .slice ao OB.length co] TC) _) [[], [(0, 13)], [(1, 14)], [(2, 15)], [(3, 16)], [(4, 17), (3, 16)], [(3, 16)], [(6, 19), (3, 16)], [(5, 18), (7, 20), (3, 16)], [(3, 16), (8, 21)], [(9, 22)], [(10, 23)], [(10, 23)], [(12, 25), (10, 23)], [(11, 24), (13, 26), (10, 23)], [(14, 27), (10, 23)], [(10, 23)], [(16, 29), (10, 23)], [(15, 28), (17, 30), (10, 23)], [(18, 31), (10, 23)], [(10, 23), (19, 32)]] [(0, 13), (1, 14), (2, 15), (3, 16), (4, 17), (5, 18), (6, 19), (7, 20), (8, 21), (9, 22), (10, 23), (11, 24), (12, 25), (13, 26), (14, 27), (15, 28), (16, 29), (17, 30), (18, 31), (19, 32), (20, 33)] (by kernel_rfl) (by kernel_rfl) (by first | rfl | simp) (hk) ?_
        simp only [List.take_succ_cons, List.take_zero, List.drop_succ_cons, List.drop_zero]
        refine sp_op (Ph.eq _) (fun u hu => by
          refine spArg_nil ?_
          obtain ⟨tc0, tc1, tc2, -⟩ := HTC.out _ hu.has
          have r0 := range_below HRG.out hu.up 0 _ rfl
          have r1 := range_below HRG.out hu.up 1 _ rfl
          simp only [Nat.add_zero] at r0
          go_wp2_with (fail)
          exact ⟨rfl, hu, Ext.refl _, slot_eq rfl⟩) ?_
        refine sp_op (Ph.eq _) (fun u hu => by
          refine spArg_eq 0 rfl rfl ?_
          refine spArg_nil ?_
          simp only [Act.put, List.setIfInBounds_toArray, List.set_cons_succ, List.set_cons_zero]
          obtain ⟨tc0, tc1, tc2, -⟩ := HTC.out _ hu.has
          have r0 := range_below HRG.out hu.up 0 _ rfl
          have r1 := range_below HRG.out hu.up 1 _ rfl
          simp only [Nat.add_zero] at r0
          go_wp2_with (fail)
          exact ⟨rfl, hu, Ext.refl _, slot_eq rfl⟩) ?_
        refine sp_op (Ph.eq _) (fun u hu => by
          refine spArg_eq 0 rfl rfl ?_
          refine spArg_nil ?_
          simp only [Act.put, List.setIfInBounds_toArray, List.set_cons_succ, List.set_cons_zero]
          obtain ⟨tc0, tc1, tc2, -⟩ := HTC.out _ hu.has
          have r0 := range_below HRG.out hu.up 0 _ rfl
          have r1 := range_below HRG.out hu.up 1 _ rfl
          simp only [Nat.add_zero] at r0
          go_wp2_with (fail)
          exact ⟨rfl, hu, Ext.refl _, slot_eq rfl⟩) ?_
        refine sp_op (Ph.eq _) (fun u hu => by
          refine spArg_eq 0 rfl rfl ?_
          refine spArg_nil ?_
          simp only [Act.put, List.setIfInBounds_toArray, List.set_cons_succ, List.set_cons_zero]
          obtain ⟨tc0, tc1, tc2, -⟩ := HTC.out _ hu.has
          have r0 := range_below HRG.out hu.up 0 _ rfl
          have r1 := range_below HRG.out hu.up 1 _ rfl
          simp only [Nat.add_zero] at r0
          go_wp2_with (fail)
          exact ⟨rfl, hu, Ext.refl _, slot_eq rfl⟩) ?_
        refine sp_op (Ph.eq _) (fun u hu => by
          refine spArg_eq 0 rfl rfl ?_
          refine spArg_nil ?_
          simp only [Act.put, List.setIfInBounds_toArray, List.set_cons_succ, List.set_cons_zero]
          obtain ⟨tc0, tc1, tc2, -⟩ := HTC.out _ hu.has
          have r0 := range_below HRG.out hu.up 0 _ rfl
          have r1 := range_below HRG.out hu.up 1 _ rfl
          simp only [Nat.add_zero] at r0
          go_wp2_with (fail)
          exact ⟨rfl, hu, Ext.refl _, slot_eq rfl⟩) ?_
        refine sp_op (Ph.eq _) (fun u hu => by
          refine spArg_eq 0 rfl rfl ?_
          refine spArg_eq 1 rfl rfl ?_
          refine spArg_nil ?_
          simp only [Act.put, List.setIfInBounds_toArray, List.set_cons_succ, List.set_cons_zero]
          obtain ⟨tc0, tc1, tc2, -⟩ := HTC.out _ hu.has
          have r0 := range_below HRG.out hu.up 0 _ rfl
          have r1 := range_below HRG.out hu.up 1 _ rfl
          simp only [Nat.add_zero] at r0
          go_wp2_with (fail)
          exact ⟨rfl, hu, Ext.refl _, slot_eq rfl⟩) ?_
        refine sp_op (Ph.eq _) (fun u hu => by
          refine spArg_eq 2 rfl rfl ?_
          refine spArg_nil ?_
          simp only [Act.put, List.setIfInBounds_toArray, List.set_cons_succ, List.set_cons_zero]
          obtain ⟨tc0, tc1, tc2, -⟩ := HTC.out _ hu.has
          have r0 := range_below HRG.out hu.up 0 _ rfl
          have r1 := range_below HRG.out hu.up 1 _ rfl
          simp only [Nat.add_zero] at r0
          go_wp2_with (fail)
          exact ⟨rfl, hu, Ext.refl _, slot_eq rfl⟩) ?_
        refine sp_op (Ph.eq _) (fun u hu => by
          refine spArg_eq 0 rfl rfl ?_
          refine spArg_eq 3 rfl rfl ?_
          refine spArg_nil ?_
          simp only [Act.put, List.setIfInBounds_toArray, List.set_cons_succ, List.set_cons_zero]
          obtain ⟨tc0, tc1, tc2, -⟩ := HTC.out _ hu.has
          have r0 := range_below HRG.out hu.up 0 _ rfl
          have r1 := range_below HRG.out hu.up 1 _ rfl
          simp only [Nat.add_zero] at r0
          go_wp2_with (fail)
          exact ⟨rfl, hu, Ext.refl _, slot_eq rfl⟩) ?_
        refine sp_op (Ph.eq _) (fun u hu => by
          refine spArg_eq 2 rfl rfl ?_
          refine spArg_eq 0 rfl rfl ?_
          refine spArg_eq 4 rfl rfl ?_
          refine spArg_nil ?_
          simp only [Act.put, List.setIfInBounds_toArray, List.set_cons_succ, List.set_cons_zero]
          obtain ⟨tc0, tc1, tc2, -⟩ := HTC.out _ hu.has
          have r0 := range_below HRG.out hu.up 0 _ rfl
          have r1 := range_below HRG.out hu.up 1 _ rfl
          simp only [Nat.add_zero] at r0
          go_wp2_with (fail)
          exact ⟨rfl, hu, Ext.refl _, slot_eq rfl⟩) ?_
        refine sp_op (Ph.eq _) (fun u hu => by
          refine spArg_eq 5 rfl rfl ?_
          refine spArg_eq 0 rfl rfl ?_
          refine spArg_nil ?_
          simp only [Act.put, List.setIfInBounds_toArray, List.set_cons_succ, List.set_cons_zero]
          obtain ⟨tc0, tc1, tc2, -⟩ := HTC.out _ hu.has
          have r0 := range_below HRG.out hu.up 0 _ rfl
          have r1 := range_below HRG.out hu.up 1 _ rfl
          simp only [Nat.add_zero] at r0
          go_wp2_with (fail)
          exact ⟨rfl, hu, Ext.refl _, slot_eq rfl⟩) ?_
        refine sp_op (Ph.eq _) (fun u hu => by
          refine spArg_eq 0 rfl rfl ?_
          refine spArg_nil ?_
          simp only [Act.put, List.setIfInBounds_toArray, List.set_cons_succ, List.set_cons_zero]
          obtain ⟨tc0, tc1, tc2, -⟩ := HTC.out _ hu.has
          have r0 := range_below HRG.out hu.up 0 _ rfl
          have r1 := range_below HRG.out hu.up 1 _ rfl
          simp only [Nat.add_zero] at r0
          go_wp2_with (fail)
          exact ⟨rfl, hu, Ext.refl _, slot_eq rfl⟩) ?_
        refine sp_op (Ph.eq _) (fun u hu => by
          refine spArg_eq 0 rfl rfl ?_
          refine spArg_nil ?_
          simp only [Act.put, List.setIfInBounds_toArray, List.set_cons_succ, List.set_cons_zero]
          obtain ⟨tc0, tc1, tc2, -⟩ := HTC.out _ hu.has
          have r0 := range_below HRG.out hu.up 0 _ rfl
          have r1 := range_below HRG.out hu.up 1 _ rfl
          simp only [Nat.add_zero] at r0
          go_wp2_with (fail)
          exact ⟨rfl, hu, Ext.refl _, slot_eq rfl⟩) ?_
        refine sp_op (Ph.eq _) (fun u hu => by
          refine spArg_eq 1 rfl rfl ?_
          refine spArg_nil ?_
          simp only [Act.put, List.setIfInBounds_toArray, List.set_cons_succ, List.set_cons_zero]
          obtain ⟨tc0, tc1, tc2, -⟩ := HTC.out _ hu.has
          have r0 := range_below HRG.out hu.up 0 _ rfl
          have r1 := range_below HRG.out hu.up 1 _ rfl
          simp only [Nat.add_zero] at r0
          go_wp2_with (fail)
          exact ⟨rfl, hu, Ext.refl _, slot_eq rfl⟩) ?_
        refine sp_op (Ph.eq _) (fun u hu => by
          refine spArg_eq 0 rfl rfl ?_
          refine spArg_eq 2 rfl rfl ?_
          refine spArg_nil ?_
          simp only [Act.put, List.setIfInBounds_toArray, List.set_cons_succ, List.set_cons_zero]
          obtain ⟨tc0, tc1, tc2, -⟩ := HTC.out _ hu.has
          have r0 := range_below HRG.out hu.up 0 _ rfl
          have r1 := range_below HRG.out hu.up 1 _ rfl
          simp only [Nat.add_zero] at r0
          go_wp2_with (fail)
          exact ⟨rfl, hu, Ext.refl _, slot_eq rfl⟩) ?_
        refine sp_op (Ph.eq _) (fun u hu => by
          refine spArg_eq 2 rfl rfl ?_
          refine spArg_eq 0 rfl rfl ?_
          refine spArg_eq 3 rfl rfl ?_
          refine spArg_nil ?_
          simp only [Act.put, List.setIfInBounds_toArray, List.set_cons_succ, List.set_cons_zero]
          obtain ⟨tc0, tc1, tc2, -⟩ := HTC.out _ hu.has
          have r0 := range_below HRG.out hu.up 0 _ rfl
          have r1 := range_below HRG.out hu.up 1 _ rfl
          simp only [Nat.add_zero] at r0
          go_wp2_with (fail)
          exact ⟨rfl, hu, Ext.refl _, slot_eq rfl⟩) ?_
        refine sp_op (Ph.eq _) (fun u hu => by
          refine spArg_eq 0 rfl rfl ?_
          refine spArg_eq 4 rfl rfl ?_
          refine spArg_nil ?_
          simp only [Act.put, List.setIfInBounds_toArray, List.set_cons_succ, List.set_cons_zero]
          obtain ⟨tc0, tc1, tc2, -⟩ := HTC.out _ hu.has
          have r0 := range_below HRG.out hu.up 0 _ rfl
          have r1 := range_below HRG.out hu.up 1 _ rfl
          simp only [Nat.add_zero] at r0
          go_wp2_with (fail)
          exact ⟨rfl, hu, Ext.refl _, slot_eq rfl⟩) ?_
        refine sp_op (Ph.eq _) (fun u hu => by
          refine spArg_eq 5 rfl rfl ?_
          refine spArg_nil ?_
          simp only [Act.put, List.setIfInBounds_toArray, List.set_cons_succ, List.set_cons_zero]
          obtain ⟨tc0, tc1, tc2, -⟩ := HTC.out _ hu.has
          have r0 := range_below HRG.out hu.up 0 _ rfl
          have r1 := range_below HRG.out hu.up 1 _ rfl
          simp only [Nat.add_zero] at r0
          go_wp2_with (fail)
          exact ⟨rfl, hu, Ext.refl _, slot_eq rfl⟩) ?_
        refine sp_op (Ph.eq _) (fun u hu => by
          refine spArg_eq 0 rfl rfl ?_
          refine spArg_eq 6 rfl rfl ?_
          refine spArg_nil ?_
          simp only [Act.put, List.setIfInBounds_toArray, List.set_cons_succ, List.set_cons_zero]
          obtain ⟨tc0, tc1, tc2, -⟩ := HTC.out _ hu.has
          have r0 := range_below HRG.out hu.up 0 _ rfl
          have r1 := range_below HRG.out hu.up 1 _ rfl
          simp only [Nat.add_zero] at r0
          go_wp2_with (fail)
          exact ⟨rfl, hu, Ext.refl _, slot_eq rfl⟩) ?_
        refine sp_op (Ph.eq _) (fun u hu => by
          refine spArg_eq 2 rfl rfl ?_
          refine spArg_eq 0 rfl rfl ?_
          refine spArg_eq 7 rfl rfl ?_
          refine spArg_nil ?_
          simp only [Act.put, List.setIfInBounds_toArray, List.set_cons_succ, List.set_cons_zero]
          obtain ⟨tc0, tc1, tc2, -⟩ := HTC.out _ hu.has
          have r0 := range_below HRG.out hu.up 0 _ rfl
          have r1 := range_below HRG.out hu.up 1 _ rfl
          simp only [Nat.add_zero] at r0
          go_wp2_with ((go_at_call 38; refine (HSS.out _ (HVS.out.below hu.up (by decide)) (HVT.out.below hu.up (by decide))).mono ?_; rintro e x1 ⟨rfl, hb1⟩))
          first | exact ⟨rfl, HoldT.step hst hu hb1, hb1, slot_eq rfl⟩ | exact ⟨rfl, hu, Ext.refl _, slot_eq rfl⟩) ?_
        refine sp_op (Ph.eq _) (fun u hu => by
          refine spArg_eq 0 rfl rfl ?_
          refine spArg_eq 8 rfl rfl ?_
          refine spArg_nil ?_
          simp only [Act.put, List.setIfInBounds_toArray, List.set_cons_succ, List.set_cons_zero]
          obtain ⟨tc0, tc1, tc2, -⟩ := HTC.out _ hu.has
          have r0 := range_below HRG.out hu.up 0 _ rfl
          have r1 := range_below HRG.out hu.up 1 _ rfl
          simp only [Nat.add_zero] at r0
          go_wp2_with (fail)
          exact ⟨rfl, hu, Ext.refl _, slot_eq rfl⟩) ?_
        refine sp_op (Ph.eq _) (fun u hu => by
          refine spArg_eq 9 rfl rfl ?_
          refine spArg_eq 0 rfl rfl ?_
          refine spArg_nil ?_
          simp only [Act.put, List.setIfInBounds_toArray, List.set_cons_succ, List.set_cons_zero]
          obtain ⟨tc0, tc1, tc2, -⟩ := HTC.out _ hu.has
          have r0 := range_below HRG.out hu.up 0 _ rfl
          have r1 := range_below HRG.out hu.up 1 _ rfl
          simp only [Nat.add_zero] at r0
          go_wp2_with (fail)
          exact ⟨rfl, hu, Ext.refl _, slot_eq rfl⟩) ?_
        refine sp_end ?_
        intro u hu
        refine spArg_eq 20 rfl rfl ?_
        refine spArg_eq 19 rfl rfl ?_
        refine spArg_eq 18 rfl rfl ?_
        refine spArg_eq 17 rfl rfl ?_
        refine spArg_eq 16 rfl rfl ?_
        refine spArg_eq 15 rfl rfl ?_
        refine spArg_eq 14 rfl rfl ?_
        refine spArg_eq 13 rfl rfl ?_
        refine spArg_eq 12 rfl rfl ?_
        refine spArg_eq 11 rfl rfl ?_
        refine spArg_eq 10 rfl rfl ?_
        refine spArg_eq 9 rfl rfl ?_
        refine spArg_eq 8 rfl rfl ?_
        refine spArg_eq 7 rfl rfl ?_
        refine spArg_eq 6 rfl rfl ?_
        refine spArg_eq 5 rfl rfl ?_
        refine spArg_eq 4 rfl rfl ?_
        refine spArg_eq 3 rfl rfl ?_
        refine spArg_eq 2 rfl rfl ?_
        refine spArg_eq 1 rfl rfl ?_
        refine spArg_eq 0 rfl rfl ?_
        refine spArg_nil ?_
        simp only [Act.put, List.setIfInBounds_toArray, List.set_cons_succ, List.set_cons_zero]
        obtain ⟨tc0, tc1, tc2, tc3, tc4, tc5, tc6, tc7⟩ := HTC.out _ hu.has
        obtain ⟨ec0, ec1⟩ := HEC.out _ hu.has
        obtain ⟨pc0, pc1, pc2⟩ := HPC.out _ hu.has
        go_wp2_with (first
          | (go_at_call 39; (with_reducible refine (HCC.out _).mono ?_); rintro e x5 ⟨rfl, hb5⟩; have hu5 := HoldT.step hst hu hb5
             clear tc0 tc1 tc2 tc3 tc4 tc5 tc6 tc7 ec0 ec1 pc0 pc1 pc2
             obtain ⟨tc0, tc1, tc2, tc3, tc4, tc5, tc6, tc7⟩ := HTC.out _ hu5.has
             obtain ⟨pc0, pc1, pc2⟩ := HPC.out _ hu5.has)
          | (go_at_call 39; (with_reducible refine (HMM.out _).mono ?_); rintro e x6 ⟨rfl, hb6⟩; have hu6 := HoldT.step hst hu5 hb6
             clear tc0 tc1 tc2 tc3 tc4 tc5 tc6 tc7 pc0 pc1 pc2
             obtain ⟨tc0, tc1, tc2, tc3, tc4, tc5, tc6, tc7⟩ := HTC.out _ hu6.has)
          | (go_at_call 40; refine (HBB.out _ (HVT.out.below hu6.up (by decide))).mono ?_; rintro e x7 ⟨v3, rfl, hown3, hb7⟩; have hu7 := HoldT.step hst hu6 hb7))
        go_ret
        exact ⟨by rw [HFF.out]; rfl, hu5.up⟩
      | true =>
        by_cases hm : mixedOk p t
        · simp only [decide_eq_true hm] at HM hF
          clear hm
          generalize openL (hopK t.shared) (besL at_) t.e.box = op at *
          cases op with
          | none =>
            have HSS := Lib.hid HS; have HMM := Lib.hid HM; have HBB := Lib.hid HB; have HCC := Lib.hid HC; have HFF := Lib.hid hF
            clear HS HM HB HC hF hp ho ht hMD
            generalize p.cells.toArray = PC at *
            generalize stpC t (.slice a2 t.e.box.length c2) = TC at *
            generalize hec : (#[.int .u64 out.x, .slice ao out.box.length co] : Array Value) = EC at *
            generalize p.base = pb at *
            generalize p.blind = pbl at *
            generalize p.mix = pm at *
            generalize t.e.x = TX at *
            generalize t.e.box = TB at *
            generalize t.shared = SH at *
            generalize t.b.c = bc at *
            generalize t.b.s = bs at *
            generalize t.m.c = mc at *
            generalize t.m.s = ms at *
            generalize out.x = OX at *
            generalize out.box = OB at *
            generalize ek.x = KX at *
            generalize ek.box = KB at *
            subst hec
            go_enter Try.func13, Try.ntmps13
            go_wp2_with fail
            have hk := hk0.out
            try change Code.wp _ _ _ (Act.mk _ _) _
            refine wp_region_runR Ext 21 81 (HoldT (PsC w.heap.size PC #[.int .u64 OX, .slice ao OB.length co] TC) _) [[], [(0, 13)], [(1, 14)], [(2, 15)], [(3, 16)], [(4, 17), (3, 16)], [(3, 16)], [(6, 19), (3, 16)], [(5, 18), (7, 20), (3, 16)], [(3, 16), (8, 21)], [(9, 22)], [(10, 23)], [(10, 23)], [(12, 25), (10, 23)], [(11, 24), (13, 26), (10, 23)], [(14, 27), (10, 23)], [(10, 23)], [(16, 29), (10, 23)], [(15, 28), (17, 30), (10, 23)], [(18, 31), (10, 23)], [(10, 23), (19, 32)]] [(0, 13), (1, 14), (2, 15), (3, 16), (4, 17), (5, 18), (6, 19), (7, 20), (8, 21), (9, 22), (10, 23), (11, 24), (12, 25), (13, 26), (14, 27), (15, 28), (16, 29), (17, 30), (18, 31), (19, 32), (20, 33)] (by kernel_rfl) (by kernel_rfl) (by first | rfl | simp) (hk) ?_
            simp only [List.take_succ_cons, List.take_zero, List.drop_succ_cons, List.drop_zero]
            refine sp_op (Ph.eq _) (fun u hu => by
              refine spArg_nil ?_
              obtain ⟨tc0, tc1, tc2, -⟩ := HTC.out _ hu.has
              have r0 := range_below HRG.out hu.up 0 _ rfl
              have r1 := range_below HRG.out hu.up 1 _ rfl
              simp only [Nat.add_zero] at r0
              go_wp2_with (fail)
              exact ⟨rfl, hu, Ext.refl _, slot_eq rfl⟩) ?_
            refine sp_op (Ph.eq _) (fun u hu => by
              refine spArg_eq 0 rfl rfl ?_
              refine spArg_nil ?_
              simp only [Act.put, List.setIfInBounds_toArray, List.set_cons_succ, List.set_cons_zero]
              obtain ⟨tc0, tc1, tc2, -⟩ := HTC.out _ hu.has
              have r0 := range_below HRG.out hu.up 0 _ rfl
              have r1 := range_below HRG.out hu.up 1 _ rfl
              simp only [Nat.add_zero] at r0
              go_wp2_with (fail)
              exact ⟨rfl, hu, Ext.refl _, slot_eq rfl⟩) ?_
            refine sp_op (Ph.eq _) (fun u hu => by
              refine spArg_eq 0 rfl rfl ?_
              refine spArg_nil ?_
              simp only [Act.put, List.setIfInBounds_toArray, List.set_cons_succ, List.set_cons_zero]
              obtain ⟨tc0, tc1, tc2, -⟩ := HTC.out _ hu.has
              have r0 := range_below HRG.out hu.up 0 _ rfl
              have r1 := range_below HRG.out hu.up 1 _ rfl
              simp only [Nat.add_zero] at r0
              go_wp2_with (fail)
              exact ⟨rfl, hu, Ext.refl _, slot_eq rfl⟩) ?_
            refine sp_op (Ph.eq _) (fun u hu => by
              refine spArg_eq 0 rfl rfl ?_
              refine spArg_nil ?_
              simp only [Act.put, List.setIfInBounds_toArray, List.set_cons_succ, List.set_cons_zero]
              obtain ⟨tc0, tc1, tc2, -⟩ := HTC.out _ hu.has
              have r0 := range_below HRG.out hu.up 0 _ rfl
              have r1 := range_below HRG.out hu.up 1 _ rfl
              simp only [Nat.add_zero] at r0
              go_wp2_with (fail)
              exact ⟨rfl, hu, Ext.refl _, slot_eq rfl⟩) ?_
            refine sp_op (Ph.eq _) (fun u hu => by
              refine spArg_eq 0 rfl rfl ?_
              refine spArg_nil ?_
              simp only [Act.put, List.setIfInBounds_toArray, List.set_cons_succ, List.set_cons_zero]
              obtain ⟨tc0, tc1, tc2, -⟩ := HTC.out _ hu.has
              have r0 := range_below HRG.out hu.up 0 _ rfl
              have r1 := range_below HRG.out hu.up 1 _ rfl
              simp only [Nat.add_zero] at r0
              go_wp2_with (fail)
              exact ⟨rfl, hu, Ext.refl _, slot_eq rfl⟩) ?_
            refine sp_op (Ph.eq _) (fun u hu => by
              refine spArg_eq 0 rfl rfl ?_
              refine spArg_eq 1 rfl rfl ?_
              refine spArg_nil ?_
              simp only [Act.put, List.setIfInBounds_toArray, List.set_cons_succ, List.set_cons_zero]
              obtain ⟨tc0, tc1, tc2, -⟩ := HTC.out _ hu.has
              have r0 := range_below HRG.out hu.up 0 _ rfl
              have r1 := range_below HRG.out hu.up 1 _ rfl
              simp only [Nat.add_zero] at r0
              go_wp2_with (fail)
              exact ⟨rfl, hu, Ext.refl _, slot_eq rfl⟩) ?_
            refine sp_op (Ph.eq _) (fun u hu => by
              refine spArg_eq 2 rfl rfl ?_
              refine spArg_nil ?_
              simp only [Act.put, List.setIfInBounds_toArray, List.set_cons_succ, List.set_cons_zero]
              obtain ⟨tc0, tc1, tc2, -⟩ := HTC.out _ hu.has
              have r0 := range_below HRG.out hu.up 0 _ rfl
              have r1 := range_below HRG.out hu.up 1 _ rfl
              simp only [Nat.add_zero] at r0
              go_wp2_with (fail)
              exact ⟨rfl, hu, Ext.refl _, slot_eq rfl⟩) ?_
            refine sp_op (Ph.eq _) (fun u hu => by
              refine spArg_eq 0 rfl rfl ?_
              refine spArg_eq 3 rfl rfl ?_
              refine spArg_nil ?_
              simp only [Act.put, List.setIfInBounds_toArray, List.set_cons_succ, List.set_cons_zero]
              obtain ⟨tc0, tc1, tc2, -⟩ := HTC.out _ hu.has
              have r0 := range_below HRG.out hu.up 0 _ rfl
              have r1 := range_below HRG.out hu.up 1 _ rfl
              simp only [Nat.add_zero] at r0
              go_wp2_with (fail)
              exact ⟨rfl, hu, Ext.refl _, slot_eq rfl⟩) ?_
            refine sp_op (Ph.eq _) (fun u hu => by
              refine spArg_eq 2 rfl rfl ?_
              refine spArg_eq 0 rfl rfl ?_
              refine spArg_eq 4 rfl rfl ?_
              refine spArg_nil ?_
              simp only [Act.put, List.setIfInBounds_toArray, List.set_cons_succ, List.set_cons_zero]
              obtain ⟨tc0, tc1, tc2, -⟩ := HTC.out _ hu.has
              have r0 := range_below HRG.out hu.up 0 _ rfl
              have r1 := range_below HRG.out hu.up 1 _ rfl
              simp only [Nat.add_zero] at r0
              go_wp2_with (fail)
              exact ⟨rfl, hu, Ext.refl _, slot_eq rfl⟩) ?_
            refine sp_op (Ph.eq _) (fun u hu => by
              refine spArg_eq 5 rfl rfl ?_
              refine spArg_eq 0 rfl rfl ?_
              refine spArg_nil ?_
              simp only [Act.put, List.setIfInBounds_toArray, List.set_cons_succ, List.set_cons_zero]
              obtain ⟨tc0, tc1, tc2, -⟩ := HTC.out _ hu.has
              have r0 := range_below HRG.out hu.up 0 _ rfl
              have r1 := range_below HRG.out hu.up 1 _ rfl
              simp only [Nat.add_zero] at r0
              go_wp2_with (fail)
              exact ⟨rfl, hu, Ext.refl _, slot_eq rfl⟩) ?_
            refine sp_op (Ph.eq _) (fun u hu => by
              refine spArg_eq 0 rfl rfl ?_
              refine spArg_nil ?_
              simp only [Act.put, List.setIfInBounds_toArray, List.set_cons_succ, List.set_cons_zero]
              obtain ⟨tc0, tc1, tc2, -⟩ := HTC.out _ hu.has
              have r0 := range_below HRG.out hu.up 0 _ rfl
              have r1 := range_below HRG.out hu.up 1 _ rfl
              simp only [Nat.add_zero] at r0
              go_wp2_with (fail)
              exact ⟨rfl, hu, Ext.refl _, slot_eq rfl⟩) ?_
            refine sp_op (Ph.eq _) (fun u hu => by
              refine spArg_eq 0 rfl rfl ?_
              refine spArg_nil ?_
              simp only [Act.put, List.setIfInBounds_toArray, List.set_cons_succ, List.set_cons_zero]
              obtain ⟨tc0, tc1, tc2, -⟩ := HTC.out _ hu.has
              have r0 := range_below HRG.out hu.up 0 _ rfl
              have r1 := range_below HRG.out hu.up 1 _ rfl
              simp only [Nat.add_zero] at r0
              go_wp2_with (fail)
              exact ⟨rfl, hu, Ext.refl _, slot_eq rfl⟩) ?_
            refine sp_op (Ph.eq _) (fun u hu => by
              refine spArg_eq 1 rfl rfl ?_
              refine spArg_nil ?_
              simp only [Act.put, List.setIfInBounds_toArray, List.set_cons_succ, List.set_cons_zero]
              obtain ⟨tc0, tc1, tc2, -⟩ := HTC.out _ hu.has
              have r0 := range_below HRG.out hu.up 0 _ rfl
              have r1 := range_below HRG.out hu.up 1 _ rfl
              simp only [Nat.add_zero] at r0
              go_wp2_with (fail)
              exact ⟨rfl, hu, Ext.refl _, slot_eq rfl⟩) ?_
            refine sp_op (Ph.eq _) (fun u hu => by
              refine spArg_eq 0 rfl rfl ?_
              refine spArg_eq 2 rfl rfl ?_
              refine spArg_nil ?_
              simp only [Act.put, List.setIfInBounds_toArray, List.set_cons_succ, List.set_cons_zero]
              obtain ⟨tc0, tc1, tc2, -⟩ := HTC.out _ hu.has
              have r0 := range_below HRG.out hu.up 0 _ rfl
              have r1 := range_below HRG.out hu.up 1 _ rfl
              simp only [Nat.add_zero] at r0
              go_wp2_with (fail)
              exact ⟨rfl, hu, Ext.refl _, slot_eq rfl⟩) ?_
            refine sp_op (Ph.eq _) (fun u hu => by
              refine spArg_eq 2 rfl rfl ?_
              refine spArg_eq 0 rfl rfl ?_
              refine spArg_eq 3 rfl rfl ?_
              refine spArg_nil ?_
              simp only [Act.put, List.setIfInBounds_toArray, List.set_cons_succ, List.set_cons_zero]
              obtain ⟨tc0, tc1, tc2, -⟩ := HTC.out _ hu.has
              have r0 := range_below HRG.out hu.up 0 _ rfl
              have r1 := range_below HRG.out hu.up 1 _ rfl
              simp only [Nat.add_zero] at r0
              go_wp2_with (fail)
              exact ⟨rfl, hu, Ext.refl _, slot_eq rfl⟩) ?_
            refine sp_op (Ph.eq _) (fun u hu => by
              refine spArg_eq 0 rfl rfl ?_
              refine spArg_eq 4 rfl rfl ?_
              refine spArg_nil ?_
              simp only [Act.put, List.setIfInBounds_toArray, List.set_cons_succ, List.set_cons_zero]
              obtain ⟨tc0, tc1, tc2, -⟩ := HTC.out _ hu.has
              have r0 := range_below HRG.out hu.up 0 _ rfl
              have r1 := range_below HRG.out hu.up 1 _ rfl
              simp only [Nat.add_zero] at r0
              go_wp2_with (fail)
              exact ⟨rfl, hu, Ext.refl _, slot_eq rfl⟩) ?_
            refine sp_op (Ph.eq _) (fun u hu => by
              refine spArg_eq 5 rfl rfl ?_
              refine spArg_nil ?_
              simp only [Act.put, List.setIfInBounds_toArray, List.set_cons_succ, List.set_cons_zero]
              obtain ⟨tc0, tc1, tc2, -⟩ := HTC.out _ hu.has
              have r0 := range_below HRG.out hu.up 0 _ rfl
              have r1 := range_below HRG.out hu.up 1 _ rfl
              simp only [Nat.add_zero] at r0
              go_wp2_with (fail)
              exact ⟨rfl, hu, Ext.refl _, slot_eq rfl⟩) ?_
            refine sp_op (Ph.eq _) (fun u hu => by
              refine spArg_eq 0 rfl rfl ?_
              refine spArg_eq 6 rfl rfl ?_
              refine spArg_nil ?_
              simp only [Act.put, List.setIfInBounds_toArray, List.set_cons_succ, List.set_cons_zero]
              obtain ⟨tc0, tc1, tc2, -⟩ := HTC.out _ hu.has
              have r0 := range_below HRG.out hu.up 0 _ rfl
              have r1 := range_below HRG.out hu.up 1 _ rfl
              simp only [Nat.add_zero] at r0
              go_wp2_with (fail)
              exact ⟨rfl, hu, Ext.refl _, slot_eq rfl⟩) ?_
            refine sp_op (Ph.eq _) (fun u hu => by
              refine spArg_eq 2 rfl rfl ?_
              refine spArg_eq 0 rfl rfl ?_
              refine spArg_eq 7 rfl rfl ?_
              refine spArg_nil ?_
              simp only [Act.put, List.setIfInBounds_toArray, List.set_cons_succ, List.set_cons_zero]
              obtain ⟨tc0, tc1, tc2, -⟩ := HTC.out _ hu.has
              have r0 := range_below HRG.out hu.up 0 _ rfl
              have r1 := range_below HRG.out hu.up 1 _ rfl
              simp only [Nat.add_zero] at r0
              go_wp2_with ((go_at_call 38; refine (HSS.out _ (HVS.out.below hu.up (by decide)) (HVT.out.below hu.up (by decide))).mono ?_; rintro e x1 ⟨rfl, hb1⟩))
              first | exact ⟨rfl, HoldT.step hst hu hb1, hb1, slot_eq rfl⟩ | exact ⟨rfl, hu, Ext.refl _, slot_eq rfl⟩) ?_
            refine sp_op (Ph.eq _) (fun u hu => by
              refine spArg_eq 0 rfl rfl ?_
              refine spArg_eq 8 rfl rfl ?_
              refine spArg_nil ?_
              simp only [Act.put, List.setIfInBounds_toArray, List.set_cons_succ, List.set_cons_zero]
              obtain ⟨tc0, tc1, tc2, -⟩ := HTC.out _ hu.has
              have r0 := range_below HRG.out hu.up 0 _ rfl
              have r1 := range_below HRG.out hu.up 1 _ rfl
              simp only [Nat.add_zero] at r0
              go_wp2_with (fail)
              exact ⟨rfl, hu, Ext.refl _, slot_eq rfl⟩) ?_
            refine sp_op (Ph.eq _) (fun u hu => by
              refine spArg_eq 9 rfl rfl ?_
              refine spArg_eq 0 rfl rfl ?_
              refine spArg_nil ?_
              simp only [Act.put, List.setIfInBounds_toArray, List.set_cons_succ, List.set_cons_zero]
              obtain ⟨tc0, tc1, tc2, -⟩ := HTC.out _ hu.has
              have r0 := range_below HRG.out hu.up 0 _ rfl
              have r1 := range_below HRG.out hu.up 1 _ rfl
              simp only [Nat.add_zero] at r0
              go_wp2_with (fail)
              exact ⟨rfl, hu, Ext.refl _, slot_eq rfl⟩) ?_
            refine sp_end ?_
            intro u hu
            refine spArg_eq 20 rfl rfl ?_
            refine spArg_eq 19 rfl rfl ?_
            refine spArg_eq 18 rfl rfl ?_
            refine spArg_eq 17 rfl rfl ?_
            refine spArg_eq 16 rfl rfl ?_
            refine spArg_eq 15 rfl rfl ?_
            refine spArg_eq 14 rfl rfl ?_
            refine spArg_eq 13 rfl rfl ?_
            refine spArg_eq 12 rfl rfl ?_
            refine spArg_eq 11 rfl rfl ?_
            refine spArg_eq 10 rfl rfl ?_
            refine spArg_eq 9 rfl rfl ?_
            refine spArg_eq 8 rfl rfl ?_
            refine spArg_eq 7 rfl rfl ?_
            refine spArg_eq 6 rfl rfl ?_
            refine spArg_eq 5 rfl rfl ?_
            refine spArg_eq 4 rfl rfl ?_
            refine spArg_eq 3 rfl rfl ?_
            refine spArg_eq 2 rfl rfl ?_
            refine spArg_eq 1 rfl rfl ?_
            refine spArg_eq 0 rfl rfl ?_
            refine spArg_nil ?_
            simp only [Act.put, List.setIfInBounds_toArray, List.set_cons_succ, List.set_cons_zero]
            obtain ⟨tc0, tc1, tc2, tc3, tc4, tc5, tc6, tc7⟩ := HTC.out _ hu.has
            obtain ⟨ec0, ec1⟩ := HEC.out _ hu.has
            obtain ⟨pc0, pc1, pc2⟩ := HPC.out _ hu.has
            go_wp2_with (first
              | (go_at_call 39; (with_reducible refine (HCC.out _).mono ?_); rintro e x5 ⟨rfl, hb5⟩; have hu5 := HoldT.step hst hu hb5
                 clear tc0 tc1 tc2 tc3 tc4 tc5 tc6 tc7 ec0 ec1 pc0 pc1 pc2
                 obtain ⟨tc0, tc1, tc2, tc3, tc4, tc5, tc6, tc7⟩ := HTC.out _ hu5.has
                 obtain ⟨pc0, pc1, pc2⟩ := HPC.out _ hu5.has)
              | (go_at_call 39; (with_reducible refine (HMM.out _).mono ?_); rintro e x6 ⟨rfl, hb6⟩; have hu6 := HoldT.step hst hu5 hb6
                 clear tc0 tc1 tc2 tc3 tc4 tc5 tc6 tc7 pc0 pc1 pc2
                 obtain ⟨tc0, tc1, tc2, tc3, tc4, tc5, tc6, tc7⟩ := HTC.out _ hu6.has)
              | (go_at_call 40; refine (HBB.out _ (HVT.out.below hu6.up (by decide))).mono ?_; rintro e x7 ⟨v3, rfl, hown3, hb7⟩; have hu7 := HoldT.step hst hu6 hb7))
            go_ret
            exact ⟨by rw [HFF.out]; rfl, hu7.up⟩
          | some bb =>
            have hbd : decide (some bb = some out.box) = (bb == out.box) := by simp [Bool.beq_eq_decide_eq]
            rw [hbd] at hF
            clear hbd
            have HSS := Lib.hid HS; have HMM := Lib.hid HM; have HBB := Lib.hid HB; have HCC := Lib.hid HC; have HFF := Lib.hid hF
            clear HS HM HB HC hF hp ho ht hMD
            generalize p.cells.toArray = PC at *
            generalize stpC t (.slice a2 t.e.box.length c2) = TC at *
            generalize hec : (#[.int .u64 out.x, .slice ao out.box.length co] : Array Value) = EC at *
            generalize p.base = pb at *
            generalize p.blind = pbl at *
            generalize p.mix = pm at *
            generalize t.e.x = TX at *
            generalize t.e.box = TB at *
            generalize t.shared = SH at *
            generalize t.b.c = bc at *
            generalize t.b.s = bs at *
            generalize t.m.c = mc at *
            generalize t.m.s = ms at *
            generalize out.x = OX at *
            generalize out.box = OB at *
            generalize ek.x = KX at *
            generalize ek.box = KB at *
            subst hec
            go_enter Try.func13, Try.ntmps13
            go_wp2_with fail
            have hk := hk0.out
            try change Code.wp _ _ _ (Act.mk _ _) _
            refine wp_region_runR Ext 21 81 (HoldT (PsC w.heap.size PC #[.int .u64 OX, .slice ao OB.length co] TC) _) [[], [(0, 13)], [(1, 14)], [(2, 15)], [(3, 16)], [(4, 17), (3, 16)], [(3, 16)], [(6, 19), (3, 16)], [(5, 18), (7, 20), (3, 16)], [(3, 16), (8, 21)], [(9, 22)], [(10, 23)], [(10, 23)], [(12, 25), (10, 23)], [(11, 24), (13, 26), (10, 23)], [(14, 27), (10, 23)], [(10, 23)], [(16, 29), (10, 23)], [(15, 28), (17, 30), (10, 23)], [(18, 31), (10, 23)], [(10, 23), (19, 32)]] [(0, 13), (1, 14), (2, 15), (3, 16), (4, 17), (5, 18), (6, 19), (7, 20), (8, 21), (9, 22), (10, 23), (11, 24), (12, 25), (13, 26), (14, 27), (15, 28), (16, 29), (17, 30), (18, 31), (19, 32), (20, 33)] (by kernel_rfl) (by kernel_rfl) (by first | rfl | simp) (hk) ?_
            simp only [List.take_succ_cons, List.take_zero, List.drop_succ_cons, List.drop_zero]
            refine sp_op (Ph.eq _) (fun u hu => by
              refine spArg_nil ?_
              obtain ⟨tc0, tc1, tc2, -⟩ := HTC.out _ hu.has
              have r0 := range_below HRG.out hu.up 0 _ rfl
              have r1 := range_below HRG.out hu.up 1 _ rfl
              simp only [Nat.add_zero] at r0
              go_wp2_with (fail)
              exact ⟨rfl, hu, Ext.refl _, slot_eq rfl⟩) ?_
            refine sp_op (Ph.eq _) (fun u hu => by
              refine spArg_eq 0 rfl rfl ?_
              refine spArg_nil ?_
              simp only [Act.put, List.setIfInBounds_toArray, List.set_cons_succ, List.set_cons_zero]
              obtain ⟨tc0, tc1, tc2, -⟩ := HTC.out _ hu.has
              have r0 := range_below HRG.out hu.up 0 _ rfl
              have r1 := range_below HRG.out hu.up 1 _ rfl
              simp only [Nat.add_zero] at r0
              go_wp2_with (fail)
              exact ⟨rfl, hu, Ext.refl _, slot_eq rfl⟩) ?_
            refine sp_op (Ph.eq _) (fun u hu => by
              refine spArg_eq 0 rfl rfl ?_
              refine spArg_nil ?_
              simp only [Act.put, List.setIfInBounds_toArray, List.set_cons_succ, List.set_cons_zero]
              obtain ⟨tc0, tc1, tc2, -⟩ := HTC.out _ hu.has
              have r0 := range_below HRG.out hu.up 0 _ rfl
              have r1 := range_below HRG.out hu.up 1 _ rfl
              simp only [Nat.add_zero] at r0
              go_wp2_with (fail)
              exact ⟨rfl, hu, Ext.refl _, slot_eq rfl⟩) ?_
            refine sp_op (Ph.eq _) (fun u hu => by
              refine spArg_eq 0 rfl rfl ?_
              refine spArg_nil ?_
              simp only [Act.put, List.setIfInBounds_toArray, List.set_cons_succ, List.set_cons_zero]
              obtain ⟨tc0, tc1, tc2, -⟩ := HTC.out _ hu.has
              have r0 := range_below HRG.out hu.up 0 _ rfl
              have r1 := range_below HRG.out hu.up 1 _ rfl
              simp only [Nat.add_zero] at r0
              go_wp2_with (fail)
              exact ⟨rfl, hu, Ext.refl _, slot_eq rfl⟩) ?_
            refine sp_op (Ph.eq _) (fun u hu => by
              refine spArg_eq 0 rfl rfl ?_
              refine spArg_nil ?_
              simp only [Act.put, List.setIfInBounds_toArray, List.set_cons_succ, List.set_cons_zero]
              obtain ⟨tc0, tc1, tc2, -⟩ := HTC.out _ hu.has
              have r0 := range_below HRG.out hu.up 0 _ rfl
              have r1 := range_below HRG.out hu.up 1 _ rfl
              simp only [Nat.add_zero] at r0
              go_wp2_with (fail)
              exact ⟨rfl, hu, Ext.refl _, slot_eq rfl⟩) ?_
            refine sp_op (Ph.eq _) (fun u hu => by
              refine spArg_eq 0 rfl rfl ?_
              refine spArg_eq 1 rfl rfl ?_
              refine spArg_nil ?_
              simp only [Act.put, List.setIfInBounds_toArray, List.set_cons_succ, List.set_cons_zero]
              obtain ⟨tc0, tc1, tc2, -⟩ := HTC.out _ hu.has
              have r0 := range_below HRG.out hu.up 0 _ rfl
              have r1 := range_below HRG.out hu.up 1 _ rfl
              simp only [Nat.add_zero] at r0
              go_wp2_with (fail)
              exact ⟨rfl, hu, Ext.refl _, slot_eq rfl⟩) ?_
            refine sp_op (Ph.eq _) (fun u hu => by
              refine spArg_eq 2 rfl rfl ?_
              refine spArg_nil ?_
              simp only [Act.put, List.setIfInBounds_toArray, List.set_cons_succ, List.set_cons_zero]
              obtain ⟨tc0, tc1, tc2, -⟩ := HTC.out _ hu.has
              have r0 := range_below HRG.out hu.up 0 _ rfl
              have r1 := range_below HRG.out hu.up 1 _ rfl
              simp only [Nat.add_zero] at r0
              go_wp2_with (fail)
              exact ⟨rfl, hu, Ext.refl _, slot_eq rfl⟩) ?_
            refine sp_op (Ph.eq _) (fun u hu => by
              refine spArg_eq 0 rfl rfl ?_
              refine spArg_eq 3 rfl rfl ?_
              refine spArg_nil ?_
              simp only [Act.put, List.setIfInBounds_toArray, List.set_cons_succ, List.set_cons_zero]
              obtain ⟨tc0, tc1, tc2, -⟩ := HTC.out _ hu.has
              have r0 := range_below HRG.out hu.up 0 _ rfl
              have r1 := range_below HRG.out hu.up 1 _ rfl
              simp only [Nat.add_zero] at r0
              go_wp2_with (fail)
              exact ⟨rfl, hu, Ext.refl _, slot_eq rfl⟩) ?_
            refine sp_op (Ph.eq _) (fun u hu => by
              refine spArg_eq 2 rfl rfl ?_
              refine spArg_eq 0 rfl rfl ?_
              refine spArg_eq 4 rfl rfl ?_
              refine spArg_nil ?_
              simp only [Act.put, List.setIfInBounds_toArray, List.set_cons_succ, List.set_cons_zero]
              obtain ⟨tc0, tc1, tc2, -⟩ := HTC.out _ hu.has
              have r0 := range_below HRG.out hu.up 0 _ rfl
              have r1 := range_below HRG.out hu.up 1 _ rfl
              simp only [Nat.add_zero] at r0
              go_wp2_with (fail)
              exact ⟨rfl, hu, Ext.refl _, slot_eq rfl⟩) ?_
            refine sp_op (Ph.eq _) (fun u hu => by
              refine spArg_eq 5 rfl rfl ?_
              refine spArg_eq 0 rfl rfl ?_
              refine spArg_nil ?_
              simp only [Act.put, List.setIfInBounds_toArray, List.set_cons_succ, List.set_cons_zero]
              obtain ⟨tc0, tc1, tc2, -⟩ := HTC.out _ hu.has
              have r0 := range_below HRG.out hu.up 0 _ rfl
              have r1 := range_below HRG.out hu.up 1 _ rfl
              simp only [Nat.add_zero] at r0
              go_wp2_with (fail)
              exact ⟨rfl, hu, Ext.refl _, slot_eq rfl⟩) ?_
            refine sp_op (Ph.eq _) (fun u hu => by
              refine spArg_eq 0 rfl rfl ?_
              refine spArg_nil ?_
              simp only [Act.put, List.setIfInBounds_toArray, List.set_cons_succ, List.set_cons_zero]
              obtain ⟨tc0, tc1, tc2, -⟩ := HTC.out _ hu.has
              have r0 := range_below HRG.out hu.up 0 _ rfl
              have r1 := range_below HRG.out hu.up 1 _ rfl
              simp only [Nat.add_zero] at r0
              go_wp2_with (fail)
              exact ⟨rfl, hu, Ext.refl _, slot_eq rfl⟩) ?_
            refine sp_op (Ph.eq _) (fun u hu => by
              refine spArg_eq 0 rfl rfl ?_
              refine spArg_nil ?_
              simp only [Act.put, List.setIfInBounds_toArray, List.set_cons_succ, List.set_cons_zero]
              obtain ⟨tc0, tc1, tc2, -⟩ := HTC.out _ hu.has
              have r0 := range_below HRG.out hu.up 0 _ rfl
              have r1 := range_below HRG.out hu.up 1 _ rfl
              simp only [Nat.add_zero] at r0
              go_wp2_with (fail)
              exact ⟨rfl, hu, Ext.refl _, slot_eq rfl⟩) ?_
            refine sp_op (Ph.eq _) (fun u hu => by
              refine spArg_eq 1 rfl rfl ?_
              refine spArg_nil ?_
              simp only [Act.put, List.setIfInBounds_toArray, List.set_cons_succ, List.set_cons_zero]
              obtain ⟨tc0, tc1, tc2, -⟩ := HTC.out _ hu.has
              have r0 := range_below HRG.out hu.up 0 _ rfl
              have r1 := range_below HRG.out hu.up 1 _ rfl
              simp only [Nat.add_zero] at r0
              go_wp2_with (fail)
              exact ⟨rfl, hu, Ext.refl _, slot_eq rfl⟩) ?_
            refine sp_op (Ph.eq _) (fun u hu => by
              refine spArg_eq 0 rfl rfl ?_
              refine spArg_eq 2 rfl rfl ?_
              refine spArg_nil ?_
              simp only [Act.put, List.setIfInBounds_toArray, List.set_cons_succ, List.set_cons_zero]
              obtain ⟨tc0, tc1, tc2, -⟩ := HTC.out _ hu.has
              have r0 := range_below HRG.out hu.up 0 _ rfl
              have r1 := range_below HRG.out hu.up 1 _ rfl
              simp only [Nat.add_zero] at r0
              go_wp2_with (fail)
              exact ⟨rfl, hu, Ext.refl _, slot_eq rfl⟩) ?_
            refine sp_op (Ph.eq _) (fun u hu => by
              refine spArg_eq 2 rfl rfl ?_
              refine spArg_eq 0 rfl rfl ?_
              refine spArg_eq 3 rfl rfl ?_
              refine spArg_nil ?_
              simp only [Act.put, List.setIfInBounds_toArray, List.set_cons_succ, List.set_cons_zero]
              obtain ⟨tc0, tc1, tc2, -⟩ := HTC.out _ hu.has
              have r0 := range_below HRG.out hu.up 0 _ rfl
              have r1 := range_below HRG.out hu.up 1 _ rfl
              simp only [Nat.add_zero] at r0
              go_wp2_with (fail)
              exact ⟨rfl, hu, Ext.refl _, slot_eq rfl⟩) ?_
            refine sp_op (Ph.eq _) (fun u hu => by
              refine spArg_eq 0 rfl rfl ?_
              refine spArg_eq 4 rfl rfl ?_
              refine spArg_nil ?_
              simp only [Act.put, List.setIfInBounds_toArray, List.set_cons_succ, List.set_cons_zero]
              obtain ⟨tc0, tc1, tc2, -⟩ := HTC.out _ hu.has
              have r0 := range_below HRG.out hu.up 0 _ rfl
              have r1 := range_below HRG.out hu.up 1 _ rfl
              simp only [Nat.add_zero] at r0
              go_wp2_with (fail)
              exact ⟨rfl, hu, Ext.refl _, slot_eq rfl⟩) ?_
            refine sp_op (Ph.eq _) (fun u hu => by
              refine spArg_eq 5 rfl rfl ?_
              refine spArg_nil ?_
              simp only [Act.put, List.setIfInBounds_toArray, List.set_cons_succ, List.set_cons_zero]
              obtain ⟨tc0, tc1, tc2, -⟩ := HTC.out _ hu.has
              have r0 := range_below HRG.out hu.up 0 _ rfl
              have r1 := range_below HRG.out hu.up 1 _ rfl
              simp only [Nat.add_zero] at r0
              go_wp2_with (fail)
              exact ⟨rfl, hu, Ext.refl _, slot_eq rfl⟩) ?_
            refine sp_op (Ph.eq _) (fun u hu => by
              refine spArg_eq 0 rfl rfl ?_
              refine spArg_eq 6 rfl rfl ?_
              refine spArg_nil ?_
              simp only [Act.put, List.setIfInBounds_toArray, List.set_cons_succ, List.set_cons_zero]
              obtain ⟨tc0, tc1, tc2, -⟩ := HTC.out _ hu.has
              have r0 := range_below HRG.out hu.up 0 _ rfl
              have r1 := range_below HRG.out hu.up 1 _ rfl
              simp only [Nat.add_zero] at r0
              go_wp2_with (fail)
              exact ⟨rfl, hu, Ext.refl _, slot_eq rfl⟩) ?_
            refine sp_op (Ph.eq _) (fun u hu => by
              refine spArg_eq 2 rfl rfl ?_
              refine spArg_eq 0 rfl rfl ?_
              refine spArg_eq 7 rfl rfl ?_
              refine spArg_nil ?_
              simp only [Act.put, List.setIfInBounds_toArray, List.set_cons_succ, List.set_cons_zero]
              obtain ⟨tc0, tc1, tc2, -⟩ := HTC.out _ hu.has
              have r0 := range_below HRG.out hu.up 0 _ rfl
              have r1 := range_below HRG.out hu.up 1 _ rfl
              simp only [Nat.add_zero] at r0
              go_wp2_with ((go_at_call 38; refine (HSS.out _ (HVS.out.below hu.up (by decide)) (HVT.out.below hu.up (by decide))).mono ?_; rintro e x1 ⟨rfl, hb1⟩))
              first | exact ⟨rfl, HoldT.step hst hu hb1, hb1, slot_eq rfl⟩ | exact ⟨rfl, hu, Ext.refl _, slot_eq rfl⟩) ?_
            refine sp_op (Ph.eq _) (fun u hu => by
              refine spArg_eq 0 rfl rfl ?_
              refine spArg_eq 8 rfl rfl ?_
              refine spArg_nil ?_
              simp only [Act.put, List.setIfInBounds_toArray, List.set_cons_succ, List.set_cons_zero]
              obtain ⟨tc0, tc1, tc2, -⟩ := HTC.out _ hu.has
              have r0 := range_below HRG.out hu.up 0 _ rfl
              have r1 := range_below HRG.out hu.up 1 _ rfl
              simp only [Nat.add_zero] at r0
              go_wp2_with (fail)
              exact ⟨rfl, hu, Ext.refl _, slot_eq rfl⟩) ?_
            refine sp_op (Ph.eq _) (fun u hu => by
              refine spArg_eq 9 rfl rfl ?_
              refine spArg_eq 0 rfl rfl ?_
              refine spArg_nil ?_
              simp only [Act.put, List.setIfInBounds_toArray, List.set_cons_succ, List.set_cons_zero]
              obtain ⟨tc0, tc1, tc2, -⟩ := HTC.out _ hu.has
              have r0 := range_below HRG.out hu.up 0 _ rfl
              have r1 := range_below HRG.out hu.up 1 _ rfl
              simp only [Nat.add_zero] at r0
              go_wp2_with (fail)
              exact ⟨rfl, hu, Ext.refl _, slot_eq rfl⟩) ?_
            refine sp_end ?_
            intro u hu
            refine spArg_eq 20 rfl rfl ?_
            refine spArg_eq 19 rfl rfl ?_
            refine spArg_eq 18 rfl rfl ?_
            refine spArg_eq 17 rfl rfl ?_
            refine spArg_eq 16 rfl rfl ?_
            refine spArg_eq 15 rfl rfl ?_
            refine spArg_eq 14 rfl rfl ?_
            refine spArg_eq 13 rfl rfl ?_
            refine spArg_eq 12 rfl rfl ?_
            refine spArg_eq 11 rfl rfl ?_
            refine spArg_eq 10 rfl rfl ?_
            refine spArg_eq 9 rfl rfl ?_
            refine spArg_eq 8 rfl rfl ?_
            refine spArg_eq 7 rfl rfl ?_
            refine spArg_eq 6 rfl rfl ?_
            refine spArg_eq 5 rfl rfl ?_
            refine spArg_eq 4 rfl rfl ?_
            refine spArg_eq 3 rfl rfl ?_
            refine spArg_eq 2 rfl rfl ?_
            refine spArg_eq 1 rfl rfl ?_
            refine spArg_eq 0 rfl rfl ?_
            refine spArg_nil ?_
            simp only [Act.put, List.setIfInBounds_toArray, List.set_cons_succ, List.set_cons_zero]
            obtain ⟨tc0, tc1, tc2, tc3, tc4, tc5, tc6, tc7⟩ := HTC.out _ hu.has
            obtain ⟨ec0, ec1⟩ := HEC.out _ hu.has
            obtain ⟨pc0, pc1, pc2⟩ := HPC.out _ hu.has
            go_wp2_with (first
              | (go_at_call 39; (with_reducible refine (HCC.out _).mono ?_); rintro e x5 ⟨rfl, hb5⟩; have hu5 := HoldT.step hst hu hb5
                 clear tc0 tc1 tc2 tc3 tc4 tc5 tc6 tc7 ec0 ec1 pc0 pc1 pc2
                 obtain ⟨tc0, tc1, tc2, tc3, tc4, tc5, tc6, tc7⟩ := HTC.out _ hu5.has
                 obtain ⟨pc0, pc1, pc2⟩ := HPC.out _ hu5.has)
              | (go_at_call 39; (with_reducible refine (HMM.out _).mono ?_); rintro e x6 ⟨rfl, hb6⟩; have hu6 := HoldT.step hst hu5 hb6
                 clear tc0 tc1 tc2 tc3 tc4 tc5 tc6 tc7 pc0 pc1 pc2
                 obtain ⟨tc0, tc1, tc2, tc3, tc4, tc5, tc6, tc7⟩ := HTC.out _ hu6.has)
              | (go_at_call 40; refine (HBB.out _ (HVT.out.below hu6.up (by decide))).mono ?_; rintro e x7 ⟨v3, rfl, hown3, hb7⟩; have hu7 := HoldT.step hst hu6 hb7
                 simp only [Option.getD_some] at hown3
                 obtain ⟨a3, c3, rfl, -, -⟩ := owns_form hown3
                 obtain ⟨ec0, ec1⟩ := HEC.out _ hu7.has
                 have hcv1 := conv_str _ _ _ (sees_of_owns hown3)
                 have hcv2 := conv_str _ _ _ (HVO.out.below hu7.up (by decide))))
            go_ret
            exact ⟨by rw [HFF.out]; simp, hu7.up⟩
        · simp only [decide_eq_false hm] at HM hF
          generalize openL (hopK t.shared) (besL at_) t.e.box = op at *
          have HSS := Lib.hid HS; have HMM := Lib.hid HM; have HBB := Lib.hid HB; have HCC := Lib.hid HC; have HFF := Lib.hid hF
          clear HS HM HB HC hF hp ho ht hMD
          generalize p.cells.toArray = PC at *
          generalize stpC t (.slice a2 t.e.box.length c2) = TC at *
          generalize hec : (#[.int .u64 out.x, .slice ao out.box.length co] : Array Value) = EC at *
          generalize p.base = pb at *
          generalize p.blind = pbl at *
          generalize p.mix = pm at *
          generalize t.e.x = TX at *
          generalize t.e.box = TB at *
          generalize t.shared = SH at *
          generalize t.b.c = bc at *
          generalize t.b.s = bs at *
          generalize t.m.c = mc at *
          generalize t.m.s = ms at *
          generalize out.x = OX at *
          generalize out.box = OB at *
          generalize ek.x = KX at *
          generalize ek.box = KB at *
          subst hec
          go_enter Try.func13, Try.ntmps13
          go_wp2_with fail
          have hk := hk0.out
          try change Code.wp _ _ _ (Act.mk _ _) _
          refine wp_region_runR Ext 21 81 (HoldT (PsC w.heap.size PC #[.int .u64 OX, .slice ao OB.length co] TC) _) [[], [(0, 13)], [(1, 14)], [(2, 15)], [(3, 16)], [(4, 17), (3, 16)], [(3, 16)], [(6, 19), (3, 16)], [(5, 18), (7, 20), (3, 16)], [(3, 16), (8, 21)], [(9, 22)], [(10, 23)], [(10, 23)], [(12, 25), (10, 23)], [(11, 24), (13, 26), (10, 23)], [(14, 27), (10, 23)], [(10, 23)], [(16, 29), (10, 23)], [(15, 28), (17, 30), (10, 23)], [(18, 31), (10, 23)], [(10, 23), (19, 32)]] [(0, 13), (1, 14), (2, 15), (3, 16), (4, 17), (5, 18), (6, 19), (7, 20), (8, 21), (9, 22), (10, 23), (11, 24), (12, 25), (13, 26), (14, 27), (15, 28), (16, 29), (17, 30), (18, 31), (19, 32), (20, 33)] (by kernel_rfl) (by kernel_rfl) (by first | rfl | simp) (hk) ?_
          simp only [List.take_succ_cons, List.take_zero, List.drop_succ_cons, List.drop_zero]
          refine sp_op (Ph.eq _) (fun u hu => by
            refine spArg_nil ?_
            obtain ⟨tc0, tc1, tc2, -⟩ := HTC.out _ hu.has
            have r0 := range_below HRG.out hu.up 0 _ rfl
            have r1 := range_below HRG.out hu.up 1 _ rfl
            simp only [Nat.add_zero] at r0
            go_wp2_with (fail)
            exact ⟨rfl, hu, Ext.refl _, slot_eq rfl⟩) ?_
          refine sp_op (Ph.eq _) (fun u hu => by
            refine spArg_eq 0 rfl rfl ?_
            refine spArg_nil ?_
            simp only [Act.put, List.setIfInBounds_toArray, List.set_cons_succ, List.set_cons_zero]
            obtain ⟨tc0, tc1, tc2, -⟩ := HTC.out _ hu.has
            have r0 := range_below HRG.out hu.up 0 _ rfl
            have r1 := range_below HRG.out hu.up 1 _ rfl
            simp only [Nat.add_zero] at r0
            go_wp2_with (fail)
            exact ⟨rfl, hu, Ext.refl _, slot_eq rfl⟩) ?_
          refine sp_op (Ph.eq _) (fun u hu => by
            refine spArg_eq 0 rfl rfl ?_
            refine spArg_nil ?_
            simp only [Act.put, List.setIfInBounds_toArray, List.set_cons_succ, List.set_cons_zero]
            obtain ⟨tc0, tc1, tc2, -⟩ := HTC.out _ hu.has
            have r0 := range_below HRG.out hu.up 0 _ rfl
            have r1 := range_below HRG.out hu.up 1 _ rfl
            simp only [Nat.add_zero] at r0
            go_wp2_with (fail)
            exact ⟨rfl, hu, Ext.refl _, slot_eq rfl⟩) ?_
          refine sp_op (Ph.eq _) (fun u hu => by
            refine spArg_eq 0 rfl rfl ?_
            refine spArg_nil ?_
            simp only [Act.put, List.setIfInBounds_toArray, List.set_cons_succ, List.set_cons_zero]
            obtain ⟨tc0, tc1, tc2, -⟩ := HTC.out _ hu.has
            have r0 := range_below HRG.out hu.up 0 _ rfl
            have r1 := range_below HRG.out hu.up 1 _ rfl
            simp only [Nat.add_zero] at r0
            go_wp2_with (fail)
            exact ⟨rfl, hu, Ext.refl _, slot_eq rfl⟩) ?_
          refine sp_op (Ph.eq _) (fun u hu => by
            refine spArg_eq 0 rfl rfl ?_
            refine spArg_nil ?_
            simp only [Act.put, List.setIfInBounds_toArray, List.set_cons_succ, List.set_cons_zero]
            obtain ⟨tc0, tc1, tc2, -⟩ := HTC.out _ hu.has
            have r0 := range_below HRG.out hu.up 0 _ rfl
            have r1 := range_below HRG.out hu.up 1 _ rfl
            simp only [Nat.add_zero] at r0
            go_wp2_with (fail)
            exact ⟨rfl, hu, Ext.refl _, slot_eq rfl⟩) ?_
          refine sp_op (Ph.eq _) (fun u hu => by
            refine spArg_eq 0 rfl rfl ?_
            refine spArg_eq 1 rfl rfl ?_
            refine spArg_nil ?_
            simp only [Act.put, List.setIfInBounds_toArray, List.set_cons_succ, List.set_cons_zero]
            obtain ⟨tc0, tc1, tc2, -⟩ := HTC.out _ hu.has
            have r0 := range_below HRG.out hu.up 0 _ rfl
            have r1 := range_below HRG.out hu.up 1 _ rfl
            simp only [Nat.add_zero] at r0
            go_wp2_with (fail)
            exact ⟨rfl, hu, Ext.refl _, slot_eq rfl⟩) ?_
          refine sp_op (Ph.eq _) (fun u hu => by
            refine spArg_eq 2 rfl rfl ?_
            refine spArg_nil ?_
            simp only [Act.put, List.setIfInBounds_toArray, List.set_cons_succ, List.set_cons_zero]
            obtain ⟨tc0, tc1, tc2, -⟩ := HTC.out _ hu.has
            have r0 := range_below HRG.out hu.up 0 _ rfl
            have r1 := range_below HRG.out hu.up 1 _ rfl
            simp only [Nat.add_zero] at r0
            go_wp2_with (fail)
            exact ⟨rfl, hu, Ext.refl _, slot_eq rfl⟩) ?_
          refine sp_op (Ph.eq _) (fun u hu => by
            refine spArg_eq 0 rfl rfl ?_
            refine spArg_eq 3 rfl rfl ?_
            refine spArg_nil ?_
            simp only [Act.put, List.setIfInBounds_toArray, List.set_cons_succ, List.set_cons_zero]
            obtain ⟨tc0, tc1, tc2, -⟩ := HTC.out _ hu.has
            have r0 := range_below HRG.out hu.up 0 _ rfl
            have r1 := range_below HRG.out hu.up 1 _ rfl
            simp only [Nat.add_zero] at r0
            go_wp2_with (fail)
            exact ⟨rfl, hu, Ext.refl _, slot_eq rfl⟩) ?_
          refine sp_op (Ph.eq _) (fun u hu => by
            refine spArg_eq 2 rfl rfl ?_
            refine spArg_eq 0 rfl rfl ?_
            refine spArg_eq 4 rfl rfl ?_
            refine spArg_nil ?_
            simp only [Act.put, List.setIfInBounds_toArray, List.set_cons_succ, List.set_cons_zero]
            obtain ⟨tc0, tc1, tc2, -⟩ := HTC.out _ hu.has
            have r0 := range_below HRG.out hu.up 0 _ rfl
            have r1 := range_below HRG.out hu.up 1 _ rfl
            simp only [Nat.add_zero] at r0
            go_wp2_with (fail)
            exact ⟨rfl, hu, Ext.refl _, slot_eq rfl⟩) ?_
          refine sp_op (Ph.eq _) (fun u hu => by
            refine spArg_eq 5 rfl rfl ?_
            refine spArg_eq 0 rfl rfl ?_
            refine spArg_nil ?_
            simp only [Act.put, List.setIfInBounds_toArray, List.set_cons_succ, List.set_cons_zero]
            obtain ⟨tc0, tc1, tc2, -⟩ := HTC.out _ hu.has
            have r0 := range_below HRG.out hu.up 0 _ rfl
            have r1 := range_below HRG.out hu.up 1 _ rfl
            simp only [Nat.add_zero] at r0
            go_wp2_with (fail)
            exact ⟨rfl, hu, Ext.refl _, slot_eq rfl⟩) ?_
          refine sp_op (Ph.eq _) (fun u hu => by
            refine spArg_eq 0 rfl rfl ?_
            refine spArg_nil ?_
            simp only [Act.put, List.setIfInBounds_toArray, List.set_cons_succ, List.set_cons_zero]
            obtain ⟨tc0, tc1, tc2, -⟩ := HTC.out _ hu.has
            have r0 := range_below HRG.out hu.up 0 _ rfl
            have r1 := range_below HRG.out hu.up 1 _ rfl
            simp only [Nat.add_zero] at r0
            go_wp2_with (fail)
            exact ⟨rfl, hu, Ext.refl _, slot_eq rfl⟩) ?_
          refine sp_op (Ph.eq _) (fun u hu => by
            refine spArg_eq 0 rfl rfl ?_
            refine spArg_nil ?_
            simp only [Act.put, List.setIfInBounds_toArray, List.set_cons_succ, List.set_cons_zero]
            obtain ⟨tc0, tc1, tc2, -⟩ := HTC.out _ hu.has
            have r0 := range_below HRG.out hu.up 0 _ rfl
            have r1 := range_below HRG.out hu.up 1 _ rfl
            simp only [Nat.add_zero] at r0
            go_wp2_with (fail)
            exact ⟨rfl, hu, Ext.refl _, slot_eq rfl⟩) ?_
          refine sp_op (Ph.eq _) (fun u hu => by
            refine spArg_eq 1 rfl rfl ?_
            refine spArg_nil ?_
            simp only [Act.put, List.setIfInBounds_toArray, List.set_cons_succ, List.set_cons_zero]
            obtain ⟨tc0, tc1, tc2, -⟩ := HTC.out _ hu.has
            have r0 := range_below HRG.out hu.up 0 _ rfl
            have r1 := range_below HRG.out hu.up 1 _ rfl
            simp only [Nat.add_zero] at r0
            go_wp2_with (fail)
            exact ⟨rfl, hu, Ext.refl _, slot_eq rfl⟩) ?_
          refine sp_op (Ph.eq _) (fun u hu => by
            refine spArg_eq 0 rfl rfl ?_
            refine spArg_eq 2 rfl rfl ?_
            refine spArg_nil ?_
            simp only [Act.put, List.setIfInBounds_toArray, List.set_cons_succ, List.set_cons_zero]
            obtain ⟨tc0, tc1, tc2, -⟩ := HTC.out _ hu.has
            have r0 := range_below HRG.out hu.up 0 _ rfl
            have r1 := range_below HRG.out hu.up 1 _ rfl
            simp only [Nat.add_zero] at r0
            go_wp2_with (fail)
            exact ⟨rfl, hu, Ext.refl _, slot_eq rfl⟩) ?_
          refine sp_op (Ph.eq _) (fun u hu => by
            refine spArg_eq 2 rfl rfl ?_
            refine spArg_eq 0 rfl rfl ?_
            refine spArg_eq 3 rfl rfl ?_
            refine spArg_nil ?_
            simp only [Act.put, List.setIfInBounds_toArray, List.set_cons_succ, List.set_cons_zero]
            obtain ⟨tc0, tc1, tc2, -⟩ := HTC.out _ hu.has
            have r0 := range_below HRG.out hu.up 0 _ rfl
            have r1 := range_below HRG.out hu.up 1 _ rfl
            simp only [Nat.add_zero] at r0
            go_wp2_with (fail)
            exact ⟨rfl, hu, Ext.refl _, slot_eq rfl⟩) ?_
          refine sp_op (Ph.eq _) (fun u hu => by
            refine spArg_eq 0 rfl rfl ?_
            refine spArg_eq 4 rfl rfl ?_
            refine spArg_nil ?_
            simp only [Act.put, List.setIfInBounds_toArray, List.set_cons_succ, List.set_cons_zero]
            obtain ⟨tc0, tc1, tc2, -⟩ := HTC.out _ hu.has
            have r0 := range_below HRG.out hu.up 0 _ rfl
            have r1 := range_below HRG.out hu.up 1 _ rfl
            simp only [Nat.add_zero] at r0
            go_wp2_with (fail)
            exact ⟨rfl, hu, Ext.refl _, slot_eq rfl⟩) ?_
          refine sp_op (Ph.eq _) (fun u hu => by
            refine spArg_eq 5 rfl rfl ?_
            refine spArg_nil ?_
            simp only [Act.put, List.setIfInBounds_toArray, List.set_cons_succ, List.set_cons_zero]
            obtain ⟨tc0, tc1, tc2, -⟩ := HTC.out _ hu.has
            have r0 := range_below HRG.out hu.up 0 _ rfl
            have r1 := range_below HRG.out hu.up 1 _ rfl
            simp only [Nat.add_zero] at r0
            go_wp2_with (fail)
            exact ⟨rfl, hu, Ext.refl _, slot_eq rfl⟩) ?_
          refine sp_op (Ph.eq _) (fun u hu => by
            refine spArg_eq 0 rfl rfl ?_
            refine spArg_eq 6 rfl rfl ?_
            refine spArg_nil ?_
            simp only [Act.put, List.setIfInBounds_toArray, List.set_cons_succ, List.set_cons_zero]
            obtain ⟨tc0, tc1, tc2, -⟩ := HTC.out _ hu.has
            have r0 := range_below HRG.out hu.up 0 _ rfl
            have r1 := range_below HRG.out hu.up 1 _ rfl
            simp only [Nat.add_zero] at r0
            go_wp2_with (fail)
            exact ⟨rfl, hu, Ext.refl _, slot_eq rfl⟩) ?_
          refine sp_op (Ph.eq _) (fun u hu => by
            refine spArg_eq 2 rfl rfl ?_
            refine spArg_eq 0 rfl rfl ?_
            refine spArg_eq 7 rfl rfl ?_
            refine spArg_nil ?_
            simp only [Act.put, List.setIfInBounds_toArray, List.set_cons_succ, List.set_cons_zero]
            obtain ⟨tc0, tc1, tc2, -⟩ := HTC.out _ hu.has
            have r0 := range_below HRG.out hu.up 0 _ rfl
            have r1 := range_below HRG.out hu.up 1 _ rfl
            simp only [Nat.add_zero] at r0
            go_wp2_with ((go_at_call 38; refine (HSS.out _ (HVS.out.below hu.up (by decide)) (HVT.out.below hu.up (by decide))).mono ?_; rintro e x1 ⟨rfl, hb1⟩))
            first | exact ⟨rfl, HoldT.step hst hu hb1, hb1, slot_eq rfl⟩ | exact ⟨rfl, hu, Ext.refl _, slot_eq rfl⟩) ?_
          refine sp_op (Ph.eq _) (fun u hu => by
            refine spArg_eq 0 rfl rfl ?_
            refine spArg_eq 8 rfl rfl ?_
            refine spArg_nil ?_
            simp only [Act.put, List.setIfInBounds_toArray, List.set_cons_succ, List.set_cons_zero]
            obtain ⟨tc0, tc1, tc2, -⟩ := HTC.out _ hu.has
            have r0 := range_below HRG.out hu.up 0 _ rfl
            have r1 := range_below HRG.out hu.up 1 _ rfl
            simp only [Nat.add_zero] at r0
            go_wp2_with (fail)
            exact ⟨rfl, hu, Ext.refl _, slot_eq rfl⟩) ?_
          refine sp_op (Ph.eq _) (fun u hu => by
            refine spArg_eq 9 rfl rfl ?_
            refine spArg_eq 0 rfl rfl ?_
            refine spArg_nil ?_
            simp only [Act.put, List.setIfInBounds_toArray, List.set_cons_succ, List.set_cons_zero]
            obtain ⟨tc0, tc1, tc2, -⟩ := HTC.out _ hu.has
            have r0 := range_below HRG.out hu.up 0 _ rfl
            have r1 := range_below HRG.out hu.up 1 _ rfl
            simp only [Nat.add_zero] at r0
            go_wp2_with (fail)
            exact ⟨rfl, hu, Ext.refl _, slot_eq rfl⟩) ?_
          refine sp_end ?_
          intro u hu
          refine spArg_eq 20 rfl rfl ?_
          refine spArg_eq 19 rfl rfl ?_
          refine spArg_eq 18 rfl rfl ?_
          refine spArg_eq 17 rfl rfl ?_
          refine spArg_eq 16 rfl rfl ?_
          refine spArg_eq 15 rfl rfl ?_
          refine spArg_eq 14 rfl rfl ?_
          refine spArg_eq 13 rfl rfl ?_
          refine spArg_eq 12 rfl rfl ?_
          refine spArg_eq 11 rfl rfl ?_
          refine spArg_eq 10 rfl rfl ?_
          refine spArg_eq 9 rfl rfl ?_
          refine spArg_eq 8 rfl rfl ?_
          refine spArg_eq 7 rfl rfl ?_
          refine spArg_eq 6 rfl rfl ?_
          refine spArg_eq 5 rfl rfl ?_
          refine spArg_eq 4 rfl rfl ?_
          refine spArg_eq 3 rfl rfl ?_
          refine spArg_eq 2 rfl rfl ?_
          refine spArg_eq 1 rfl rfl ?_
          refine spArg_eq 0 rfl rfl ?_
          refine spArg_nil ?_
          simp only [Act.put, List.setIfInBounds_toArray, List.set_cons_succ, List.set_cons_zero]
          obtain ⟨tc0, tc1, tc2, tc3, tc4, tc5, tc6, tc7⟩ := HTC.out _ hu.has
          obtain ⟨ec0, ec1⟩ := HEC.out _ hu.has
          obtain ⟨pc0, pc1, pc2⟩ := HPC.out _ hu.has
          go_wp2_with (first
            | (go_at_call 39; (with_reducible refine (HCC.out _).mono ?_); rintro e x5 ⟨rfl, hb5⟩; have hu5 := HoldT.step hst hu hb5
               clear tc0 tc1 tc2 tc3 tc4 tc5 tc6 tc7 ec0 ec1 pc0 pc1 pc2
               obtain ⟨tc0, tc1, tc2, tc3, tc4, tc5, tc6, tc7⟩ := HTC.out _ hu5.has
               obtain ⟨pc0, pc1, pc2⟩ := HPC.out _ hu5.has)
            | (go_at_call 39; (with_reducible refine (HMM.out _).mono ?_); rintro e x6 ⟨rfl, hb6⟩; have hu6 := HoldT.step hst hu5 hb6
               clear tc0 tc1 tc2 tc3 tc4 tc5 tc6 tc7 pc0 pc1 pc2
               obtain ⟨tc0, tc1, tc2, tc3, tc4, tc5, tc6, tc7⟩ := HTC.out _ hu6.has)
            | (go_at_call 40; refine (HBB.out _ (HVT.out.below hu6.up (by decide))).mono ?_; rintro e x7 ⟨v3, rfl, hown3, hb7⟩; have hu7 := HoldT.step hst hu6 hb7))
          go_ret
          exact ⟨by rw [HFF.out]; rfl, hu6.up⟩
    · rw [decide_eq_false hs] at hF
      simp only [decide_eq_false hs] at HS
      generalize decide (equalOk p.base p.blind t.e.x out.x t.b.c t.b.s) = dc at *
      generalize decide (mixedOk p t) = dm at *
      generalize openL (hopK t.shared) (besL at_) t.e.box = op at *
      have HSS := Lib.hid HS; have HMM := Lib.hid HM; have HBB := Lib.hid HB; have HCC := Lib.hid HC; have HFF := Lib.hid hF
      clear HS HM HB HC hF hp ho ht hMD
      generalize p.cells.toArray = PC at *
      generalize stpC t (.slice a2 t.e.box.length c2) = TC at *
      generalize hec : (#[.int .u64 out.x, .slice ao out.box.length co] : Array Value) = EC at *
      generalize p.base = pb at *
      generalize p.blind = pbl at *
      generalize p.mix = pm at *
      generalize t.e.x = TX at *
      generalize t.e.box = TB at *
      generalize t.shared = SH at *
      generalize t.b.c = bc at *
      generalize t.b.s = bs at *
      generalize t.m.c = mc at *
      generalize t.m.s = ms at *
      generalize out.x = OX at *
      generalize out.box = OB at *
      generalize ek.x = KX at *
      generalize ek.box = KB at *
      subst hec
      go_enter Try.func13, Try.ntmps13
      go_wp2_with fail
      have hk := hk0.out
      try change Code.wp _ _ _ (Act.mk _ _) _
      refine wp_region_runR Ext 21 81 (HoldT (PsC w.heap.size PC #[.int .u64 OX, .slice ao OB.length co] TC) _) [[], [(0, 13)], [(1, 14)], [(2, 15)], [(3, 16)], [(4, 17), (3, 16)], [(3, 16)], [(6, 19), (3, 16)], [(5, 18), (7, 20), (3, 16)], [(3, 16), (8, 21)], [(9, 22)], [(10, 23)], [(10, 23)], [(12, 25), (10, 23)], [(11, 24), (13, 26), (10, 23)], [(14, 27), (10, 23)], [(10, 23)], [(16, 29), (10, 23)], [(15, 28), (17, 30), (10, 23)], [(18, 31), (10, 23)], [(10, 23), (19, 32)]] [(0, 13), (1, 14), (2, 15), (3, 16), (4, 17), (5, 18), (6, 19), (7, 20), (8, 21), (9, 22), (10, 23), (11, 24), (12, 25), (13, 26), (14, 27), (15, 28), (16, 29), (17, 30), (18, 31), (19, 32), (20, 33)] (by kernel_rfl) (by kernel_rfl) (by first | rfl | simp) (hk) ?_
      simp only [List.take_succ_cons, List.take_zero, List.drop_succ_cons, List.drop_zero]
      refine sp_op (Ph.eq _) (fun u hu => by
        refine spArg_nil ?_
        obtain ⟨tc0, tc1, tc2, -⟩ := HTC.out _ hu.has
        have r0 := range_below HRG.out hu.up 0 _ rfl
        have r1 := range_below HRG.out hu.up 1 _ rfl
        simp only [Nat.add_zero] at r0
        go_wp2_with (fail)
        exact ⟨rfl, hu, Ext.refl _, slot_eq rfl⟩) ?_
      refine sp_op (Ph.eq _) (fun u hu => by
        refine spArg_eq 0 rfl rfl ?_
        refine spArg_nil ?_
        simp only [Act.put, List.setIfInBounds_toArray, List.set_cons_succ, List.set_cons_zero]
        obtain ⟨tc0, tc1, tc2, -⟩ := HTC.out _ hu.has
        have r0 := range_below HRG.out hu.up 0 _ rfl
        have r1 := range_below HRG.out hu.up 1 _ rfl
        simp only [Nat.add_zero] at r0
        go_wp2_with (fail)
        exact ⟨rfl, hu, Ext.refl _, slot_eq rfl⟩) ?_
      refine sp_op (Ph.eq _) (fun u hu => by
        refine spArg_eq 0 rfl rfl ?_
        refine spArg_nil ?_
        simp only [Act.put, List.setIfInBounds_toArray, List.set_cons_succ, List.set_cons_zero]
        obtain ⟨tc0, tc1, tc2, -⟩ := HTC.out _ hu.has
        have r0 := range_below HRG.out hu.up 0 _ rfl
        have r1 := range_below HRG.out hu.up 1 _ rfl
        simp only [Nat.add_zero] at r0
        go_wp2_with (fail)
        exact ⟨rfl, hu, Ext.refl _, slot_eq rfl⟩) ?_
      refine sp_op (Ph.eq _) (fun u hu => by
        refine spArg_eq 0 rfl rfl ?_
        refine spArg_nil ?_
        simp only [Act.put, List.setIfInBounds_toArray, List.set_cons_succ, List.set_cons_zero]
        obtain ⟨tc0, tc1, tc2, -⟩ := HTC.out _ hu.has
        have r0 := range_below HRG.out hu.up 0 _ rfl
        have r1 := range_below HRG.out hu.up 1 _ rfl
        simp only [Nat.add_zero] at r0
        go_wp2_with (fail)
        exact ⟨rfl, hu, Ext.refl _, slot_eq rfl⟩) ?_
      refine sp_op (Ph.eq _) (fun u hu => by
        refine spArg_eq 0 rfl rfl ?_
        refine spArg_nil ?_
        simp only [Act.put, List.setIfInBounds_toArray, List.set_cons_succ, List.set_cons_zero]
        obtain ⟨tc0, tc1, tc2, -⟩ := HTC.out _ hu.has
        have r0 := range_below HRG.out hu.up 0 _ rfl
        have r1 := range_below HRG.out hu.up 1 _ rfl
        simp only [Nat.add_zero] at r0
        go_wp2_with (fail)
        exact ⟨rfl, hu, Ext.refl _, slot_eq rfl⟩) ?_
      refine sp_op (Ph.eq _) (fun u hu => by
        refine spArg_eq 0 rfl rfl ?_
        refine spArg_eq 1 rfl rfl ?_
        refine spArg_nil ?_
        simp only [Act.put, List.setIfInBounds_toArray, List.set_cons_succ, List.set_cons_zero]
        obtain ⟨tc0, tc1, tc2, -⟩ := HTC.out _ hu.has
        have r0 := range_below HRG.out hu.up 0 _ rfl
        have r1 := range_below HRG.out hu.up 1 _ rfl
        simp only [Nat.add_zero] at r0
        go_wp2_with (fail)
        exact ⟨rfl, hu, Ext.refl _, slot_eq rfl⟩) ?_
      refine sp_op (Ph.eq _) (fun u hu => by
        refine spArg_eq 2 rfl rfl ?_
        refine spArg_nil ?_
        simp only [Act.put, List.setIfInBounds_toArray, List.set_cons_succ, List.set_cons_zero]
        obtain ⟨tc0, tc1, tc2, -⟩ := HTC.out _ hu.has
        have r0 := range_below HRG.out hu.up 0 _ rfl
        have r1 := range_below HRG.out hu.up 1 _ rfl
        simp only [Nat.add_zero] at r0
        go_wp2_with (fail)
        exact ⟨rfl, hu, Ext.refl _, slot_eq rfl⟩) ?_
      refine sp_op (Ph.eq _) (fun u hu => by
        refine spArg_eq 0 rfl rfl ?_
        refine spArg_eq 3 rfl rfl ?_
        refine spArg_nil ?_
        simp only [Act.put, List.setIfInBounds_toArray, List.set_cons_succ, List.set_cons_zero]
        obtain ⟨tc0, tc1, tc2, -⟩ := HTC.out _ hu.has
        have r0 := range_below HRG.out hu.up 0 _ rfl
        have r1 := range_below HRG.out hu.up 1 _ rfl
        simp only [Nat.add_zero] at r0
        go_wp2_with (fail)
        exact ⟨rfl, hu, Ext.refl _, slot_eq rfl⟩) ?_
      refine sp_op (Ph.eq _) (fun u hu => by
        refine spArg_eq 2 rfl rfl ?_
        refine spArg_eq 0 rfl rfl ?_
        refine spArg_eq 4 rfl rfl ?_
        refine spArg_nil ?_
        simp only [Act.put, List.setIfInBounds_toArray, List.set_cons_succ, List.set_cons_zero]
        obtain ⟨tc0, tc1, tc2, -⟩ := HTC.out _ hu.has
        have r0 := range_below HRG.out hu.up 0 _ rfl
        have r1 := range_below HRG.out hu.up 1 _ rfl
        simp only [Nat.add_zero] at r0
        go_wp2_with (fail)
        exact ⟨rfl, hu, Ext.refl _, slot_eq rfl⟩) ?_
      refine sp_op (Ph.eq _) (fun u hu => by
        refine spArg_eq 5 rfl rfl ?_
        refine spArg_eq 0 rfl rfl ?_
        refine spArg_nil ?_
        simp only [Act.put, List.setIfInBounds_toArray, List.set_cons_succ, List.set_cons_zero]
        obtain ⟨tc0, tc1, tc2, -⟩ := HTC.out _ hu.has
        have r0 := range_below HRG.out hu.up 0 _ rfl
        have r1 := range_below HRG.out hu.up 1 _ rfl
        simp only [Nat.add_zero] at r0
        go_wp2_with (fail)
        exact ⟨rfl, hu, Ext.refl _, slot_eq rfl⟩) ?_
      refine sp_op (Ph.eq _) (fun u hu => by
        refine spArg_eq 0 rfl rfl ?_
        refine spArg_nil ?_
        simp only [Act.put, List.setIfInBounds_toArray, List.set_cons_succ, List.set_cons_zero]
        obtain ⟨tc0, tc1, tc2, -⟩ := HTC.out _ hu.has
        have r0 := range_below HRG.out hu.up 0 _ rfl
        have r1 := range_below HRG.out hu.up 1 _ rfl
        simp only [Nat.add_zero] at r0
        go_wp2_with (fail)
        exact ⟨rfl, hu, Ext.refl _, slot_eq rfl⟩) ?_
      refine sp_op (Ph.eq _) (fun u hu => by
        refine spArg_eq 0 rfl rfl ?_
        refine spArg_nil ?_
        simp only [Act.put, List.setIfInBounds_toArray, List.set_cons_succ, List.set_cons_zero]
        obtain ⟨tc0, tc1, tc2, -⟩ := HTC.out _ hu.has
        have r0 := range_below HRG.out hu.up 0 _ rfl
        have r1 := range_below HRG.out hu.up 1 _ rfl
        simp only [Nat.add_zero] at r0
        go_wp2_with (fail)
        exact ⟨rfl, hu, Ext.refl _, slot_eq rfl⟩) ?_
      refine sp_op (Ph.eq _) (fun u hu => by
        refine spArg_eq 1 rfl rfl ?_
        refine spArg_nil ?_
        simp only [Act.put, List.setIfInBounds_toArray, List.set_cons_succ, List.set_cons_zero]
        obtain ⟨tc0, tc1, tc2, -⟩ := HTC.out _ hu.has
        have r0 := range_below HRG.out hu.up 0 _ rfl
        have r1 := range_below HRG.out hu.up 1 _ rfl
        simp only [Nat.add_zero] at r0
        go_wp2_with (fail)
        exact ⟨rfl, hu, Ext.refl _, slot_eq rfl⟩) ?_
      refine sp_op (Ph.eq _) (fun u hu => by
        refine spArg_eq 0 rfl rfl ?_
        refine spArg_eq 2 rfl rfl ?_
        refine spArg_nil ?_
        simp only [Act.put, List.setIfInBounds_toArray, List.set_cons_succ, List.set_cons_zero]
        obtain ⟨tc0, tc1, tc2, -⟩ := HTC.out _ hu.has
        have r0 := range_below HRG.out hu.up 0 _ rfl
        have r1 := range_below HRG.out hu.up 1 _ rfl
        simp only [Nat.add_zero] at r0
        go_wp2_with (fail)
        exact ⟨rfl, hu, Ext.refl _, slot_eq rfl⟩) ?_
      refine sp_op (Ph.eq _) (fun u hu => by
        refine spArg_eq 2 rfl rfl ?_
        refine spArg_eq 0 rfl rfl ?_
        refine spArg_eq 3 rfl rfl ?_
        refine spArg_nil ?_
        simp only [Act.put, List.setIfInBounds_toArray, List.set_cons_succ, List.set_cons_zero]
        obtain ⟨tc0, tc1, tc2, -⟩ := HTC.out _ hu.has
        have r0 := range_below HRG.out hu.up 0 _ rfl
        have r1 := range_below HRG.out hu.up 1 _ rfl
        simp only [Nat.add_zero] at r0
        go_wp2_with (fail)
        exact ⟨rfl, hu, Ext.refl _, slot_eq rfl⟩) ?_
      refine sp_op (Ph.eq _) (fun u hu => by
        refine spArg_eq 0 rfl rfl ?_
        refine spArg_eq 4 rfl rfl ?_
        refine spArg_nil ?_
        simp only [Act.put, List.setIfInBounds_toArray, List.set_cons_succ, List.set_cons_zero]
        obtain ⟨tc0, tc1, tc2, -⟩ := HTC.out _ hu.has
        have r0 := range_below HRG.out hu.up 0 _ rfl
        have r1 := range_below HRG.out hu.up 1 _ rfl
        simp only [Nat.add_zero] at r0
        go_wp2_with (fail)
        exact ⟨rfl, hu, Ext.refl _, slot_eq rfl⟩) ?_
      refine sp_op (Ph.eq _) (fun u hu => by
        refine spArg_eq 5 rfl rfl ?_
        refine spArg_nil ?_
        simp only [Act.put, List.setIfInBounds_toArray, List.set_cons_succ, List.set_cons_zero]
        obtain ⟨tc0, tc1, tc2, -⟩ := HTC.out _ hu.has
        have r0 := range_below HRG.out hu.up 0 _ rfl
        have r1 := range_below HRG.out hu.up 1 _ rfl
        simp only [Nat.add_zero] at r0
        go_wp2_with (fail)
        exact ⟨rfl, hu, Ext.refl _, slot_eq rfl⟩) ?_
      refine sp_op (Ph.eq _) (fun u hu => by
        refine spArg_eq 0 rfl rfl ?_
        refine spArg_eq 6 rfl rfl ?_
        refine spArg_nil ?_
        simp only [Act.put, List.setIfInBounds_toArray, List.set_cons_succ, List.set_cons_zero]
        obtain ⟨tc0, tc1, tc2, -⟩ := HTC.out _ hu.has
        have r0 := range_below HRG.out hu.up 0 _ rfl
        have r1 := range_below HRG.out hu.up 1 _ rfl
        simp only [Nat.add_zero] at r0
        go_wp2_with (fail)
        exact ⟨rfl, hu, Ext.refl _, slot_eq rfl⟩) ?_
      refine sp_op (Ph.eq _) (fun u hu => by
        refine spArg_eq 2 rfl rfl ?_
        refine spArg_eq 0 rfl rfl ?_
        refine spArg_eq 7 rfl rfl ?_
        refine spArg_nil ?_
        simp only [Act.put, List.setIfInBounds_toArray, List.set_cons_succ, List.set_cons_zero]
        obtain ⟨tc0, tc1, tc2, -⟩ := HTC.out _ hu.has
        have r0 := range_below HRG.out hu.up 0 _ rfl
        have r1 := range_below HRG.out hu.up 1 _ rfl
        simp only [Nat.add_zero] at r0
        go_wp2_with ((go_at_call 38; refine (HSS.out _ (HVS.out.below hu.up (by decide)) (HVT.out.below hu.up (by decide))).mono ?_; rintro e x1 ⟨rfl, hb1⟩))
        first | exact ⟨rfl, HoldT.step hst hu hb1, hb1, slot_eq rfl⟩ | exact ⟨rfl, hu, Ext.refl _, slot_eq rfl⟩) ?_
      refine sp_op (Ph.eq _) (fun u hu => by
        refine spArg_eq 0 rfl rfl ?_
        refine spArg_eq 8 rfl rfl ?_
        refine spArg_nil ?_
        simp only [Act.put, List.setIfInBounds_toArray, List.set_cons_succ, List.set_cons_zero]
        obtain ⟨tc0, tc1, tc2, -⟩ := HTC.out _ hu.has
        have r0 := range_below HRG.out hu.up 0 _ rfl
        have r1 := range_below HRG.out hu.up 1 _ rfl
        simp only [Nat.add_zero] at r0
        go_wp2_with (fail)
        exact ⟨rfl, hu, Ext.refl _, slot_eq rfl⟩) ?_
      refine sp_op (Ph.eq _) (fun u hu => by
        refine spArg_eq 9 rfl rfl ?_
        refine spArg_eq 0 rfl rfl ?_
        refine spArg_nil ?_
        simp only [Act.put, List.setIfInBounds_toArray, List.set_cons_succ, List.set_cons_zero]
        obtain ⟨tc0, tc1, tc2, -⟩ := HTC.out _ hu.has
        have r0 := range_below HRG.out hu.up 0 _ rfl
        have r1 := range_below HRG.out hu.up 1 _ rfl
        simp only [Nat.add_zero] at r0
        go_wp2_with (fail)
        exact ⟨rfl, hu, Ext.refl _, slot_eq rfl⟩) ?_
      refine sp_end ?_
      intro u hu
      refine spArg_eq 20 rfl rfl ?_
      refine spArg_eq 19 rfl rfl ?_
      refine spArg_eq 18 rfl rfl ?_
      refine spArg_eq 17 rfl rfl ?_
      refine spArg_eq 16 rfl rfl ?_
      refine spArg_eq 15 rfl rfl ?_
      refine spArg_eq 14 rfl rfl ?_
      refine spArg_eq 13 rfl rfl ?_
      refine spArg_eq 12 rfl rfl ?_
      refine spArg_eq 11 rfl rfl ?_
      refine spArg_eq 10 rfl rfl ?_
      refine spArg_eq 9 rfl rfl ?_
      refine spArg_eq 8 rfl rfl ?_
      refine spArg_eq 7 rfl rfl ?_
      refine spArg_eq 6 rfl rfl ?_
      refine spArg_eq 5 rfl rfl ?_
      refine spArg_eq 4 rfl rfl ?_
      refine spArg_eq 3 rfl rfl ?_
      refine spArg_eq 2 rfl rfl ?_
      refine spArg_eq 1 rfl rfl ?_
      refine spArg_eq 0 rfl rfl ?_
      refine spArg_nil ?_
      simp only [Act.put, List.setIfInBounds_toArray, List.set_cons_succ, List.set_cons_zero]
      go_wp2_with fail
      go_ret
      exact ⟨by rw [HFF.out]; rfl, hu.up⟩
  · have hF : decide (passedL p at_ ins out t) = false := by
      rw [decide_eq_false_iff_not]; unfold passedL; rintro ⟨h1, h2, -⟩
      have := (List.getElem?_eq_some_iff.1 h2).1
      exact hr ⟨h1, by omega⟩
    generalize decide (passedL p at_ ins out t) = D at *
    by_cases h0 : t.frm < 0
    · skip
      clear hr
      have HFF := Lib.hid hF
      clear hF HM HB HC hp ho ht hMD
      generalize p.cells.toArray = PC at *
      generalize stpC t (.slice a2 t.e.box.length c2) = TC at *
      generalize (#[.int .u64 out.x, .slice ao out.box.length co] : Array Value) = EC at *
      generalize t.frm = fr at *
      go_enter Try.func13, Try.ntmps13
      go_wp2_with fail
      have hk := hk0.out
      try change Code.wp _ _ _ (Act.mk _ _) _
      refine wp_region_runR Ext 21 81 (HoldT (PsC w.heap.size PC EC TC) _) [[], [(0, 13)], [(1, 14)], [(2, 15)], [(3, 16)], [(4, 17), (3, 16)], [(3, 16)], [(6, 19), (3, 16)], [(5, 18), (7, 20), (3, 16)], [(3, 16), (8, 21)], [(9, 22)], [(10, 23)], [(10, 23)], [(12, 25), (10, 23)], [(11, 24), (13, 26), (10, 23)], [(14, 27), (10, 23)], [(10, 23)], [(16, 29), (10, 23)], [(15, 28), (17, 30), (10, 23)], [(18, 31), (10, 23)], [(10, 23), (19, 32)]] [(0, 13), (1, 14), (2, 15), (3, 16), (4, 17), (5, 18), (6, 19), (7, 20), (8, 21), (9, 22), (10, 23), (11, 24), (12, 25), (13, 26), (14, 27), (15, 28), (16, 29), (17, 30), (18, 31), (19, 32), (20, 33)] (by kernel_rfl) (by kernel_rfl) (by first | rfl | simp) (hk) ?_
      simp only [List.take_succ_cons, List.take_zero, List.drop_succ_cons, List.drop_zero]
      refine sp_op (Ph.eq _) (fun u hu => by
        refine spArg_nil ?_
        have tc0 := (HTC.out _ hu.has).1
        go_wp2_with (fail)
        exact ⟨rfl, hu, Ext.refl _, slot_eq rfl⟩) ?_
      refine sp_op (Ph.eq _) (fun u hu => by
        refine spArg_eq 0 rfl rfl ?_
        refine spArg_nil ?_
        simp only [Act.put, List.setIfInBounds_toArray, List.set_cons_succ, List.set_cons_zero]
        have tc0 := (HTC.out _ hu.has).1
        go_wp2_with (fail)
        exact ⟨rfl, hu, Ext.refl _, slot_eq rfl⟩) ?_
      refine sp_op (Ph.eq _) (fun u hu => by
        refine spArg_eq 0 rfl rfl ?_
        refine spArg_nil ?_
        simp only [Act.put, List.setIfInBounds_toArray, List.set_cons_succ, List.set_cons_zero]
        have tc0 := (HTC.out _ hu.has).1
        go_wp2_with (fail)
        exact ⟨rfl, hu, Ext.refl _, slot_eq rfl⟩) ?_
      refine sp_op (Ph.eq _) (fun u hu => by
        refine spArg_eq 0 rfl rfl ?_
        refine spArg_nil ?_
        simp only [Act.put, List.setIfInBounds_toArray, List.set_cons_succ, List.set_cons_zero]
        have tc0 := (HTC.out _ hu.has).1
        go_wp2_with (fail)
        exact ⟨rfl, hu, Ext.refl _, slot_eq rfl⟩) ?_
      refine sp_op (Ph.eq _) (fun u hu => by
        refine spArg_eq 0 rfl rfl ?_
        refine spArg_nil ?_
        simp only [Act.put, List.setIfInBounds_toArray, List.set_cons_succ, List.set_cons_zero]
        have tc0 := (HTC.out _ hu.has).1
        go_wp2_with (fail)
        exact ⟨rfl, hu, Ext.refl _, slot_eq rfl⟩) ?_
      refine sp_op (Ph.eq _) (fun u hu => by
        refine spArg_eq 0 rfl rfl ?_
        refine spArg_eq 1 rfl rfl ?_
        refine spArg_nil ?_
        simp only [Act.put, List.setIfInBounds_toArray, List.set_cons_succ, List.set_cons_zero]
        have tc0 := (HTC.out _ hu.has).1
        go_wp2_with (fail)
        exact ⟨rfl, hu, Ext.refl _, slot_eq rfl⟩) ?_
      refine sp_op (Ph.eq _) (fun u hu => by
        refine spArg_eq 2 rfl rfl ?_
        refine spArg_nil ?_
        simp only [Act.put, List.setIfInBounds_toArray, List.set_cons_succ, List.set_cons_zero]
        have tc0 := (HTC.out _ hu.has).1
        go_wp2_with (fail)
        exact ⟨rfl, hu, Ext.refl _, slot_eq rfl⟩) ?_
      refine sp_op (Ph.eq _) (fun u hu => by
        refine spArg_eq 0 rfl rfl ?_
        refine spArg_eq 3 rfl rfl ?_
        refine spArg_nil ?_
        simp only [Act.put, List.setIfInBounds_toArray, List.set_cons_succ, List.set_cons_zero]
        have tc0 := (HTC.out _ hu.has).1
        go_wp2_with (fail)
        exact ⟨rfl, hu, Ext.refl _, slot_eq rfl⟩) ?_
      refine sp_op (Ph.eq _) (fun u hu => by
        refine spArg_eq 2 rfl rfl ?_
        refine spArg_eq 0 rfl rfl ?_
        refine spArg_eq 4 rfl rfl ?_
        refine spArg_nil ?_
        simp only [Act.put, List.setIfInBounds_toArray, List.set_cons_succ, List.set_cons_zero]
        have tc0 := (HTC.out _ hu.has).1
        go_wp2_with (fail)
        exact ⟨rfl, hu, Ext.refl _, slot_eq rfl⟩) ?_
      refine sp_op (Ph.eq _) (fun u hu => by
        refine spArg_eq 5 rfl rfl ?_
        refine spArg_eq 0 rfl rfl ?_
        refine spArg_nil ?_
        simp only [Act.put, List.setIfInBounds_toArray, List.set_cons_succ, List.set_cons_zero]
        have tc0 := (HTC.out _ hu.has).1
        go_wp2_with (fail)
        exact ⟨rfl, hu, Ext.refl _, slot_eq rfl⟩) ?_
      refine sp_op (Ph.eq _) (fun u hu => by
        refine spArg_eq 0 rfl rfl ?_
        refine spArg_nil ?_
        simp only [Act.put, List.setIfInBounds_toArray, List.set_cons_succ, List.set_cons_zero]
        have tc0 := (HTC.out _ hu.has).1
        go_wp2_with (fail)
        exact ⟨rfl, hu, Ext.refl _, slot_eq rfl⟩) ?_
      refine sp_op (Ph.eq _) (fun u hu => by
        refine spArg_eq 0 rfl rfl ?_
        refine spArg_nil ?_
        simp only [Act.put, List.setIfInBounds_toArray, List.set_cons_succ, List.set_cons_zero]
        have tc0 := (HTC.out _ hu.has).1
        go_wp2_with (fail)
        exact ⟨rfl, hu, Ext.refl _, slot_eq rfl⟩) ?_
      refine sp_op (Ph.eq _) (fun u hu => by
        refine spArg_eq 1 rfl rfl ?_
        refine spArg_nil ?_
        simp only [Act.put, List.setIfInBounds_toArray, List.set_cons_succ, List.set_cons_zero]
        have tc0 := (HTC.out _ hu.has).1
        go_wp2_with (fail)
        exact ⟨rfl, hu, Ext.refl _, slot_eq rfl⟩) ?_
      refine sp_op (Ph.eq _) (fun u hu => by
        refine spArg_eq 0 rfl rfl ?_
        refine spArg_eq 2 rfl rfl ?_
        refine spArg_nil ?_
        simp only [Act.put, List.setIfInBounds_toArray, List.set_cons_succ, List.set_cons_zero]
        have tc0 := (HTC.out _ hu.has).1
        go_wp2_with (fail)
        exact ⟨rfl, hu, Ext.refl _, slot_eq rfl⟩) ?_
      refine sp_op (Ph.eq _) (fun u hu => by
        refine spArg_eq 2 rfl rfl ?_
        refine spArg_eq 0 rfl rfl ?_
        refine spArg_eq 3 rfl rfl ?_
        refine spArg_nil ?_
        simp only [Act.put, List.setIfInBounds_toArray, List.set_cons_succ, List.set_cons_zero]
        have tc0 := (HTC.out _ hu.has).1
        go_wp2_with (fail)
        exact ⟨rfl, hu, Ext.refl _, slot_eq rfl⟩) ?_
      refine sp_op (Ph.eq _) (fun u hu => by
        refine spArg_eq 0 rfl rfl ?_
        refine spArg_eq 4 rfl rfl ?_
        refine spArg_nil ?_
        simp only [Act.put, List.setIfInBounds_toArray, List.set_cons_succ, List.set_cons_zero]
        have tc0 := (HTC.out _ hu.has).1
        go_wp2_with (fail)
        exact ⟨rfl, hu, Ext.refl _, slot_eq rfl⟩) ?_
      refine sp_op (Ph.eq _) (fun u hu => by
        refine spArg_eq 5 rfl rfl ?_
        refine spArg_nil ?_
        simp only [Act.put, List.setIfInBounds_toArray, List.set_cons_succ, List.set_cons_zero]
        have tc0 := (HTC.out _ hu.has).1
        go_wp2_with (fail)
        exact ⟨rfl, hu, Ext.refl _, slot_eq rfl⟩) ?_
      refine sp_op (Ph.eq _) (fun u hu => by
        refine spArg_eq 0 rfl rfl ?_
        refine spArg_eq 6 rfl rfl ?_
        refine spArg_nil ?_
        simp only [Act.put, List.setIfInBounds_toArray, List.set_cons_succ, List.set_cons_zero]
        have tc0 := (HTC.out _ hu.has).1
        go_wp2_with (fail)
        exact ⟨rfl, hu, Ext.refl _, slot_eq rfl⟩) ?_
      refine sp_op (Ph.eq _) (fun u hu => by
        refine spArg_eq 2 rfl rfl ?_
        refine spArg_eq 0 rfl rfl ?_
        refine spArg_eq 7 rfl rfl ?_
        refine spArg_nil ?_
        simp only [Act.put, List.setIfInBounds_toArray, List.set_cons_succ, List.set_cons_zero]
        have tc0 := (HTC.out _ hu.has).1
        go_wp2_with (fail)
        exact ⟨rfl, hu, Ext.refl _, slot_eq rfl⟩) ?_
      refine sp_op (Ph.eq _) (fun u hu => by
        refine spArg_eq 0 rfl rfl ?_
        refine spArg_eq 8 rfl rfl ?_
        refine spArg_nil ?_
        simp only [Act.put, List.setIfInBounds_toArray, List.set_cons_succ, List.set_cons_zero]
        have tc0 := (HTC.out _ hu.has).1
        go_wp2_with (fail)
        exact ⟨rfl, hu, Ext.refl _, slot_eq rfl⟩) ?_
      refine sp_op (Ph.eq _) (fun u hu => by
        refine spArg_eq 9 rfl rfl ?_
        refine spArg_eq 0 rfl rfl ?_
        refine spArg_nil ?_
        simp only [Act.put, List.setIfInBounds_toArray, List.set_cons_succ, List.set_cons_zero]
        have tc0 := (HTC.out _ hu.has).1
        go_wp2_with (fail)
        exact ⟨rfl, hu, Ext.refl _, slot_eq rfl⟩) ?_
      refine sp_end ?_
      intro u hu
      refine spArg_eq 20 rfl rfl ?_
      refine spArg_eq 19 rfl rfl ?_
      refine spArg_eq 18 rfl rfl ?_
      refine spArg_eq 17 rfl rfl ?_
      refine spArg_eq 16 rfl rfl ?_
      refine spArg_eq 15 rfl rfl ?_
      refine spArg_eq 14 rfl rfl ?_
      refine spArg_eq 13 rfl rfl ?_
      refine spArg_eq 12 rfl rfl ?_
      refine spArg_eq 11 rfl rfl ?_
      refine spArg_eq 10 rfl rfl ?_
      refine spArg_eq 9 rfl rfl ?_
      refine spArg_eq 8 rfl rfl ?_
      refine spArg_eq 7 rfl rfl ?_
      refine spArg_eq 6 rfl rfl ?_
      refine spArg_eq 5 rfl rfl ?_
      refine spArg_eq 4 rfl rfl ?_
      refine spArg_eq 3 rfl rfl ?_
      refine spArg_eq 2 rfl rfl ?_
      refine spArg_eq 1 rfl rfl ?_
      refine spArg_eq 0 rfl rfl ?_
      refine spArg_nil ?_
      simp only [Act.put, List.setIfInBounds_toArray, List.set_cons_succ, List.set_cons_zero]
      go_wp2_with fail
      go_ret
      exact ⟨by rw [HFF.out]; rfl, hu.up⟩
    · have h1 : t.frm ≥ (ins.length : Int) := by omega
      clear hr
      have HFF := Lib.hid hF
      clear hF HM HB HC hp ho ht hMD
      generalize p.cells.toArray = PC at *
      generalize stpC t (.slice a2 t.e.box.length c2) = TC at *
      generalize (#[.int .u64 out.x, .slice ao out.box.length co] : Array Value) = EC at *
      generalize t.frm = fr at *
      go_enter Try.func13, Try.ntmps13
      go_wp2_with fail
      have hk := hk0.out
      try change Code.wp _ _ _ (Act.mk _ _) _
      refine wp_region_runR Ext 21 81 (HoldT (PsC w.heap.size PC EC TC) _) [[], [(0, 13)], [(1, 14)], [(2, 15)], [(3, 16)], [(4, 17), (3, 16)], [(3, 16)], [(6, 19), (3, 16)], [(5, 18), (7, 20), (3, 16)], [(3, 16), (8, 21)], [(9, 22)], [(10, 23)], [(10, 23)], [(12, 25), (10, 23)], [(11, 24), (13, 26), (10, 23)], [(14, 27), (10, 23)], [(10, 23)], [(16, 29), (10, 23)], [(15, 28), (17, 30), (10, 23)], [(18, 31), (10, 23)], [(10, 23), (19, 32)]] [(0, 13), (1, 14), (2, 15), (3, 16), (4, 17), (5, 18), (6, 19), (7, 20), (8, 21), (9, 22), (10, 23), (11, 24), (12, 25), (13, 26), (14, 27), (15, 28), (16, 29), (17, 30), (18, 31), (19, 32), (20, 33)] (by kernel_rfl) (by kernel_rfl) (by first | rfl | simp) (hk) ?_
      simp only [List.take_succ_cons, List.take_zero, List.drop_succ_cons, List.drop_zero]
      refine sp_op (Ph.eq _) (fun u hu => by
        refine spArg_nil ?_
        have tc0 := (HTC.out _ hu.has).1
        go_wp2_with (fail)
        exact ⟨rfl, hu, Ext.refl _, slot_eq rfl⟩) ?_
      refine sp_op (Ph.eq _) (fun u hu => by
        refine spArg_eq 0 rfl rfl ?_
        refine spArg_nil ?_
        simp only [Act.put, List.setIfInBounds_toArray, List.set_cons_succ, List.set_cons_zero]
        have tc0 := (HTC.out _ hu.has).1
        go_wp2_with (fail)
        exact ⟨rfl, hu, Ext.refl _, slot_eq rfl⟩) ?_
      refine sp_op (Ph.eq _) (fun u hu => by
        refine spArg_eq 0 rfl rfl ?_
        refine spArg_nil ?_
        simp only [Act.put, List.setIfInBounds_toArray, List.set_cons_succ, List.set_cons_zero]
        have tc0 := (HTC.out _ hu.has).1
        go_wp2_with (fail)
        exact ⟨rfl, hu, Ext.refl _, slot_eq rfl⟩) ?_
      refine sp_op (Ph.eq _) (fun u hu => by
        refine spArg_eq 0 rfl rfl ?_
        refine spArg_nil ?_
        simp only [Act.put, List.setIfInBounds_toArray, List.set_cons_succ, List.set_cons_zero]
        have tc0 := (HTC.out _ hu.has).1
        go_wp2_with (fail)
        exact ⟨rfl, hu, Ext.refl _, slot_eq rfl⟩) ?_
      refine sp_op (Ph.eq _) (fun u hu => by
        refine spArg_eq 0 rfl rfl ?_
        refine spArg_nil ?_
        simp only [Act.put, List.setIfInBounds_toArray, List.set_cons_succ, List.set_cons_zero]
        have tc0 := (HTC.out _ hu.has).1
        go_wp2_with (fail)
        exact ⟨rfl, hu, Ext.refl _, slot_eq rfl⟩) ?_
      refine sp_op (Ph.eq _) (fun u hu => by
        refine spArg_eq 0 rfl rfl ?_
        refine spArg_eq 1 rfl rfl ?_
        refine spArg_nil ?_
        simp only [Act.put, List.setIfInBounds_toArray, List.set_cons_succ, List.set_cons_zero]
        have tc0 := (HTC.out _ hu.has).1
        go_wp2_with (fail)
        exact ⟨rfl, hu, Ext.refl _, slot_eq rfl⟩) ?_
      refine sp_op (Ph.eq _) (fun u hu => by
        refine spArg_eq 2 rfl rfl ?_
        refine spArg_nil ?_
        simp only [Act.put, List.setIfInBounds_toArray, List.set_cons_succ, List.set_cons_zero]
        have tc0 := (HTC.out _ hu.has).1
        go_wp2_with (fail)
        exact ⟨rfl, hu, Ext.refl _, slot_eq rfl⟩) ?_
      refine sp_op (Ph.eq _) (fun u hu => by
        refine spArg_eq 0 rfl rfl ?_
        refine spArg_eq 3 rfl rfl ?_
        refine spArg_nil ?_
        simp only [Act.put, List.setIfInBounds_toArray, List.set_cons_succ, List.set_cons_zero]
        have tc0 := (HTC.out _ hu.has).1
        go_wp2_with (fail)
        exact ⟨rfl, hu, Ext.refl _, slot_eq rfl⟩) ?_
      refine sp_op (Ph.eq _) (fun u hu => by
        refine spArg_eq 2 rfl rfl ?_
        refine spArg_eq 0 rfl rfl ?_
        refine spArg_eq 4 rfl rfl ?_
        refine spArg_nil ?_
        simp only [Act.put, List.setIfInBounds_toArray, List.set_cons_succ, List.set_cons_zero]
        have tc0 := (HTC.out _ hu.has).1
        go_wp2_with (fail)
        exact ⟨rfl, hu, Ext.refl _, slot_eq rfl⟩) ?_
      refine sp_op (Ph.eq _) (fun u hu => by
        refine spArg_eq 5 rfl rfl ?_
        refine spArg_eq 0 rfl rfl ?_
        refine spArg_nil ?_
        simp only [Act.put, List.setIfInBounds_toArray, List.set_cons_succ, List.set_cons_zero]
        have tc0 := (HTC.out _ hu.has).1
        go_wp2_with (fail)
        exact ⟨rfl, hu, Ext.refl _, slot_eq rfl⟩) ?_
      refine sp_op (Ph.eq _) (fun u hu => by
        refine spArg_eq 0 rfl rfl ?_
        refine spArg_nil ?_
        simp only [Act.put, List.setIfInBounds_toArray, List.set_cons_succ, List.set_cons_zero]
        have tc0 := (HTC.out _ hu.has).1
        go_wp2_with (fail)
        exact ⟨rfl, hu, Ext.refl _, slot_eq rfl⟩) ?_
      refine sp_op (Ph.eq _) (fun u hu => by
        refine spArg_eq 0 rfl rfl ?_
        refine spArg_nil ?_
        simp only [Act.put, List.setIfInBounds_toArray, List.set_cons_succ, List.set_cons_zero]
        have tc0 := (HTC.out _ hu.has).1
        go_wp2_with (fail)
        exact ⟨rfl, hu, Ext.refl _, slot_eq rfl⟩) ?_
      refine sp_op (Ph.eq _) (fun u hu => by
        refine spArg_eq 1 rfl rfl ?_
        refine spArg_nil ?_
        simp only [Act.put, List.setIfInBounds_toArray, List.set_cons_succ, List.set_cons_zero]
        have tc0 := (HTC.out _ hu.has).1
        go_wp2_with (fail)
        exact ⟨rfl, hu, Ext.refl _, slot_eq rfl⟩) ?_
      refine sp_op (Ph.eq _) (fun u hu => by
        refine spArg_eq 0 rfl rfl ?_
        refine spArg_eq 2 rfl rfl ?_
        refine spArg_nil ?_
        simp only [Act.put, List.setIfInBounds_toArray, List.set_cons_succ, List.set_cons_zero]
        have tc0 := (HTC.out _ hu.has).1
        go_wp2_with (fail)
        exact ⟨rfl, hu, Ext.refl _, slot_eq rfl⟩) ?_
      refine sp_op (Ph.eq _) (fun u hu => by
        refine spArg_eq 2 rfl rfl ?_
        refine spArg_eq 0 rfl rfl ?_
        refine spArg_eq 3 rfl rfl ?_
        refine spArg_nil ?_
        simp only [Act.put, List.setIfInBounds_toArray, List.set_cons_succ, List.set_cons_zero]
        have tc0 := (HTC.out _ hu.has).1
        go_wp2_with (fail)
        exact ⟨rfl, hu, Ext.refl _, slot_eq rfl⟩) ?_
      refine sp_op (Ph.eq _) (fun u hu => by
        refine spArg_eq 0 rfl rfl ?_
        refine spArg_eq 4 rfl rfl ?_
        refine spArg_nil ?_
        simp only [Act.put, List.setIfInBounds_toArray, List.set_cons_succ, List.set_cons_zero]
        have tc0 := (HTC.out _ hu.has).1
        go_wp2_with (fail)
        exact ⟨rfl, hu, Ext.refl _, slot_eq rfl⟩) ?_
      refine sp_op (Ph.eq _) (fun u hu => by
        refine spArg_eq 5 rfl rfl ?_
        refine spArg_nil ?_
        simp only [Act.put, List.setIfInBounds_toArray, List.set_cons_succ, List.set_cons_zero]
        have tc0 := (HTC.out _ hu.has).1
        go_wp2_with (fail)
        exact ⟨rfl, hu, Ext.refl _, slot_eq rfl⟩) ?_
      refine sp_op (Ph.eq _) (fun u hu => by
        refine spArg_eq 0 rfl rfl ?_
        refine spArg_eq 6 rfl rfl ?_
        refine spArg_nil ?_
        simp only [Act.put, List.setIfInBounds_toArray, List.set_cons_succ, List.set_cons_zero]
        have tc0 := (HTC.out _ hu.has).1
        go_wp2_with (fail)
        exact ⟨rfl, hu, Ext.refl _, slot_eq rfl⟩) ?_
      refine sp_op (Ph.eq _) (fun u hu => by
        refine spArg_eq 2 rfl rfl ?_
        refine spArg_eq 0 rfl rfl ?_
        refine spArg_eq 7 rfl rfl ?_
        refine spArg_nil ?_
        simp only [Act.put, List.setIfInBounds_toArray, List.set_cons_succ, List.set_cons_zero]
        have tc0 := (HTC.out _ hu.has).1
        go_wp2_with (fail)
        exact ⟨rfl, hu, Ext.refl _, slot_eq rfl⟩) ?_
      refine sp_op (Ph.eq _) (fun u hu => by
        refine spArg_eq 0 rfl rfl ?_
        refine spArg_eq 8 rfl rfl ?_
        refine spArg_nil ?_
        simp only [Act.put, List.setIfInBounds_toArray, List.set_cons_succ, List.set_cons_zero]
        have tc0 := (HTC.out _ hu.has).1
        go_wp2_with (fail)
        exact ⟨rfl, hu, Ext.refl _, slot_eq rfl⟩) ?_
      refine sp_op (Ph.eq _) (fun u hu => by
        refine spArg_eq 9 rfl rfl ?_
        refine spArg_eq 0 rfl rfl ?_
        refine spArg_nil ?_
        simp only [Act.put, List.setIfInBounds_toArray, List.set_cons_succ, List.set_cons_zero]
        have tc0 := (HTC.out _ hu.has).1
        go_wp2_with (fail)
        exact ⟨rfl, hu, Ext.refl _, slot_eq rfl⟩) ?_
      refine sp_end ?_
      intro u hu
      refine spArg_eq 20 rfl rfl ?_
      refine spArg_eq 19 rfl rfl ?_
      refine spArg_eq 18 rfl rfl ?_
      refine spArg_eq 17 rfl rfl ?_
      refine spArg_eq 16 rfl rfl ?_
      refine spArg_eq 15 rfl rfl ?_
      refine spArg_eq 14 rfl rfl ?_
      refine spArg_eq 13 rfl rfl ?_
      refine spArg_eq 12 rfl rfl ?_
      refine spArg_eq 11 rfl rfl ?_
      refine spArg_eq 10 rfl rfl ?_
      refine spArg_eq 9 rfl rfl ?_
      refine spArg_eq 8 rfl rfl ?_
      refine spArg_eq 7 rfl rfl ?_
      refine spArg_eq 6 rfl rfl ?_
      refine spArg_eq 5 rfl rfl ?_
      refine spArg_eq 4 rfl rfl ?_
      refine spArg_eq 3 rfl rfl ?_
      refine spArg_eq 2 rfl rfl ?_
      refine spArg_eq 1 rfl rfl ?_
      refine spArg_eq 0 rfl rfl ?_
      refine spArg_nil ?_
      simp only [Act.put, List.setIfInBounds_toArray, List.set_cons_succ, List.set_cons_zero]
      go_wp2_with fail
      go_ret
      exact ⟨by rw [HFF.out]; rfl, hu.up⟩
end Go.Proofs.Ytnmniblaefjekaa
