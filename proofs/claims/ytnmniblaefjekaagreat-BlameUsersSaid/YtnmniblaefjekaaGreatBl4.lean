/-
  Passed of both programs.
-/
import Derived.Test.YtnmniblaefjekaaGreatBl3
namespace Go.Proofs.YtnmniblaefjekaaGreat
set_option linter.unusedVariables false
set_option linter.unusedSimpArgs false
open Go Go.RowKit

theorem pub_cell {w : World} {g : Nat} {p : Pub} {t : TypeId} (h : Blk w g p.cells.toArray t) : w.cell? ⟨g, 0, none⟩ = some (.int .u64 p.base) ∧ w.cell? ⟨g, 1, none⟩ = some (.int .u64 p.blind) ∧ w.cell? ⟨g, 2, none⟩ = some (.int .u64 p.mix) :=
  ⟨by rw [h.cell]; rfl, by rw [h.cell]; rfl, by rw [h.cell]; rfl⟩
theorem stp_cell {w : World} {g : Nat} {s : Stp} {vb : Value} {t : TypeId} (h : Blk w g (stpC s vb) t) : w.cell? ⟨g, 0, none⟩ = some (.int .i64 s.frm) ∧ w.cell? ⟨g, 1, none⟩ = some (.int .u64 s.e.x) ∧ w.cell? ⟨g, 2, none⟩ = some vb ∧ w.cell? ⟨g, 3, none⟩ = some (.int .u64 s.shared) ∧
    w.cell? ⟨g, 4, none⟩ = some (.int .u64 s.b.c) ∧ w.cell? ⟨g, 5, none⟩ = some (.int .u64 s.b.s) ∧ w.cell? ⟨g, 6, none⟩ = some (.int .u64 s.m.c) ∧ w.cell? ⟨g, 7, none⟩ = some (.int .u64 s.m.s) :=
  ⟨by rw [h.cell]; rfl, by rw [h.cell]; rfl, by rw [h.cell]; rfl, by rw [h.cell]; rfl, by rw [h.cell]; rfl, by rw [h.cell]; rfl, by rw [h.cell]; rfl, by rw [h.cell]; rfl⟩
theorem ent_cell {w : World} {g : Nat} {x : Int} {vb : Value} {t : TypeId} (h : Blk w g #[.int .u64 x, vb] t) : w.cell? ⟨g, 0, none⟩ = some (.int .u64 x) ∧ w.cell? ⟨g, 1, none⟩ = some vb := ⟨by rw [h.cell]; rfl, by rw [h.cell]; rfl⟩
/-- The three boxes of such a call. -/
def PsC (B : Nat) (PC EC TC : Array Value) (u : World) : Prop := Blk u B PC 60 ∧ Blk u (B + 1) EC 32 ∧ Blk u (B + 1 + 1) TC 57
theorem stabPsC (B : Nat) (PC EC TC : Array Value) : Stab (PsC B PC EC TC) := Stab.and (Stab.blk _ _ _) (Stab.and (Stab.blk _ _ _) (Stab.blk _ _ _))
theorem slE_at {B : Nat} {w : World} {b o m c : Nat} {l : List Ent} (h : SlR entR B w (.slice (some ⟨b, o, none⟩) m c) l) (i : Nat) (e : Ent) (hi : l[i]? = some e) :
    ∃ v, w.rangeAt b (o + i * 2) [.int .u64 e.x, v] ∧ SeesB w v e.box := by
  obtain ⟨ch, ⟨v, rfl, hv⟩, _, hr⟩ := h.at i e hi
  exact ⟨v, hr, hv.bytes⟩

set_option maxRecDepth 100000 in
set_option maxHeartbeats 4000000 in
theorem Passed_any (p : Pub) (at_ : Int) (ins : List Ent) (out : Ent) (t : Stp) (B : Nat) (vi vo vt : Value) (w : World) (hp : p.ok) (ho : out.ok) (ht : t.ok) (hi : SlR entR B w vi ins) (hvo : SeesB w vo out.box) (hvt : SeesB w vt t.e.box)
    (hl : t.e.box.length ≤ 20000000000000) (hil : ins.length ≤ 1000000000) :
    Calls Tryz.prog 28 #[.agg p.cells.toArray, .int .i64 at_, vi, .agg #[.int .u64 out.x, vo], .agg (stpC t vt)] w fun r w' => r = .returned (.bool (decide (passedL p at_ ins out t))) ∧ Below w.heap.size w w' := by
  obtain ⟨ai, ci, rfl, -, -⟩ := hi.form
  obtain ⟨ao, co, rfl, -, -⟩ := sees_form hvo
  obtain ⟨a2, c2, rfl, -, -⟩ := sees_form hvt
  obtain ⟨f0, f1⟩ := ht.1
  have hS0 : PsC w.heap.size p.cells.toArray #[.int .u64 out.x, .slice ao out.box.length co] (stpC t (.slice a2 t.e.box.length c2)) (((w.alloc (.cells p.cells.toArray 60)).alloc (.cells #[.int .u64 out.x, .slice ao out.box.length co] 32)).alloc (.cells (stpC t (.slice a2 t.e.box.length c2)) 57)) :=
    ⟨((Blk.new w p.cells.toArray 60).alloc _).alloc _, (Blk.new2 w (.cells p.cells.toArray 60) #[.int .u64 out.x, .slice ao out.box.length co] 32).alloc _, Blk.new3 w _ _ _ _⟩
  have hb0 : Below w.heap.size w (((w.alloc (.cells p.cells.toArray 60)).alloc (.cells #[.int .u64 out.x, .slice ao out.box.length co] 32)).alloc (.cells (stpC t (.slice a2 t.e.box.length c2)) 57)) := by go_grown
  have hst := stabPsC w.heap.size p.cells.toArray #[.int .u64 out.x, .slice ao out.box.length co] (stpC t (.slice a2 t.e.box.length c2))
  have hk0 := Lib.hid (HoldT.drew hst ⟨hS0, hb0⟩)
  have HPC := Lib.hid fun (u : World) (h : PsC w.heap.size p.cells.toArray #[.int .u64 out.x, .slice ao out.box.length co] (stpC t (.slice a2 t.e.box.length c2)) u) => pub_cell h.1
  have HEC := Lib.hid fun (u : World) (h : PsC w.heap.size p.cells.toArray #[.int .u64 out.x, .slice ao out.box.length co] (stpC t (.slice a2 t.e.box.length c2)) u) => ent_cell h.2.1
  have HTC := Lib.hid fun (u : World) (h : PsC w.heap.size p.cells.toArray #[.int .u64 out.x, .slice ao out.box.length co] (stpC t (.slice a2 t.e.box.length c2)) u) => stp_cell h.2.2
  have HPZ := Lib.hid (show p.cells.toArray.size = 10 by rw [List.size_toArray, p.length_cells])
  have HTZ := Lib.hid (show (stpC t (.slice a2 t.e.box.length c2)).size = 8 from rfl)
  have HM := fun (w' : World) => bmixed_any p t (.slice a2 t.e.box.length c2) w' hp ht rfl
  have HB := fun (w' : World) (h : SeesB w' (.slice a2 t.e.box.length c2) t.e.box) => By_any t.shared at_ t.e.box (.slice a2 t.e.box.length c2) w' ht.2.2.1 h hl
  have HC := fun (w' : World) => CheckEqual_any p.base p.blind t.e.x out.x t.b.c t.b.s w' hp.1 hp.2.1 ht.2.1 ho ht.2.2.2.1.1 ht.2.2.2.1.2
  have HVO := Lib.hid hvo; have HVT := Lib.hid hvt; clear hvo hvt
  clear hS0 hb0
  by_cases hr : 0 ≤ t.frm ∧ t.frm < ins.length
  · obtain ⟨k, hk⟩ : ∃ k : Nat, t.frm = k := ⟨t.frm.toNat, by omega⟩
    have hkl : k < ins.length := by omega
    obtain ⟨b, o, c, hve, -, -⟩ := hi.open (by omega)
    obtain ⟨rfl, rfl⟩ : ai = some ⟨b, o, none⟩ ∧ ci = c := by injection hve with e1 _ e3; exact ⟨e1, e3⟩
    obtain ⟨ve, hrg, hvs⟩ := slE_at hi k ins[k] (List.getElem?_eq_getElem hkl)
    have hins : ins[t.frm.toNat]? = some ins[k] := by rw [hk, Int.toNat_natCast]; exact List.getElem?_eq_getElem hkl
    have HS := fun (w' : World) (h1 : SeesB w' ve ins[k].box) (h2 : SeesB w' (.slice a2 t.e.box.length c2) t.e.box) => Same2_any ins[k] t.e ve (.slice a2 t.e.box.length c2) w' h1 h2
    have hF : decide (passedL p at_ ins out t) = (decide (ins[k] = t.e) && (decide (mixedOk p t) && (decide (openL (hopK t.shared) (besL at_) t.e.box = some out.box) && decide (equalOk p.base p.blind t.e.x out.x t.b.c t.b.s)))) := by
      rw [Bool.eq_iff_iff, decide_eq_true_iff]; unfold passedL; rw [hins]; simp only [Bool.and_eq_true, decide_eq_true_iff, Option.some.injEq]
      exact ⟨fun h => h.2, fun h => ⟨hr.1, h⟩⟩
    generalize decide (passedL p at_ ins out t) = D at *
    obtain ⟨av, cv, rfl, -, -⟩ := sees_form hvs
    have hd1 : decide ((k : Int) < 0) = false := decide_eq_false (by omega)
    have hd2 : decide (ins.length ≤ k) = false := decide_eq_false (by omega)
    rw [hk] at HTC
    clear hve hins hi hr hk
    generalize ins[k] = ek at *
    have HRG := Lib.hid hrg; have HVS := Lib.hid hvs; clear hrg hvs
    have hil2 := hil
    by_cases hs : ek = t.e
    · rw [decide_eq_true hs] at hF
      simp only [decide_eq_true hs] at HS
      clear hs
      by_cases hm : mixedOk p t
      · simp only [decide_eq_true hm] at HM hF
        clear hm
        generalize openL (hopK t.shared) (besL at_) t.e.box = op at *
        cases op with
        | none =>
          have HSS := Lib.hid HS; have HMM := Lib.hid HM; have HBB := Lib.hid HB; have HCC := Lib.hid HC; have HFF := Lib.hid hF
          clear HS HM HB HC hF hp ho ht
          generalize p.cells.toArray = PC at *
          generalize stpC t (.slice a2 t.e.box.length c2) = TC at *
          generalize hec : (#[.int .u64 out.x, .slice ao out.box.length co] : Array Value) = EC at *
          generalize p.base = pb at *
          generalize p.blind = pbl at *
          generalize p.mix = pm at *
          generalize t.e.x = TX at *
          generalize t.e.box = TB at *
          generalize t.shared = SH at *
          generalize t.b.c = bc at *
          generalize t.b.s = bs at *
          generalize t.m.c = mc at *
          generalize t.m.s = ms at *
          generalize out.x = OX at *
          generalize out.box = OB at *
          generalize ek.x = KX at *
          generalize ek.box = KB at *
          subst hec
          go_enter Tryz.func28, Tryz.ntmps28
          go_wp2_with fail
          have hk := hk0.out
          try change Code.wp _ _ _ (Act.mk _ _) _
          refine wp_region_runR Ext 27 71 (HoldT (PsC w.heap.size PC #[.int .u64 OX, .slice ao OB.length co] TC) _) [[], [(0, 13)], [(1, 14)], [(2, 15)], [(3, 16)], [(4, 17), (3, 16)], [(3, 16)], [(6, 19), (3, 16)], [(5, 18), (7, 20), (3, 16)], [(3, 16), (8, 21)], [(9, 22)], [(10, 23)], [(10, 23)], [(12, 25), (10, 23)], [(11, 24), (13, 26), (10, 23)], [(14, 27), (10, 23)], [(10, 23)], [(16, 29), (10, 23)], [(15, 28), (17, 30), (10, 23)], [(18, 31), (10, 23)], [(10, 23), (19, 32)], [(20, 33)], [(21, 34)], [(21, 34)], [(22, 35), (23, 36), (21, 34)], [(24, 37), (21, 34)], [(21, 34), (25, 38)]] [(0, 13), (1, 14), (2, 15), (3, 16), (4, 17), (5, 18), (6, 19), (7, 20), (8, 21), (9, 22), (10, 23), (11, 24), (12, 25), (13, 26), (14, 27), (15, 28), (16, 29), (17, 30), (18, 31), (19, 32), (20, 33), (21, 34), (22, 35), (23, 36), (24, 37), (25, 38), (26, 39)] (by kernel_rfl) (by kernel_rfl) (by first | rfl | simp) (hk) ?_
          simp only [List.take_succ_cons, List.take_zero, List.drop_succ_cons, List.drop_zero]
          refine sp_op (Ph.eq _) (fun u hu => by
            refine spArg_nil ?_
            obtain ⟨tc0, tc1, tc2, -⟩ := HTC.out _ hu.has
            have r0 := range_below HRG.out hu.up 0 _ rfl
            have r1 := range_below HRG.out hu.up 1 _ rfl
            simp only [Nat.add_zero] at r0
            go_wp2_with (fail)
            exact ⟨rfl, hu, Ext.refl _, slot_eq rfl⟩) ?_
          refine sp_op (Ph.eq _) (fun u hu => by
            refine spArg_eq 0 rfl rfl ?_
            refine spArg_nil ?_
            simp only [Act.put, List.setIfInBounds_toArray, List.set_cons_succ, List.set_cons_zero]
            obtain ⟨tc0, tc1, tc2, -⟩ := HTC.out _ hu.has
            have r0 := range_below HRG.out hu.up 0 _ rfl
            have r1 := range_below HRG.out hu.up 1 _ rfl
            simp only [Nat.add_zero] at r0
            go_wp2_with (fail)
            exact ⟨rfl, hu, Ext.refl _, slot_eq rfl⟩) ?_
          refine sp_op (Ph.eq _) (fun u hu => by
            refine spArg_eq 0 rfl rfl ?_
            refine spArg_nil ?_
            simp only [Act.put, List.setIfInBounds_toArray, List.set_cons_succ, List.set_cons_zero]
            obtain ⟨tc0, tc1, tc2, -⟩ := HTC.out _ hu.has
            have r0 := range_below HRG.out hu.up 0 _ rfl
            have r1 := range_below HRG.out hu.up 1 _ rfl
            simp only [Nat.add_zero] at r0
            go_wp2_with (fail)
            exact ⟨rfl, hu, Ext.refl _, slot_eq rfl⟩) ?_
          refine sp_op (Ph.eq _) (fun u hu => by
            refine spArg_eq 0 rfl rfl ?_
            refine spArg_nil ?_
            simp only [Act.put, List.setIfInBounds_toArray, List.set_cons_succ, List.set_cons_zero]
            obtain ⟨tc0, tc1, tc2, -⟩ := HTC.out _ hu.has
            have r0 := range_below HRG.out hu.up 0 _ rfl
            have r1 := range_below HRG.out hu.up 1 _ rfl
            simp only [Nat.add_zero] at r0
            go_wp2_with (fail)
            exact ⟨rfl, hu, Ext.refl _, slot_eq rfl⟩) ?_
          refine sp_op (Ph.eq _) (fun u hu => by
            refine spArg_eq 0 rfl rfl ?_
            refine spArg_nil ?_
            simp only [Act.put, List.setIfInBounds_toArray, List.set_cons_succ, List.set_cons_zero]
            obtain ⟨tc0, tc1, tc2, -⟩ := HTC.out _ hu.has
            have r0 := range_below HRG.out hu.up 0 _ rfl
            have r1 := range_below HRG.out hu.up 1 _ rfl
            simp only [Nat.add_zero] at r0
            go_wp2_with (fail)
            exact ⟨rfl, hu, Ext.refl _, slot_eq rfl⟩) ?_
          refine sp_op (Ph.eq _) (fun u hu => by
            refine spArg_eq 0 rfl rfl ?_
            refine spArg_eq 1 rfl rfl ?_
            refine spArg_nil ?_
            simp only [Act.put, List.setIfInBounds_toArray, List.set_cons_succ, List.set_cons_zero]
            obtain ⟨tc0, tc1, tc2, -⟩ := HTC.out _ hu.has
            have r0 := range_below HRG.out hu.up 0 _ rfl
            have r1 := range_below HRG.out hu.up 1 _ rfl
            simp only [Nat.add_zero] at r0
            go_wp2_with (fail)
            exact ⟨rfl, hu, Ext.refl _, slot_eq rfl⟩) ?_
          refine sp_op (Ph.eq _) (fun u hu => by
            refine spArg_eq 2 rfl rfl ?_
            refine spArg_nil ?_
            simp only [Act.put, List.setIfInBounds_toArray, List.set_cons_succ, List.set_cons_zero]
            obtain ⟨tc0, tc1, tc2, -⟩ := HTC.out _ hu.has
            have r0 := range_below HRG.out hu.up 0 _ rfl
            have r1 := range_below HRG.out hu.up 1 _ rfl
            simp only [Nat.add_zero] at r0
            go_wp2_with (fail)
            exact ⟨rfl, hu, Ext.refl _, slot_eq rfl⟩) ?_
          refine sp_op (Ph.eq _) (fun u hu => by
            refine spArg_eq 0 rfl rfl ?_
            refine spArg_eq 3 rfl rfl ?_
            refine spArg_nil ?_
            simp only [Act.put, List.setIfInBounds_toArray, List.set_cons_succ, List.set_cons_zero]
            obtain ⟨tc0, tc1, tc2, -⟩ := HTC.out _ hu.has
            have r0 := range_below HRG.out hu.up 0 _ rfl
            have r1 := range_below HRG.out hu.up 1 _ rfl
            simp only [Nat.add_zero] at r0
            go_wp2_with (fail)
            exact ⟨rfl, hu, Ext.refl _, slot_eq rfl⟩) ?_
          refine sp_op (Ph.eq _) (fun u hu => by
            refine spArg_eq 2 rfl rfl ?_
            refine spArg_eq 0 rfl rfl ?_
            refine spArg_eq 4 rfl rfl ?_
            refine spArg_nil ?_
            simp only [Act.put, List.setIfInBounds_toArray, List.set_cons_succ, List.set_cons_zero]
            obtain ⟨tc0, tc1, tc2, -⟩ := HTC.out _ hu.has
            have r0 := range_below HRG.out hu.up 0 _ rfl
            have r1 := range_below HRG.out hu.up 1 _ rfl
            simp only [Nat.add_zero] at r0
            go_wp2_with (fail)
            exact ⟨rfl, hu, Ext.refl _, slot_eq rfl⟩) ?_
          refine sp_op (Ph.eq _) (fun u hu => by
            refine spArg_eq 5 rfl rfl ?_
            refine spArg_eq 0 rfl rfl ?_
            refine spArg_nil ?_
            simp only [Act.put, List.setIfInBounds_toArray, List.set_cons_succ, List.set_cons_zero]
            obtain ⟨tc0, tc1, tc2, -⟩ := HTC.out _ hu.has
            have r0 := range_below HRG.out hu.up 0 _ rfl
            have r1 := range_below HRG.out hu.up 1 _ rfl
            simp only [Nat.add_zero] at r0
            go_wp2_with (fail)
            exact ⟨rfl, hu, Ext.refl _, slot_eq rfl⟩) ?_
          refine sp_op (Ph.eq _) (fun u hu => by
            refine spArg_eq 0 rfl rfl ?_
            refine spArg_nil ?_
            simp only [Act.put, List.setIfInBounds_toArray, List.set_cons_succ, List.set_cons_zero]
            obtain ⟨tc0, tc1, tc2, -⟩ := HTC.out _ hu.has
            have r0 := range_below HRG.out hu.up 0 _ rfl
            have r1 := range_below HRG.out hu.up 1 _ rfl
            simp only [Nat.add_zero] at r0
            go_wp2_with (fail)
            exact ⟨rfl, hu, Ext.refl _, slot_eq rfl⟩) ?_
          refine sp_op (Ph.eq _) (fun u hu => by
            refine spArg_eq 0 rfl rfl ?_
            refine spArg_nil ?_
            simp only [Act.put, List.setIfInBounds_toArray, List.set_cons_succ, List.set_cons_zero]
            obtain ⟨tc0, tc1, tc2, -⟩ := HTC.out _ hu.has
            have r0 := range_below HRG.out hu.up 0 _ rfl
            have r1 := range_below HRG.out hu.up 1 _ rfl
            simp only [Nat.add_zero] at r0
            go_wp2_with (fail)
            exact ⟨rfl, hu, Ext.refl _, slot_eq rfl⟩) ?_
          refine sp_op (Ph.eq _) (fun u hu => by
            refine spArg_eq 1 rfl rfl ?_
            refine spArg_nil ?_
            simp only [Act.put, List.setIfInBounds_toArray, List.set_cons_succ, List.set_cons_zero]
            obtain ⟨tc0, tc1, tc2, -⟩ := HTC.out _ hu.has
            have r0 := range_below HRG.out hu.up 0 _ rfl
            have r1 := range_below HRG.out hu.up 1 _ rfl
            simp only [Nat.add_zero] at r0
            go_wp2_with (fail)
            exact ⟨rfl, hu, Ext.refl _, slot_eq rfl⟩) ?_
          refine sp_op (Ph.eq _) (fun u hu => by
            refine spArg_eq 0 rfl rfl ?_
            refine spArg_eq 2 rfl rfl ?_
            refine spArg_nil ?_
            simp only [Act.put, List.setIfInBounds_toArray, List.set_cons_succ, List.set_cons_zero]
            obtain ⟨tc0, tc1, tc2, -⟩ := HTC.out _ hu.has
            have r0 := range_below HRG.out hu.up 0 _ rfl
            have r1 := range_below HRG.out hu.up 1 _ rfl
            simp only [Nat.add_zero] at r0
            go_wp2_with (fail)
            exact ⟨rfl, hu, Ext.refl _, slot_eq rfl⟩) ?_
          refine sp_op (Ph.eq _) (fun u hu => by
            refine spArg_eq 2 rfl rfl ?_
            refine spArg_eq 0 rfl rfl ?_
            refine spArg_eq 3 rfl rfl ?_
            refine spArg_nil ?_
            simp only [Act.put, List.setIfInBounds_toArray, List.set_cons_succ, List.set_cons_zero]
            obtain ⟨tc0, tc1, tc2, -⟩ := HTC.out _ hu.has
            have r0 := range_below HRG.out hu.up 0 _ rfl
            have r1 := range_below HRG.out hu.up 1 _ rfl
            simp only [Nat.add_zero] at r0
            go_wp2_with (fail)
            exact ⟨rfl, hu, Ext.refl _, slot_eq rfl⟩) ?_
          refine sp_op (Ph.eq _) (fun u hu => by
            refine spArg_eq 0 rfl rfl ?_
            refine spArg_eq 4 rfl rfl ?_
            refine spArg_nil ?_
            simp only [Act.put, List.setIfInBounds_toArray, List.set_cons_succ, List.set_cons_zero]
            obtain ⟨tc0, tc1, tc2, -⟩ := HTC.out _ hu.has
            have r0 := range_below HRG.out hu.up 0 _ rfl
            have r1 := range_below HRG.out hu.up 1 _ rfl
            simp only [Nat.add_zero] at r0
            go_wp2_with (fail)
            exact ⟨rfl, hu, Ext.refl _, slot_eq rfl⟩) ?_
          refine sp_op (Ph.eq _) (fun u hu => by
            refine spArg_eq 5 rfl rfl ?_
            refine spArg_nil ?_
            simp only [Act.put, List.setIfInBounds_toArray, List.set_cons_succ, List.set_cons_zero]
            obtain ⟨tc0, tc1, tc2, -⟩ := HTC.out _ hu.has
            have r0 := range_below HRG.out hu.up 0 _ rfl
            have r1 := range_below HRG.out hu.up 1 _ rfl
            simp only [Nat.add_zero] at r0
            go_wp2_with (fail)
            exact ⟨rfl, hu, Ext.refl _, slot_eq rfl⟩) ?_
          refine sp_op (Ph.eq _) (fun u hu => by
            refine spArg_eq 0 rfl rfl ?_
            refine spArg_eq 6 rfl rfl ?_
            refine spArg_nil ?_
            simp only [Act.put, List.setIfInBounds_toArray, List.set_cons_succ, List.set_cons_zero]
            obtain ⟨tc0, tc1, tc2, -⟩ := HTC.out _ hu.has
            have r0 := range_below HRG.out hu.up 0 _ rfl
            have r1 := range_below HRG.out hu.up 1 _ rfl
            simp only [Nat.add_zero] at r0
            go_wp2_with (fail)
            exact ⟨rfl, hu, Ext.refl _, slot_eq rfl⟩) ?_
          refine sp_op (Ph.eq _) (fun u hu => by
            refine spArg_eq 2 rfl rfl ?_
            refine spArg_eq 0 rfl rfl ?_
            refine spArg_eq 7 rfl rfl ?_
            refine spArg_nil ?_
            simp only [Act.put, List.setIfInBounds_toArray, List.set_cons_succ, List.set_cons_zero]
            obtain ⟨tc0, tc1, tc2, -⟩ := HTC.out _ hu.has
            have r0 := range_below HRG.out hu.up 0 _ rfl
            have r1 := range_below HRG.out hu.up 1 _ rfl
            simp only [Nat.add_zero] at r0
            go_wp2_with ((go_at_call 61; refine (HSS.out _ (HVS.out.below hu.up (by decide)) (HVT.out.below hu.up (by decide))).mono ?_; rintro e x1 ⟨rfl, hb1⟩))
            first | exact ⟨rfl, HoldT.step hst hu hb1, hb1, slot_eq rfl⟩ | exact ⟨rfl, hu, Ext.refl _, slot_eq rfl⟩) ?_
          refine sp_op (Ph.eq _) (fun u hu => by
            refine spArg_eq 0 rfl rfl ?_
            refine spArg_eq 8 rfl rfl ?_
            refine spArg_nil ?_
            simp only [Act.put, List.setIfInBounds_toArray, List.set_cons_succ, List.set_cons_zero]
            obtain ⟨tc0, tc1, tc2, -⟩ := HTC.out _ hu.has
            have r0 := range_below HRG.out hu.up 0 _ rfl
            have r1 := range_below HRG.out hu.up 1 _ rfl
            simp only [Nat.add_zero] at r0
            go_wp2_with (fail)
            exact ⟨rfl, hu, Ext.refl _, slot_eq rfl⟩) ?_
          refine sp_op (Ph.eq _) (fun u hu => by
            refine spArg_eq 9 rfl rfl ?_
            refine spArg_eq 0 rfl rfl ?_
            refine spArg_nil ?_
            simp only [Act.put, List.setIfInBounds_toArray, List.set_cons_succ, List.set_cons_zero]
            obtain ⟨tc0, tc1, tc2, -⟩ := HTC.out _ hu.has
            have r0 := range_below HRG.out hu.up 0 _ rfl
            have r1 := range_below HRG.out hu.up 1 _ rfl
            simp only [Nat.add_zero] at r0
            go_wp2_with (fail)
            exact ⟨rfl, hu, Ext.refl _, slot_eq rfl⟩) ?_
          refine sp_op (Ph.eq _) (fun u hu => by
            refine spArg_eq 0 rfl rfl ?_
            refine spArg_nil ?_
            simp only [Act.put, List.setIfInBounds_toArray, List.set_cons_succ, List.set_cons_zero]
            obtain ⟨tc0, tc1, tc2, -⟩ := HTC.out _ hu.has
            have r0 := range_below HRG.out hu.up 0 _ rfl
            have r1 := range_below HRG.out hu.up 1 _ rfl
            simp only [Nat.add_zero] at r0
            go_wp2_with (fail)
            exact ⟨rfl, hu, Ext.refl _, slot_eq rfl⟩) ?_
          refine sp_op (Ph.eq _) (fun u hu => by
            refine spArg_eq 0 rfl rfl ?_
            refine spArg_nil ?_
            simp only [Act.put, List.setIfInBounds_toArray, List.set_cons_succ, List.set_cons_zero]
            obtain ⟨tc0, tc1, tc2, -⟩ := HTC.out _ hu.has
            have r0 := range_below HRG.out hu.up 0 _ rfl
            have r1 := range_below HRG.out hu.up 1 _ rfl
            simp only [Nat.add_zero] at r0
            go_wp2_with ((refine wpList_load_rowG rfl 60 _ rfl w.heap.size rfl _ _ (0, 0) _ hu.has.1 Tryz.underlying60 rfl (by rw [HPZ.out]; exact info_pub) ?_))
            exact ⟨rfl, hu, Ext.refl _, slot_eq rfl⟩) ?_
          refine sp_op (Ph.eq _) (fun u hu => by
            refine spArg_eq 1 rfl rfl ?_
            refine spArg_nil ?_
            simp only [Act.put, List.setIfInBounds_toArray, List.set_cons_succ, List.set_cons_zero]
            obtain ⟨tc0, tc1, tc2, -⟩ := HTC.out _ hu.has
            have r0 := range_below HRG.out hu.up 0 _ rfl
            have r1 := range_below HRG.out hu.up 1 _ rfl
            simp only [Nat.add_zero] at r0
            go_wp2_with ((refine wpList_load_rowG rfl 57 _ rfl (w.heap.size + 1 + 1) rfl _ _ (0, 0) _ hu.has.2.2 Tryz.underlying57 rfl (by rw [HTZ.out]; exact info_stp) ?_))
            exact ⟨rfl, hu, Ext.refl _, slot_eq rfl⟩) ?_
          refine sp_op (Ph.eq _) (fun u hu => by
            refine spArg_eq 1 rfl rfl ?_
            refine spArg_eq 0 rfl rfl ?_
            refine spArg_eq 2 rfl rfl ?_
            refine spArg_nil ?_
            simp only [Act.put, List.setIfInBounds_toArray, List.set_cons_succ, List.set_cons_zero]
            obtain ⟨tc0, tc1, tc2, -⟩ := HTC.out _ hu.has
            have r0 := range_below HRG.out hu.up 0 _ rfl
            have r1 := range_below HRG.out hu.up 1 _ rfl
            simp only [Nat.add_zero] at r0
            go_wp2_with ((go_at_call 62; refine (HMM.out _).mono ?_; rintro e x1 ⟨rfl, hb1⟩))
            first | exact ⟨rfl, HoldT.step hst hu hb1, hb1, slot_eq rfl⟩ | exact ⟨rfl, hu, Ext.refl _, slot_eq rfl⟩) ?_
          refine sp_op (Ph.eq _) (fun u hu => by
            refine spArg_eq 0 rfl rfl ?_
            refine spArg_eq 3 rfl rfl ?_
            refine spArg_nil ?_
            simp only [Act.put, List.setIfInBounds_toArray, List.set_cons_succ, List.set_cons_zero]
            obtain ⟨tc0, tc1, tc2, -⟩ := HTC.out _ hu.has
            have r0 := range_below HRG.out hu.up 0 _ rfl
            have r1 := range_below HRG.out hu.up 1 _ rfl
            simp only [Nat.add_zero] at r0
            go_wp2_with (fail)
            exact ⟨rfl, hu, Ext.refl _, slot_eq rfl⟩) ?_
          refine sp_op (Ph.eq _) (fun u hu => by
            refine spArg_eq 4 rfl rfl ?_
            refine spArg_eq 0 rfl rfl ?_
            refine spArg_nil ?_
            simp only [Act.put, List.setIfInBounds_toArray, List.set_cons_succ, List.set_cons_zero]
            obtain ⟨tc0, tc1, tc2, -⟩ := HTC.out _ hu.has
            have r0 := range_below HRG.out hu.up 0 _ rfl
            have r1 := range_below HRG.out hu.up 1 _ rfl
            simp only [Nat.add_zero] at r0
            go_wp2_with (fail)
            exact ⟨rfl, hu, Ext.refl _, slot_eq rfl⟩) ?_
          refine sp_end ?_
          intro u hu
          refine spArg_eq 26 rfl rfl ?_
          refine spArg_eq 25 rfl rfl ?_
          refine spArg_eq 24 rfl rfl ?_
          refine spArg_eq 23 rfl rfl ?_
          refine spArg_eq 22 rfl rfl ?_
          refine spArg_eq 21 rfl rfl ?_
          refine spArg_eq 20 rfl rfl ?_
          refine spArg_eq 19 rfl rfl ?_
          refine spArg_eq 18 rfl rfl ?_
          refine spArg_eq 17 rfl rfl ?_
          refine spArg_eq 16 rfl rfl ?_
          refine spArg_eq 15 rfl rfl ?_
          refine spArg_eq 14 rfl rfl ?_
          refine spArg_eq 13 rfl rfl ?_
          refine spArg_eq 12 rfl rfl ?_
          refine spArg_eq 11 rfl rfl ?_
          refine spArg_eq 10 rfl rfl ?_
          refine spArg_eq 9 rfl rfl ?_
          refine spArg_eq 8 rfl rfl ?_
          refine spArg_eq 7 rfl rfl ?_
          refine spArg_eq 6 rfl rfl ?_
          refine spArg_eq 5 rfl rfl ?_
          refine spArg_eq 4 rfl rfl ?_
          refine spArg_eq 3 rfl rfl ?_
          refine spArg_eq 2 rfl rfl ?_
          refine spArg_eq 1 rfl rfl ?_
          refine spArg_eq 0 rfl rfl ?_
          refine spArg_nil ?_
          simp only [Act.put, List.setIfInBounds_toArray, List.set_cons_succ, List.set_cons_zero]
          obtain ⟨-, -, tc2, tc3, -⟩ := HTC.out _ hu.has
          go_wp2_with (go_at_call 63; refine (HBB.out _ (HVT.out.below hu.up (by decide))).mono ?_; rintro e x3 ⟨v3, rfl, hown3, hb3⟩; have hu3 := HoldT.step hst hu hb3)
          go_ret
          exact ⟨by rw [HFF.out]; rfl, hu3.up⟩
        | some bb =>
          by_cases hbb : bb = out.box
          · have hbe : (bb == out.box) = true := by rw [hbb]; exact beq_self_eq_true _
            rw [decide_eq_true (show some bb = some out.box by rw [hbb])] at hF
            clear hbb
            generalize decide (equalOk p.base p.blind t.e.x out.x t.b.c t.b.s) = dc at *
            have HSS := Lib.hid HS; have HMM := Lib.hid HM; have HBB := Lib.hid HB; have HCC := Lib.hid HC; have HFF := Lib.hid hF
            clear HS HM HB HC hF hp ho ht
            generalize p.cells.toArray = PC at *
            generalize stpC t (.slice a2 t.e.box.length c2) = TC at *
            generalize hec : (#[.int .u64 out.x, .slice ao out.box.length co] : Array Value) = EC at *
            generalize p.base = pb at *
            generalize p.blind = pbl at *
            generalize p.mix = pm at *
            generalize t.e.x = TX at *
            generalize t.e.box = TB at *
            generalize t.shared = SH at *
            generalize t.b.c = bc at *
            generalize t.b.s = bs at *
            generalize t.m.c = mc at *
            generalize t.m.s = ms at *
            generalize out.x = OX at *
            generalize out.box = OB at *
            generalize ek.x = KX at *
            generalize ek.box = KB at *
            subst hec
            go_enter Tryz.func28, Tryz.ntmps28
            go_wp2_with fail
            have hk := hk0.out
            try change Code.wp _ _ _ (Act.mk _ _) _
            refine wp_region_runR Ext 27 71 (HoldT (PsC w.heap.size PC #[.int .u64 OX, .slice ao OB.length co] TC) _) [[], [(0, 13)], [(1, 14)], [(2, 15)], [(3, 16)], [(4, 17), (3, 16)], [(3, 16)], [(6, 19), (3, 16)], [(5, 18), (7, 20), (3, 16)], [(3, 16), (8, 21)], [(9, 22)], [(10, 23)], [(10, 23)], [(12, 25), (10, 23)], [(11, 24), (13, 26), (10, 23)], [(14, 27), (10, 23)], [(10, 23)], [(16, 29), (10, 23)], [(15, 28), (17, 30), (10, 23)], [(18, 31), (10, 23)], [(10, 23), (19, 32)], [(20, 33)], [(21, 34)], [(21, 34)], [(22, 35), (23, 36), (21, 34)], [(24, 37), (21, 34)], [(21, 34), (25, 38)]] [(0, 13), (1, 14), (2, 15), (3, 16), (4, 17), (5, 18), (6, 19), (7, 20), (8, 21), (9, 22), (10, 23), (11, 24), (12, 25), (13, 26), (14, 27), (15, 28), (16, 29), (17, 30), (18, 31), (19, 32), (20, 33), (21, 34), (22, 35), (23, 36), (24, 37), (25, 38), (26, 39)] (by kernel_rfl) (by kernel_rfl) (by first | rfl | simp) (hk) ?_
            simp only [List.take_succ_cons, List.take_zero, List.drop_succ_cons, List.drop_zero]
            refine sp_op (Ph.eq _) (fun u hu => by
              refine spArg_nil ?_
              obtain ⟨tc0, tc1, tc2, -⟩ := HTC.out _ hu.has
              have r0 := range_below HRG.out hu.up 0 _ rfl
              have r1 := range_below HRG.out hu.up 1 _ rfl
              simp only [Nat.add_zero] at r0
              go_wp2_with (fail)
              exact ⟨rfl, hu, Ext.refl _, slot_eq rfl⟩) ?_
            refine sp_op (Ph.eq _) (fun u hu => by
              refine spArg_eq 0 rfl rfl ?_
              refine spArg_nil ?_
              simp only [Act.put, List.setIfInBounds_toArray, List.set_cons_succ, List.set_cons_zero]
              obtain ⟨tc0, tc1, tc2, -⟩ := HTC.out _ hu.has
              have r0 := range_below HRG.out hu.up 0 _ rfl
              have r1 := range_below HRG.out hu.up 1 _ rfl
              simp only [Nat.add_zero] at r0
              go_wp2_with (fail)
              exact ⟨rfl, hu, Ext.refl _, slot_eq rfl⟩) ?_
            refine sp_op (Ph.eq _) (fun u hu => by
              refine spArg_eq 0 rfl rfl ?_
              refine spArg_nil ?_
              simp only [Act.put, List.setIfInBounds_toArray, List.set_cons_succ, List.set_cons_zero]
              obtain ⟨tc0, tc1, tc2, -⟩ := HTC.out _ hu.has
              have r0 := range_below HRG.out hu.up 0 _ rfl
              have r1 := range_below HRG.out hu.up 1 _ rfl
              simp only [Nat.add_zero] at r0
              go_wp2_with (fail)
              exact ⟨rfl, hu, Ext.refl _, slot_eq rfl⟩) ?_
            refine sp_op (Ph.eq _) (fun u hu => by
              refine spArg_eq 0 rfl rfl ?_
              refine spArg_nil ?_
              simp only [Act.put, List.setIfInBounds_toArray, List.set_cons_succ, List.set_cons_zero]
              obtain ⟨tc0, tc1, tc2, -⟩ := HTC.out _ hu.has
              have r0 := range_below HRG.out hu.up 0 _ rfl
              have r1 := range_below HRG.out hu.up 1 _ rfl
              simp only [Nat.add_zero] at r0
              go_wp2_with (fail)
              exact ⟨rfl, hu, Ext.refl _, slot_eq rfl⟩) ?_
            refine sp_op (Ph.eq _) (fun u hu => by
              refine spArg_eq 0 rfl rfl ?_
              refine spArg_nil ?_
              simp only [Act.put, List.setIfInBounds_toArray, List.set_cons_succ, List.set_cons_zero]
              obtain ⟨tc0, tc1, tc2, -⟩ := HTC.out _ hu.has
              have r0 := range_below HRG.out hu.up 0 _ rfl
              have r1 := range_below HRG.out hu.up 1 _ rfl
              simp only [Nat.add_zero] at r0
              go_wp2_with (fail)
              exact ⟨rfl, hu, Ext.refl _, slot_eq rfl⟩) ?_
            refine sp_op (Ph.eq _) (fun u hu => by
              refine spArg_eq 0 rfl rfl ?_
              refine spArg_eq 1 rfl rfl ?_
              refine spArg_nil ?_
              simp only [Act.put, List.setIfInBounds_toArray, List.set_cons_succ, List.set_cons_zero]
              obtain ⟨tc0, tc1, tc2, -⟩ := HTC.out _ hu.has
              have r0 := range_below HRG.out hu.up 0 _ rfl
              have r1 := range_below HRG.out hu.up 1 _ rfl
              simp only [Nat.add_zero] at r0
              go_wp2_with (fail)
              exact ⟨rfl, hu, Ext.refl _, slot_eq rfl⟩) ?_
            refine sp_op (Ph.eq _) (fun u hu => by
              refine spArg_eq 2 rfl rfl ?_
              refine spArg_nil ?_
              simp only [Act.put, List.setIfInBounds_toArray, List.set_cons_succ, List.set_cons_zero]
              obtain ⟨tc0, tc1, tc2, -⟩ := HTC.out _ hu.has
              have r0 := range_below HRG.out hu.up 0 _ rfl
              have r1 := range_below HRG.out hu.up 1 _ rfl
              simp only [Nat.add_zero] at r0
              go_wp2_with (fail)
              exact ⟨rfl, hu, Ext.refl _, slot_eq rfl⟩) ?_
            refine sp_op (Ph.eq _) (fun u hu => by
              refine spArg_eq 0 rfl rfl ?_
              refine spArg_eq 3 rfl rfl ?_
              refine spArg_nil ?_
              simp only [Act.put, List.setIfInBounds_toArray, List.set_cons_succ, List.set_cons_zero]
              obtain ⟨tc0, tc1, tc2, -⟩ := HTC.out _ hu.has
              have r0 := range_below HRG.out hu.up 0 _ rfl
              have r1 := range_below HRG.out hu.up 1 _ rfl
              simp only [Nat.add_zero] at r0
              go_wp2_with (fail)
              exact ⟨rfl, hu, Ext.refl _, slot_eq rfl⟩) ?_
            refine sp_op (Ph.eq _) (fun u hu => by
              refine spArg_eq 2 rfl rfl ?_
              refine spArg_eq 0 rfl rfl ?_
              refine spArg_eq 4 rfl rfl ?_
              refine spArg_nil ?_
              simp only [Act.put, List.setIfInBounds_toArray, List.set_cons_succ, List.set_cons_zero]
              obtain ⟨tc0, tc1, tc2, -⟩ := HTC.out _ hu.has
              have r0 := range_below HRG.out hu.up 0 _ rfl
              have r1 := range_below HRG.out hu.up 1 _ rfl
              simp only [Nat.add_zero] at r0
              go_wp2_with (fail)
              exact ⟨rfl, hu, Ext.refl _, slot_eq rfl⟩) ?_
            refine sp_op (Ph.eq _) (fun u hu => by
              refine spArg_eq 5 rfl rfl ?_
              refine spArg_eq 0 rfl rfl ?_
              refine spArg_nil ?_
              simp only [Act.put, List.setIfInBounds_toArray, List.set_cons_succ, List.set_cons_zero]
              obtain ⟨tc0, tc1, tc2, -⟩ := HTC.out _ hu.has
              have r0 := range_below HRG.out hu.up 0 _ rfl
              have r1 := range_below HRG.out hu.up 1 _ rfl
              simp only [Nat.add_zero] at r0
              go_wp2_with (fail)
              exact ⟨rfl, hu, Ext.refl _, slot_eq rfl⟩) ?_
            refine sp_op (Ph.eq _) (fun u hu => by
              refine spArg_eq 0 rfl rfl ?_
              refine spArg_nil ?_
              simp only [Act.put, List.setIfInBounds_toArray, List.set_cons_succ, List.set_cons_zero]
              obtain ⟨tc0, tc1, tc2, -⟩ := HTC.out _ hu.has
              have r0 := range_below HRG.out hu.up 0 _ rfl
              have r1 := range_below HRG.out hu.up 1 _ rfl
              simp only [Nat.add_zero] at r0
              go_wp2_with (fail)
              exact ⟨rfl, hu, Ext.refl _, slot_eq rfl⟩) ?_
            refine sp_op (Ph.eq _) (fun u hu => by
              refine spArg_eq 0 rfl rfl ?_
              refine spArg_nil ?_
              simp only [Act.put, List.setIfInBounds_toArray, List.set_cons_succ, List.set_cons_zero]
              obtain ⟨tc0, tc1, tc2, -⟩ := HTC.out _ hu.has
              have r0 := range_below HRG.out hu.up 0 _ rfl
              have r1 := range_below HRG.out hu.up 1 _ rfl
              simp only [Nat.add_zero] at r0
              go_wp2_with (fail)
              exact ⟨rfl, hu, Ext.refl _, slot_eq rfl⟩) ?_
            refine sp_op (Ph.eq _) (fun u hu => by
              refine spArg_eq 1 rfl rfl ?_
              refine spArg_nil ?_
              simp only [Act.put, List.setIfInBounds_toArray, List.set_cons_succ, List.set_cons_zero]
              obtain ⟨tc0, tc1, tc2, -⟩ := HTC.out _ hu.has
              have r0 := range_below HRG.out hu.up 0 _ rfl
              have r1 := range_below HRG.out hu.up 1 _ rfl
              simp only [Nat.add_zero] at r0
              go_wp2_with (fail)
              exact ⟨rfl, hu, Ext.refl _, slot_eq rfl⟩) ?_
            refine sp_op (Ph.eq _) (fun u hu => by
              refine spArg_eq 0 rfl rfl ?_
              refine spArg_eq 2 rfl rfl ?_
              refine spArg_nil ?_
              simp only [Act.put, List.setIfInBounds_toArray, List.set_cons_succ, List.set_cons_zero]
              obtain ⟨tc0, tc1, tc2, -⟩ := HTC.out _ hu.has
              have r0 := range_below HRG.out hu.up 0 _ rfl
              have r1 := range_below HRG.out hu.up 1 _ rfl
              simp only [Nat.add_zero] at r0
              go_wp2_with (fail)
              exact ⟨rfl, hu, Ext.refl _, slot_eq rfl⟩) ?_
            refine sp_op (Ph.eq _) (fun u hu => by
              refine spArg_eq 2 rfl rfl ?_
              refine spArg_eq 0 rfl rfl ?_
              refine spArg_eq 3 rfl rfl ?_
              refine spArg_nil ?_
              simp only [Act.put, List.setIfInBounds_toArray, List.set_cons_succ, List.set_cons_zero]
              obtain ⟨tc0, tc1, tc2, -⟩ := HTC.out _ hu.has
              have r0 := range_below HRG.out hu.up 0 _ rfl
              have r1 := range_below HRG.out hu.up 1 _ rfl
              simp only [Nat.add_zero] at r0
              go_wp2_with (fail)
              exact ⟨rfl, hu, Ext.refl _, slot_eq rfl⟩) ?_
            refine sp_op (Ph.eq _) (fun u hu => by
              refine spArg_eq 0 rfl rfl ?_
              refine spArg_eq 4 rfl rfl ?_
              refine spArg_nil ?_
              simp only [Act.put, List.setIfInBounds_toArray, List.set_cons_succ, List.set_cons_zero]
              obtain ⟨tc0, tc1, tc2, -⟩ := HTC.out _ hu.has
              have r0 := range_below HRG.out hu.up 0 _ rfl
              have r1 := range_below HRG.out hu.up 1 _ rfl
              simp only [Nat.add_zero] at r0
              go_wp2_with (fail)
              exact ⟨rfl, hu, Ext.refl _, slot_eq rfl⟩) ?_
            refine sp_op (Ph.eq _) (fun u hu => by
              refine spArg_eq 5 rfl rfl ?_
              refine spArg_nil ?_
              simp only [Act.put, List.setIfInBounds_toArray, List.set_cons_succ, List.set_cons_zero]
              obtain ⟨tc0, tc1, tc2, -⟩ := HTC.out _ hu.has
              have r0 := range_below HRG.out hu.up 0 _ rfl
              have r1 := range_below HRG.out hu.up 1 _ rfl
              simp only [Nat.add_zero] at r0
              go_wp2_with (fail)
              exact ⟨rfl, hu, Ext.refl _, slot_eq rfl⟩) ?_
            refine sp_op (Ph.eq _) (fun u hu => by
              refine spArg_eq 0 rfl rfl ?_
              refine spArg_eq 6 rfl rfl ?_
              refine spArg_nil ?_
              simp only [Act.put, List.setIfInBounds_toArray, List.set_cons_succ, List.set_cons_zero]
              obtain ⟨tc0, tc1, tc2, -⟩ := HTC.out _ hu.has
              have r0 := range_below HRG.out hu.up 0 _ rfl
              have r1 := range_below HRG.out hu.up 1 _ rfl
              simp only [Nat.add_zero] at r0
              go_wp2_with (fail)
              exact ⟨rfl, hu, Ext.refl _, slot_eq rfl⟩) ?_
            refine sp_op (Ph.eq _) (fun u hu => by
              refine spArg_eq 2 rfl rfl ?_
              refine spArg_eq 0 rfl rfl ?_
              refine spArg_eq 7 rfl rfl ?_
              refine spArg_nil ?_
              simp only [Act.put, List.setIfInBounds_toArray, List.set_cons_succ, List.set_cons_zero]
              obtain ⟨tc0, tc1, tc2, -⟩ := HTC.out _ hu.has
              have r0 := range_below HRG.out hu.up 0 _ rfl
              have r1 := range_below HRG.out hu.up 1 _ rfl
              simp only [Nat.add_zero] at r0
              go_wp2_with ((go_at_call 61; refine (HSS.out _ (HVS.out.below hu.up (by decide)) (HVT.out.below hu.up (by decide))).mono ?_; rintro e x1 ⟨rfl, hb1⟩))
              first | exact ⟨rfl, HoldT.step hst hu hb1, hb1, slot_eq rfl⟩ | exact ⟨rfl, hu, Ext.refl _, slot_eq rfl⟩) ?_
            refine sp_op (Ph.eq _) (fun u hu => by
              refine spArg_eq 0 rfl rfl ?_
              refine spArg_eq 8 rfl rfl ?_
              refine spArg_nil ?_
              simp only [Act.put, List.setIfInBounds_toArray, List.set_cons_succ, List.set_cons_zero]
              obtain ⟨tc0, tc1, tc2, -⟩ := HTC.out _ hu.has
              have r0 := range_below HRG.out hu.up 0 _ rfl
              have r1 := range_below HRG.out hu.up 1 _ rfl
              simp only [Nat.add_zero] at r0
              go_wp2_with (fail)
              exact ⟨rfl, hu, Ext.refl _, slot_eq rfl⟩) ?_
            refine sp_op (Ph.eq _) (fun u hu => by
              refine spArg_eq 9 rfl rfl ?_
              refine spArg_eq 0 rfl rfl ?_
              refine spArg_nil ?_
              simp only [Act.put, List.setIfInBounds_toArray, List.set_cons_succ, List.set_cons_zero]
              obtain ⟨tc0, tc1, tc2, -⟩ := HTC.out _ hu.has
              have r0 := range_below HRG.out hu.up 0 _ rfl
              have r1 := range_below HRG.out hu.up 1 _ rfl
              simp only [Nat.add_zero] at r0
              go_wp2_with (fail)
              exact ⟨rfl, hu, Ext.refl _, slot_eq rfl⟩) ?_
            refine sp_op (Ph.eq _) (fun u hu => by
              refine spArg_eq 0 rfl rfl ?_
              refine spArg_nil ?_
              simp only [Act.put, List.setIfInBounds_toArray, List.set_cons_succ, List.set_cons_zero]
              obtain ⟨tc0, tc1, tc2, -⟩ := HTC.out _ hu.has
              have r0 := range_below HRG.out hu.up 0 _ rfl
              have r1 := range_below HRG.out hu.up 1 _ rfl
              simp only [Nat.add_zero] at r0
              go_wp2_with (fail)
              exact ⟨rfl, hu, Ext.refl _, slot_eq rfl⟩) ?_
            refine sp_op (Ph.eq _) (fun u hu => by
              refine spArg_eq 0 rfl rfl ?_
              refine spArg_nil ?_
              simp only [Act.put, List.setIfInBounds_toArray, List.set_cons_succ, List.set_cons_zero]
              obtain ⟨tc0, tc1, tc2, -⟩ := HTC.out _ hu.has
              have r0 := range_below HRG.out hu.up 0 _ rfl
              have r1 := range_below HRG.out hu.up 1 _ rfl
              simp only [Nat.add_zero] at r0
              go_wp2_with ((refine wpList_load_rowG rfl 60 _ rfl w.heap.size rfl _ _ (0, 0) _ hu.has.1 Tryz.underlying60 rfl (by rw [HPZ.out]; exact info_pub) ?_))
              exact ⟨rfl, hu, Ext.refl _, slot_eq rfl⟩) ?_
            refine sp_op (Ph.eq _) (fun u hu => by
              refine spArg_eq 1 rfl rfl ?_
              refine spArg_nil ?_
              simp only [Act.put, List.setIfInBounds_toArray, List.set_cons_succ, List.set_cons_zero]
              obtain ⟨tc0, tc1, tc2, -⟩ := HTC.out _ hu.has
              have r0 := range_below HRG.out hu.up 0 _ rfl
              have r1 := range_below HRG.out hu.up 1 _ rfl
              simp only [Nat.add_zero] at r0
              go_wp2_with ((refine wpList_load_rowG rfl 57 _ rfl (w.heap.size + 1 + 1) rfl _ _ (0, 0) _ hu.has.2.2 Tryz.underlying57 rfl (by rw [HTZ.out]; exact info_stp) ?_))
              exact ⟨rfl, hu, Ext.refl _, slot_eq rfl⟩) ?_
            refine sp_op (Ph.eq _) (fun u hu => by
              refine spArg_eq 1 rfl rfl ?_
              refine spArg_eq 0 rfl rfl ?_
              refine spArg_eq 2 rfl rfl ?_
              refine spArg_nil ?_
              simp only [Act.put, List.setIfInBounds_toArray, List.set_cons_succ, List.set_cons_zero]
              obtain ⟨tc0, tc1, tc2, -⟩ := HTC.out _ hu.has
              have r0 := range_below HRG.out hu.up 0 _ rfl
              have r1 := range_below HRG.out hu.up 1 _ rfl
              simp only [Nat.add_zero] at r0
              go_wp2_with ((go_at_call 62; refine (HMM.out _).mono ?_; rintro e x1 ⟨rfl, hb1⟩))
              first | exact ⟨rfl, HoldT.step hst hu hb1, hb1, slot_eq rfl⟩ | exact ⟨rfl, hu, Ext.refl _, slot_eq rfl⟩) ?_
            refine sp_op (Ph.eq _) (fun u hu => by
              refine spArg_eq 0 rfl rfl ?_
              refine spArg_eq 3 rfl rfl ?_
              refine spArg_nil ?_
              simp only [Act.put, List.setIfInBounds_toArray, List.set_cons_succ, List.set_cons_zero]
              obtain ⟨tc0, tc1, tc2, -⟩ := HTC.out _ hu.has
              have r0 := range_below HRG.out hu.up 0 _ rfl
              have r1 := range_below HRG.out hu.up 1 _ rfl
              simp only [Nat.add_zero] at r0
              go_wp2_with (fail)
              exact ⟨rfl, hu, Ext.refl _, slot_eq rfl⟩) ?_
            refine sp_op (Ph.eq _) (fun u hu => by
              refine spArg_eq 4 rfl rfl ?_
              refine spArg_eq 0 rfl rfl ?_
              refine spArg_nil ?_
              simp only [Act.put, List.setIfInBounds_toArray, List.set_cons_succ, List.set_cons_zero]
              obtain ⟨tc0, tc1, tc2, -⟩ := HTC.out _ hu.has
              have r0 := range_below HRG.out hu.up 0 _ rfl
              have r1 := range_below HRG.out hu.up 1 _ rfl
              simp only [Nat.add_zero] at r0
              go_wp2_with (fail)
              exact ⟨rfl, hu, Ext.refl _, slot_eq rfl⟩) ?_
            refine sp_end ?_
            intro u hu
            refine spArg_eq 26 rfl rfl ?_
            refine spArg_eq 25 rfl rfl ?_
            refine spArg_eq 24 rfl rfl ?_
            refine spArg_eq 23 rfl rfl ?_
            refine spArg_eq 22 rfl rfl ?_
            refine spArg_eq 21 rfl rfl ?_
            refine spArg_eq 20 rfl rfl ?_
            refine spArg_eq 19 rfl rfl ?_
            refine spArg_eq 18 rfl rfl ?_
            refine spArg_eq 17 rfl rfl ?_
            refine spArg_eq 16 rfl rfl ?_
            refine spArg_eq 15 rfl rfl ?_
            refine spArg_eq 14 rfl rfl ?_
            refine spArg_eq 13 rfl rfl ?_
            refine spArg_eq 12 rfl rfl ?_
            refine spArg_eq 11 rfl rfl ?_
            refine spArg_eq 10 rfl rfl ?_
            refine spArg_eq 9 rfl rfl ?_
            refine spArg_eq 8 rfl rfl ?_
            refine spArg_eq 7 rfl rfl ?_
            refine spArg_eq 6 rfl rfl ?_
            refine spArg_eq 5 rfl rfl ?_
            refine spArg_eq 4 rfl rfl ?_
            refine spArg_eq 3 rfl rfl ?_
            refine spArg_eq 2 rfl rfl ?_
            refine spArg_eq 1 rfl rfl ?_
            refine spArg_eq 0 rfl rfl ?_
            refine spArg_nil ?_
            simp only [Act.put, List.setIfInBounds_toArray, List.set_cons_succ, List.set_cons_zero]
            obtain ⟨-, -, tc2, tc3, -⟩ := HTC.out _ hu.has
            go_wp2_with (first
              | (go_at_call 63; refine (HBB.out _ (HVT.out.below hu.up (by decide))).mono ?_; rintro e x3 ⟨v3, rfl, hown3, hb3⟩; have hu3 := HoldT.step hst hu hb3
                 simp only [Option.getD_some] at hown3
                 obtain ⟨a3, c3, rfl, -, -⟩ := owns_form hown3
                 clear tc2 tc3
                 obtain ⟨-, tc1, tc2, tc3, tc4, tc5, -⟩ := HTC.out _ hu3.has
                 obtain ⟨ec0, ec1⟩ := HEC.out _ hu3.has
                 obtain ⟨pc0, pc1, pc2⟩ := HPC.out _ hu3.has)
              | (go_at_call 64; refine (BytesEq_any bb OB _ _ _ (sees_of_owns hown3) (HVO.out.below hu3.up (by decide))).mono ?_; rintro e x4 ⟨rfl, rfl⟩)
              | (go_at_call 65; refine (HCC.out _).mono ?_; rintro e x5 ⟨rfl, hb5⟩; have hu5 := HoldT.step hst hu3 hb5))
            go_ret
            exact ⟨by rw [HFF.out]; rfl, hu5.up⟩
          · have hbe : (bb == out.box) = false := by rw [beq_eq_false_iff_ne]; exact hbb
            rw [decide_eq_false (show ¬ some bb = some out.box from fun h => hbb (Option.some.inj h))] at hF
            clear hbb
            have HSS := Lib.hid HS; have HMM := Lib.hid HM; have HBB := Lib.hid HB; have HCC := Lib.hid HC; have HFF := Lib.hid hF
            clear HS HM HB HC hF hp ho ht
            generalize p.cells.toArray = PC at *
            generalize stpC t (.slice a2 t.e.box.length c2) = TC at *
            generalize hec : (#[.int .u64 out.x, .slice ao out.box.length co] : Array Value) = EC at *
            generalize p.base = pb at *
            generalize p.blind = pbl at *
            generalize p.mix = pm at *
            generalize t.e.x = TX at *
            generalize t.e.box = TB at *
            generalize t.shared = SH at *
            generalize t.b.c = bc at *
            generalize t.b.s = bs at *
            generalize t.m.c = mc at *
            generalize t.m.s = ms at *
            generalize out.x = OX at *
            generalize out.box = OB at *
            generalize ek.x = KX at *
            generalize ek.box = KB at *
            subst hec
            go_enter Tryz.func28, Tryz.ntmps28
            go_wp2_with fail
            have hk := hk0.out
            try change Code.wp _ _ _ (Act.mk _ _) _
            refine wp_region_runR Ext 27 71 (HoldT (PsC w.heap.size PC #[.int .u64 OX, .slice ao OB.length co] TC) _) [[], [(0, 13)], [(1, 14)], [(2, 15)], [(3, 16)], [(4, 17), (3, 16)], [(3, 16)], [(6, 19), (3, 16)], [(5, 18), (7, 20), (3, 16)], [(3, 16), (8, 21)], [(9, 22)], [(10, 23)], [(10, 23)], [(12, 25), (10, 23)], [(11, 24), (13, 26), (10, 23)], [(14, 27), (10, 23)], [(10, 23)], [(16, 29), (10, 23)], [(15, 28), (17, 30), (10, 23)], [(18, 31), (10, 23)], [(10, 23), (19, 32)], [(20, 33)], [(21, 34)], [(21, 34)], [(22, 35), (23, 36), (21, 34)], [(24, 37), (21, 34)], [(21, 34), (25, 38)]] [(0, 13), (1, 14), (2, 15), (3, 16), (4, 17), (5, 18), (6, 19), (7, 20), (8, 21), (9, 22), (10, 23), (11, 24), (12, 25), (13, 26), (14, 27), (15, 28), (16, 29), (17, 30), (18, 31), (19, 32), (20, 33), (21, 34), (22, 35), (23, 36), (24, 37), (25, 38), (26, 39)] (by kernel_rfl) (by kernel_rfl) (by first | rfl | simp) (hk) ?_
            simp only [List.take_succ_cons, List.take_zero, List.drop_succ_cons, List.drop_zero]
            refine sp_op (Ph.eq _) (fun u hu => by
              refine spArg_nil ?_
              obtain ⟨tc0, tc1, tc2, -⟩ := HTC.out _ hu.has
              have r0 := range_below HRG.out hu.up 0 _ rfl
              have r1 := range_below HRG.out hu.up 1 _ rfl
              simp only [Nat.add_zero] at r0
              go_wp2_with (fail)
              exact ⟨rfl, hu, Ext.refl _, slot_eq rfl⟩) ?_
            refine sp_op (Ph.eq _) (fun u hu => by
              refine spArg_eq 0 rfl rfl ?_
              refine spArg_nil ?_
              simp only [Act.put, List.setIfInBounds_toArray, List.set_cons_succ, List.set_cons_zero]
              obtain ⟨tc0, tc1, tc2, -⟩ := HTC.out _ hu.has
              have r0 := range_below HRG.out hu.up 0 _ rfl
              have r1 := range_below HRG.out hu.up 1 _ rfl
              simp only [Nat.add_zero] at r0
              go_wp2_with (fail)
              exact ⟨rfl, hu, Ext.refl _, slot_eq rfl⟩) ?_
            refine sp_op (Ph.eq _) (fun u hu => by
              refine spArg_eq 0 rfl rfl ?_
              refine spArg_nil ?_
              simp only [Act.put, List.setIfInBounds_toArray, List.set_cons_succ, List.set_cons_zero]
              obtain ⟨tc0, tc1, tc2, -⟩ := HTC.out _ hu.has
              have r0 := range_below HRG.out hu.up 0 _ rfl
              have r1 := range_below HRG.out hu.up 1 _ rfl
              simp only [Nat.add_zero] at r0
              go_wp2_with (fail)
              exact ⟨rfl, hu, Ext.refl _, slot_eq rfl⟩) ?_
            refine sp_op (Ph.eq _) (fun u hu => by
              refine spArg_eq 0 rfl rfl ?_
              refine spArg_nil ?_
              simp only [Act.put, List.setIfInBounds_toArray, List.set_cons_succ, List.set_cons_zero]
              obtain ⟨tc0, tc1, tc2, -⟩ := HTC.out _ hu.has
              have r0 := range_below HRG.out hu.up 0 _ rfl
              have r1 := range_below HRG.out hu.up 1 _ rfl
              simp only [Nat.add_zero] at r0
              go_wp2_with (fail)
              exact ⟨rfl, hu, Ext.refl _, slot_eq rfl⟩) ?_
            refine sp_op (Ph.eq _) (fun u hu => by
              refine spArg_eq 0 rfl rfl ?_
              refine spArg_nil ?_
              simp only [Act.put, List.setIfInBounds_toArray, List.set_cons_succ, List.set_cons_zero]
              obtain ⟨tc0, tc1, tc2, -⟩ := HTC.out _ hu.has
              have r0 := range_below HRG.out hu.up 0 _ rfl
              have r1 := range_below HRG.out hu.up 1 _ rfl
              simp only [Nat.add_zero] at r0
              go_wp2_with (fail)
              exact ⟨rfl, hu, Ext.refl _, slot_eq rfl⟩) ?_
            refine sp_op (Ph.eq _) (fun u hu => by
              refine spArg_eq 0 rfl rfl ?_
              refine spArg_eq 1 rfl rfl ?_
              refine spArg_nil ?_
              simp only [Act.put, List.setIfInBounds_toArray, List.set_cons_succ, List.set_cons_zero]
              obtain ⟨tc0, tc1, tc2, -⟩ := HTC.out _ hu.has
              have r0 := range_below HRG.out hu.up 0 _ rfl
              have r1 := range_below HRG.out hu.up 1 _ rfl
              simp only [Nat.add_zero] at r0
              go_wp2_with (fail)
              exact ⟨rfl, hu, Ext.refl _, slot_eq rfl⟩) ?_
            refine sp_op (Ph.eq _) (fun u hu => by
              refine spArg_eq 2 rfl rfl ?_
              refine spArg_nil ?_
              simp only [Act.put, List.setIfInBounds_toArray, List.set_cons_succ, List.set_cons_zero]
              obtain ⟨tc0, tc1, tc2, -⟩ := HTC.out _ hu.has
              have r0 := range_below HRG.out hu.up 0 _ rfl
              have r1 := range_below HRG.out hu.up 1 _ rfl
              simp only [Nat.add_zero] at r0
              go_wp2_with (fail)
              exact ⟨rfl, hu, Ext.refl _, slot_eq rfl⟩) ?_
            refine sp_op (Ph.eq _) (fun u hu => by
              refine spArg_eq 0 rfl rfl ?_
              refine spArg_eq 3 rfl rfl ?_
              refine spArg_nil ?_
              simp only [Act.put, List.setIfInBounds_toArray, List.set_cons_succ, List.set_cons_zero]
              obtain ⟨tc0, tc1, tc2, -⟩ := HTC.out _ hu.has
              have r0 := range_below HRG.out hu.up 0 _ rfl
              have r1 := range_below HRG.out hu.up 1 _ rfl
              simp only [Nat.add_zero] at r0
              go_wp2_with (fail)
              exact ⟨rfl, hu, Ext.refl _, slot_eq rfl⟩) ?_
            refine sp_op (Ph.eq _) (fun u hu => by
              refine spArg_eq 2 rfl rfl ?_
              refine spArg_eq 0 rfl rfl ?_
              refine spArg_eq 4 rfl rfl ?_
              refine spArg_nil ?_
              simp only [Act.put, List.setIfInBounds_toArray, List.set_cons_succ, List.set_cons_zero]
              obtain ⟨tc0, tc1, tc2, -⟩ := HTC.out _ hu.has
              have r0 := range_below HRG.out hu.up 0 _ rfl
              have r1 := range_below HRG.out hu.up 1 _ rfl
              simp only [Nat.add_zero] at r0
              go_wp2_with (fail)
              exact ⟨rfl, hu, Ext.refl _, slot_eq rfl⟩) ?_
            refine sp_op (Ph.eq _) (fun u hu => by
              refine spArg_eq 5 rfl rfl ?_
              refine spArg_eq 0 rfl rfl ?_
              refine spArg_nil ?_
              simp only [Act.put, List.setIfInBounds_toArray, List.set_cons_succ, List.set_cons_zero]
              obtain ⟨tc0, tc1, tc2, -⟩ := HTC.out _ hu.has
              have r0 := range_below HRG.out hu.up 0 _ rfl
              have r1 := range_below HRG.out hu.up 1 _ rfl
              simp only [Nat.add_zero] at r0
              go_wp2_with (fail)
              exact ⟨rfl, hu, Ext.refl _, slot_eq rfl⟩) ?_
            refine sp_op (Ph.eq _) (fun u hu => by
              refine spArg_eq 0 rfl rfl ?_
              refine spArg_nil ?_
              simp only [Act.put, List.setIfInBounds_toArray, List.set_cons_succ, List.set_cons_zero]
              obtain ⟨tc0, tc1, tc2, -⟩ := HTC.out _ hu.has
              have r0 := range_below HRG.out hu.up 0 _ rfl
              have r1 := range_below HRG.out hu.up 1 _ rfl
              simp only [Nat.add_zero] at r0
              go_wp2_with (fail)
              exact ⟨rfl, hu, Ext.refl _, slot_eq rfl⟩) ?_
            refine sp_op (Ph.eq _) (fun u hu => by
              refine spArg_eq 0 rfl rfl ?_
              refine spArg_nil ?_
              simp only [Act.put, List.setIfInBounds_toArray, List.set_cons_succ, List.set_cons_zero]
              obtain ⟨tc0, tc1, tc2, -⟩ := HTC.out _ hu.has
              have r0 := range_below HRG.out hu.up 0 _ rfl
              have r1 := range_below HRG.out hu.up 1 _ rfl
              simp only [Nat.add_zero] at r0
              go_wp2_with (fail)
              exact ⟨rfl, hu, Ext.refl _, slot_eq rfl⟩) ?_
            refine sp_op (Ph.eq _) (fun u hu => by
              refine spArg_eq 1 rfl rfl ?_
              refine spArg_nil ?_
              simp only [Act.put, List.setIfInBounds_toArray, List.set_cons_succ, List.set_cons_zero]
              obtain ⟨tc0, tc1, tc2, -⟩ := HTC.out _ hu.has
              have r0 := range_below HRG.out hu.up 0 _ rfl
              have r1 := range_below HRG.out hu.up 1 _ rfl
              simp only [Nat.add_zero] at r0
              go_wp2_with (fail)
              exact ⟨rfl, hu, Ext.refl _, slot_eq rfl⟩) ?_
            refine sp_op (Ph.eq _) (fun u hu => by
              refine spArg_eq 0 rfl rfl ?_
              refine spArg_eq 2 rfl rfl ?_
              refine spArg_nil ?_
              simp only [Act.put, List.setIfInBounds_toArray, List.set_cons_succ, List.set_cons_zero]
              obtain ⟨tc0, tc1, tc2, -⟩ := HTC.out _ hu.has
              have r0 := range_below HRG.out hu.up 0 _ rfl
              have r1 := range_below HRG.out hu.up 1 _ rfl
              simp only [Nat.add_zero] at r0
              go_wp2_with (fail)
              exact ⟨rfl, hu, Ext.refl _, slot_eq rfl⟩) ?_
            refine sp_op (Ph.eq _) (fun u hu => by
              refine spArg_eq 2 rfl rfl ?_
              refine spArg_eq 0 rfl rfl ?_
              refine spArg_eq 3 rfl rfl ?_
              refine spArg_nil ?_
              simp only [Act.put, List.setIfInBounds_toArray, List.set_cons_succ, List.set_cons_zero]
              obtain ⟨tc0, tc1, tc2, -⟩ := HTC.out _ hu.has
              have r0 := range_below HRG.out hu.up 0 _ rfl
              have r1 := range_below HRG.out hu.up 1 _ rfl
              simp only [Nat.add_zero] at r0
              go_wp2_with (fail)
              exact ⟨rfl, hu, Ext.refl _, slot_eq rfl⟩) ?_
            refine sp_op (Ph.eq _) (fun u hu => by
              refine spArg_eq 0 rfl rfl ?_
              refine spArg_eq 4 rfl rfl ?_
              refine spArg_nil ?_
              simp only [Act.put, List.setIfInBounds_toArray, List.set_cons_succ, List.set_cons_zero]
              obtain ⟨tc0, tc1, tc2, -⟩ := HTC.out _ hu.has
              have r0 := range_below HRG.out hu.up 0 _ rfl
              have r1 := range_below HRG.out hu.up 1 _ rfl
              simp only [Nat.add_zero] at r0
              go_wp2_with (fail)
              exact ⟨rfl, hu, Ext.refl _, slot_eq rfl⟩) ?_
            refine sp_op (Ph.eq _) (fun u hu => by
              refine spArg_eq 5 rfl rfl ?_
              refine spArg_nil ?_
              simp only [Act.put, List.setIfInBounds_toArray, List.set_cons_succ, List.set_cons_zero]
              obtain ⟨tc0, tc1, tc2, -⟩ := HTC.out _ hu.has
              have r0 := range_below HRG.out hu.up 0 _ rfl
              have r1 := range_below HRG.out hu.up 1 _ rfl
              simp only [Nat.add_zero] at r0
              go_wp2_with (fail)
              exact ⟨rfl, hu, Ext.refl _, slot_eq rfl⟩) ?_
            refine sp_op (Ph.eq _) (fun u hu => by
              refine spArg_eq 0 rfl rfl ?_
              refine spArg_eq 6 rfl rfl ?_
              refine spArg_nil ?_
              simp only [Act.put, List.setIfInBounds_toArray, List.set_cons_succ, List.set_cons_zero]
              obtain ⟨tc0, tc1, tc2, -⟩ := HTC.out _ hu.has
              have r0 := range_below HRG.out hu.up 0 _ rfl
              have r1 := range_below HRG.out hu.up 1 _ rfl
              simp only [Nat.add_zero] at r0
              go_wp2_with (fail)
              exact ⟨rfl, hu, Ext.refl _, slot_eq rfl⟩) ?_
            refine sp_op (Ph.eq _) (fun u hu => by
              refine spArg_eq 2 rfl rfl ?_
              refine spArg_eq 0 rfl rfl ?_
              refine spArg_eq 7 rfl rfl ?_
              refine spArg_nil ?_
              simp only [Act.put, List.setIfInBounds_toArray, List.set_cons_succ, List.set_cons_zero]
              obtain ⟨tc0, tc1, tc2, -⟩ := HTC.out _ hu.has
              have r0 := range_below HRG.out hu.up 0 _ rfl
              have r1 := range_below HRG.out hu.up 1 _ rfl
              simp only [Nat.add_zero] at r0
              go_wp2_with ((go_at_call 61; refine (HSS.out _ (HVS.out.below hu.up (by decide)) (HVT.out.below hu.up (by decide))).mono ?_; rintro e x1 ⟨rfl, hb1⟩))
              first | exact ⟨rfl, HoldT.step hst hu hb1, hb1, slot_eq rfl⟩ | exact ⟨rfl, hu, Ext.refl _, slot_eq rfl⟩) ?_
            refine sp_op (Ph.eq _) (fun u hu => by
              refine spArg_eq 0 rfl rfl ?_
              refine spArg_eq 8 rfl rfl ?_
              refine spArg_nil ?_
              simp only [Act.put, List.setIfInBounds_toArray, List.set_cons_succ, List.set_cons_zero]
              obtain ⟨tc0, tc1, tc2, -⟩ := HTC.out _ hu.has
              have r0 := range_below HRG.out hu.up 0 _ rfl
              have r1 := range_below HRG.out hu.up 1 _ rfl
              simp only [Nat.add_zero] at r0
              go_wp2_with (fail)
              exact ⟨rfl, hu, Ext.refl _, slot_eq rfl⟩) ?_
            refine sp_op (Ph.eq _) (fun u hu => by
              refine spArg_eq 9 rfl rfl ?_
              refine spArg_eq 0 rfl rfl ?_
              refine spArg_nil ?_
              simp only [Act.put, List.setIfInBounds_toArray, List.set_cons_succ, List.set_cons_zero]
              obtain ⟨tc0, tc1, tc2, -⟩ := HTC.out _ hu.has
              have r0 := range_below HRG.out hu.up 0 _ rfl
              have r1 := range_below HRG.out hu.up 1 _ rfl
              simp only [Nat.add_zero] at r0
              go_wp2_with (fail)
              exact ⟨rfl, hu, Ext.refl _, slot_eq rfl⟩) ?_
            refine sp_op (Ph.eq _) (fun u hu => by
              refine spArg_eq 0 rfl rfl ?_
              refine spArg_nil ?_
              simp only [Act.put, List.setIfInBounds_toArray, List.set_cons_succ, List.set_cons_zero]
              obtain ⟨tc0, tc1, tc2, -⟩ := HTC.out _ hu.has
              have r0 := range_below HRG.out hu.up 0 _ rfl
              have r1 := range_below HRG.out hu.up 1 _ rfl
              simp only [Nat.add_zero] at r0
              go_wp2_with (fail)
              exact ⟨rfl, hu, Ext.refl _, slot_eq rfl⟩) ?_
            refine sp_op (Ph.eq _) (fun u hu => by
              refine spArg_eq 0 rfl rfl ?_
              refine spArg_nil ?_
              simp only [Act.put, List.setIfInBounds_toArray, List.set_cons_succ, List.set_cons_zero]
              obtain ⟨tc0, tc1, tc2, -⟩ := HTC.out _ hu.has
              have r0 := range_below HRG.out hu.up 0 _ rfl
              have r1 := range_below HRG.out hu.up 1 _ rfl
              simp only [Nat.add_zero] at r0
              go_wp2_with ((refine wpList_load_rowG rfl 60 _ rfl w.heap.size rfl _ _ (0, 0) _ hu.has.1 Tryz.underlying60 rfl (by rw [HPZ.out]; exact info_pub) ?_))
              exact ⟨rfl, hu, Ext.refl _, slot_eq rfl⟩) ?_
            refine sp_op (Ph.eq _) (fun u hu => by
              refine spArg_eq 1 rfl rfl ?_
              refine spArg_nil ?_
              simp only [Act.put, List.setIfInBounds_toArray, List.set_cons_succ, List.set_cons_zero]
              obtain ⟨tc0, tc1, tc2, -⟩ := HTC.out _ hu.has
              have r0 := range_below HRG.out hu.up 0 _ rfl
              have r1 := range_below HRG.out hu.up 1 _ rfl
              simp only [Nat.add_zero] at r0
              go_wp2_with ((refine wpList_load_rowG rfl 57 _ rfl (w.heap.size + 1 + 1) rfl _ _ (0, 0) _ hu.has.2.2 Tryz.underlying57 rfl (by rw [HTZ.out]; exact info_stp) ?_))
              exact ⟨rfl, hu, Ext.refl _, slot_eq rfl⟩) ?_
            refine sp_op (Ph.eq _) (fun u hu => by
              refine spArg_eq 1 rfl rfl ?_
              refine spArg_eq 0 rfl rfl ?_
              refine spArg_eq 2 rfl rfl ?_
              refine spArg_nil ?_
              simp only [Act.put, List.setIfInBounds_toArray, List.set_cons_succ, List.set_cons_zero]
              obtain ⟨tc0, tc1, tc2, -⟩ := HTC.out _ hu.has
              have r0 := range_below HRG.out hu.up 0 _ rfl
              have r1 := range_below HRG.out hu.up 1 _ rfl
              simp only [Nat.add_zero] at r0
              go_wp2_with ((go_at_call 62; refine (HMM.out _).mono ?_; rintro e x1 ⟨rfl, hb1⟩))
              first | exact ⟨rfl, HoldT.step hst hu hb1, hb1, slot_eq rfl⟩ | exact ⟨rfl, hu, Ext.refl _, slot_eq rfl⟩) ?_
            refine sp_op (Ph.eq _) (fun u hu => by
              refine spArg_eq 0 rfl rfl ?_
              refine spArg_eq 3 rfl rfl ?_
              refine spArg_nil ?_
              simp only [Act.put, List.setIfInBounds_toArray, List.set_cons_succ, List.set_cons_zero]
              obtain ⟨tc0, tc1, tc2, -⟩ := HTC.out _ hu.has
              have r0 := range_below HRG.out hu.up 0 _ rfl
              have r1 := range_below HRG.out hu.up 1 _ rfl
              simp only [Nat.add_zero] at r0
              go_wp2_with (fail)
              exact ⟨rfl, hu, Ext.refl _, slot_eq rfl⟩) ?_
            refine sp_op (Ph.eq _) (fun u hu => by
              refine spArg_eq 4 rfl rfl ?_
              refine spArg_eq 0 rfl rfl ?_
              refine spArg_nil ?_
              simp only [Act.put, List.setIfInBounds_toArray, List.set_cons_succ, List.set_cons_zero]
              obtain ⟨tc0, tc1, tc2, -⟩ := HTC.out _ hu.has
              have r0 := range_below HRG.out hu.up 0 _ rfl
              have r1 := range_below HRG.out hu.up 1 _ rfl
              simp only [Nat.add_zero] at r0
              go_wp2_with (fail)
              exact ⟨rfl, hu, Ext.refl _, slot_eq rfl⟩) ?_
            refine sp_end ?_
            intro u hu
            refine spArg_eq 26 rfl rfl ?_
            refine spArg_eq 25 rfl rfl ?_
            refine spArg_eq 24 rfl rfl ?_
            refine spArg_eq 23 rfl rfl ?_
            refine spArg_eq 22 rfl rfl ?_
            refine spArg_eq 21 rfl rfl ?_
            refine spArg_eq 20 rfl rfl ?_
            refine spArg_eq 19 rfl rfl ?_
            refine spArg_eq 18 rfl rfl ?_
            refine spArg_eq 17 rfl rfl ?_
            refine spArg_eq 16 rfl rfl ?_
            refine spArg_eq 15 rfl rfl ?_
            refine spArg_eq 14 rfl rfl ?_
            refine spArg_eq 13 rfl rfl ?_
            refine spArg_eq 12 rfl rfl ?_
            refine spArg_eq 11 rfl rfl ?_
            refine spArg_eq 10 rfl rfl ?_
            refine spArg_eq 9 rfl rfl ?_
            refine spArg_eq 8 rfl rfl ?_
            refine spArg_eq 7 rfl rfl ?_
            refine spArg_eq 6 rfl rfl ?_
            refine spArg_eq 5 rfl rfl ?_
            refine spArg_eq 4 rfl rfl ?_
            refine spArg_eq 3 rfl rfl ?_
            refine spArg_eq 2 rfl rfl ?_
            refine spArg_eq 1 rfl rfl ?_
            refine spArg_eq 0 rfl rfl ?_
            refine spArg_nil ?_
            simp only [Act.put, List.setIfInBounds_toArray, List.set_cons_succ, List.set_cons_zero]
            obtain ⟨-, -, tc2, tc3, -⟩ := HTC.out _ hu.has
            go_wp2_with (first
              | (go_at_call 63; refine (HBB.out _ (HVT.out.below hu.up (by decide))).mono ?_; rintro e x3 ⟨v3, rfl, hown3, hb3⟩; have hu3 := HoldT.step hst hu hb3
                 simp only [Option.getD_some] at hown3
                 obtain ⟨a3, c3, rfl, -, -⟩ := owns_form hown3
                 clear tc2 tc3
                 obtain ⟨-, tc1, tc2, tc3, tc4, tc5, -⟩ := HTC.out _ hu3.has
                 obtain ⟨ec0, ec1⟩ := HEC.out _ hu3.has
                 obtain ⟨pc0, pc1, pc2⟩ := HPC.out _ hu3.has)
              | (go_at_call 64; refine (BytesEq_any bb OB _ _ _ (sees_of_owns hown3) (HVO.out.below hu3.up (by decide))).mono ?_; rintro e x4 ⟨rfl, rfl⟩)
              | (go_at_call 65; refine (HCC.out _).mono ?_; rintro e x5 ⟨rfl, hb5⟩; have hu5 := HoldT.step hst hu3 hb5))
            go_ret
            exact ⟨by rw [HFF.out]; rfl, hu3.up⟩
      · simp only [decide_eq_false hm] at HM hF
        have HSS := Lib.hid HS; have HMM := Lib.hid HM; have HBB := Lib.hid HB; have HCC := Lib.hid HC; have HFF := Lib.hid hF
        clear HS HM HB HC hF hp ho ht
        generalize p.cells.toArray = PC at *
        generalize stpC t (.slice a2 t.e.box.length c2) = TC at *
        generalize hec : (#[.int .u64 out.x, .slice ao out.box.length co] : Array Value) = EC at *
        generalize p.base = pb at *
        generalize p.blind = pbl at *
        generalize p.mix = pm at *
        generalize t.e.x = TX at *
        generalize t.e.box = TB at *
        generalize t.shared = SH at *
        generalize t.b.c = bc at *
        generalize t.b.s = bs at *
        generalize t.m.c = mc at *
        generalize t.m.s = ms at *
        generalize out.x = OX at *
        generalize out.box = OB at *
        generalize ek.x = KX at *
        generalize ek.box = KB at *
        subst hec
        go_enter Tryz.func28, Tryz.ntmps28
        go_wp2_with fail
        have hk := hk0.out
        try change Code.wp _ _ _ (Act.mk _ _) _
        refine wp_region_runR Ext 27 71 (HoldT (PsC w.heap.size PC #[.int .u64 OX, .slice ao OB.length co] TC) _) [[], [(0, 13)], [(1, 14)], [(2, 15)], [(3, 16)], [(4, 17), (3, 16)], [(3, 16)], [(6, 19), (3, 16)], [(5, 18), (7, 20), (3, 16)], [(3, 16), (8, 21)], [(9, 22)], [(10, 23)], [(10, 23)], [(12, 25), (10, 23)], [(11, 24), (13, 26), (10, 23)], [(14, 27), (10, 23)], [(10, 23)], [(16, 29), (10, 23)], [(15, 28), (17, 30), (10, 23)], [(18, 31), (10, 23)], [(10, 23), (19, 32)], [(20, 33)], [(21, 34)], [(21, 34)], [(22, 35), (23, 36), (21, 34)], [(24, 37), (21, 34)], [(21, 34), (25, 38)]] [(0, 13), (1, 14), (2, 15), (3, 16), (4, 17), (5, 18), (6, 19), (7, 20), (8, 21), (9, 22), (10, 23), (11, 24), (12, 25), (13, 26), (14, 27), (15, 28), (16, 29), (17, 30), (18, 31), (19, 32), (20, 33), (21, 34), (22, 35), (23, 36), (24, 37), (25, 38), (26, 39)] (by kernel_rfl) (by kernel_rfl) (by first | rfl | simp) (hk) ?_
        simp only [List.take_succ_cons, List.take_zero, List.drop_succ_cons, List.drop_zero]
        refine sp_op (Ph.eq _) (fun u hu => by
          refine spArg_nil ?_
          obtain ⟨tc0, tc1, tc2, -⟩ := HTC.out _ hu.has
          have r0 := range_below HRG.out hu.up 0 _ rfl
          have r1 := range_below HRG.out hu.up 1 _ rfl
          simp only [Nat.add_zero] at r0
          go_wp2_with (fail)
          exact ⟨rfl, hu, Ext.refl _, slot_eq rfl⟩) ?_
        refine sp_op (Ph.eq _) (fun u hu => by
          refine spArg_eq 0 rfl rfl ?_
          refine spArg_nil ?_
          simp only [Act.put, List.setIfInBounds_toArray, List.set_cons_succ, List.set_cons_zero]
          obtain ⟨tc0, tc1, tc2, -⟩ := HTC.out _ hu.has
          have r0 := range_below HRG.out hu.up 0 _ rfl
          have r1 := range_below HRG.out hu.up 1 _ rfl
          simp only [Nat.add_zero] at r0
          go_wp2_with (fail)
          exact ⟨rfl, hu, Ext.refl _, slot_eq rfl⟩) ?_
        refine sp_op (Ph.eq _) (fun u hu => by
          refine spArg_eq 0 rfl rfl ?_
          refine spArg_nil ?_
          simp only [Act.put, List.setIfInBounds_toArray, List.set_cons_succ, List.set_cons_zero]
          obtain ⟨tc0, tc1, tc2, -⟩ := HTC.out _ hu.has
          have r0 := range_below HRG.out hu.up 0 _ rfl
          have r1 := range_below HRG.out hu.up 1 _ rfl
          simp only [Nat.add_zero] at r0
          go_wp2_with (fail)
          exact ⟨rfl, hu, Ext.refl _, slot_eq rfl⟩) ?_
        refine sp_op (Ph.eq _) (fun u hu => by
          refine spArg_eq 0 rfl rfl ?_
          refine spArg_nil ?_
          simp only [Act.put, List.setIfInBounds_toArray, List.set_cons_succ, List.set_cons_zero]
          obtain ⟨tc0, tc1, tc2, -⟩ := HTC.out _ hu.has
          have r0 := range_below HRG.out hu.up 0 _ rfl
          have r1 := range_below HRG.out hu.up 1 _ rfl
          simp only [Nat.add_zero] at r0
          go_wp2_with (fail)
          exact ⟨rfl, hu, Ext.refl _, slot_eq rfl⟩) ?_
        refine sp_op (Ph.eq _) (fun u hu => by
          refine spArg_eq 0 rfl rfl ?_
          refine spArg_nil ?_
          simp only [Act.put, List.setIfInBounds_toArray, List.set_cons_succ, List.set_cons_zero]
          obtain ⟨tc0, tc1, tc2, -⟩ := HTC.out _ hu.has
          have r0 := range_below HRG.out hu.up 0 _ rfl
          have r1 := range_below HRG.out hu.up 1 _ rfl
          simp only [Nat.add_zero] at r0
          go_wp2_with (fail)
          exact ⟨rfl, hu, Ext.refl _, slot_eq rfl⟩) ?_
        refine sp_op (Ph.eq _) (fun u hu => by
          refine spArg_eq 0 rfl rfl ?_
          refine spArg_eq 1 rfl rfl ?_
          refine spArg_nil ?_
          simp only [Act.put, List.setIfInBounds_toArray, List.set_cons_succ, List.set_cons_zero]
          obtain ⟨tc0, tc1, tc2, -⟩ := HTC.out _ hu.has
          have r0 := range_below HRG.out hu.up 0 _ rfl
          have r1 := range_below HRG.out hu.up 1 _ rfl
          simp only [Nat.add_zero] at r0
          go_wp2_with (fail)
          exact ⟨rfl, hu, Ext.refl _, slot_eq rfl⟩) ?_
        refine sp_op (Ph.eq _) (fun u hu => by
          refine spArg_eq 2 rfl rfl ?_
          refine spArg_nil ?_
          simp only [Act.put, List.setIfInBounds_toArray, List.set_cons_succ, List.set_cons_zero]
          obtain ⟨tc0, tc1, tc2, -⟩ := HTC.out _ hu.has
          have r0 := range_below HRG.out hu.up 0 _ rfl
          have r1 := range_below HRG.out hu.up 1 _ rfl
          simp only [Nat.add_zero] at r0
          go_wp2_with (fail)
          exact ⟨rfl, hu, Ext.refl _, slot_eq rfl⟩) ?_
        refine sp_op (Ph.eq _) (fun u hu => by
          refine spArg_eq 0 rfl rfl ?_
          refine spArg_eq 3 rfl rfl ?_
          refine spArg_nil ?_
          simp only [Act.put, List.setIfInBounds_toArray, List.set_cons_succ, List.set_cons_zero]
          obtain ⟨tc0, tc1, tc2, -⟩ := HTC.out _ hu.has
          have r0 := range_below HRG.out hu.up 0 _ rfl
          have r1 := range_below HRG.out hu.up 1 _ rfl
          simp only [Nat.add_zero] at r0
          go_wp2_with (fail)
          exact ⟨rfl, hu, Ext.refl _, slot_eq rfl⟩) ?_
        refine sp_op (Ph.eq _) (fun u hu => by
          refine spArg_eq 2 rfl rfl ?_
          refine spArg_eq 0 rfl rfl ?_
          refine spArg_eq 4 rfl rfl ?_
          refine spArg_nil ?_
          simp only [Act.put, List.setIfInBounds_toArray, List.set_cons_succ, List.set_cons_zero]
          obtain ⟨tc0, tc1, tc2, -⟩ := HTC.out _ hu.has
          have r0 := range_below HRG.out hu.up 0 _ rfl
          have r1 := range_below HRG.out hu.up 1 _ rfl
          simp only [Nat.add_zero] at r0
          go_wp2_with (fail)
          exact ⟨rfl, hu, Ext.refl _, slot_eq rfl⟩) ?_
        refine sp_op (Ph.eq _) (fun u hu => by
          refine spArg_eq 5 rfl rfl ?_
          refine spArg_eq 0 rfl rfl ?_
          refine spArg_nil ?_
          simp only [Act.put, List.setIfInBounds_toArray, List.set_cons_succ, List.set_cons_zero]
          obtain ⟨tc0, tc1, tc2, -⟩ := HTC.out _ hu.has
          have r0 := range_below HRG.out hu.up 0 _ rfl
          have r1 := range_below HRG.out hu.up 1 _ rfl
          simp only [Nat.add_zero] at r0
          go_wp2_with (fail)
          exact ⟨rfl, hu, Ext.refl _, slot_eq rfl⟩) ?_
        refine sp_op (Ph.eq _) (fun u hu => by
          refine spArg_eq 0 rfl rfl ?_
          refine spArg_nil ?_
          simp only [Act.put, List.setIfInBounds_toArray, List.set_cons_succ, List.set_cons_zero]
          obtain ⟨tc0, tc1, tc2, -⟩ := HTC.out _ hu.has
          have r0 := range_below HRG.out hu.up 0 _ rfl
          have r1 := range_below HRG.out hu.up 1 _ rfl
          simp only [Nat.add_zero] at r0
          go_wp2_with (fail)
          exact ⟨rfl, hu, Ext.refl _, slot_eq rfl⟩) ?_
        refine sp_op (Ph.eq _) (fun u hu => by
          refine spArg_eq 0 rfl rfl ?_
          refine spArg_nil ?_
          simp only [Act.put, List.setIfInBounds_toArray, List.set_cons_succ, List.set_cons_zero]
          obtain ⟨tc0, tc1, tc2, -⟩ := HTC.out _ hu.has
          have r0 := range_below HRG.out hu.up 0 _ rfl
          have r1 := range_below HRG.out hu.up 1 _ rfl
          simp only [Nat.add_zero] at r0
          go_wp2_with (fail)
          exact ⟨rfl, hu, Ext.refl _, slot_eq rfl⟩) ?_
        refine sp_op (Ph.eq _) (fun u hu => by
          refine spArg_eq 1 rfl rfl ?_
          refine spArg_nil ?_
          simp only [Act.put, List.setIfInBounds_toArray, List.set_cons_succ, List.set_cons_zero]
          obtain ⟨tc0, tc1, tc2, -⟩ := HTC.out _ hu.has
          have r0 := range_below HRG.out hu.up 0 _ rfl
          have r1 := range_below HRG.out hu.up 1 _ rfl
          simp only [Nat.add_zero] at r0
          go_wp2_with (fail)
          exact ⟨rfl, hu, Ext.refl _, slot_eq rfl⟩) ?_
        refine sp_op (Ph.eq _) (fun u hu => by
          refine spArg_eq 0 rfl rfl ?_
          refine spArg_eq 2 rfl rfl ?_
          refine spArg_nil ?_
          simp only [Act.put, List.setIfInBounds_toArray, List.set_cons_succ, List.set_cons_zero]
          obtain ⟨tc0, tc1, tc2, -⟩ := HTC.out _ hu.has
          have r0 := range_below HRG.out hu.up 0 _ rfl
          have r1 := range_below HRG.out hu.up 1 _ rfl
          simp only [Nat.add_zero] at r0
          go_wp2_with (fail)
          exact ⟨rfl, hu, Ext.refl _, slot_eq rfl⟩) ?_
        refine sp_op (Ph.eq _) (fun u hu => by
          refine spArg_eq 2 rfl rfl ?_
          refine spArg_eq 0 rfl rfl ?_
          refine spArg_eq 3 rfl rfl ?_
          refine spArg_nil ?_
          simp only [Act.put, List.setIfInBounds_toArray, List.set_cons_succ, List.set_cons_zero]
          obtain ⟨tc0, tc1, tc2, -⟩ := HTC.out _ hu.has
          have r0 := range_below HRG.out hu.up 0 _ rfl
          have r1 := range_below HRG.out hu.up 1 _ rfl
          simp only [Nat.add_zero] at r0
          go_wp2_with (fail)
          exact ⟨rfl, hu, Ext.refl _, slot_eq rfl⟩) ?_
        refine sp_op (Ph.eq _) (fun u hu => by
          refine spArg_eq 0 rfl rfl ?_
          refine spArg_eq 4 rfl rfl ?_
          refine spArg_nil ?_
          simp only [Act.put, List.setIfInBounds_toArray, List.set_cons_succ, List.set_cons_zero]
          obtain ⟨tc0, tc1, tc2, -⟩ := HTC.out _ hu.has
          have r0 := range_below HRG.out hu.up 0 _ rfl
          have r1 := range_below HRG.out hu.up 1 _ rfl
          simp only [Nat.add_zero] at r0
          go_wp2_with (fail)
          exact ⟨rfl, hu, Ext.refl _, slot_eq rfl⟩) ?_
        refine sp_op (Ph.eq _) (fun u hu => by
          refine spArg_eq 5 rfl rfl ?_
          refine spArg_nil ?_
          simp only [Act.put, List.setIfInBounds_toArray, List.set_cons_succ, List.set_cons_zero]
          obtain ⟨tc0, tc1, tc2, -⟩ := HTC.out _ hu.has
          have r0 := range_below HRG.out hu.up 0 _ rfl
          have r1 := range_below HRG.out hu.up 1 _ rfl
          simp only [Nat.add_zero] at r0
          go_wp2_with (fail)
          exact ⟨rfl, hu, Ext.refl _, slot_eq rfl⟩) ?_
        refine sp_op (Ph.eq _) (fun u hu => by
          refine spArg_eq 0 rfl rfl ?_
          refine spArg_eq 6 rfl rfl ?_
          refine spArg_nil ?_
          simp only [Act.put, List.setIfInBounds_toArray, List.set_cons_succ, List.set_cons_zero]
          obtain ⟨tc0, tc1, tc2, -⟩ := HTC.out _ hu.has
          have r0 := range_below HRG.out hu.up 0 _ rfl
          have r1 := range_below HRG.out hu.up 1 _ rfl
          simp only [Nat.add_zero] at r0
          go_wp2_with (fail)
          exact ⟨rfl, hu, Ext.refl _, slot_eq rfl⟩) ?_
        refine sp_op (Ph.eq _) (fun u hu => by
          refine spArg_eq 2 rfl rfl ?_
          refine spArg_eq 0 rfl rfl ?_
          refine spArg_eq 7 rfl rfl ?_
          refine spArg_nil ?_
          simp only [Act.put, List.setIfInBounds_toArray, List.set_cons_succ, List.set_cons_zero]
          obtain ⟨tc0, tc1, tc2, -⟩ := HTC.out _ hu.has
          have r0 := range_below HRG.out hu.up 0 _ rfl
          have r1 := range_below HRG.out hu.up 1 _ rfl
          simp only [Nat.add_zero] at r0
          go_wp2_with ((go_at_call 61; refine (HSS.out _ (HVS.out.below hu.up (by decide)) (HVT.out.below hu.up (by decide))).mono ?_; rintro e x1 ⟨rfl, hb1⟩))
          first | exact ⟨rfl, HoldT.step hst hu hb1, hb1, slot_eq rfl⟩ | exact ⟨rfl, hu, Ext.refl _, slot_eq rfl⟩) ?_
        refine sp_op (Ph.eq _) (fun u hu => by
          refine spArg_eq 0 rfl rfl ?_
          refine spArg_eq 8 rfl rfl ?_
          refine spArg_nil ?_
          simp only [Act.put, List.setIfInBounds_toArray, List.set_cons_succ, List.set_cons_zero]
          obtain ⟨tc0, tc1, tc2, -⟩ := HTC.out _ hu.has
          have r0 := range_below HRG.out hu.up 0 _ rfl
          have r1 := range_below HRG.out hu.up 1 _ rfl
          simp only [Nat.add_zero] at r0
          go_wp2_with (fail)
          exact ⟨rfl, hu, Ext.refl _, slot_eq rfl⟩) ?_
        refine sp_op (Ph.eq _) (fun u hu => by
          refine spArg_eq 9 rfl rfl ?_
          refine spArg_eq 0 rfl rfl ?_
          refine spArg_nil ?_
          simp only [Act.put, List.setIfInBounds_toArray, List.set_cons_succ, List.set_cons_zero]
          obtain ⟨tc0, tc1, tc2, -⟩ := HTC.out _ hu.has
          have r0 := range_below HRG.out hu.up 0 _ rfl
          have r1 := range_below HRG.out hu.up 1 _ rfl
          simp only [Nat.add_zero] at r0
          go_wp2_with (fail)
          exact ⟨rfl, hu, Ext.refl _, slot_eq rfl⟩) ?_
        refine sp_op (Ph.eq _) (fun u hu => by
          refine spArg_eq 0 rfl rfl ?_
          refine spArg_nil ?_
          simp only [Act.put, List.setIfInBounds_toArray, List.set_cons_succ, List.set_cons_zero]
          obtain ⟨tc0, tc1, tc2, -⟩ := HTC.out _ hu.has
          have r0 := range_below HRG.out hu.up 0 _ rfl
          have r1 := range_below HRG.out hu.up 1 _ rfl
          simp only [Nat.add_zero] at r0
          go_wp2_with (fail)
          exact ⟨rfl, hu, Ext.refl _, slot_eq rfl⟩) ?_
        refine sp_op (Ph.eq _) (fun u hu => by
          refine spArg_eq 0 rfl rfl ?_
          refine spArg_nil ?_
          simp only [Act.put, List.setIfInBounds_toArray, List.set_cons_succ, List.set_cons_zero]
          obtain ⟨tc0, tc1, tc2, -⟩ := HTC.out _ hu.has
          have r0 := range_below HRG.out hu.up 0 _ rfl
          have r1 := range_below HRG.out hu.up 1 _ rfl
          simp only [Nat.add_zero] at r0
          go_wp2_with ((refine wpList_load_rowG rfl 60 _ rfl w.heap.size rfl _ _ (0, 0) _ hu.has.1 Tryz.underlying60 rfl (by rw [HPZ.out]; exact info_pub) ?_))
          exact ⟨rfl, hu, Ext.refl _, slot_eq rfl⟩) ?_
        refine sp_op (Ph.eq _) (fun u hu => by
          refine spArg_eq 1 rfl rfl ?_
          refine spArg_nil ?_
          simp only [Act.put, List.setIfInBounds_toArray, List.set_cons_succ, List.set_cons_zero]
          obtain ⟨tc0, tc1, tc2, -⟩ := HTC.out _ hu.has
          have r0 := range_below HRG.out hu.up 0 _ rfl
          have r1 := range_below HRG.out hu.up 1 _ rfl
          simp only [Nat.add_zero] at r0
          go_wp2_with ((refine wpList_load_rowG rfl 57 _ rfl (w.heap.size + 1 + 1) rfl _ _ (0, 0) _ hu.has.2.2 Tryz.underlying57 rfl (by rw [HTZ.out]; exact info_stp) ?_))
          exact ⟨rfl, hu, Ext.refl _, slot_eq rfl⟩) ?_
        refine sp_op (Ph.eq _) (fun u hu => by
          refine spArg_eq 1 rfl rfl ?_
          refine spArg_eq 0 rfl rfl ?_
          refine spArg_eq 2 rfl rfl ?_
          refine spArg_nil ?_
          simp only [Act.put, List.setIfInBounds_toArray, List.set_cons_succ, List.set_cons_zero]
          obtain ⟨tc0, tc1, tc2, -⟩ := HTC.out _ hu.has
          have r0 := range_below HRG.out hu.up 0 _ rfl
          have r1 := range_below HRG.out hu.up 1 _ rfl
          simp only [Nat.add_zero] at r0
          go_wp2_with ((go_at_call 62; refine (HMM.out _).mono ?_; rintro e x1 ⟨rfl, hb1⟩))
          first | exact ⟨rfl, HoldT.step hst hu hb1, hb1, slot_eq rfl⟩ | exact ⟨rfl, hu, Ext.refl _, slot_eq rfl⟩) ?_
        refine sp_op (Ph.eq _) (fun u hu => by
          refine spArg_eq 0 rfl rfl ?_
          refine spArg_eq 3 rfl rfl ?_
          refine spArg_nil ?_
          simp only [Act.put, List.setIfInBounds_toArray, List.set_cons_succ, List.set_cons_zero]
          obtain ⟨tc0, tc1, tc2, -⟩ := HTC.out _ hu.has
          have r0 := range_below HRG.out hu.up 0 _ rfl
          have r1 := range_below HRG.out hu.up 1 _ rfl
          simp only [Nat.add_zero] at r0
          go_wp2_with (fail)
          exact ⟨rfl, hu, Ext.refl _, slot_eq rfl⟩) ?_
        refine sp_op (Ph.eq _) (fun u hu => by
          refine spArg_eq 4 rfl rfl ?_
          refine spArg_eq 0 rfl rfl ?_
          refine spArg_nil ?_
          simp only [Act.put, List.setIfInBounds_toArray, List.set_cons_succ, List.set_cons_zero]
          obtain ⟨tc0, tc1, tc2, -⟩ := HTC.out _ hu.has
          have r0 := range_below HRG.out hu.up 0 _ rfl
          have r1 := range_below HRG.out hu.up 1 _ rfl
          simp only [Nat.add_zero] at r0
          go_wp2_with (fail)
          exact ⟨rfl, hu, Ext.refl _, slot_eq rfl⟩) ?_
        refine sp_end ?_
        intro u hu
        refine spArg_eq 26 rfl rfl ?_
        refine spArg_eq 25 rfl rfl ?_
        refine spArg_eq 24 rfl rfl ?_
        refine spArg_eq 23 rfl rfl ?_
        refine spArg_eq 22 rfl rfl ?_
        refine spArg_eq 21 rfl rfl ?_
        refine spArg_eq 20 rfl rfl ?_
        refine spArg_eq 19 rfl rfl ?_
        refine spArg_eq 18 rfl rfl ?_
        refine spArg_eq 17 rfl rfl ?_
        refine spArg_eq 16 rfl rfl ?_
        refine spArg_eq 15 rfl rfl ?_
        refine spArg_eq 14 rfl rfl ?_
        refine spArg_eq 13 rfl rfl ?_
        refine spArg_eq 12 rfl rfl ?_
        refine spArg_eq 11 rfl rfl ?_
        refine spArg_eq 10 rfl rfl ?_
        refine spArg_eq 9 rfl rfl ?_
        refine spArg_eq 8 rfl rfl ?_
        refine spArg_eq 7 rfl rfl ?_
        refine spArg_eq 6 rfl rfl ?_
        refine spArg_eq 5 rfl rfl ?_
        refine spArg_eq 4 rfl rfl ?_
        refine spArg_eq 3 rfl rfl ?_
        refine spArg_eq 2 rfl rfl ?_
        refine spArg_eq 1 rfl rfl ?_
        refine spArg_eq 0 rfl rfl ?_
        refine spArg_nil ?_
        simp only [Act.put, List.setIfInBounds_toArray, List.set_cons_succ, List.set_cons_zero]
        go_wp2_with fail
        go_ret
        exact ⟨by rw [HFF.out]; rfl, hu.up⟩
    · rw [decide_eq_false hs] at hF
      simp only [decide_eq_false hs] at HS
      have HSS := Lib.hid HS; have HMM := Lib.hid HM; have HBB := Lib.hid HB; have HCC := Lib.hid HC; have HFF := Lib.hid hF
      clear HS HM HB HC hF hp ho ht
      generalize p.cells.toArray = PC at *
      generalize stpC t (.slice a2 t.e.box.length c2) = TC at *
      generalize hec : (#[.int .u64 out.x, .slice ao out.box.length co] : Array Value) = EC at *
      generalize p.base = pb at *
      generalize p.blind = pbl at *
      generalize p.mix = pm at *
      generalize t.e.x = TX at *
      generalize t.e.box = TB at *
      generalize t.shared = SH at *
      generalize t.b.c = bc at *
      generalize t.b.s = bs at *
      generalize t.m.c = mc at *
      generalize t.m.s = ms at *
      generalize out.x = OX at *
      generalize out.box = OB at *
      generalize ek.x = KX at *
      generalize ek.box = KB at *
      subst hec
      go_enter Tryz.func28, Tryz.ntmps28
      go_wp2_with fail
      have hk := hk0.out
      try change Code.wp _ _ _ (Act.mk _ _) _
      refine wp_region_runR Ext 27 71 (HoldT (PsC w.heap.size PC #[.int .u64 OX, .slice ao OB.length co] TC) _) [[], [(0, 13)], [(1, 14)], [(2, 15)], [(3, 16)], [(4, 17), (3, 16)], [(3, 16)], [(6, 19), (3, 16)], [(5, 18), (7, 20), (3, 16)], [(3, 16), (8, 21)], [(9, 22)], [(10, 23)], [(10, 23)], [(12, 25), (10, 23)], [(11, 24), (13, 26), (10, 23)], [(14, 27), (10, 23)], [(10, 23)], [(16, 29), (10, 23)], [(15, 28), (17, 30), (10, 23)], [(18, 31), (10, 23)], [(10, 23), (19, 32)], [(20, 33)], [(21, 34)], [(21, 34)], [(22, 35), (23, 36), (21, 34)], [(24, 37), (21, 34)], [(21, 34), (25, 38)]] [(0, 13), (1, 14), (2, 15), (3, 16), (4, 17), (5, 18), (6, 19), (7, 20), (8, 21), (9, 22), (10, 23), (11, 24), (12, 25), (13, 26), (14, 27), (15, 28), (16, 29), (17, 30), (18, 31), (19, 32), (20, 33), (21, 34), (22, 35), (23, 36), (24, 37), (25, 38), (26, 39)] (by kernel_rfl) (by kernel_rfl) (by first | rfl | simp) (hk) ?_
      simp only [List.take_succ_cons, List.take_zero, List.drop_succ_cons, List.drop_zero]
      refine sp_op (Ph.eq _) (fun u hu => by
        refine spArg_nil ?_
        obtain ⟨tc0, tc1, tc2, -⟩ := HTC.out _ hu.has
        have r0 := range_below HRG.out hu.up 0 _ rfl
        have r1 := range_below HRG.out hu.up 1 _ rfl
        simp only [Nat.add_zero] at r0
        go_wp2_with (fail)
        exact ⟨rfl, hu, Ext.refl _, slot_eq rfl⟩) ?_
      refine sp_op (Ph.eq _) (fun u hu => by
        refine spArg_eq 0 rfl rfl ?_
        refine spArg_nil ?_
        simp only [Act.put, List.setIfInBounds_toArray, List.set_cons_succ, List.set_cons_zero]
        obtain ⟨tc0, tc1, tc2, -⟩ := HTC.out _ hu.has
        have r0 := range_below HRG.out hu.up 0 _ rfl
        have r1 := range_below HRG.out hu.up 1 _ rfl
        simp only [Nat.add_zero] at r0
        go_wp2_with (fail)
        exact ⟨rfl, hu, Ext.refl _, slot_eq rfl⟩) ?_
      refine sp_op (Ph.eq _) (fun u hu => by
        refine spArg_eq 0 rfl rfl ?_
        refine spArg_nil ?_
        simp only [Act.put, List.setIfInBounds_toArray, List.set_cons_succ, List.set_cons_zero]
        obtain ⟨tc0, tc1, tc2, -⟩ := HTC.out _ hu.has
        have r0 := range_below HRG.out hu.up 0 _ rfl
        have r1 := range_below HRG.out hu.up 1 _ rfl
        simp only [Nat.add_zero] at r0
        go_wp2_with (fail)
        exact ⟨rfl, hu, Ext.refl _, slot_eq rfl⟩) ?_
      refine sp_op (Ph.eq _) (fun u hu => by
        refine spArg_eq 0 rfl rfl ?_
        refine spArg_nil ?_
        simp only [Act.put, List.setIfInBounds_toArray, List.set_cons_succ, List.set_cons_zero]
        obtain ⟨tc0, tc1, tc2, -⟩ := HTC.out _ hu.has
        have r0 := range_below HRG.out hu.up 0 _ rfl
        have r1 := range_below HRG.out hu.up 1 _ rfl
        simp only [Nat.add_zero] at r0
        go_wp2_with (fail)
        exact ⟨rfl, hu, Ext.refl _, slot_eq rfl⟩) ?_
      refine sp_op (Ph.eq _) (fun u hu => by
        refine spArg_eq 0 rfl rfl ?_
        refine spArg_nil ?_
        simp only [Act.put, List.setIfInBounds_toArray, List.set_cons_succ, List.set_cons_zero]
        obtain ⟨tc0, tc1, tc2, -⟩ := HTC.out _ hu.has
        have r0 := range_below HRG.out hu.up 0 _ rfl
        have r1 := range_below HRG.out hu.up 1 _ rfl
        simp only [Nat.add_zero] at r0
        go_wp2_with (fail)
        exact ⟨rfl, hu, Ext.refl _, slot_eq rfl⟩) ?_
      refine sp_op (Ph.eq _) (fun u hu => by
        refine spArg_eq 0 rfl rfl ?_
        refine spArg_eq 1 rfl rfl ?_
        refine spArg_nil ?_
        simp only [Act.put, List.setIfInBounds_toArray, List.set_cons_succ, List.set_cons_zero]
        obtain ⟨tc0, tc1, tc2, -⟩ := HTC.out _ hu.has
        have r0 := range_below HRG.out hu.up 0 _ rfl
        have r1 := range_below HRG.out hu.up 1 _ rfl
        simp only [Nat.add_zero] at r0
        go_wp2_with (fail)
        exact ⟨rfl, hu, Ext.refl _, slot_eq rfl⟩) ?_
      refine sp_op (Ph.eq _) (fun u hu => by
        refine spArg_eq 2 rfl rfl ?_
        refine spArg_nil ?_
        simp only [Act.put, List.setIfInBounds_toArray, List.set_cons_succ, List.set_cons_zero]
        obtain ⟨tc0, tc1, tc2, -⟩ := HTC.out _ hu.has
        have r0 := range_below HRG.out hu.up 0 _ rfl
        have r1 := range_below HRG.out hu.up 1 _ rfl
        simp only [Nat.add_zero] at r0
        go_wp2_with (fail)
        exact ⟨rfl, hu, Ext.refl _, slot_eq rfl⟩) ?_
      refine sp_op (Ph.eq _) (fun u hu => by
        refine spArg_eq 0 rfl rfl ?_
        refine spArg_eq 3 rfl rfl ?_
        refine spArg_nil ?_
        simp only [Act.put, List.setIfInBounds_toArray, List.set_cons_succ, List.set_cons_zero]
        obtain ⟨tc0, tc1, tc2, -⟩ := HTC.out _ hu.has
        have r0 := range_below HRG.out hu.up 0 _ rfl
        have r1 := range_below HRG.out hu.up 1 _ rfl
        simp only [Nat.add_zero] at r0
        go_wp2_with (fail)
        exact ⟨rfl, hu, Ext.refl _, slot_eq rfl⟩) ?_
      refine sp_op (Ph.eq _) (fun u hu => by
        refine spArg_eq 2 rfl rfl ?_
        refine spArg_eq 0 rfl rfl ?_
        refine spArg_eq 4 rfl rfl ?_
        refine spArg_nil ?_
        simp only [Act.put, List.setIfInBounds_toArray, List.set_cons_succ, List.set_cons_zero]
        obtain ⟨tc0, tc1, tc2, -⟩ := HTC.out _ hu.has
        have r0 := range_below HRG.out hu.up 0 _ rfl
        have r1 := range_below HRG.out hu.up 1 _ rfl
        simp only [Nat.add_zero] at r0
        go_wp2_with (fail)
        exact ⟨rfl, hu, Ext.refl _, slot_eq rfl⟩) ?_
      refine sp_op (Ph.eq _) (fun u hu => by
        refine spArg_eq 5 rfl rfl ?_
        refine spArg_eq 0 rfl rfl ?_
        refine spArg_nil ?_
        simp only [Act.put, List.setIfInBounds_toArray, List.set_cons_succ, List.set_cons_zero]
        obtain ⟨tc0, tc1, tc2, -⟩ := HTC.out _ hu.has
        have r0 := range_below HRG.out hu.up 0 _ rfl
        have r1 := range_below HRG.out hu.up 1 _ rfl
        simp only [Nat.add_zero] at r0
        go_wp2_with (fail)
        exact ⟨rfl, hu, Ext.refl _, slot_eq rfl⟩) ?_
      refine sp_op (Ph.eq _) (fun u hu => by
        refine spArg_eq 0 rfl rfl ?_
        refine spArg_nil ?_
        simp only [Act.put, List.setIfInBounds_toArray, List.set_cons_succ, List.set_cons_zero]
        obtain ⟨tc0, tc1, tc2, -⟩ := HTC.out _ hu.has
        have r0 := range_below HRG.out hu.up 0 _ rfl
        have r1 := range_below HRG.out hu.up 1 _ rfl
        simp only [Nat.add_zero] at r0
        go_wp2_with (fail)
        exact ⟨rfl, hu, Ext.refl _, slot_eq rfl⟩) ?_
      refine sp_op (Ph.eq _) (fun u hu => by
        refine spArg_eq 0 rfl rfl ?_
        refine spArg_nil ?_
        simp only [Act.put, List.setIfInBounds_toArray, List.set_cons_succ, List.set_cons_zero]
        obtain ⟨tc0, tc1, tc2, -⟩ := HTC.out _ hu.has
        have r0 := range_below HRG.out hu.up 0 _ rfl
        have r1 := range_below HRG.out hu.up 1 _ rfl
        simp only [Nat.add_zero] at r0
        go_wp2_with (fail)
        exact ⟨rfl, hu, Ext.refl _, slot_eq rfl⟩) ?_
      refine sp_op (Ph.eq _) (fun u hu => by
        refine spArg_eq 1 rfl rfl ?_
        refine spArg_nil ?_
        simp only [Act.put, List.setIfInBounds_toArray, List.set_cons_succ, List.set_cons_zero]
        obtain ⟨tc0, tc1, tc2, -⟩ := HTC.out _ hu.has
        have r0 := range_below HRG.out hu.up 0 _ rfl
        have r1 := range_below HRG.out hu.up 1 _ rfl
        simp only [Nat.add_zero] at r0
        go_wp2_with (fail)
        exact ⟨rfl, hu, Ext.refl _, slot_eq rfl⟩) ?_
      refine sp_op (Ph.eq _) (fun u hu => by
        refine spArg_eq 0 rfl rfl ?_
        refine spArg_eq 2 rfl rfl ?_
        refine spArg_nil ?_
        simp only [Act.put, List.setIfInBounds_toArray, List.set_cons_succ, List.set_cons_zero]
        obtain ⟨tc0, tc1, tc2, -⟩ := HTC.out _ hu.has
        have r0 := range_below HRG.out hu.up 0 _ rfl
        have r1 := range_below HRG.out hu.up 1 _ rfl
        simp only [Nat.add_zero] at r0
        go_wp2_with (fail)
        exact ⟨rfl, hu, Ext.refl _, slot_eq rfl⟩) ?_
      refine sp_op (Ph.eq _) (fun u hu => by
        refine spArg_eq 2 rfl rfl ?_
        refine spArg_eq 0 rfl rfl ?_
        refine spArg_eq 3 rfl rfl ?_
        refine spArg_nil ?_
        simp only [Act.put, List.setIfInBounds_toArray, List.set_cons_succ, List.set_cons_zero]
        obtain ⟨tc0, tc1, tc2, -⟩ := HTC.out _ hu.has
        have r0 := range_below HRG.out hu.up 0 _ rfl
        have r1 := range_below HRG.out hu.up 1 _ rfl
        simp only [Nat.add_zero] at r0
        go_wp2_with (fail)
        exact ⟨rfl, hu, Ext.refl _, slot_eq rfl⟩) ?_
      refine sp_op (Ph.eq _) (fun u hu => by
        refine spArg_eq 0 rfl rfl ?_
        refine spArg_eq 4 rfl rfl ?_
        refine spArg_nil ?_
        simp only [Act.put, List.setIfInBounds_toArray, List.set_cons_succ, List.set_cons_zero]
        obtain ⟨tc0, tc1, tc2, -⟩ := HTC.out _ hu.has
        have r0 := range_below HRG.out hu.up 0 _ rfl
        have r1 := range_below HRG.out hu.up 1 _ rfl
        simp only [Nat.add_zero] at r0
        go_wp2_with (fail)
        exact ⟨rfl, hu, Ext.refl _, slot_eq rfl⟩) ?_
      refine sp_op (Ph.eq _) (fun u hu => by
        refine spArg_eq 5 rfl rfl ?_
        refine spArg_nil ?_
        simp only [Act.put, List.setIfInBounds_toArray, List.set_cons_succ, List.set_cons_zero]
        obtain ⟨tc0, tc1, tc2, -⟩ := HTC.out _ hu.has
        have r0 := range_below HRG.out hu.up 0 _ rfl
        have r1 := range_below HRG.out hu.up 1 _ rfl
        simp only [Nat.add_zero] at r0
        go_wp2_with (fail)
        exact ⟨rfl, hu, Ext.refl _, slot_eq rfl⟩) ?_
      refine sp_op (Ph.eq _) (fun u hu => by
        refine spArg_eq 0 rfl rfl ?_
        refine spArg_eq 6 rfl rfl ?_
        refine spArg_nil ?_
        simp only [Act.put, List.setIfInBounds_toArray, List.set_cons_succ, List.set_cons_zero]
        obtain ⟨tc0, tc1, tc2, -⟩ := HTC.out _ hu.has
        have r0 := range_below HRG.out hu.up 0 _ rfl
        have r1 := range_below HRG.out hu.up 1 _ rfl
        simp only [Nat.add_zero] at r0
        go_wp2_with (fail)
        exact ⟨rfl, hu, Ext.refl _, slot_eq rfl⟩) ?_
      refine sp_op (Ph.eq _) (fun u hu => by
        refine spArg_eq 2 rfl rfl ?_
        refine spArg_eq 0 rfl rfl ?_
        refine spArg_eq 7 rfl rfl ?_
        refine spArg_nil ?_
        simp only [Act.put, List.setIfInBounds_toArray, List.set_cons_succ, List.set_cons_zero]
        obtain ⟨tc0, tc1, tc2, -⟩ := HTC.out _ hu.has
        have r0 := range_below HRG.out hu.up 0 _ rfl
        have r1 := range_below HRG.out hu.up 1 _ rfl
        simp only [Nat.add_zero] at r0
        go_wp2_with ((go_at_call 61; refine (HSS.out _ (HVS.out.below hu.up (by decide)) (HVT.out.below hu.up (by decide))).mono ?_; rintro e x1 ⟨rfl, hb1⟩))
        first | exact ⟨rfl, HoldT.step hst hu hb1, hb1, slot_eq rfl⟩ | exact ⟨rfl, hu, Ext.refl _, slot_eq rfl⟩) ?_
      refine sp_op (Ph.eq _) (fun u hu => by
        refine spArg_eq 0 rfl rfl ?_
        refine spArg_eq 8 rfl rfl ?_
        refine spArg_nil ?_
        simp only [Act.put, List.setIfInBounds_toArray, List.set_cons_succ, List.set_cons_zero]
        obtain ⟨tc0, tc1, tc2, -⟩ := HTC.out _ hu.has
        have r0 := range_below HRG.out hu.up 0 _ rfl
        have r1 := range_below HRG.out hu.up 1 _ rfl
        simp only [Nat.add_zero] at r0
        go_wp2_with (fail)
        exact ⟨rfl, hu, Ext.refl _, slot_eq rfl⟩) ?_
      refine sp_op (Ph.eq _) (fun u hu => by
        refine spArg_eq 9 rfl rfl ?_
        refine spArg_eq 0 rfl rfl ?_
        refine spArg_nil ?_
        simp only [Act.put, List.setIfInBounds_toArray, List.set_cons_succ, List.set_cons_zero]
        obtain ⟨tc0, tc1, tc2, -⟩ := HTC.out _ hu.has
        have r0 := range_below HRG.out hu.up 0 _ rfl
        have r1 := range_below HRG.out hu.up 1 _ rfl
        simp only [Nat.add_zero] at r0
        go_wp2_with (fail)
        exact ⟨rfl, hu, Ext.refl _, slot_eq rfl⟩) ?_
      refine sp_op (Ph.eq _) (fun u hu => by
        refine spArg_eq 0 rfl rfl ?_
        refine spArg_nil ?_
        simp only [Act.put, List.setIfInBounds_toArray, List.set_cons_succ, List.set_cons_zero]
        obtain ⟨tc0, tc1, tc2, -⟩ := HTC.out _ hu.has
        have r0 := range_below HRG.out hu.up 0 _ rfl
        have r1 := range_below HRG.out hu.up 1 _ rfl
        simp only [Nat.add_zero] at r0
        go_wp2_with (fail)
        exact ⟨rfl, hu, Ext.refl _, slot_eq rfl⟩) ?_
      refine sp_op (Ph.eq _) (fun u hu => by
        refine spArg_eq 0 rfl rfl ?_
        refine spArg_nil ?_
        simp only [Act.put, List.setIfInBounds_toArray, List.set_cons_succ, List.set_cons_zero]
        obtain ⟨tc0, tc1, tc2, -⟩ := HTC.out _ hu.has
        have r0 := range_below HRG.out hu.up 0 _ rfl
        have r1 := range_below HRG.out hu.up 1 _ rfl
        simp only [Nat.add_zero] at r0
        go_wp2_with ((refine wpList_load_rowG rfl 60 _ rfl w.heap.size rfl _ _ (0, 0) _ hu.has.1 Tryz.underlying60 rfl (by rw [HPZ.out]; exact info_pub) ?_))
        exact ⟨rfl, hu, Ext.refl _, slot_eq rfl⟩) ?_
      refine sp_op (Ph.eq _) (fun u hu => by
        refine spArg_eq 1 rfl rfl ?_
        refine spArg_nil ?_
        simp only [Act.put, List.setIfInBounds_toArray, List.set_cons_succ, List.set_cons_zero]
        obtain ⟨tc0, tc1, tc2, -⟩ := HTC.out _ hu.has
        have r0 := range_below HRG.out hu.up 0 _ rfl
        have r1 := range_below HRG.out hu.up 1 _ rfl
        simp only [Nat.add_zero] at r0
        go_wp2_with ((refine wpList_load_rowG rfl 57 _ rfl (w.heap.size + 1 + 1) rfl _ _ (0, 0) _ hu.has.2.2 Tryz.underlying57 rfl (by rw [HTZ.out]; exact info_stp) ?_))
        exact ⟨rfl, hu, Ext.refl _, slot_eq rfl⟩) ?_
      refine sp_op (Ph.eq _) (fun u hu => by
        refine spArg_eq 1 rfl rfl ?_
        refine spArg_eq 0 rfl rfl ?_
        refine spArg_eq 2 rfl rfl ?_
        refine spArg_nil ?_
        simp only [Act.put, List.setIfInBounds_toArray, List.set_cons_succ, List.set_cons_zero]
        obtain ⟨tc0, tc1, tc2, -⟩ := HTC.out _ hu.has
        have r0 := range_below HRG.out hu.up 0 _ rfl
        have r1 := range_below HRG.out hu.up 1 _ rfl
        simp only [Nat.add_zero] at r0
        go_wp2_with ((go_at_call 62; refine (HMM.out _).mono ?_; rintro e x1 ⟨rfl, hb1⟩))
        first | exact ⟨rfl, HoldT.step hst hu hb1, hb1, slot_eq rfl⟩ | exact ⟨rfl, hu, Ext.refl _, slot_eq rfl⟩) ?_
      refine sp_op (Ph.eq _) (fun u hu => by
        refine spArg_eq 0 rfl rfl ?_
        refine spArg_eq 3 rfl rfl ?_
        refine spArg_nil ?_
        simp only [Act.put, List.setIfInBounds_toArray, List.set_cons_succ, List.set_cons_zero]
        obtain ⟨tc0, tc1, tc2, -⟩ := HTC.out _ hu.has
        have r0 := range_below HRG.out hu.up 0 _ rfl
        have r1 := range_below HRG.out hu.up 1 _ rfl
        simp only [Nat.add_zero] at r0
        go_wp2_with (fail)
        exact ⟨rfl, hu, Ext.refl _, slot_eq rfl⟩) ?_
      refine sp_op (Ph.eq _) (fun u hu => by
        refine spArg_eq 4 rfl rfl ?_
        refine spArg_eq 0 rfl rfl ?_
        refine spArg_nil ?_
        simp only [Act.put, List.setIfInBounds_toArray, List.set_cons_succ, List.set_cons_zero]
        obtain ⟨tc0, tc1, tc2, -⟩ := HTC.out _ hu.has
        have r0 := range_below HRG.out hu.up 0 _ rfl
        have r1 := range_below HRG.out hu.up 1 _ rfl
        simp only [Nat.add_zero] at r0
        go_wp2_with (fail)
        exact ⟨rfl, hu, Ext.refl _, slot_eq rfl⟩) ?_
      refine sp_end ?_
      intro u hu
      refine spArg_eq 26 rfl rfl ?_
      refine spArg_eq 25 rfl rfl ?_
      refine spArg_eq 24 rfl rfl ?_
      refine spArg_eq 23 rfl rfl ?_
      refine spArg_eq 22 rfl rfl ?_
      refine spArg_eq 21 rfl rfl ?_
      refine spArg_eq 20 rfl rfl ?_
      refine spArg_eq 19 rfl rfl ?_
      refine spArg_eq 18 rfl rfl ?_
      refine spArg_eq 17 rfl rfl ?_
      refine spArg_eq 16 rfl rfl ?_
      refine spArg_eq 15 rfl rfl ?_
      refine spArg_eq 14 rfl rfl ?_
      refine spArg_eq 13 rfl rfl ?_
      refine spArg_eq 12 rfl rfl ?_
      refine spArg_eq 11 rfl rfl ?_
      refine spArg_eq 10 rfl rfl ?_
      refine spArg_eq 9 rfl rfl ?_
      refine spArg_eq 8 rfl rfl ?_
      refine spArg_eq 7 rfl rfl ?_
      refine spArg_eq 6 rfl rfl ?_
      refine spArg_eq 5 rfl rfl ?_
      refine spArg_eq 4 rfl rfl ?_
      refine spArg_eq 3 rfl rfl ?_
      refine spArg_eq 2 rfl rfl ?_
      refine spArg_eq 1 rfl rfl ?_
      refine spArg_eq 0 rfl rfl ?_
      refine spArg_nil ?_
      simp only [Act.put, List.setIfInBounds_toArray, List.set_cons_succ, List.set_cons_zero]
      go_wp2_with fail
      go_ret
      exact ⟨by rw [HFF.out]; rfl, hu.up⟩
  · have hF : decide (passedL p at_ ins out t) = false := by
      rw [decide_eq_false_iff_not]; unfold passedL; rintro ⟨h1, h2, -⟩
      have := (List.getElem?_eq_some_iff.1 h2).1
      exact hr ⟨h1, by omega⟩
    generalize decide (passedL p at_ ins out t) = D at *
    by_cases h0 : t.frm < 0
    · skip
      clear hr
      have HFF := Lib.hid hF
      clear hF HM HB HC hp ho ht
      generalize p.cells.toArray = PC at *
      generalize stpC t (.slice a2 t.e.box.length c2) = TC at *
      generalize (#[.int .u64 out.x, .slice ao out.box.length co] : Array Value) = EC at *
      generalize t.frm = fr at *
      go_enter Tryz.func28, Tryz.ntmps28
      go_wp2_with fail
      have hk := hk0.out
      try change Code.wp _ _ _ (Act.mk _ _) _
      refine wp_region_runR Ext 27 71 (HoldT (PsC w.heap.size PC EC TC) _) [[], [(0, 13)], [(1, 14)], [(2, 15)], [(3, 16)], [(4, 17), (3, 16)], [(3, 16)], [(6, 19), (3, 16)], [(5, 18), (7, 20), (3, 16)], [(3, 16), (8, 21)], [(9, 22)], [(10, 23)], [(10, 23)], [(12, 25), (10, 23)], [(11, 24), (13, 26), (10, 23)], [(14, 27), (10, 23)], [(10, 23)], [(16, 29), (10, 23)], [(15, 28), (17, 30), (10, 23)], [(18, 31), (10, 23)], [(10, 23), (19, 32)], [(20, 33)], [(21, 34)], [(21, 34)], [(22, 35), (23, 36), (21, 34)], [(24, 37), (21, 34)], [(21, 34), (25, 38)]] [(0, 13), (1, 14), (2, 15), (3, 16), (4, 17), (5, 18), (6, 19), (7, 20), (8, 21), (9, 22), (10, 23), (11, 24), (12, 25), (13, 26), (14, 27), (15, 28), (16, 29), (17, 30), (18, 31), (19, 32), (20, 33), (21, 34), (22, 35), (23, 36), (24, 37), (25, 38), (26, 39)] (by kernel_rfl) (by kernel_rfl) (by first | rfl | simp) (hk) ?_
      simp only [List.take_succ_cons, List.take_zero, List.drop_succ_cons, List.drop_zero]
      refine sp_op (Ph.eq _) (fun u hu => by
        refine spArg_nil ?_
        have tc0 := (HTC.out _ hu.has).1
        go_wp2_with (fail)
        exact ⟨rfl, hu, Ext.refl _, slot_eq rfl⟩) ?_
      refine sp_op (Ph.eq _) (fun u hu => by
        refine spArg_eq 0 rfl rfl ?_
        refine spArg_nil ?_
        simp only [Act.put, List.setIfInBounds_toArray, List.set_cons_succ, List.set_cons_zero]
        have tc0 := (HTC.out _ hu.has).1
        go_wp2_with (fail)
        exact ⟨rfl, hu, Ext.refl _, slot_eq rfl⟩) ?_
      refine sp_op (Ph.eq _) (fun u hu => by
        refine spArg_eq 0 rfl rfl ?_
        refine spArg_nil ?_
        simp only [Act.put, List.setIfInBounds_toArray, List.set_cons_succ, List.set_cons_zero]
        have tc0 := (HTC.out _ hu.has).1
        go_wp2_with (fail)
        exact ⟨rfl, hu, Ext.refl _, slot_eq rfl⟩) ?_
      refine sp_op (Ph.eq _) (fun u hu => by
        refine spArg_eq 0 rfl rfl ?_
        refine spArg_nil ?_
        simp only [Act.put, List.setIfInBounds_toArray, List.set_cons_succ, List.set_cons_zero]
        have tc0 := (HTC.out _ hu.has).1
        go_wp2_with (fail)
        exact ⟨rfl, hu, Ext.refl _, slot_eq rfl⟩) ?_
      refine sp_op (Ph.eq _) (fun u hu => by
        refine spArg_eq 0 rfl rfl ?_
        refine spArg_nil ?_
        simp only [Act.put, List.setIfInBounds_toArray, List.set_cons_succ, List.set_cons_zero]
        have tc0 := (HTC.out _ hu.has).1
        go_wp2_with (fail)
        exact ⟨rfl, hu, Ext.refl _, slot_eq rfl⟩) ?_
      refine sp_op (Ph.eq _) (fun u hu => by
        refine spArg_eq 0 rfl rfl ?_
        refine spArg_eq 1 rfl rfl ?_
        refine spArg_nil ?_
        simp only [Act.put, List.setIfInBounds_toArray, List.set_cons_succ, List.set_cons_zero]
        have tc0 := (HTC.out _ hu.has).1
        go_wp2_with (fail)
        exact ⟨rfl, hu, Ext.refl _, slot_eq rfl⟩) ?_
      refine sp_op (Ph.eq _) (fun u hu => by
        refine spArg_eq 2 rfl rfl ?_
        refine spArg_nil ?_
        simp only [Act.put, List.setIfInBounds_toArray, List.set_cons_succ, List.set_cons_zero]
        have tc0 := (HTC.out _ hu.has).1
        go_wp2_with (fail)
        exact ⟨rfl, hu, Ext.refl _, slot_eq rfl⟩) ?_
      refine sp_op (Ph.eq _) (fun u hu => by
        refine spArg_eq 0 rfl rfl ?_
        refine spArg_eq 3 rfl rfl ?_
        refine spArg_nil ?_
        simp only [Act.put, List.setIfInBounds_toArray, List.set_cons_succ, List.set_cons_zero]
        have tc0 := (HTC.out _ hu.has).1
        go_wp2_with (fail)
        exact ⟨rfl, hu, Ext.refl _, slot_eq rfl⟩) ?_
      refine sp_op (Ph.eq _) (fun u hu => by
        refine spArg_eq 2 rfl rfl ?_
        refine spArg_eq 0 rfl rfl ?_
        refine spArg_eq 4 rfl rfl ?_
        refine spArg_nil ?_
        simp only [Act.put, List.setIfInBounds_toArray, List.set_cons_succ, List.set_cons_zero]
        have tc0 := (HTC.out _ hu.has).1
        go_wp2_with (fail)
        exact ⟨rfl, hu, Ext.refl _, slot_eq rfl⟩) ?_
      refine sp_op (Ph.eq _) (fun u hu => by
        refine spArg_eq 5 rfl rfl ?_
        refine spArg_eq 0 rfl rfl ?_
        refine spArg_nil ?_
        simp only [Act.put, List.setIfInBounds_toArray, List.set_cons_succ, List.set_cons_zero]
        have tc0 := (HTC.out _ hu.has).1
        go_wp2_with (fail)
        exact ⟨rfl, hu, Ext.refl _, slot_eq rfl⟩) ?_
      refine sp_op (Ph.eq _) (fun u hu => by
        refine spArg_eq 0 rfl rfl ?_
        refine spArg_nil ?_
        simp only [Act.put, List.setIfInBounds_toArray, List.set_cons_succ, List.set_cons_zero]
        have tc0 := (HTC.out _ hu.has).1
        go_wp2_with (fail)
        exact ⟨rfl, hu, Ext.refl _, slot_eq rfl⟩) ?_
      refine sp_op (Ph.eq _) (fun u hu => by
        refine spArg_eq 0 rfl rfl ?_
        refine spArg_nil ?_
        simp only [Act.put, List.setIfInBounds_toArray, List.set_cons_succ, List.set_cons_zero]
        have tc0 := (HTC.out _ hu.has).1
        go_wp2_with (fail)
        exact ⟨rfl, hu, Ext.refl _, slot_eq rfl⟩) ?_
      refine sp_op (Ph.eq _) (fun u hu => by
        refine spArg_eq 1 rfl rfl ?_
        refine spArg_nil ?_
        simp only [Act.put, List.setIfInBounds_toArray, List.set_cons_succ, List.set_cons_zero]
        have tc0 := (HTC.out _ hu.has).1
        go_wp2_with (fail)
        exact ⟨rfl, hu, Ext.refl _, slot_eq rfl⟩) ?_
      refine sp_op (Ph.eq _) (fun u hu => by
        refine spArg_eq 0 rfl rfl ?_
        refine spArg_eq 2 rfl rfl ?_
        refine spArg_nil ?_
        simp only [Act.put, List.setIfInBounds_toArray, List.set_cons_succ, List.set_cons_zero]
        have tc0 := (HTC.out _ hu.has).1
        go_wp2_with (fail)
        exact ⟨rfl, hu, Ext.refl _, slot_eq rfl⟩) ?_
      refine sp_op (Ph.eq _) (fun u hu => by
        refine spArg_eq 2 rfl rfl ?_
        refine spArg_eq 0 rfl rfl ?_
        refine spArg_eq 3 rfl rfl ?_
        refine spArg_nil ?_
        simp only [Act.put, List.setIfInBounds_toArray, List.set_cons_succ, List.set_cons_zero]
        have tc0 := (HTC.out _ hu.has).1
        go_wp2_with (fail)
        exact ⟨rfl, hu, Ext.refl _, slot_eq rfl⟩) ?_
      refine sp_op (Ph.eq _) (fun u hu => by
        refine spArg_eq 0 rfl rfl ?_
        refine spArg_eq 4 rfl rfl ?_
        refine spArg_nil ?_
        simp only [Act.put, List.setIfInBounds_toArray, List.set_cons_succ, List.set_cons_zero]
        have tc0 := (HTC.out _ hu.has).1
        go_wp2_with (fail)
        exact ⟨rfl, hu, Ext.refl _, slot_eq rfl⟩) ?_
      refine sp_op (Ph.eq _) (fun u hu => by
        refine spArg_eq 5 rfl rfl ?_
        refine spArg_nil ?_
        simp only [Act.put, List.setIfInBounds_toArray, List.set_cons_succ, List.set_cons_zero]
        have tc0 := (HTC.out _ hu.has).1
        go_wp2_with (fail)
        exact ⟨rfl, hu, Ext.refl _, slot_eq rfl⟩) ?_
      refine sp_op (Ph.eq _) (fun u hu => by
        refine spArg_eq 0 rfl rfl ?_
        refine spArg_eq 6 rfl rfl ?_
        refine spArg_nil ?_
        simp only [Act.put, List.setIfInBounds_toArray, List.set_cons_succ, List.set_cons_zero]
        have tc0 := (HTC.out _ hu.has).1
        go_wp2_with (fail)
        exact ⟨rfl, hu, Ext.refl _, slot_eq rfl⟩) ?_
      refine sp_op (Ph.eq _) (fun u hu => by
        refine spArg_eq 2 rfl rfl ?_
        refine spArg_eq 0 rfl rfl ?_
        refine spArg_eq 7 rfl rfl ?_
        refine spArg_nil ?_
        simp only [Act.put, List.setIfInBounds_toArray, List.set_cons_succ, List.set_cons_zero]
        have tc0 := (HTC.out _ hu.has).1
        go_wp2_with (fail)
        exact ⟨rfl, hu, Ext.refl _, slot_eq rfl⟩) ?_
      refine sp_op (Ph.eq _) (fun u hu => by
        refine spArg_eq 0 rfl rfl ?_
        refine spArg_eq 8 rfl rfl ?_
        refine spArg_nil ?_
        simp only [Act.put, List.setIfInBounds_toArray, List.set_cons_succ, List.set_cons_zero]
        have tc0 := (HTC.out _ hu.has).1
        go_wp2_with (fail)
        exact ⟨rfl, hu, Ext.refl _, slot_eq rfl⟩) ?_
      refine sp_op (Ph.eq _) (fun u hu => by
        refine spArg_eq 9 rfl rfl ?_
        refine spArg_eq 0 rfl rfl ?_
        refine spArg_nil ?_
        simp only [Act.put, List.setIfInBounds_toArray, List.set_cons_succ, List.set_cons_zero]
        have tc0 := (HTC.out _ hu.has).1
        go_wp2_with (fail)
        exact ⟨rfl, hu, Ext.refl _, slot_eq rfl⟩) ?_
      refine sp_op (Ph.eq _) (fun u hu => by
        refine spArg_eq 0 rfl rfl ?_
        refine spArg_nil ?_
        simp only [Act.put, List.setIfInBounds_toArray, List.set_cons_succ, List.set_cons_zero]
        have tc0 := (HTC.out _ hu.has).1
        go_wp2_with (fail)
        exact ⟨rfl, hu, Ext.refl _, slot_eq rfl⟩) ?_
      refine sp_op (Ph.eq _) (fun u hu => by
        refine spArg_eq 0 rfl rfl ?_
        refine spArg_nil ?_
        simp only [Act.put, List.setIfInBounds_toArray, List.set_cons_succ, List.set_cons_zero]
        have tc0 := (HTC.out _ hu.has).1
        go_wp2_with (fail)
        exact ⟨rfl, hu, Ext.refl _, slot_eq rfl⟩) ?_
      refine sp_op (Ph.eq _) (fun u hu => by
        refine spArg_eq 1 rfl rfl ?_
        refine spArg_nil ?_
        simp only [Act.put, List.setIfInBounds_toArray, List.set_cons_succ, List.set_cons_zero]
        have tc0 := (HTC.out _ hu.has).1
        go_wp2_with (fail)
        exact ⟨rfl, hu, Ext.refl _, slot_eq rfl⟩) ?_
      refine sp_op (Ph.eq _) (fun u hu => by
        refine spArg_eq 1 rfl rfl ?_
        refine spArg_eq 0 rfl rfl ?_
        refine spArg_eq 2 rfl rfl ?_
        refine spArg_nil ?_
        simp only [Act.put, List.setIfInBounds_toArray, List.set_cons_succ, List.set_cons_zero]
        have tc0 := (HTC.out _ hu.has).1
        go_wp2_with (fail)
        exact ⟨rfl, hu, Ext.refl _, slot_eq rfl⟩) ?_
      refine sp_op (Ph.eq _) (fun u hu => by
        refine spArg_eq 0 rfl rfl ?_
        refine spArg_eq 3 rfl rfl ?_
        refine spArg_nil ?_
        simp only [Act.put, List.setIfInBounds_toArray, List.set_cons_succ, List.set_cons_zero]
        have tc0 := (HTC.out _ hu.has).1
        go_wp2_with (fail)
        exact ⟨rfl, hu, Ext.refl _, slot_eq rfl⟩) ?_
      refine sp_op (Ph.eq _) (fun u hu => by
        refine spArg_eq 4 rfl rfl ?_
        refine spArg_eq 0 rfl rfl ?_
        refine spArg_nil ?_
        simp only [Act.put, List.setIfInBounds_toArray, List.set_cons_succ, List.set_cons_zero]
        have tc0 := (HTC.out _ hu.has).1
        go_wp2_with (fail)
        exact ⟨rfl, hu, Ext.refl _, slot_eq rfl⟩) ?_
      refine sp_end ?_
      intro u hu
      refine spArg_eq 26 rfl rfl ?_
      refine spArg_eq 25 rfl rfl ?_
      refine spArg_eq 24 rfl rfl ?_
      refine spArg_eq 23 rfl rfl ?_
      refine spArg_eq 22 rfl rfl ?_
      refine spArg_eq 21 rfl rfl ?_
      refine spArg_eq 20 rfl rfl ?_
      refine spArg_eq 19 rfl rfl ?_
      refine spArg_eq 18 rfl rfl ?_
      refine spArg_eq 17 rfl rfl ?_
      refine spArg_eq 16 rfl rfl ?_
      refine spArg_eq 15 rfl rfl ?_
      refine spArg_eq 14 rfl rfl ?_
      refine spArg_eq 13 rfl rfl ?_
      refine spArg_eq 12 rfl rfl ?_
      refine spArg_eq 11 rfl rfl ?_
      refine spArg_eq 10 rfl rfl ?_
      refine spArg_eq 9 rfl rfl ?_
      refine spArg_eq 8 rfl rfl ?_
      refine spArg_eq 7 rfl rfl ?_
      refine spArg_eq 6 rfl rfl ?_
      refine spArg_eq 5 rfl rfl ?_
      refine spArg_eq 4 rfl rfl ?_
      refine spArg_eq 3 rfl rfl ?_
      refine spArg_eq 2 rfl rfl ?_
      refine spArg_eq 1 rfl rfl ?_
      refine spArg_eq 0 rfl rfl ?_
      refine spArg_nil ?_
      simp only [Act.put, List.setIfInBounds_toArray, List.set_cons_succ, List.set_cons_zero]
      go_wp2_with fail
      go_ret
      exact ⟨by rw [HFF.out]; rfl, hu.up⟩
    · have h1 : t.frm ≥ (ins.length : Int) := by omega
      clear hr
      have HFF := Lib.hid hF
      clear hF HM HB HC hp ho ht
      generalize p.cells.toArray = PC at *
      generalize stpC t (.slice a2 t.e.box.length c2) = TC at *
      generalize (#[.int .u64 out.x, .slice ao out.box.length co] : Array Value) = EC at *
      generalize t.frm = fr at *
      go_enter Tryz.func28, Tryz.ntmps28
      go_wp2_with fail
      have hk := hk0.out
      try change Code.wp _ _ _ (Act.mk _ _) _
      refine wp_region_runR Ext 27 71 (HoldT (PsC w.heap.size PC EC TC) _) [[], [(0, 13)], [(1, 14)], [(2, 15)], [(3, 16)], [(4, 17), (3, 16)], [(3, 16)], [(6, 19), (3, 16)], [(5, 18), (7, 20), (3, 16)], [(3, 16), (8, 21)], [(9, 22)], [(10, 23)], [(10, 23)], [(12, 25), (10, 23)], [(11, 24), (13, 26), (10, 23)], [(14, 27), (10, 23)], [(10, 23)], [(16, 29), (10, 23)], [(15, 28), (17, 30), (10, 23)], [(18, 31), (10, 23)], [(10, 23), (19, 32)], [(20, 33)], [(21, 34)], [(21, 34)], [(22, 35), (23, 36), (21, 34)], [(24, 37), (21, 34)], [(21, 34), (25, 38)]] [(0, 13), (1, 14), (2, 15), (3, 16), (4, 17), (5, 18), (6, 19), (7, 20), (8, 21), (9, 22), (10, 23), (11, 24), (12, 25), (13, 26), (14, 27), (15, 28), (16, 29), (17, 30), (18, 31), (19, 32), (20, 33), (21, 34), (22, 35), (23, 36), (24, 37), (25, 38), (26, 39)] (by kernel_rfl) (by kernel_rfl) (by first | rfl | simp) (hk) ?_
      simp only [List.take_succ_cons, List.take_zero, List.drop_succ_cons, List.drop_zero]
      refine sp_op (Ph.eq _) (fun u hu => by
        refine spArg_nil ?_
        have tc0 := (HTC.out _ hu.has).1
        go_wp2_with (fail)
        exact ⟨rfl, hu, Ext.refl _, slot_eq rfl⟩) ?_
      refine sp_op (Ph.eq _) (fun u hu => by
        refine spArg_eq 0 rfl rfl ?_
        refine spArg_nil ?_
        simp only [Act.put, List.setIfInBounds_toArray, List.set_cons_succ, List.set_cons_zero]
        have tc0 := (HTC.out _ hu.has).1
        go_wp2_with (fail)
        exact ⟨rfl, hu, Ext.refl _, slot_eq rfl⟩) ?_
      refine sp_op (Ph.eq _) (fun u hu => by
        refine spArg_eq 0 rfl rfl ?_
        refine spArg_nil ?_
        simp only [Act.put, List.setIfInBounds_toArray, List.set_cons_succ, List.set_cons_zero]
        have tc0 := (HTC.out _ hu.has).1
        go_wp2_with (fail)
        exact ⟨rfl, hu, Ext.refl _, slot_eq rfl⟩) ?_
      refine sp_op (Ph.eq _) (fun u hu => by
        refine spArg_eq 0 rfl rfl ?_
        refine spArg_nil ?_
        simp only [Act.put, List.setIfInBounds_toArray, List.set_cons_succ, List.set_cons_zero]
        have tc0 := (HTC.out _ hu.has).1
        go_wp2_with (fail)
        exact ⟨rfl, hu, Ext.refl _, slot_eq rfl⟩) ?_
      refine sp_op (Ph.eq _) (fun u hu => by
        refine spArg_eq 0 rfl rfl ?_
        refine spArg_nil ?_
        simp only [Act.put, List.setIfInBounds_toArray, List.set_cons_succ, List.set_cons_zero]
        have tc0 := (HTC.out _ hu.has).1
        go_wp2_with (fail)
        exact ⟨rfl, hu, Ext.refl _, slot_eq rfl⟩) ?_
      refine sp_op (Ph.eq _) (fun u hu => by
        refine spArg_eq 0 rfl rfl ?_
        refine spArg_eq 1 rfl rfl ?_
        refine spArg_nil ?_
        simp only [Act.put, List.setIfInBounds_toArray, List.set_cons_succ, List.set_cons_zero]
        have tc0 := (HTC.out _ hu.has).1
        go_wp2_with (fail)
        exact ⟨rfl, hu, Ext.refl _, slot_eq rfl⟩) ?_
      refine sp_op (Ph.eq _) (fun u hu => by
        refine spArg_eq 2 rfl rfl ?_
        refine spArg_nil ?_
        simp only [Act.put, List.setIfInBounds_toArray, List.set_cons_succ, List.set_cons_zero]
        have tc0 := (HTC.out _ hu.has).1
        go_wp2_with (fail)
        exact ⟨rfl, hu, Ext.refl _, slot_eq rfl⟩) ?_
      refine sp_op (Ph.eq _) (fun u hu => by
        refine spArg_eq 0 rfl rfl ?_
        refine spArg_eq 3 rfl rfl ?_
        refine spArg_nil ?_
        simp only [Act.put, List.setIfInBounds_toArray, List.set_cons_succ, List.set_cons_zero]
        have tc0 := (HTC.out _ hu.has).1
        go_wp2_with (fail)
        exact ⟨rfl, hu, Ext.refl _, slot_eq rfl⟩) ?_
      refine sp_op (Ph.eq _) (fun u hu => by
        refine spArg_eq 2 rfl rfl ?_
        refine spArg_eq 0 rfl rfl ?_
        refine spArg_eq 4 rfl rfl ?_
        refine spArg_nil ?_
        simp only [Act.put, List.setIfInBounds_toArray, List.set_cons_succ, List.set_cons_zero]
        have tc0 := (HTC.out _ hu.has).1
        go_wp2_with (fail)
        exact ⟨rfl, hu, Ext.refl _, slot_eq rfl⟩) ?_
      refine sp_op (Ph.eq _) (fun u hu => by
        refine spArg_eq 5 rfl rfl ?_
        refine spArg_eq 0 rfl rfl ?_
        refine spArg_nil ?_
        simp only [Act.put, List.setIfInBounds_toArray, List.set_cons_succ, List.set_cons_zero]
        have tc0 := (HTC.out _ hu.has).1
        go_wp2_with (fail)
        exact ⟨rfl, hu, Ext.refl _, slot_eq rfl⟩) ?_
      refine sp_op (Ph.eq _) (fun u hu => by
        refine spArg_eq 0 rfl rfl ?_
        refine spArg_nil ?_
        simp only [Act.put, List.setIfInBounds_toArray, List.set_cons_succ, List.set_cons_zero]
        have tc0 := (HTC.out _ hu.has).1
        go_wp2_with (fail)
        exact ⟨rfl, hu, Ext.refl _, slot_eq rfl⟩) ?_
      refine sp_op (Ph.eq _) (fun u hu => by
        refine spArg_eq 0 rfl rfl ?_
        refine spArg_nil ?_
        simp only [Act.put, List.setIfInBounds_toArray, List.set_cons_succ, List.set_cons_zero]
        have tc0 := (HTC.out _ hu.has).1
        go_wp2_with (fail)
        exact ⟨rfl, hu, Ext.refl _, slot_eq rfl⟩) ?_
      refine sp_op (Ph.eq _) (fun u hu => by
        refine spArg_eq 1 rfl rfl ?_
        refine spArg_nil ?_
        simp only [Act.put, List.setIfInBounds_toArray, List.set_cons_succ, List.set_cons_zero]
        have tc0 := (HTC.out _ hu.has).1
        go_wp2_with (fail)
        exact ⟨rfl, hu, Ext.refl _, slot_eq rfl⟩) ?_
      refine sp_op (Ph.eq _) (fun u hu => by
        refine spArg_eq 0 rfl rfl ?_
        refine spArg_eq 2 rfl rfl ?_
        refine spArg_nil ?_
        simp only [Act.put, List.setIfInBounds_toArray, List.set_cons_succ, List.set_cons_zero]
        have tc0 := (HTC.out _ hu.has).1
        go_wp2_with (fail)
        exact ⟨rfl, hu, Ext.refl _, slot_eq rfl⟩) ?_
      refine sp_op (Ph.eq _) (fun u hu => by
        refine spArg_eq 2 rfl rfl ?_
        refine spArg_eq 0 rfl rfl ?_
        refine spArg_eq 3 rfl rfl ?_
        refine spArg_nil ?_
        simp only [Act.put, List.setIfInBounds_toArray, List.set_cons_succ, List.set_cons_zero]
        have tc0 := (HTC.out _ hu.has).1
        go_wp2_with (fail)
        exact ⟨rfl, hu, Ext.refl _, slot_eq rfl⟩) ?_
      refine sp_op (Ph.eq _) (fun u hu => by
        refine spArg_eq 0 rfl rfl ?_
        refine spArg_eq 4 rfl rfl ?_
        refine spArg_nil ?_
        simp only [Act.put, List.setIfInBounds_toArray, List.set_cons_succ, List.set_cons_zero]
        have tc0 := (HTC.out _ hu.has).1
        go_wp2_with (fail)
        exact ⟨rfl, hu, Ext.refl _, slot_eq rfl⟩) ?_
      refine sp_op (Ph.eq _) (fun u hu => by
        refine spArg_eq 5 rfl rfl ?_
        refine spArg_nil ?_
        simp only [Act.put, List.setIfInBounds_toArray, List.set_cons_succ, List.set_cons_zero]
        have tc0 := (HTC.out _ hu.has).1
        go_wp2_with (fail)
        exact ⟨rfl, hu, Ext.refl _, slot_eq rfl⟩) ?_
      refine sp_op (Ph.eq _) (fun u hu => by
        refine spArg_eq 0 rfl rfl ?_
        refine spArg_eq 6 rfl rfl ?_
        refine spArg_nil ?_
        simp only [Act.put, List.setIfInBounds_toArray, List.set_cons_succ, List.set_cons_zero]
        have tc0 := (HTC.out _ hu.has).1
        go_wp2_with (fail)
        exact ⟨rfl, hu, Ext.refl _, slot_eq rfl⟩) ?_
      refine sp_op (Ph.eq _) (fun u hu => by
        refine spArg_eq 2 rfl rfl ?_
        refine spArg_eq 0 rfl rfl ?_
        refine spArg_eq 7 rfl rfl ?_
        refine spArg_nil ?_
        simp only [Act.put, List.setIfInBounds_toArray, List.set_cons_succ, List.set_cons_zero]
        have tc0 := (HTC.out _ hu.has).1
        go_wp2_with (fail)
        exact ⟨rfl, hu, Ext.refl _, slot_eq rfl⟩) ?_
      refine sp_op (Ph.eq _) (fun u hu => by
        refine spArg_eq 0 rfl rfl ?_
        refine spArg_eq 8 rfl rfl ?_
        refine spArg_nil ?_
        simp only [Act.put, List.setIfInBounds_toArray, List.set_cons_succ, List.set_cons_zero]
        have tc0 := (HTC.out _ hu.has).1
        go_wp2_with (fail)
        exact ⟨rfl, hu, Ext.refl _, slot_eq rfl⟩) ?_
      refine sp_op (Ph.eq _) (fun u hu => by
        refine spArg_eq 9 rfl rfl ?_
        refine spArg_eq 0 rfl rfl ?_
        refine spArg_nil ?_
        simp only [Act.put, List.setIfInBounds_toArray, List.set_cons_succ, List.set_cons_zero]
        have tc0 := (HTC.out _ hu.has).1
        go_wp2_with (fail)
        exact ⟨rfl, hu, Ext.refl _, slot_eq rfl⟩) ?_
      refine sp_op (Ph.eq _) (fun u hu => by
        refine spArg_eq 0 rfl rfl ?_
        refine spArg_nil ?_
        simp only [Act.put, List.setIfInBounds_toArray, List.set_cons_succ, List.set_cons_zero]
        have tc0 := (HTC.out _ hu.has).1
        go_wp2_with (fail)
        exact ⟨rfl, hu, Ext.refl _, slot_eq rfl⟩) ?_
      refine sp_op (Ph.eq _) (fun u hu => by
        refine spArg_eq 0 rfl rfl ?_
        refine spArg_nil ?_
        simp only [Act.put, List.setIfInBounds_toArray, List.set_cons_succ, List.set_cons_zero]
        have tc0 := (HTC.out _ hu.has).1
        go_wp2_with (fail)
        exact ⟨rfl, hu, Ext.refl _, slot_eq rfl⟩) ?_
      refine sp_op (Ph.eq _) (fun u hu => by
        refine spArg_eq 1 rfl rfl ?_
        refine spArg_nil ?_
        simp only [Act.put, List.setIfInBounds_toArray, List.set_cons_succ, List.set_cons_zero]
        have tc0 := (HTC.out _ hu.has).1
        go_wp2_with (fail)
        exact ⟨rfl, hu, Ext.refl _, slot_eq rfl⟩) ?_
      refine sp_op (Ph.eq _) (fun u hu => by
        refine spArg_eq 1 rfl rfl ?_
        refine spArg_eq 0 rfl rfl ?_
        refine spArg_eq 2 rfl rfl ?_
        refine spArg_nil ?_
        simp only [Act.put, List.setIfInBounds_toArray, List.set_cons_succ, List.set_cons_zero]
        have tc0 := (HTC.out _ hu.has).1
        go_wp2_with (fail)
        exact ⟨rfl, hu, Ext.refl _, slot_eq rfl⟩) ?_
      refine sp_op (Ph.eq _) (fun u hu => by
        refine spArg_eq 0 rfl rfl ?_
        refine spArg_eq 3 rfl rfl ?_
        refine spArg_nil ?_
        simp only [Act.put, List.setIfInBounds_toArray, List.set_cons_succ, List.set_cons_zero]
        have tc0 := (HTC.out _ hu.has).1
        go_wp2_with (fail)
        exact ⟨rfl, hu, Ext.refl _, slot_eq rfl⟩) ?_
      refine sp_op (Ph.eq _) (fun u hu => by
        refine spArg_eq 4 rfl rfl ?_
        refine spArg_eq 0 rfl rfl ?_
        refine spArg_nil ?_
        simp only [Act.put, List.setIfInBounds_toArray, List.set_cons_succ, List.set_cons_zero]
        have tc0 := (HTC.out _ hu.has).1
        go_wp2_with (fail)
        exact ⟨rfl, hu, Ext.refl _, slot_eq rfl⟩) ?_
      refine sp_end ?_
      intro u hu
      refine spArg_eq 26 rfl rfl ?_
      refine spArg_eq 25 rfl rfl ?_
      refine spArg_eq 24 rfl rfl ?_
      refine spArg_eq 23 rfl rfl ?_
      refine spArg_eq 22 rfl rfl ?_
      refine spArg_eq 21 rfl rfl ?_
      refine spArg_eq 20 rfl rfl ?_
      refine spArg_eq 19 rfl rfl ?_
      refine spArg_eq 18 rfl rfl ?_
      refine spArg_eq 17 rfl rfl ?_
      refine spArg_eq 16 rfl rfl ?_
      refine spArg_eq 15 rfl rfl ?_
      refine spArg_eq 14 rfl rfl ?_
      refine spArg_eq 13 rfl rfl ?_
      refine spArg_eq 12 rfl rfl ?_
      refine spArg_eq 11 rfl rfl ?_
      refine spArg_eq 10 rfl rfl ?_
      refine spArg_eq 9 rfl rfl ?_
      refine spArg_eq 8 rfl rfl ?_
      refine spArg_eq 7 rfl rfl ?_
      refine spArg_eq 6 rfl rfl ?_
      refine spArg_eq 5 rfl rfl ?_
      refine spArg_eq 4 rfl rfl ?_
      refine spArg_eq 3 rfl rfl ?_
      refine spArg_eq 2 rfl rfl ?_
      refine spArg_eq 1 rfl rfl ?_
      refine spArg_eq 0 rfl rfl ?_
      refine spArg_nil ?_
      simp only [Act.put, List.setIfInBounds_toArray, List.set_cons_succ, List.set_cons_zero]
      go_wp2_with fail
      go_ret
      exact ⟨by rw [HFF.out]; rfl, hu.up⟩
end Go.Proofs.YtnmniblaefjekaaGreat
