/-
  Failed of both programs.
-/
import Derived.Test.YtnmniblaefjekaaGreatBl2
namespace Go.Proofs.YtnmniblaefjekaaGreat
set_option linter.unusedVariables false
set_option linter.unusedSimpArgs false
open Go Go.RowKit

set_option maxRecDepth 100000 in
set_option maxHeartbeats 2000000 in
theorem Failed_any (p : Pub) (at_ : Int) (e : Ent) (t : Stp) (ve vt : Value) (w : World) (hp : p.ok) (he : e.ok) (ht : t.ok) (hve : SeesB w ve e.box) (hvt : SeesB w vt t.e.box) (hl1 : e.box.length ≤ 20000000000000) :
    Calls Tryz.prog 29 #[.agg p.cells.toArray, .int .i64 at_, .agg #[.int .u64 e.x, ve], .agg (stpC t vt)] w fun r w' => r = .returned (.bool (decide (failedL p at_ e t))) ∧ Below w.heap.size w w' := by
  obtain ⟨a1, c1, rfl, -, -⟩ := sees_form hve
  obtain ⟨a2, c2, rfl, -, -⟩ := sees_form hvt
  have hF : decide (failedL p at_ e t) = (decide (t.e = e) && (decide (mixedOk p t) && (openL (hopK t.shared) (besL at_) e.box).isNone)) := by
    rw [Bool.eq_iff_iff, decide_eq_true_iff]; unfold failedL; simp only [Bool.and_eq_true, decide_eq_true_iff, Option.isNone_iff_eq_none]
  generalize decide (failedL p at_ e t) = D at *
  have hPb := Lib.hid ((Blk.new w p.cells.toArray 60).alloc (.cells #[.int .u64 e.x, .slice a1 e.box.length c1] 32) |>.alloc (.cells (stpC t (.slice a2 t.e.box.length c2)) 57))
  have hEb := Lib.hid ((Blk.new2 w (.cells p.cells.toArray 60) #[.int .u64 e.x, .slice a1 e.box.length c1] 32).alloc (.cells (stpC t (.slice a2 t.e.box.length c2)) 57))
  have hTb := Lib.hid (Blk.new3 w (.cells p.cells.toArray 60) (.cells #[.int .u64 e.x, .slice a1 e.box.length c1] 32) (stpC t (.slice a2 t.e.box.length c2)) 57)
  have hb0 := Lib.hid (show Below w.heap.size w (((w.alloc (.cells p.cells.toArray 60)).alloc (.cells #[.int .u64 e.x, .slice a1 e.box.length c1] 32)).alloc (.cells (stpC t (.slice a2 t.e.box.length c2)) 57)) by go_grown)
  have hk0 : Hid (Ext w (((w.alloc (.cells p.cells.toArray 60)).alloc (.cells #[.int .u64 e.x, .slice a1 e.box.length c1] 32)).alloc (.cells (stpC t (.slice a2 t.e.box.length c2)) 57))) := Lib.hid hb0.out
  have HVE := Lib.hid hve; have HVT := Lib.hid hvt; clear hve hvt
  have HS := fun (w' : World) (h1 : SeesB w' (.slice a2 t.e.box.length c2) t.e.box) (h2 : SeesB w' (.slice a1 e.box.length c1) e.box) => Same2_any t.e e _ _ w' h1 h2
  have HB := fun (w' : World) (h : SeesB w' (.slice a1 e.box.length c1) e.box) => By_any t.shared at_ e.box (.slice a1 e.box.length c1) w' ht.2.2.1 h hl1
  have HM := fun (w' : World) => bmixed_any p t (.slice a2 t.e.box.length c2) w' hp ht rfl
  have HC := fun (w' : World) => CheckEqual_any p.base p.mix e.x t.shared t.m.c t.m.s w' hp.1 hp.2.2.1 he ht.2.2.1 ht.2.2.2.2.1 ht.2.2.2.2.2
  have hCM : t.e = e → decide (equalOk p.base p.mix e.x t.shared t.m.c t.m.s) = decide (mixedOk p t) := fun h => decide_eq_decide.2 (by unfold mixedOk; rw [h])
  by_cases hs : t.e = e
  · rw [hCM hs] at HC
    rw [decide_eq_true hs] at hF
    simp only [decide_eq_true hs, decide_eq_true hs.symm] at HS
    by_cases hm : mixedOk p t
    · simp only [decide_eq_true hm] at HM HC hF
      generalize openL (hopK t.shared) (besL at_) e.box = op at *
      cases op with
      | none =>
        have hte := stp_e hTb.out
        have HTE := Lib.hid hte
        have hsh : (((w.alloc (.cells p.cells.toArray 60)).alloc (.cells #[.int .u64 e.x, .slice a1 e.box.length c1] 32)).alloc (.cells (stpC t (.slice a2 t.e.box.length c2)) 57)).cell? ⟨w.heap.size + 1 + 1, 3, none⟩ = some (.int .u64 t.shared) := by rw [hTb.out.cell]; rfl
        have heb : (((w.alloc (.cells p.cells.toArray 60)).alloc (.cells #[.int .u64 e.x, .slice a1 e.box.length c1] 32)).alloc (.cells (stpC t (.slice a2 t.e.box.length c2)) 57)).cell? ⟨w.heap.size + 1, 1, none⟩ = some (.slice a1 e.box.length c1) := by rw [hEb.out.cell]; rfl
        have hpz : p.cells.toArray.size = 10 := by rw [List.size_toArray, p.length_cells]
        have htz : (stpC t (.slice a2 t.e.box.length c2)).size = 8 := rfl
        have HPZ := Lib.hid hpz; have HTZ := Lib.hid htz; have HSH := Lib.hid hsh; have HEB := Lib.hid heb
        clear hte hsh heb hpz htz hCM
        have HSS := Lib.hid HS; have HBB := Lib.hid HB; have HMM := Lib.hid HM; have HCC := Lib.hid HC; have HFF := Lib.hid hF
        clear HS HB HM HC hF hp he ht
        try clear hs
        try clear hm
        generalize p.cells.toArray = PC at *
        generalize stpC t (.slice a2 t.e.box.length c2) = TC at *
        generalize t.e.x = TX at *
        generalize t.e.box = TB at *
        generalize t.shared = SH at *
        generalize e.x = X at *
        generalize e.box = BX at *
        go_enter Tryz.func29, Tryz.ntmps29
        go_wp2_with (first
          | (refine wpList_load_mid rfl 32 (.tmp 11) rfl (w.heap.size + 1 + 1) 1 rfl _ _ HTE.out Tryz.underlying32 rfl info_entry ?_)
          | (refine wpList_load_row rfl 32 (.tmp 6) rfl (w.heap.size + 1) rfl _ _ (0, 0) _ hEb.out Tryz.underlying32 rfl info_entry ?_)
          | (go_at_call 61; refine (HSS.out _ (HVT.out.below hb0.out (by decide)) (HVE.out.below hb0.out (by decide))).mono ?_; rintro e x1 ⟨rfl, hb1⟩; have e1 : Ext w x1 := hk0.out.tr hb1
             have hP1 := hPb.out.below hb1; have hE1 := hEb.out.below hb1; have hT1 := hTb.out.below hb1
             have hk2 : Ext w x1 := e1)
          | (refine wpList_load_rowG rfl 60 _ rfl w.heap.size rfl _ _ (0, 0) _ hP1 Tryz.underlying60 rfl (by rw [HPZ.out]; exact info_pub) ?_)
          | (refine wpList_load_rowG rfl 57 _ rfl (w.heap.size + 1 + 1) rfl _ _ (0, 0) _ hT1 Tryz.underlying57 rfl (by rw [HTZ.out]; exact info_stp) ?_)
          | (go_at_call 62; refine (HMM.out _).mono ?_; rintro e x2 ⟨rfl, hb2⟩; have e2 : Ext w x2 := e1.tr hb2
             have hk2 : Ext w x2 := e2
             have hsh2 : x2.cell? ⟨w.heap.size + 1 + 1, 3, none⟩ = some (.int .u64 SH) := (hb2.cell (World.block_lt_of_cell? _ _ ((hb1.cell (World.block_lt_of_cell? _ _ HSH.out)).trans HSH.out))).trans ((hb1.cell (World.block_lt_of_cell? _ _ HSH.out)).trans HSH.out)
             have heb2 : x2.cell? ⟨w.heap.size + 1, 1, none⟩ = some (.slice a1 BX.length c1) := (hb2.cell (World.block_lt_of_cell? _ _ ((hb1.cell (World.block_lt_of_cell? _ _ HEB.out)).trans HEB.out))).trans ((hb1.cell (World.block_lt_of_cell? _ _ HEB.out)).trans HEB.out))
          | (go_at_call 63; refine (HBB.out _ (HVE.out.below e2 (by decide))).mono ?_; rintro e x3 ⟨v3, rfl, hown3, hb3⟩; have hk2 : Ext w x3 := e2.tr hb3))
        go_ret
        exact ⟨by rw [HFF.out]; rfl, hk2⟩
      | some b =>
        have hte := stp_e hTb.out
        have HTE := Lib.hid hte
        have hsh : (((w.alloc (.cells p.cells.toArray 60)).alloc (.cells #[.int .u64 e.x, .slice a1 e.box.length c1] 32)).alloc (.cells (stpC t (.slice a2 t.e.box.length c2)) 57)).cell? ⟨w.heap.size + 1 + 1, 3, none⟩ = some (.int .u64 t.shared) := by rw [hTb.out.cell]; rfl
        have heb : (((w.alloc (.cells p.cells.toArray 60)).alloc (.cells #[.int .u64 e.x, .slice a1 e.box.length c1] 32)).alloc (.cells (stpC t (.slice a2 t.e.box.length c2)) 57)).cell? ⟨w.heap.size + 1, 1, none⟩ = some (.slice a1 e.box.length c1) := by rw [hEb.out.cell]; rfl
        have hpz : p.cells.toArray.size = 10 := by rw [List.size_toArray, p.length_cells]
        have htz : (stpC t (.slice a2 t.e.box.length c2)).size = 8 := rfl
        have HPZ := Lib.hid hpz; have HTZ := Lib.hid htz; have HSH := Lib.hid hsh; have HEB := Lib.hid heb
        clear hte hsh heb hpz htz hCM
        have HSS := Lib.hid HS; have HBB := Lib.hid HB; have HMM := Lib.hid HM; have HCC := Lib.hid HC; have HFF := Lib.hid hF
        clear HS HB HM HC hF hp he ht
        try clear hs
        try clear hm
        generalize p.cells.toArray = PC at *
        generalize stpC t (.slice a2 t.e.box.length c2) = TC at *
        generalize t.e.x = TX at *
        generalize t.e.box = TB at *
        generalize t.shared = SH at *
        generalize e.x = X at *
        generalize e.box = BX at *
        go_enter Tryz.func29, Tryz.ntmps29
        go_wp2_with (first
          | (refine wpList_load_mid rfl 32 (.tmp 11) rfl (w.heap.size + 1 + 1) 1 rfl _ _ HTE.out Tryz.underlying32 rfl info_entry ?_)
          | (refine wpList_load_row rfl 32 (.tmp 6) rfl (w.heap.size + 1) rfl _ _ (0, 0) _ hEb.out Tryz.underlying32 rfl info_entry ?_)
          | (go_at_call 61; refine (HSS.out _ (HVT.out.below hb0.out (by decide)) (HVE.out.below hb0.out (by decide))).mono ?_; rintro e x1 ⟨rfl, hb1⟩; have e1 : Ext w x1 := hk0.out.tr hb1
             have hP1 := hPb.out.below hb1; have hE1 := hEb.out.below hb1; have hT1 := hTb.out.below hb1
             have hk2 : Ext w x1 := e1)
          | (refine wpList_load_rowG rfl 60 _ rfl w.heap.size rfl _ _ (0, 0) _ hP1 Tryz.underlying60 rfl (by rw [HPZ.out]; exact info_pub) ?_)
          | (refine wpList_load_rowG rfl 57 _ rfl (w.heap.size + 1 + 1) rfl _ _ (0, 0) _ hT1 Tryz.underlying57 rfl (by rw [HTZ.out]; exact info_stp) ?_)
          | (go_at_call 62; refine (HMM.out _).mono ?_; rintro e x2 ⟨rfl, hb2⟩; have e2 : Ext w x2 := e1.tr hb2
             have hk2 : Ext w x2 := e2
             have hsh2 : x2.cell? ⟨w.heap.size + 1 + 1, 3, none⟩ = some (.int .u64 SH) := (hb2.cell (World.block_lt_of_cell? _ _ ((hb1.cell (World.block_lt_of_cell? _ _ HSH.out)).trans HSH.out))).trans ((hb1.cell (World.block_lt_of_cell? _ _ HSH.out)).trans HSH.out)
             have heb2 : x2.cell? ⟨w.heap.size + 1, 1, none⟩ = some (.slice a1 BX.length c1) := (hb2.cell (World.block_lt_of_cell? _ _ ((hb1.cell (World.block_lt_of_cell? _ _ HEB.out)).trans HEB.out))).trans ((hb1.cell (World.block_lt_of_cell? _ _ HEB.out)).trans HEB.out))
          | (go_at_call 63; refine (HBB.out _ (HVE.out.below e2 (by decide))).mono ?_; rintro e x3 ⟨v3, rfl, hown3, hb3⟩; have hk2 : Ext w x3 := e2.tr hb3))
        go_ret
        exact ⟨by rw [HFF.out]; rfl, hk2⟩
    · simp only [decide_eq_false hm] at HM HC hF
      generalize openL (hopK t.shared) (besL at_) e.box = op at *
      have hte := stp_e hTb.out
      have HTE := Lib.hid hte
      have hsh : (((w.alloc (.cells p.cells.toArray 60)).alloc (.cells #[.int .u64 e.x, .slice a1 e.box.length c1] 32)).alloc (.cells (stpC t (.slice a2 t.e.box.length c2)) 57)).cell? ⟨w.heap.size + 1 + 1, 3, none⟩ = some (.int .u64 t.shared) := by rw [hTb.out.cell]; rfl
      have heb : (((w.alloc (.cells p.cells.toArray 60)).alloc (.cells #[.int .u64 e.x, .slice a1 e.box.length c1] 32)).alloc (.cells (stpC t (.slice a2 t.e.box.length c2)) 57)).cell? ⟨w.heap.size + 1, 1, none⟩ = some (.slice a1 e.box.length c1) := by rw [hEb.out.cell]; rfl
      have hpz : p.cells.toArray.size = 10 := by rw [List.size_toArray, p.length_cells]
      have htz : (stpC t (.slice a2 t.e.box.length c2)).size = 8 := rfl
      have HPZ := Lib.hid hpz; have HTZ := Lib.hid htz; have HSH := Lib.hid hsh; have HEB := Lib.hid heb
      clear hte hsh heb hpz htz hCM
      have HSS := Lib.hid HS; have HBB := Lib.hid HB; have HMM := Lib.hid HM; have HCC := Lib.hid HC; have HFF := Lib.hid hF
      clear HS HB HM HC hF hp he ht
      try clear hs
      try clear hm
      generalize p.cells.toArray = PC at *
      generalize stpC t (.slice a2 t.e.box.length c2) = TC at *
      generalize t.e.x = TX at *
      generalize t.e.box = TB at *
      generalize t.shared = SH at *
      generalize e.x = X at *
      generalize e.box = BX at *
      go_enter Tryz.func29, Tryz.ntmps29
      go_wp2_with (first
        | (refine wpList_load_mid rfl 32 (.tmp 11) rfl (w.heap.size + 1 + 1) 1 rfl _ _ HTE.out Tryz.underlying32 rfl info_entry ?_)
        | (refine wpList_load_row rfl 32 (.tmp 6) rfl (w.heap.size + 1) rfl _ _ (0, 0) _ hEb.out Tryz.underlying32 rfl info_entry ?_)
        | (go_at_call 61; refine (HSS.out _ (HVT.out.below hb0.out (by decide)) (HVE.out.below hb0.out (by decide))).mono ?_; rintro e x1 ⟨rfl, hb1⟩; have e1 : Ext w x1 := hk0.out.tr hb1
           have hP1 := hPb.out.below hb1; have hE1 := hEb.out.below hb1; have hT1 := hTb.out.below hb1
           have hk2 : Ext w x1 := e1)
        | (refine wpList_load_rowG rfl 60 _ rfl w.heap.size rfl _ _ (0, 0) _ hP1 Tryz.underlying60 rfl (by rw [HPZ.out]; exact info_pub) ?_)
        | (refine wpList_load_rowG rfl 57 _ rfl (w.heap.size + 1 + 1) rfl _ _ (0, 0) _ hT1 Tryz.underlying57 rfl (by rw [HTZ.out]; exact info_stp) ?_)
        | (go_at_call 62; refine (HMM.out _).mono ?_; rintro e x2 ⟨rfl, hb2⟩; have e2 : Ext w x2 := e1.tr hb2
           have hk2 : Ext w x2 := e2
           have hsh2 : x2.cell? ⟨w.heap.size + 1 + 1, 3, none⟩ = some (.int .u64 SH) := (hb2.cell (World.block_lt_of_cell? _ _ ((hb1.cell (World.block_lt_of_cell? _ _ HSH.out)).trans HSH.out))).trans ((hb1.cell (World.block_lt_of_cell? _ _ HSH.out)).trans HSH.out)
           have heb2 : x2.cell? ⟨w.heap.size + 1, 1, none⟩ = some (.slice a1 BX.length c1) := (hb2.cell (World.block_lt_of_cell? _ _ ((hb1.cell (World.block_lt_of_cell? _ _ HEB.out)).trans HEB.out))).trans ((hb1.cell (World.block_lt_of_cell? _ _ HEB.out)).trans HEB.out))
        | (go_at_call 63; refine (HBB.out _ (HVE.out.below e2 (by decide))).mono ?_; rintro e x3 ⟨v3, rfl, hown3, hb3⟩; have hk2 : Ext w x3 := e2.tr hb3))
      go_ret
      exact ⟨by rw [HFF.out]; rfl, hk2⟩
  · rw [decide_eq_false hs] at hF
    simp only [decide_eq_false hs, decide_eq_false (fun h : e = t.e => hs h.symm)] at HS
    generalize decide (equalOk p.base p.mix e.x t.shared t.m.c t.m.s) = dc at *
    generalize decide (mixedOk p t) = dm at *
    generalize openL (hopK t.shared) (besL at_) e.box = op at *
    have hte := stp_e hTb.out
    have HTE := Lib.hid hte
    have hsh : (((w.alloc (.cells p.cells.toArray 60)).alloc (.cells #[.int .u64 e.x, .slice a1 e.box.length c1] 32)).alloc (.cells (stpC t (.slice a2 t.e.box.length c2)) 57)).cell? ⟨w.heap.size + 1 + 1, 3, none⟩ = some (.int .u64 t.shared) := by rw [hTb.out.cell]; rfl
    have heb : (((w.alloc (.cells p.cells.toArray 60)).alloc (.cells #[.int .u64 e.x, .slice a1 e.box.length c1] 32)).alloc (.cells (stpC t (.slice a2 t.e.box.length c2)) 57)).cell? ⟨w.heap.size + 1, 1, none⟩ = some (.slice a1 e.box.length c1) := by rw [hEb.out.cell]; rfl
    have hpz : p.cells.toArray.size = 10 := by rw [List.size_toArray, p.length_cells]
    have htz : (stpC t (.slice a2 t.e.box.length c2)).size = 8 := rfl
    have HPZ := Lib.hid hpz; have HTZ := Lib.hid htz; have HSH := Lib.hid hsh; have HEB := Lib.hid heb
    clear hte hsh heb hpz htz hCM
    have HSS := Lib.hid HS; have HBB := Lib.hid HB; have HMM := Lib.hid HM; have HCC := Lib.hid HC; have HFF := Lib.hid hF
    clear HS HB HM HC hF hp he ht
    try clear hs
    try clear hm
    generalize p.cells.toArray = PC at *
    generalize stpC t (.slice a2 t.e.box.length c2) = TC at *
    generalize t.e.x = TX at *
    generalize t.e.box = TB at *
    generalize t.shared = SH at *
    generalize e.x = X at *
    generalize e.box = BX at *
    go_enter Tryz.func29, Tryz.ntmps29
    go_wp2_with (first
      | (refine wpList_load_mid rfl 32 (.tmp 11) rfl (w.heap.size + 1 + 1) 1 rfl _ _ HTE.out Tryz.underlying32 rfl info_entry ?_)
      | (refine wpList_load_row rfl 32 (.tmp 6) rfl (w.heap.size + 1) rfl _ _ (0, 0) _ hEb.out Tryz.underlying32 rfl info_entry ?_)
      | (go_at_call 61; refine (HSS.out _ (HVT.out.below hb0.out (by decide)) (HVE.out.below hb0.out (by decide))).mono ?_; rintro e x1 ⟨rfl, hb1⟩; have e1 : Ext w x1 := hk0.out.tr hb1
         have hP1 := hPb.out.below hb1; have hE1 := hEb.out.below hb1; have hT1 := hTb.out.below hb1
         have hk2 : Ext w x1 := e1)
      | (refine wpList_load_rowG rfl 60 _ rfl w.heap.size rfl _ _ (0, 0) _ hP1 Tryz.underlying60 rfl (by rw [HPZ.out]; exact info_pub) ?_)
      | (refine wpList_load_rowG rfl 57 _ rfl (w.heap.size + 1 + 1) rfl _ _ (0, 0) _ hT1 Tryz.underlying57 rfl (by rw [HTZ.out]; exact info_stp) ?_)
      | (go_at_call 62; refine (HMM.out _).mono ?_; rintro e x2 ⟨rfl, hb2⟩; have e2 : Ext w x2 := e1.tr hb2
         have hk2 : Ext w x2 := e2
         have hsh2 : x2.cell? ⟨w.heap.size + 1 + 1, 3, none⟩ = some (.int .u64 SH) := (hb2.cell (World.block_lt_of_cell? _ _ ((hb1.cell (World.block_lt_of_cell? _ _ HSH.out)).trans HSH.out))).trans ((hb1.cell (World.block_lt_of_cell? _ _ HSH.out)).trans HSH.out)
         have heb2 : x2.cell? ⟨w.heap.size + 1, 1, none⟩ = some (.slice a1 BX.length c1) := (hb2.cell (World.block_lt_of_cell? _ _ ((hb1.cell (World.block_lt_of_cell? _ _ HEB.out)).trans HEB.out))).trans ((hb1.cell (World.block_lt_of_cell? _ _ HEB.out)).trans HEB.out))
      | (go_at_call 63; refine (HBB.out _ (HVE.out.below e2 (by decide))).mono ?_; rintro e x3 ⟨v3, rfl, hown3, hb3⟩; have hk2 : Ext w x3 := e2.tr hb3))
    go_ret
    exact ⟨by rw [HFF.out]; rfl, hk2⟩
end Go.Proofs.YtnmniblaefjekaaGreat
