/-
  What a user signs: both programs.
-/
import Derived.Test.YtbgnfioggmkdeaaGreatDoorSub
namespace Go.Proofs.YtbgnfioggmkdeaaGreatDoor
set_option linter.unusedVariables false
set_option linter.unusedSimpArgs false
open Go Go.RowKit
set_option maxRecDepth 100000 in
theorem bytes_any (k : List UInt8) (w : World) (h32 : k.length = 32) : Calls Tryz.prog 61 #[.agg (keyA k)] w (RetB k w) := by
  have hk0 := Lib.hid (Blk.new w (keyA k) 24)
  have hb0 := Lib.hid (show Below w.heap.size w (w.alloc (.cells (keyA k) 24)) by go_grown)
  have HK := Lib.hid h32; clear h32
  go_enter Tryz.func61, Tryz.ntmps61
  go_wp2_with (at_builtin; refine appB (W := w) rfl _ _ rfl (.slice none 0 0) [] rfl (ownB_nil _ _) _ k rfl (seesB_key hk0.out HK.out) (by rw [HK.out, List.length_nil]; decide) hb0.out ?_; intro v1 x1 hown1 hg1 hb1; rw [List.nil_append] at hown1)
  go_ret
  exact RetB.mk hown1 hb1
set_option maxRecDepth 100000 in
set_option maxHeartbeats 2000000 in
theorem Signed_any (s : Sub) (vb : Value) (round chain : Int) (w : World) (hs : s.ok) (hv : SeesB w vb s.e.box) (hl : s.e.box.length ≤ 70368744170000) :
    Calls Tryz.prog 171 #[.agg (subC s vb), .int .i64 round, .int .i64 chain] w (RetV (signedL s.e.x s.e.box round chain) w) := by
  obtain ⟨h32, ⟨x0, x1⟩, -, -⟩ := hs
  obtain ⟨a0, c0, rfl, -, -⟩ := sees_form hv
  have HE := Lib.hid (show signedL s.e.x s.e.box round chain = parts [onS, besL round, besL chain, put64 s.e.x.toNat, s.e.box] from rfl)
  have HFL : Hid ((flatP [onS, besL round, besL chain, put64 s.e.x.toNat, s.e.box]).length ≤ 70368744177000) := by
    show _ ≤ _
    simp only [flatP, List.flatMap_cons, List.flatMap_nil, List.length_append, length_put64, length_besL, List.length_nil]
    have : onS.length = 5 := rfl
    omega
  have hR := fun w' : World => Put64_any w' (.slice none 0 0) [] (u64of round) (Sees.nil _ _) (in64_u64of round).1 (in64_u64of round).2 (by simp)
  have hC := fun w' : World => Put64_any w' (.slice none 0 0) [] (u64of chain) (Sees.nil _ _) (in64_u64of chain).1 (in64_u64of chain).2 (by simp)
  have hBR : put64 (u64of round).toNat = besL round := rfl
  have hBC : put64 (u64of chain).toNat = besL chain := rfl
  rw [hBR] at hR
  rw [hBC] at hC
  unfold u64of at hR hC
  have HR := Lib.hid hR; have HC := Lib.hid hC
  clear hR hC hBR hBC
  have hk0 := Lib.hid (show Blk (w.alloc (.cells (subC s (.slice a0 s.e.box.length c0)) 50)) w.heap.size (subC s (.slice a0 s.e.box.length c0)) 50 from Blk.new _ _ _)
  have hb0 := Lib.hid (show Below w.heap.size w (w.alloc (.cells (subC s (.slice a0 s.e.box.length c0)) 50)) by go_grown)
  have HV := Lib.hid (hv.below hb0.out (by decide)); clear hv
  have hx := fun (u : World) (h : Blk u w.heap.size (subC s (.slice a0 s.e.box.length c0)) 50) => sub_x h h32
  have hbx := fun (u : World) (h : Blk u w.heap.size (subC s (.slice a0 s.e.box.length c0)) 50) => sub_box h h32
  generalize s.e.x = X at *
  generalize s.e.box = BX at *
  generalize subC s (.slice a0 BX.length c0) = SC at *
  have HX := Lib.hid hx; have HBX := Lib.hid hbx
  clear hx hbx h32
  have hstM : StabM (fun u => Blk u w.heap.size SC 50 ∧ SeesB u (.slice a0 BX.length c0) BX) := StabM.and (StabM.blk _ _ _ (by decide)) (StabM.sees _ _ _ _)
  have hst := hstM.stab
  go_enter Tryz.func171, Tryz.ntmps171
  go_wp2_with fail
  have hk : HoldT (fun u => Blk u w.heap.size SC 50 ∧ SeesB u (.slice a0 BX.length c0) BX) w _ := HoldT.drew hst ⟨⟨hk0.out, HV.out⟩, hb0.out⟩
  try change Code.wp _ _ _ (Act.mk _ _) _
  refine wp_region_runR ExtM 18 26 (HoldT (fun u => Blk u w.heap.size SC 50 ∧ SeesB u (.slice a0 BX.length c0) BX) _) [[], [(0, 8)], [], [(2, 10)], [(3, 11)], [], [(5, 13)], [(6, 14)], [], [(8, 16)], [(9, 17)], [(10, 18)], [], [(12, 20)], [(13, 21)], [(1, 9), (4, 12), (7, 15), (11, 19), (14, 22)], [(15, 23)], []] [(0, 8), (1, 9), (2, 10), (3, 11), (4, 12), (5, 13), (6, 14), (7, 15), (8, 16), (9, 17), (10, 18), (11, 19), (12, 20), (13, 21), (14, 22), (15, 23), (16, 24), (17, 7)] (by kernel_rfl) (by kernel_rfl) (by first | rfl | simp) (hk) ?_
  simp only [List.take_succ_cons, List.take_zero, List.drop_succ_cons, List.drop_zero]
  refine sp_op (Ph.lit w.heap.size onS) (fun u hu => by
    refine spArg_nil ?_
    have hcx := HX.out _ hu.has.1
    have hcb := HBX.out _ hu.has.1
    go_wp2_with (fail)
    exact ⟨rfl, HoldT.alloc hst hu _, (Ext.alloc _ _).m, slot_of rfl ⟨_, _, rfl, hu.up.size, Blk.new _ _ _⟩⟩) ?_
  refine sp_op (Ph.mB onS) (fun u hu => by
    refine spArg_in (φ := Ph.lit w.heap.size onS) 0 rfl rfl ?_; intro v0 h0
    obtain ⟨g0, fr0, rfl, hB0, hg0⟩ := h0
    refine spArg_nil ?_
    simp only [Act.put, List.setIfInBounds_toArray, List.set_cons_succ, List.set_cons_zero]
    have hcx := HX.out _ hu.has.1
    have hcb := HBX.out _ hu.has.1
    go_wp2_with ((refine wpList_mark rfl _ rfl g0 5 5 rfl _ _ hg0 ?_; intro u1 fr1 em hgm hbm))
    exact ⟨rfl, HoldT.stepM hstM hu em (hbm _ hB0), em, slot_of rfl (seesB_row hgm (by decide))⟩) ?_
  refine sp_op (Ph.eq _) (fun u hu => by
    refine spArg_nil ?_
    have hcx := HX.out _ hu.has.1
    have hcb := HBX.out _ hu.has.1
    go_wp2_with (fail)
    exact ⟨rfl, hu, ExtM.refl _, slot_eq rfl⟩) ?_
  refine sp_op (Ph.eq _) (fun u hu => by
    refine spArg_eq 0 rfl rfl ?_
    refine spArg_nil ?_
    simp only [Act.put, List.setIfInBounds_toArray, List.set_cons_succ, List.set_cons_zero]
    have hcx := HX.out _ hu.has.1
    have hcb := HBX.out _ hu.has.1
    go_wp2_with (fail)
    exact ⟨rfl, hu, ExtM.refl _, slot_eq rfl⟩) ?_
  refine sp_op (Ph.mB (besL round)) (fun u hu => by
    refine spArg_eq 0 rfl rfl ?_
    refine spArg_nil ?_
    simp only [Act.put, List.setIfInBounds_toArray, List.set_cons_succ, List.set_cons_zero]
    have hcx := HX.out _ hu.has.1
    have hcb := HBX.out _ hu.has.1
    go_wp2_with ((go_at_call 110; refine (HR.out _).mono ?_; rintro e x1 ⟨v1, rfl, hown1, hb1⟩; rw [List.nil_append] at hown1))
    exact ⟨rfl, HoldT.step hst hu hb1, Ext.m hb1, slot_of rfl (sees_of_owns hown1)⟩) ?_
  refine sp_op (Ph.eq _) (fun u hu => by
    refine spArg_nil ?_
    have hcx := HX.out _ hu.has.1
    have hcb := HBX.out _ hu.has.1
    go_wp2_with (fail)
    exact ⟨rfl, hu, ExtM.refl _, slot_eq rfl⟩) ?_
  refine sp_op (Ph.eq _) (fun u hu => by
    refine spArg_eq 0 rfl rfl ?_
    refine spArg_nil ?_
    simp only [Act.put, List.setIfInBounds_toArray, List.set_cons_succ, List.set_cons_zero]
    have hcx := HX.out _ hu.has.1
    have hcb := HBX.out _ hu.has.1
    go_wp2_with (fail)
    exact ⟨rfl, hu, ExtM.refl _, slot_eq rfl⟩) ?_
  refine sp_op (Ph.mB (besL chain)) (fun u hu => by
    refine spArg_eq 0 rfl rfl ?_
    refine spArg_nil ?_
    simp only [Act.put, List.setIfInBounds_toArray, List.set_cons_succ, List.set_cons_zero]
    have hcx := HX.out _ hu.has.1
    have hcb := HBX.out _ hu.has.1
    go_wp2_with ((go_at_call 110; refine (HC.out _).mono ?_; rintro e x1 ⟨v1, rfl, hown1, hb1⟩; rw [List.nil_append] at hown1))
    exact ⟨rfl, HoldT.step hst hu hb1, Ext.m hb1, slot_of rfl (sees_of_owns hown1)⟩) ?_
  refine sp_op (Ph.eq _) (fun u hu => by
    refine spArg_nil ?_
    have hcx := HX.out _ hu.has.1
    have hcb := HBX.out _ hu.has.1
    go_wp2_with (fail)
    exact ⟨rfl, hu, ExtM.refl _, slot_eq rfl⟩) ?_
  refine sp_op (Ph.eq _) (fun u hu => by
    refine spArg_eq 0 rfl rfl ?_
    refine spArg_nil ?_
    simp only [Act.put, List.setIfInBounds_toArray, List.set_cons_succ, List.set_cons_zero]
    have hcx := HX.out _ hu.has.1
    have hcb := HBX.out _ hu.has.1
    go_wp2_with (fail)
    exact ⟨rfl, hu, ExtM.refl _, slot_eq rfl⟩) ?_
  refine sp_op (Ph.eq _) (fun u hu => by
    refine spArg_eq 0 rfl rfl ?_
    refine spArg_nil ?_
    simp only [Act.put, List.setIfInBounds_toArray, List.set_cons_succ, List.set_cons_zero]
    have hcx := HX.out _ hu.has.1
    have hcb := HBX.out _ hu.has.1
    go_wp2_with (fail)
    exact ⟨rfl, hu, ExtM.refl _, slot_eq rfl⟩) ?_
  refine sp_op (Ph.mB (put64 X.toNat)) (fun u hu => by
    refine spArg_eq 0 rfl rfl ?_
    refine spArg_nil ?_
    simp only [Act.put, List.setIfInBounds_toArray, List.set_cons_succ, List.set_cons_zero]
    have hcx := HX.out _ hu.has.1
    have hcb := HBX.out _ hu.has.1
    go_wp2_with ((go_at_call 69; refine (Bytes_any X _ x0 x1).mono ?_; rintro e x1 ⟨v1, rfl, hown1, hb1⟩))
    exact ⟨rfl, HoldT.step hst hu hb1, Ext.m hb1, slot_of rfl (sees_of_owns hown1)⟩) ?_
  refine sp_op (Ph.eq _) (fun u hu => by
    refine spArg_nil ?_
    have hcx := HX.out _ hu.has.1
    have hcb := HBX.out _ hu.has.1
    go_wp2_with (fail)
    exact ⟨rfl, hu, ExtM.refl _, slot_eq rfl⟩) ?_
  refine sp_op (Ph.eq _) (fun u hu => by
    refine spArg_eq 0 rfl rfl ?_
    refine spArg_nil ?_
    simp only [Act.put, List.setIfInBounds_toArray, List.set_cons_succ, List.set_cons_zero]
    have hcx := HX.out _ hu.has.1
    have hcb := HBX.out _ hu.has.1
    go_wp2_with (fail)
    exact ⟨rfl, hu, ExtM.refl _, slot_eq rfl⟩) ?_
  refine sp_op (Ph.eq _) (fun u hu => by
    refine spArg_eq 0 rfl rfl ?_
    refine spArg_nil ?_
    simp only [Act.put, List.setIfInBounds_toArray, List.set_cons_succ, List.set_cons_zero]
    have hcx := HX.out _ hu.has.1
    have hcb := HBX.out _ hu.has.1
    go_wp2_with (fail)
    exact ⟨rfl, hu, ExtM.refl _, slot_eq rfl⟩) ?_
  refine sp_op (Ph.mBB [onS, besL round, besL chain, put64 X.toNat, BX]) (fun u hu => by
    refine spArg_in (φ := Ph.mB onS) 13 rfl rfl ?_; intro v1 h1
    obtain ⟨a1, c1, rfl, -, -⟩ := sees_form h1
    refine spArg_in (φ := Ph.mB (besL round)) 10 rfl rfl ?_; intro v4 h4
    obtain ⟨a4, c4, rfl, -, -⟩ := sees_form h4
    refine spArg_in (φ := Ph.mB (besL chain)) 7 rfl rfl ?_; intro v7 h7
    obtain ⟨a7, c7, rfl, -, -⟩ := sees_form h7
    refine spArg_in (φ := Ph.mB (put64 X.toNat)) 3 rfl rfl ?_; intro v11 h11
    obtain ⟨a11, c11, rfl, -, -⟩ := sees_form h11
    refine spArg_eq 0 rfl rfl ?_
    refine spArg_nil ?_
    simp only [Act.put, List.setIfInBounds_toArray, List.set_cons_succ, List.set_cons_zero]
    have hcx := HX.out _ hu.has.1
    have hcb := HBX.out _ hu.has.1
    go_wp2_with (fail)
    exact ⟨rfl, HoldT.alloc hst hu _, (Ext.alloc _ _).m, slot_of rfl (seesBB_5 _ h1 h4 h7 h11 hu.has.2)⟩) ?_
  refine sp_op (Ph.eq (.agg (keyA (parts [onS, besL round, besL chain, put64 X.toNat, BX])))) (fun u hu => by
    refine spArg_in (φ := Ph.mBB [onS, besL round, besL chain, put64 X.toNat, BX]) 0 rfl rfl ?_; intro v15 h15
    refine spArg_nil ?_
    simp only [Act.put, List.setIfInBounds_toArray, List.set_cons_succ, List.set_cons_zero]
    have hcx := HX.out _ hu.has.1
    have hcb := HBX.out _ hu.has.1
    go_wp2_with ((go_at_call 157; refine (Parts_any _ _ _ h15 HFL.out).mono ?_; rintro e x1 ⟨rfl, hb1⟩))
    exact ⟨rfl, HoldT.step hst hu hb1, Ext.m hb1, slot_eq rfl⟩) ?_
  refine sp_op (Ph.mblk w.heap.size (keyA (List.replicate 32 0)) 24 (by decide)) (fun u hu => by
    refine spArg_nil ?_
    have hcx := HX.out _ hu.has.1
    have hcb := HBX.out _ hu.has.1
    go_wp2_with ((refine wpList_allocB rfl _ rfl _ run_allocKey ?_; intro x6 B hh hB e6))
    exact ⟨rfl, HoldT.step hst hu e6, e6.m, slot_of rfl ⟨B, rfl, Nat.le_trans hu.up.size hB, hh⟩⟩) ?_
  refine sp_end ?_
  intro u hu
  refine spArg_in (φ := Ph.lit w.heap.size onS) 17 rfl rfl ?_; intro v0 h0
  obtain ⟨g0, fr0, rfl, hB0, hg0⟩ := h0
  refine spArg_in (φ := Ph.mB onS) 16 rfl rfl ?_; intro v1 h1
  obtain ⟨a1, c1, rfl, -, -⟩ := sees_form h1
  refine spArg_eq 15 rfl rfl ?_
  refine spArg_eq 14 rfl rfl ?_
  refine spArg_in (φ := Ph.mB (besL round)) 13 rfl rfl ?_; intro v4 h4
  obtain ⟨a4, c4, rfl, -, -⟩ := sees_form h4
  refine spArg_eq 12 rfl rfl ?_
  refine spArg_eq 11 rfl rfl ?_
  refine spArg_in (φ := Ph.mB (besL chain)) 10 rfl rfl ?_; intro v7 h7
  obtain ⟨a7, c7, rfl, -, -⟩ := sees_form h7
  refine spArg_eq 9 rfl rfl ?_
  refine spArg_eq 8 rfl rfl ?_
  refine spArg_eq 7 rfl rfl ?_
  refine spArg_in (φ := Ph.mB (put64 X.toNat)) 6 rfl rfl ?_; intro v11 h11
  obtain ⟨a11, c11, rfl, -, -⟩ := sees_form h11
  refine spArg_eq 5 rfl rfl ?_
  refine spArg_eq 4 rfl rfl ?_
  refine spArg_eq 3 rfl rfl ?_
  refine spArg_in (φ := Ph.mBB [onS, besL round, besL chain, put64 X.toNat, BX]) 2 rfl rfl ?_; intro v15 h15
  refine spArg_eq 1 rfl rfl ?_
  refine spArg_in (φ := Ph.mblk w.heap.size (keyA (List.replicate 32 0)) 24 (by decide)) 0 rfl rfl ?_; intro v17 h17
  obtain ⟨g17, rfl, hB17, hg17⟩ := h17
  refine spArg_nil ?_
  simp only [Act.put, List.setIfInBounds_toArray, List.set_cons_succ, List.set_cons_zero]
  go_wp2_with (first
    | (refine wpList_store_row rfl 24 _ _ rfl g17 (keyA (parts [onS, besL round, besL chain, put64 X.toNat, BX])) _ _ rfl rfl hg17 (by rw [keyA_size, keyA_size, length_parts]; rfl) (by rw [keyA_size, length_parts]; exact info_key) (keyA_one _) ?_; intro x7 hg7 hs7 hR7
       have hup7 : Below w.heap.size w x7 := hu.up.grown hg7 hu.up.size (fun k hk => by cases hk; exact hB17)
       have hsee := seesB_key hR7 (length_parts _)
       clear hg7 hs7))
  go_ret
  exact ⟨_, rfl, by rw [HE.out]; exact hsee, hup7⟩
set_option maxRecDepth 100000 in
set_option maxHeartbeats 2000000 in
theorem Signedr_any (s : Sub) (vb : Value) (round chain : Int) (w : World) (hs : s.ok) (hv : SeesB w vb s.e.box) (hl : s.e.box.length ≤ 70368744170000) :
    Calls Tryz.prog 144 #[.agg (subC s vb), .int .i64 round, .int .i64 chain] w (RetV (signedL s.e.x s.e.box round chain) w) := by
  obtain ⟨h32, ⟨x0, x1⟩, -, -⟩ := hs
  obtain ⟨a0, c0, rfl, -, -⟩ := sees_form hv
  have HE := Lib.hid (show signedL s.e.x s.e.box round chain = parts [onS, besL round, besL chain, put64 s.e.x.toNat, s.e.box] from rfl)
  have HFL : Hid ((flatP [onS, besL round, besL chain, put64 s.e.x.toNat, s.e.box]).length ≤ 70368744177000) := by
    show _ ≤ _
    simp only [flatP, List.flatMap_cons, List.flatMap_nil, List.length_append, length_put64, length_besL, List.length_nil]
    have : onS.length = 5 := rfl
    omega
  have hR := fun w' : World => Put64r_any w' (.slice none 0 0) [] (u64of round) (Sees.nil _ _) (in64_u64of round).1 (in64_u64of round).2 (by simp)
  have hC := fun w' : World => Put64r_any w' (.slice none 0 0) [] (u64of chain) (Sees.nil _ _) (in64_u64of chain).1 (in64_u64of chain).2 (by simp)
  have hBR : put64 (u64of round).toNat = besL round := rfl
  have hBC : put64 (u64of chain).toNat = besL chain := rfl
  rw [hBR] at hR
  rw [hBC] at hC
  unfold u64of at hR hC
  have HR := Lib.hid hR; have HC := Lib.hid hC
  clear hR hC hBR hBC
  have hk0 := Lib.hid (show Blk (w.alloc (.cells (subC s (.slice a0 s.e.box.length c0)) 50)) w.heap.size (subC s (.slice a0 s.e.box.length c0)) 50 from Blk.new _ _ _)
  have hb0 := Lib.hid (show Below w.heap.size w (w.alloc (.cells (subC s (.slice a0 s.e.box.length c0)) 50)) by go_grown)
  have HV := Lib.hid (hv.below hb0.out (by decide)); clear hv
  have hx := fun (u : World) (h : Blk u w.heap.size (subC s (.slice a0 s.e.box.length c0)) 50) => sub_x h h32
  have hbx := fun (u : World) (h : Blk u w.heap.size (subC s (.slice a0 s.e.box.length c0)) 50) => sub_box h h32
  generalize s.e.x = X at *
  generalize s.e.box = BX at *
  generalize subC s (.slice a0 BX.length c0) = SC at *
  have HX := Lib.hid hx; have HBX := Lib.hid hbx
  clear hx hbx h32
  have hstM : StabM (fun u => Blk u w.heap.size SC 50 ∧ SeesB u (.slice a0 BX.length c0) BX) := StabM.and (StabM.blk _ _ _ (by decide)) (StabM.sees _ _ _ _)
  have hst := hstM.stab
  go_enter Tryz.func144, Tryz.ntmps144
  go_wp2_with fail
  have hk : HoldT (fun u => Blk u w.heap.size SC 50 ∧ SeesB u (.slice a0 BX.length c0) BX) w _ := HoldT.drew hst ⟨⟨hk0.out, HV.out⟩, hb0.out⟩
  try change Code.wp _ _ _ (Act.mk _ _) _
  refine wp_region_runR ExtM 18 27 (HoldT (fun u => Blk u w.heap.size SC 50 ∧ SeesB u (.slice a0 BX.length c0) BX) _) [[], [(0, 8)], [], [(2, 10)], [(3, 11)], [], [(5, 13)], [(6, 14)], [], [(8, 16)], [(9, 17)], [(10, 18)], [], [(12, 20)], [(13, 21)], [(1, 9), (4, 12), (7, 15), (11, 19), (14, 22)], [(15, 23)], []] [(0, 8), (1, 9), (2, 10), (3, 11), (4, 12), (5, 13), (6, 14), (7, 15), (8, 16), (9, 17), (10, 18), (11, 19), (12, 20), (13, 21), (14, 22), (15, 23), (16, 24), (17, 7)] (by kernel_rfl) (by kernel_rfl) (by first | rfl | simp) (hk) ?_
  simp only [List.take_succ_cons, List.take_zero, List.drop_succ_cons, List.drop_zero]
  refine sp_op (Ph.lit w.heap.size onS) (fun u hu => by
    refine spArg_nil ?_
    have hcx := HX.out _ hu.has.1
    have hcb := HBX.out _ hu.has.1
    go_wp2_with (fail)
    exact ⟨rfl, HoldT.alloc hst hu _, (Ext.alloc _ _).m, slot_of rfl ⟨_, _, rfl, hu.up.size, Blk.new _ _ _⟩⟩) ?_
  refine sp_op (Ph.mB onS) (fun u hu => by
    refine spArg_in (φ := Ph.lit w.heap.size onS) 0 rfl rfl ?_; intro v0 h0
    obtain ⟨g0, fr0, rfl, hB0, hg0⟩ := h0
    refine spArg_nil ?_
    simp only [Act.put, List.setIfInBounds_toArray, List.set_cons_succ, List.set_cons_zero]
    have hcx := HX.out _ hu.has.1
    have hcb := HBX.out _ hu.has.1
    go_wp2_with ((refine wpList_mark rfl _ rfl g0 5 5 rfl _ _ hg0 ?_; intro u1 fr1 em hgm hbm))
    exact ⟨rfl, HoldT.stepM hstM hu em (hbm _ hB0), em, slot_of rfl (seesB_row hgm (by decide))⟩) ?_
  refine sp_op (Ph.eq _) (fun u hu => by
    refine spArg_nil ?_
    have hcx := HX.out _ hu.has.1
    have hcb := HBX.out _ hu.has.1
    go_wp2_with (fail)
    exact ⟨rfl, hu, ExtM.refl _, slot_eq rfl⟩) ?_
  refine sp_op (Ph.eq _) (fun u hu => by
    refine spArg_eq 0 rfl rfl ?_
    refine spArg_nil ?_
    simp only [Act.put, List.setIfInBounds_toArray, List.set_cons_succ, List.set_cons_zero]
    have hcx := HX.out _ hu.has.1
    have hcb := HBX.out _ hu.has.1
    go_wp2_with (fail)
    exact ⟨rfl, hu, ExtM.refl _, slot_eq rfl⟩) ?_
  refine sp_op (Ph.mB (besL round)) (fun u hu => by
    refine spArg_eq 0 rfl rfl ?_
    refine spArg_nil ?_
    simp only [Act.put, List.setIfInBounds_toArray, List.set_cons_succ, List.set_cons_zero]
    have hcx := HX.out _ hu.has.1
    have hcb := HBX.out _ hu.has.1
    go_wp2_with ((go_at_call 91; refine (HR.out _).mono ?_; rintro e x1 ⟨v1, rfl, hown1, hb1⟩; rw [List.nil_append] at hown1))
    exact ⟨rfl, HoldT.step hst hu hb1, Ext.m hb1, slot_of rfl (sees_of_owns hown1)⟩) ?_
  refine sp_op (Ph.eq _) (fun u hu => by
    refine spArg_nil ?_
    have hcx := HX.out _ hu.has.1
    have hcb := HBX.out _ hu.has.1
    go_wp2_with (fail)
    exact ⟨rfl, hu, ExtM.refl _, slot_eq rfl⟩) ?_
  refine sp_op (Ph.eq _) (fun u hu => by
    refine spArg_eq 0 rfl rfl ?_
    refine spArg_nil ?_
    simp only [Act.put, List.setIfInBounds_toArray, List.set_cons_succ, List.set_cons_zero]
    have hcx := HX.out _ hu.has.1
    have hcb := HBX.out _ hu.has.1
    go_wp2_with (fail)
    exact ⟨rfl, hu, ExtM.refl _, slot_eq rfl⟩) ?_
  refine sp_op (Ph.mB (besL chain)) (fun u hu => by
    refine spArg_eq 0 rfl rfl ?_
    refine spArg_nil ?_
    simp only [Act.put, List.setIfInBounds_toArray, List.set_cons_succ, List.set_cons_zero]
    have hcx := HX.out _ hu.has.1
    have hcb := HBX.out _ hu.has.1
    go_wp2_with ((go_at_call 91; refine (HC.out _).mono ?_; rintro e x1 ⟨v1, rfl, hown1, hb1⟩; rw [List.nil_append] at hown1))
    exact ⟨rfl, HoldT.step hst hu hb1, Ext.m hb1, slot_of rfl (sees_of_owns hown1)⟩) ?_
  refine sp_op (Ph.eq _) (fun u hu => by
    refine spArg_nil ?_
    have hcx := HX.out _ hu.has.1
    have hcb := HBX.out _ hu.has.1
    go_wp2_with (fail)
    exact ⟨rfl, hu, ExtM.refl _, slot_eq rfl⟩) ?_
  refine sp_op (Ph.eq _) (fun u hu => by
    refine spArg_eq 0 rfl rfl ?_
    refine spArg_nil ?_
    simp only [Act.put, List.setIfInBounds_toArray, List.set_cons_succ, List.set_cons_zero]
    have hcx := HX.out _ hu.has.1
    have hcb := HBX.out _ hu.has.1
    go_wp2_with (fail)
    exact ⟨rfl, hu, ExtM.refl _, slot_eq rfl⟩) ?_
  refine sp_op (Ph.eq _) (fun u hu => by
    refine spArg_eq 0 rfl rfl ?_
    refine spArg_nil ?_
    simp only [Act.put, List.setIfInBounds_toArray, List.set_cons_succ, List.set_cons_zero]
    have hcx := HX.out _ hu.has.1
    have hcb := HBX.out _ hu.has.1
    go_wp2_with (fail)
    exact ⟨rfl, hu, ExtM.refl _, slot_eq rfl⟩) ?_
  refine sp_op (Ph.mB (put64 X.toNat)) (fun u hu => by
    refine spArg_eq 0 rfl rfl ?_
    refine spArg_nil ?_
    simp only [Act.put, List.setIfInBounds_toArray, List.set_cons_succ, List.set_cons_zero]
    have hcx := HX.out _ hu.has.1
    have hcb := HBX.out _ hu.has.1
    go_wp2_with ((go_at_call 83; refine (Bytesr_any X _ x0 x1).mono ?_; rintro e x1 ⟨v1, rfl, hown1, hb1⟩))
    exact ⟨rfl, HoldT.step hst hu hb1, Ext.m hb1, slot_of rfl (sees_of_owns hown1)⟩) ?_
  refine sp_op (Ph.eq _) (fun u hu => by
    refine spArg_nil ?_
    have hcx := HX.out _ hu.has.1
    have hcb := HBX.out _ hu.has.1
    go_wp2_with (fail)
    exact ⟨rfl, hu, ExtM.refl _, slot_eq rfl⟩) ?_
  refine sp_op (Ph.eq _) (fun u hu => by
    refine spArg_eq 0 rfl rfl ?_
    refine spArg_nil ?_
    simp only [Act.put, List.setIfInBounds_toArray, List.set_cons_succ, List.set_cons_zero]
    have hcx := HX.out _ hu.has.1
    have hcb := HBX.out _ hu.has.1
    go_wp2_with (fail)
    exact ⟨rfl, hu, ExtM.refl _, slot_eq rfl⟩) ?_
  refine sp_op (Ph.eq _) (fun u hu => by
    refine spArg_eq 0 rfl rfl ?_
    refine spArg_nil ?_
    simp only [Act.put, List.setIfInBounds_toArray, List.set_cons_succ, List.set_cons_zero]
    have hcx := HX.out _ hu.has.1
    have hcb := HBX.out _ hu.has.1
    go_wp2_with (fail)
    exact ⟨rfl, hu, ExtM.refl _, slot_eq rfl⟩) ?_
  refine sp_op (Ph.mBB [onS, besL round, besL chain, put64 X.toNat, BX]) (fun u hu => by
    refine spArg_in (φ := Ph.mB onS) 13 rfl rfl ?_; intro v1 h1
    obtain ⟨a1, c1, rfl, -, -⟩ := sees_form h1
    refine spArg_in (φ := Ph.mB (besL round)) 10 rfl rfl ?_; intro v4 h4
    obtain ⟨a4, c4, rfl, -, -⟩ := sees_form h4
    refine spArg_in (φ := Ph.mB (besL chain)) 7 rfl rfl ?_; intro v7 h7
    obtain ⟨a7, c7, rfl, -, -⟩ := sees_form h7
    refine spArg_in (φ := Ph.mB (put64 X.toNat)) 3 rfl rfl ?_; intro v11 h11
    obtain ⟨a11, c11, rfl, -, -⟩ := sees_form h11
    refine spArg_eq 0 rfl rfl ?_
    refine spArg_nil ?_
    simp only [Act.put, List.setIfInBounds_toArray, List.set_cons_succ, List.set_cons_zero]
    have hcx := HX.out _ hu.has.1
    have hcb := HBX.out _ hu.has.1
    go_wp2_with (fail)
    exact ⟨rfl, HoldT.alloc hst hu _, (Ext.alloc _ _).m, slot_of rfl (seesBB_5 _ h1 h4 h7 h11 hu.has.2)⟩) ?_
  refine sp_op (Ph.eq (.agg (keyA (parts [onS, besL round, besL chain, put64 X.toNat, BX])))) (fun u hu => by
    refine spArg_in (φ := Ph.mBB [onS, besL round, besL chain, put64 X.toNat, BX]) 0 rfl rfl ?_; intro v15 h15
    refine spArg_nil ?_
    simp only [Act.put, List.setIfInBounds_toArray, List.set_cons_succ, List.set_cons_zero]
    have hcx := HX.out _ hu.has.1
    have hcb := HBX.out _ hu.has.1
    go_wp2_with ((go_at_call 102; refine (Partsr_any _ _ _ h15 HFL.out).mono ?_; rintro e x1 ⟨rfl, hb1⟩))
    exact ⟨rfl, HoldT.step hst hu hb1, Ext.m hb1, slot_eq rfl⟩) ?_
  refine sp_op (Ph.mblk w.heap.size (keyA (List.replicate 32 0)) 24 (by decide)) (fun u hu => by
    refine spArg_nil ?_
    have hcx := HX.out _ hu.has.1
    have hcb := HBX.out _ hu.has.1
    go_wp2_with ((refine wpList_allocB rfl _ rfl _ run_allocKey ?_; intro x6 B hh hB e6))
    exact ⟨rfl, HoldT.step hst hu e6, e6.m, slot_of rfl ⟨B, rfl, Nat.le_trans hu.up.size hB, hh⟩⟩) ?_
  refine sp_end ?_
  intro u hu
  refine spArg_in (φ := Ph.lit w.heap.size onS) 17 rfl rfl ?_; intro v0 h0
  obtain ⟨g0, fr0, rfl, hB0, hg0⟩ := h0
  refine spArg_in (φ := Ph.mB onS) 16 rfl rfl ?_; intro v1 h1
  obtain ⟨a1, c1, rfl, -, -⟩ := sees_form h1
  refine spArg_eq 15 rfl rfl ?_
  refine spArg_eq 14 rfl rfl ?_
  refine spArg_in (φ := Ph.mB (besL round)) 13 rfl rfl ?_; intro v4 h4
  obtain ⟨a4, c4, rfl, -, -⟩ := sees_form h4
  refine spArg_eq 12 rfl rfl ?_
  refine spArg_eq 11 rfl rfl ?_
  refine spArg_in (φ := Ph.mB (besL chain)) 10 rfl rfl ?_; intro v7 h7
  obtain ⟨a7, c7, rfl, -, -⟩ := sees_form h7
  refine spArg_eq 9 rfl rfl ?_
  refine spArg_eq 8 rfl rfl ?_
  refine spArg_eq 7 rfl rfl ?_
  refine spArg_in (φ := Ph.mB (put64 X.toNat)) 6 rfl rfl ?_; intro v11 h11
  obtain ⟨a11, c11, rfl, -, -⟩ := sees_form h11
  refine spArg_eq 5 rfl rfl ?_
  refine spArg_eq 4 rfl rfl ?_
  refine spArg_eq 3 rfl rfl ?_
  refine spArg_in (φ := Ph.mBB [onS, besL round, besL chain, put64 X.toNat, BX]) 2 rfl rfl ?_; intro v15 h15
  refine spArg_eq 1 rfl rfl ?_
  refine spArg_in (φ := Ph.mblk w.heap.size (keyA (List.replicate 32 0)) 24 (by decide)) 0 rfl rfl ?_; intro v17 h17
  obtain ⟨g17, rfl, hB17, hg17⟩ := h17
  refine spArg_nil ?_
  simp only [Act.put, List.setIfInBounds_toArray, List.set_cons_succ, List.set_cons_zero]
  go_wp2_with (first
    | (refine wpList_store_row rfl 24 _ _ rfl g17 (keyA (parts [onS, besL round, besL chain, put64 X.toNat, BX])) _ _ rfl rfl hg17 (by rw [keyA_size, keyA_size, length_parts]; rfl) (by rw [keyA_size, length_parts]; exact info_key) (keyA_one _) ?_; intro x7 hg7 hs7 hR7
       have hup7 : Below w.heap.size w x7 := hu.up.grown hg7 hu.up.size (fun k hk => by cases hk; exact hB17)
       have hsee := seesB_key hR7 (length_parts _)
       clear hg7 hs7)
    | (refine wpList_load_row rfl 24 _ rfl g17 rfl _ _ (0, 0) _ hR7 under_key rfl (by rw [keyA_size, length_parts]; exact info_key) ?_)
    | (go_at_call 61; refine (bytes_any _ _ (length_parts _)).mono ?_; rintro e x8 ⟨v8, rfl, hown8, hb8⟩))
  go_ret
  exact ⟨_, rfl, by rw [HE.out]; exact sees_of_owns hown8, hup7.trans (hb8.mono hup7.size)⟩
end Go.Proofs.YtbgnfioggmkdeaaGreatDoor
