/-
  Submissions checked: both programs.
-/
import Derived.Test.YtnmniblaefjekaaGreatSub2
namespace Go.Proofs.YtnmniblaefjekaaGreat
set_option linter.unusedVariables false
set_option linter.unusedSimpArgs false
open Go Go.RowKit
set_option maxRecDepth 100000 in
set_option maxHeartbeats 4000000 in
theorem CheckO_any (s : Sub) (vb : Value) (pub round chain size : Int) (w : World) (hs : s.ok) (hp : in64 pub) (hv : SeesB w vb s.e.box) (hl : s.e.box.length ≤ 70368744170000) :
    Calls Tryz.prog 17 #[.agg (subC s vb), .int .u64 pub, .int .i64 round, .int .i64 chain, .int .i64 size] w fun e w' => e = .returned (.int .i64 (checkO s pub round chain size)) ∧ Below w.heap.size w w' := by
  have hso := hs
  obtain ⟨h32, hx, hpp, hgg⟩ := hs
  obtain ⟨a0, c0, rfl, -, -⟩ := sees_form hv
  have hk0 := Lib.hid (show Blk (w.alloc (.cells (subC s (.slice a0 s.e.box.length c0)) 36)) w.heap.size (subC s (.slice a0 s.e.box.length c0)) 36 from Blk.new _ _ _)
  have hb0 := Lib.hid (show Below w.heap.size w (w.alloc (.cells (subC s (.slice a0 s.e.box.length c0)) 36)) by go_grown)
  have HV := Lib.hid (hv.below hb0.out (by decide)); clear hv
  have HX := Lib.hid fun (u : World) (h : Blk u w.heap.size (subC s (.slice a0 s.e.box.length c0)) 36) => sub_x h h32
  have HBX := Lib.hid fun (u : World) (h : Blk u w.heap.size (subC s (.slice a0 s.e.box.length c0)) 36) => sub_box h h32
  have HU := Lib.hid fun (u : World) (h : Blk u w.heap.size (subC s (.slice a0 s.e.box.length c0)) 36) => sub_user h
  have HPP := Lib.hid fun (u : World) (h : Blk u w.heap.size (subC s (.slice a0 s.e.box.length c0)) 36) => sub_p h h32
  have HGG := Lib.hid fun (u : World) (h : Blk u w.heap.size (subC s (.slice a0 s.e.box.length c0)) 36) => sub_g h h32
  have HCK := fun w' : World => CheckKnow_any 37 s.e.x s.p.c s.p.s w' ⟨by decide, by decide⟩ hx hpp.1 hpp.2
  have HSG := Lib.hid fun (w' : World) (h : SeesB w' (.slice a0 s.e.box.length c0) s.e.box) => Signed_any s (.slice a0 s.e.box.length c0) round chain w' hso h hl
  have HSC := fun (w' : World) (v : Value) (h : SeesB w' v (signedL s.e.x s.e.box round chain)) => SCheck_any pub s.g.c s.g.s (signedL s.e.x s.e.box round chain) v w' hp hgg.1 hgg.2 h (by rw [length_signedL]; decide)
  have HNM := Lib.hid fun (w' : World) => Name_any pub w' hp
  have HRI := fun (w' : World) => Right_any s.e.x w' hx.1 hx.2
  have HSZ := Lib.hid (subC_size s (.slice a0 s.e.box.length c0) h32)
  have hneq := fun w' : World => run_neqKey s.user (nameL pub) h32 (length_nameL _) w'
  have HUL := Lib.hid (show (s.user.map BV).length = 32 by rw [List.length_map, h32])
  have hCO : checkO s pub round chain size = if s.user = nameL pub then if (s.e.box.length : Int) = size ∧ okP s.e.x then if knowOk 37 s.e.x s.p.c s.p.s ∧ signOk pub (signedL s.e.x s.e.box round chain) s.g.c s.g.s then 0 else 10 else 1 else 6 := rfl
  clear hso hx hpp hgg h32
  generalize checkO s pub round chain size = CO at *
  generalize signedL s.e.x s.e.box round chain = SL at *
  generalize s.e.x = X at *
  generalize s.e.box = BX at *
  generalize s.p.c = pc at *
  generalize s.p.s = ps at *
  generalize s.g.c = gc at *
  generalize s.g.s = gs at *
  generalize s.user = U at *
  generalize nameL pub = NM at *
  generalize subC s (.slice a0 BX.length c0) = SC at *
  have hst : Stab (fun u => Blk u w.heap.size SC 36 ∧ SeesB u (.slice a0 BX.length c0) BX) := Stab.and (Stab.blk _ _ _) (Stab.sees _ _ _ _ (by decide))
  by_cases hn : U = NM
  · rw [if_pos hn] at hCO
    have hnb : (!(U == NM)) = false := by rw [hn]; simp
    clear hn
    by_cases hsz : (BX.length : Int) = size
    · by_cases hok : okP X
      · rw [if_pos ⟨hsz, hok⟩] at hCO
        rw [decide_eq_true hok] at HRI
        have hne : ((BX.length : Int) != size) = false := by rw [hsz]; simp
        clear hsz hok
        by_cases hkn : knowOk 37 X pc ps
        · rw [decide_eq_true hkn] at HCK
          by_cases hsg : signOk pub SL gc gs
          · rw [if_pos ⟨hkn, hsg⟩] at hCO
            simp only [decide_eq_true hsg] at HSC
            clear hkn hsg
            rw [hnb] at hneq
            have HNEQ := Lib.hid hneq
            have HCO := Lib.hid hCO; have HCKK := Lib.hid HCK; have HRR := Lib.hid HRI; have HSCC := Lib.hid HSC
            clear hneq hnb hCO HCK HRI HSC
            go_enter Tryz.func17, Tryz.ntmps17
            go_wp2_with fail
            have hk : HoldT (fun u => Blk u w.heap.size SC 36 ∧ SeesB u (.slice a0 BX.length c0) BX) w _ := HoldT.drew hst ⟨⟨hk0.out, HV.out⟩, hb0.out⟩
            try change Code.wp _ _ _ (Act.mk _ _) _
            refine wp_region_runR Ext 6 50 (HoldT (fun u => Blk u w.heap.size SC 36 ∧ SeesB u (.slice a0 BX.length c0) BX) _) [[], [(0, 12)], [], [(2, 14)], [(1, 13), (3, 15)], [(4, 16)]] [(0, 12), (1, 13), (2, 14), (3, 15), (4, 16), (5, 11)] (by kernel_rfl) (by kernel_rfl) (by first | rfl | simp) (hk) ?_
            simp only [List.take_succ_cons, List.take_zero, List.drop_succ_cons, List.drop_zero]
            refine sp_op (Ph.eq _) (fun u hu => by
              refine spArg_nil ?_
              go_wp2_with (fail)
              exact ⟨rfl, hu, Ext.refl _, slot_eq rfl⟩) ?_
            refine sp_op (Ph.eq (.agg (keyA U))) (fun u hu => by
              refine spArg_eq 0 rfl rfl ?_
              refine spArg_nil ?_
              simp only [Act.put, List.setIfInBounds_toArray, List.set_cons_succ, List.set_cons_zero]
              go_wp2_with ((refine wpList_load_mid rfl 23 _ rfl w.heap.size 0 rfl (U.map BV) _ (HU.out _ hu.has.1) under_key rfl (by rw [HUL.out]; exact info_key) ?_))
              exact ⟨rfl, hu, Ext.refl _, slot_eq rfl⟩) ?_
            refine sp_op (Ph.eq _) (fun u hu => by
              refine spArg_nil ?_
              go_wp2_with (fail)
              exact ⟨rfl, hu, Ext.refl _, slot_eq rfl⟩) ?_
            refine sp_op (Ph.eq (.agg (keyA NM))) (fun u hu => by
              refine spArg_eq 0 rfl rfl ?_
              refine spArg_nil ?_
              simp only [Act.put, List.setIfInBounds_toArray, List.set_cons_succ, List.set_cons_zero]
              go_wp2_with ((go_at_call 44; refine (HNM.out _).mono ?_; rintro e x1 ⟨rfl, hb1⟩))
              exact ⟨rfl, HoldT.step hst hu hb1, hb1, slot_eq rfl⟩) ?_
            refine sp_op (Ph.eq _) (fun u hu => by
              refine spArg_eq 2 rfl rfl ?_
              refine spArg_eq 0 rfl rfl ?_
              refine spArg_nil ?_
              simp only [Act.put, List.setIfInBounds_toArray, List.set_cons_succ, List.set_cons_zero]
              go_wp2_with ((refine wpList_cmp rfl 23 _ _ rfl _ _ _ rfl rfl guard_key HNEQ.out ?_))
              exact ⟨rfl, hu, Ext.refl _, slot_eq rfl⟩) ?_
            refine sp_op (Ph.eq _) (fun u hu => by
              refine spArg_eq 0 rfl rfl ?_
              refine spArg_nil ?_
              simp only [Act.put, List.setIfInBounds_toArray, List.set_cons_succ, List.set_cons_zero]
              go_wp2_with (fail)
              exact ⟨rfl, hu, Ext.refl _, slot_eq rfl⟩) ?_
            refine sp_end ?_
            intro u hu
            refine spArg_eq 5 rfl rfl ?_
            refine spArg_eq 4 rfl rfl ?_
            refine spArg_eq 3 rfl rfl ?_
            refine spArg_eq 2 rfl rfl ?_
            refine spArg_eq 1 rfl rfl ?_
            refine spArg_eq 0 rfl rfl ?_
            refine spArg_nil ?_
            simp only [Act.put, List.setIfInBounds_toArray, List.set_cons_succ, List.set_cons_zero]
            have hcx := HX.out _ hu.has.1
            have hcb := HBX.out _ hu.has.1
            go_wp2_with (go_at_call 45; refine (HRR.out _).mono ?_; rintro e w' ⟨rfl, rfl⟩)
            have hk5 : HoldT (fun u => Blk u w.heap.size SC 36 ∧ SeesB u (.slice a0 BX.length c0) BX) w u.drew := HoldT.drew hst hu
            clear hcx hcb
            try change Code.wp _ _ _ (Act.mk _ _) _
            refine wp_region_runR Ext 19 50 (HoldT (fun u => Blk u w.heap.size SC 36 ∧ SeesB u (.slice a0 BX.length c0) BX) _) [[], [(0, 32)], [(1, 33)], [], [(3, 35)], [(2, 34), (4, 36)], [(5, 37)], [(6, 38)], [(7, 39)], [(7, 39)], [(7, 39)], [(7, 39)], [(9, 41), (10, 42), (11, 43), (7, 39)], [(7, 39)], [(13, 45), (7, 39)], [(8, 40), (12, 44), (14, 46), (7, 39)], [(15, 47), (7, 39)], [(7, 39), (16, 48)], [(17, 49)]] [(0, 32), (1, 33), (2, 34), (3, 35), (4, 36), (5, 37), (6, 38), (7, 39), (8, 40), (9, 41), (10, 42), (11, 43), (12, 44), (13, 45), (14, 46), (15, 47), (16, 48), (17, 49), (18, 31)] (by kernel_rfl) (by kernel_rfl) (by first | rfl | simp) (hk5) ?_
            simp only [List.take_succ_cons, List.take_zero, List.drop_succ_cons, List.drop_zero]
            refine sp_op (Ph.eq _) (fun u hu => by
              refine spArg_nil ?_
              have hcx := HX.out _ hu.has.1
              go_wp2_with (fail)
              exact ⟨rfl, hu, Ext.refl _, slot_eq rfl⟩) ?_
            refine sp_op (Ph.eq _) (fun u hu => by
              refine spArg_eq 0 rfl rfl ?_
              refine spArg_nil ?_
              simp only [Act.put, List.setIfInBounds_toArray, List.set_cons_succ, List.set_cons_zero]
              have hcx := HX.out _ hu.has.1
              go_wp2_with (fail)
              exact ⟨rfl, hu, Ext.refl _, slot_eq rfl⟩) ?_
            refine sp_op (Ph.eq _) (fun u hu => by
              refine spArg_eq 0 rfl rfl ?_
              refine spArg_nil ?_
              simp only [Act.put, List.setIfInBounds_toArray, List.set_cons_succ, List.set_cons_zero]
              have hcx := HX.out _ hu.has.1
              go_wp2_with (fail)
              exact ⟨rfl, hu, Ext.refl _, slot_eq rfl⟩) ?_
            refine sp_op (Ph.eq _) (fun u hu => by
              refine spArg_nil ?_
              have hcx := HX.out _ hu.has.1
              go_wp2_with (fail)
              exact ⟨rfl, hu, Ext.refl _, slot_eq rfl⟩) ?_
            refine sp_op (Ph.eq (PV pc ps)) (fun u hu => by
              refine spArg_eq 0 rfl rfl ?_
              refine spArg_nil ?_
              simp only [Act.put, List.setIfInBounds_toArray, List.set_cons_succ, List.set_cons_zero]
              have hcx := HX.out _ hu.has.1
              go_wp2_with ((refine wpList_load_mid rfl 34 _ rfl w.heap.size 34 rfl _ _ (HPP.out _ hu.has.1) Tryz.underlying34 rfl info_proof ?_))
              exact ⟨rfl, hu, Ext.refl _, slot_eq rfl⟩) ?_
            refine sp_op (Ph.eq (.bool true)) (fun u hu => by
              refine spArg_eq 2 rfl rfl ?_
              refine spArg_eq 0 rfl rfl ?_
              refine spArg_nil ?_
              simp only [Act.put, List.setIfInBounds_toArray, List.set_cons_succ, List.set_cons_zero]
              have hcx := HX.out _ hu.has.1
              go_wp2_with ((go_at_call 46; refine (HCKK.out _).mono ?_; rintro e x1 ⟨rfl, hb1⟩))
              exact ⟨rfl, HoldT.step hst hu hb1, hb1, slot_eq rfl⟩) ?_
            refine sp_op (Ph.eq _) (fun u hu => by
              refine spArg_eq 0 rfl rfl ?_
              refine spArg_nil ?_
              simp only [Act.put, List.setIfInBounds_toArray, List.set_cons_succ, List.set_cons_zero]
              have hcx := HX.out _ hu.has.1
              go_wp2_with (fail)
              exact ⟨rfl, hu, Ext.refl _, slot_eq rfl⟩) ?_
            refine sp_op (Ph.eq _) (fun u hu => by
              refine spArg_eq 0 rfl rfl ?_
              refine spArg_nil ?_
              simp only [Act.put, List.setIfInBounds_toArray, List.set_cons_succ, List.set_cons_zero]
              have hcx := HX.out _ hu.has.1
              go_wp2_with (fail)
              exact ⟨rfl, hu, Ext.refl _, slot_eq rfl⟩) ?_
            refine sp_op (Ph.eq _) (fun u hu => by
              refine spArg_eq 0 rfl rfl ?_
              refine spArg_nil ?_
              simp only [Act.put, List.setIfInBounds_toArray, List.set_cons_succ, List.set_cons_zero]
              have hcx := HX.out _ hu.has.1
              go_wp2_with (fail)
              exact ⟨rfl, hu, Ext.refl _, slot_eq rfl⟩) ?_
            refine sp_op (Ph.eq (.agg SC)) (fun u hu => by
              refine spArg_eq 1 rfl rfl ?_
              refine spArg_nil ?_
              simp only [Act.put, List.setIfInBounds_toArray, List.set_cons_succ, List.set_cons_zero]
              have hcx := HX.out _ hu.has.1
              go_wp2_with ((refine wpList_load_rowG rfl 36 _ rfl w.heap.size rfl _ _ (0, 0) _ hu.has.1 Tryz.underlying36 rfl (by rw [HSZ.out]; exact info_sub) ?_))
              exact ⟨rfl, hu, Ext.refl _, slot_eq rfl⟩) ?_
            refine sp_op (Ph.eq _) (fun u hu => by
              refine spArg_eq 2 rfl rfl ?_
              refine spArg_nil ?_
              simp only [Act.put, List.setIfInBounds_toArray, List.set_cons_succ, List.set_cons_zero]
              have hcx := HX.out _ hu.has.1
              go_wp2_with (fail)
              exact ⟨rfl, hu, Ext.refl _, slot_eq rfl⟩) ?_
            refine sp_op (Ph.eq _) (fun u hu => by
              refine spArg_eq 3 rfl rfl ?_
              refine spArg_nil ?_
              simp only [Act.put, List.setIfInBounds_toArray, List.set_cons_succ, List.set_cons_zero]
              have hcx := HX.out _ hu.has.1
              go_wp2_with (fail)
              exact ⟨rfl, hu, Ext.refl _, slot_eq rfl⟩) ?_
            refine sp_op (Ph.seesB SL) (fun u hu => by
              refine spArg_eq 2 rfl rfl ?_
              refine spArg_eq 1 rfl rfl ?_
              refine spArg_eq 0 rfl rfl ?_
              refine spArg_eq 4 rfl rfl ?_
              refine spArg_nil ?_
              simp only [Act.put, List.setIfInBounds_toArray, List.set_cons_succ, List.set_cons_zero]
              have hcx := HX.out _ hu.has.1
              go_wp2_with ((go_at_call 14; refine (HSG.out _ hu.has.2).mono ?_; rintro e x1 ⟨v1, rfl, hs1, hb1⟩))
              exact ⟨rfl, HoldT.step hst hu hb1, hb1, slot_of rfl hs1⟩) ?_
            refine sp_op (Ph.eq _) (fun u hu => by
              refine spArg_eq 5 rfl rfl ?_
              refine spArg_nil ?_
              simp only [Act.put, List.setIfInBounds_toArray, List.set_cons_succ, List.set_cons_zero]
              have hcx := HX.out _ hu.has.1
              go_wp2_with (fail)
              exact ⟨rfl, hu, Ext.refl _, slot_eq rfl⟩) ?_
            refine sp_op (Ph.eq (PV gc gs)) (fun u hu => by
              refine spArg_eq 0 rfl rfl ?_
              refine spArg_eq 6 rfl rfl ?_
              refine spArg_nil ?_
              simp only [Act.put, List.setIfInBounds_toArray, List.set_cons_succ, List.set_cons_zero]
              have hcx := HX.out _ hu.has.1
              go_wp2_with ((refine wpList_load_midG rfl 34 _ rfl w.heap.size 36 rfl _ _ (HGG.out _ hu.has.1) Tryz.underlying34 rfl info_proof ?_))
              exact ⟨rfl, hu, Ext.refl _, slot_eq rfl⟩) ?_
            refine sp_op (Ph.eq (.bool _)) (fun u hu => by
              refine spArg_eq 6 rfl rfl ?_
              refine spArg_in (φ := Ph.seesB SL) 2 rfl rfl ?_; intro v12 h12
              skip
              refine spArg_eq 0 rfl rfl ?_
              refine spArg_eq 7 rfl rfl ?_
              refine spArg_nil ?_
              simp only [Act.put, List.setIfInBounds_toArray, List.set_cons_succ, List.set_cons_zero]
              have hcx := HX.out _ hu.has.1
              go_wp2_with ((go_at_call 47; refine (HSCC.out _ _ h12).mono ?_; rintro e x1 ⟨rfl, hb1⟩))
              exact ⟨rfl, HoldT.step hst hu hb1, hb1, slot_eq rfl⟩) ?_
            refine sp_op (Ph.eq _) (fun u hu => by
              refine spArg_eq 0 rfl rfl ?_
              refine spArg_eq 8 rfl rfl ?_
              refine spArg_nil ?_
              simp only [Act.put, List.setIfInBounds_toArray, List.set_cons_succ, List.set_cons_zero]
              have hcx := HX.out _ hu.has.1
              go_wp2_with (fail)
              exact ⟨rfl, hu, Ext.refl _, slot_eq rfl⟩) ?_
            refine sp_op (Ph.eq _) (fun u hu => by
              refine spArg_eq 9 rfl rfl ?_
              refine spArg_eq 0 rfl rfl ?_
              refine spArg_nil ?_
              simp only [Act.put, List.setIfInBounds_toArray, List.set_cons_succ, List.set_cons_zero]
              have hcx := HX.out _ hu.has.1
              go_wp2_with (fail)
              exact ⟨rfl, hu, Ext.refl _, slot_eq rfl⟩) ?_
            refine sp_op (Ph.eq _) (fun u hu => by
              refine spArg_eq 0 rfl rfl ?_
              refine spArg_nil ?_
              simp only [Act.put, List.setIfInBounds_toArray, List.set_cons_succ, List.set_cons_zero]
              have hcx := HX.out _ hu.has.1
              go_wp2_with (fail)
              exact ⟨rfl, hu, Ext.refl _, slot_eq rfl⟩) ?_
            refine sp_end ?_
            intro u hu
            refine spArg_eq 18 rfl rfl ?_
            refine spArg_eq 17 rfl rfl ?_
            refine spArg_eq 16 rfl rfl ?_
            refine spArg_eq 15 rfl rfl ?_
            refine spArg_eq 14 rfl rfl ?_
            refine spArg_eq 13 rfl rfl ?_
            refine spArg_eq 12 rfl rfl ?_
            refine spArg_eq 11 rfl rfl ?_
            refine spArg_eq 10 rfl rfl ?_
            refine spArg_eq 9 rfl rfl ?_
            refine spArg_eq 8 rfl rfl ?_
            refine spArg_eq 7 rfl rfl ?_
            refine spArg_in (φ := Ph.seesB SL) 6 rfl rfl ?_; intro v12 h12
            skip
            refine spArg_eq 5 rfl rfl ?_
            refine spArg_eq 4 rfl rfl ?_
            refine spArg_eq 3 rfl rfl ?_
            refine spArg_eq 2 rfl rfl ?_
            refine spArg_eq 1 rfl rfl ?_
            refine spArg_eq 0 rfl rfl ?_
            refine spArg_nil ?_
            simp only [Act.put, List.setIfInBounds_toArray, List.set_cons_succ, List.set_cons_zero]
            go_wp2_with fail
            go_ret
            exact ⟨congrArg (fun n => Ending.returned (.int .i64 n)) HCO.out.symm, hu.up⟩
          · rw [if_neg (fun h => hsg h.2)] at hCO
            simp only [decide_eq_false hsg] at HSC
            clear hkn hsg
            rw [hnb] at hneq
            have HNEQ := Lib.hid hneq
            have HCO := Lib.hid hCO; have HCKK := Lib.hid HCK; have HRR := Lib.hid HRI; have HSCC := Lib.hid HSC
            clear hneq hnb hCO HCK HRI HSC
            go_enter Tryz.func17, Tryz.ntmps17
            go_wp2_with fail
            have hk : HoldT (fun u => Blk u w.heap.size SC 36 ∧ SeesB u (.slice a0 BX.length c0) BX) w _ := HoldT.drew hst ⟨⟨hk0.out, HV.out⟩, hb0.out⟩
            try change Code.wp _ _ _ (Act.mk _ _) _
            refine wp_region_runR Ext 6 50 (HoldT (fun u => Blk u w.heap.size SC 36 ∧ SeesB u (.slice a0 BX.length c0) BX) _) [[], [(0, 12)], [], [(2, 14)], [(1, 13), (3, 15)], [(4, 16)]] [(0, 12), (1, 13), (2, 14), (3, 15), (4, 16), (5, 11)] (by kernel_rfl) (by kernel_rfl) (by first | rfl | simp) (hk) ?_
            simp only [List.take_succ_cons, List.take_zero, List.drop_succ_cons, List.drop_zero]
            refine sp_op (Ph.eq _) (fun u hu => by
              refine spArg_nil ?_
              go_wp2_with (fail)
              exact ⟨rfl, hu, Ext.refl _, slot_eq rfl⟩) ?_
            refine sp_op (Ph.eq (.agg (keyA U))) (fun u hu => by
              refine spArg_eq 0 rfl rfl ?_
              refine spArg_nil ?_
              simp only [Act.put, List.setIfInBounds_toArray, List.set_cons_succ, List.set_cons_zero]
              go_wp2_with ((refine wpList_load_mid rfl 23 _ rfl w.heap.size 0 rfl (U.map BV) _ (HU.out _ hu.has.1) under_key rfl (by rw [HUL.out]; exact info_key) ?_))
              exact ⟨rfl, hu, Ext.refl _, slot_eq rfl⟩) ?_
            refine sp_op (Ph.eq _) (fun u hu => by
              refine spArg_nil ?_
              go_wp2_with (fail)
              exact ⟨rfl, hu, Ext.refl _, slot_eq rfl⟩) ?_
            refine sp_op (Ph.eq (.agg (keyA NM))) (fun u hu => by
              refine spArg_eq 0 rfl rfl ?_
              refine spArg_nil ?_
              simp only [Act.put, List.setIfInBounds_toArray, List.set_cons_succ, List.set_cons_zero]
              go_wp2_with ((go_at_call 44; refine (HNM.out _).mono ?_; rintro e x1 ⟨rfl, hb1⟩))
              exact ⟨rfl, HoldT.step hst hu hb1, hb1, slot_eq rfl⟩) ?_
            refine sp_op (Ph.eq _) (fun u hu => by
              refine spArg_eq 2 rfl rfl ?_
              refine spArg_eq 0 rfl rfl ?_
              refine spArg_nil ?_
              simp only [Act.put, List.setIfInBounds_toArray, List.set_cons_succ, List.set_cons_zero]
              go_wp2_with ((refine wpList_cmp rfl 23 _ _ rfl _ _ _ rfl rfl guard_key HNEQ.out ?_))
              exact ⟨rfl, hu, Ext.refl _, slot_eq rfl⟩) ?_
            refine sp_op (Ph.eq _) (fun u hu => by
              refine spArg_eq 0 rfl rfl ?_
              refine spArg_nil ?_
              simp only [Act.put, List.setIfInBounds_toArray, List.set_cons_succ, List.set_cons_zero]
              go_wp2_with (fail)
              exact ⟨rfl, hu, Ext.refl _, slot_eq rfl⟩) ?_
            refine sp_end ?_
            intro u hu
            refine spArg_eq 5 rfl rfl ?_
            refine spArg_eq 4 rfl rfl ?_
            refine spArg_eq 3 rfl rfl ?_
            refine spArg_eq 2 rfl rfl ?_
            refine spArg_eq 1 rfl rfl ?_
            refine spArg_eq 0 rfl rfl ?_
            refine spArg_nil ?_
            simp only [Act.put, List.setIfInBounds_toArray, List.set_cons_succ, List.set_cons_zero]
            have hcx := HX.out _ hu.has.1
            have hcb := HBX.out _ hu.has.1
            go_wp2_with (go_at_call 45; refine (HRR.out _).mono ?_; rintro e w' ⟨rfl, rfl⟩)
            have hk5 : HoldT (fun u => Blk u w.heap.size SC 36 ∧ SeesB u (.slice a0 BX.length c0) BX) w u.drew := HoldT.drew hst hu
            clear hcx hcb
            try change Code.wp _ _ _ (Act.mk _ _) _
            refine wp_region_runR Ext 19 50 (HoldT (fun u => Blk u w.heap.size SC 36 ∧ SeesB u (.slice a0 BX.length c0) BX) _) [[], [(0, 32)], [(1, 33)], [], [(3, 35)], [(2, 34), (4, 36)], [(5, 37)], [(6, 38)], [(7, 39)], [(7, 39)], [(7, 39)], [(7, 39)], [(9, 41), (10, 42), (11, 43), (7, 39)], [(7, 39)], [(13, 45), (7, 39)], [(8, 40), (12, 44), (14, 46), (7, 39)], [(15, 47), (7, 39)], [(7, 39), (16, 48)], [(17, 49)]] [(0, 32), (1, 33), (2, 34), (3, 35), (4, 36), (5, 37), (6, 38), (7, 39), (8, 40), (9, 41), (10, 42), (11, 43), (12, 44), (13, 45), (14, 46), (15, 47), (16, 48), (17, 49), (18, 31)] (by kernel_rfl) (by kernel_rfl) (by first | rfl | simp) (hk5) ?_
            simp only [List.take_succ_cons, List.take_zero, List.drop_succ_cons, List.drop_zero]
            refine sp_op (Ph.eq _) (fun u hu => by
              refine spArg_nil ?_
              have hcx := HX.out _ hu.has.1
              go_wp2_with (fail)
              exact ⟨rfl, hu, Ext.refl _, slot_eq rfl⟩) ?_
            refine sp_op (Ph.eq _) (fun u hu => by
              refine spArg_eq 0 rfl rfl ?_
              refine spArg_nil ?_
              simp only [Act.put, List.setIfInBounds_toArray, List.set_cons_succ, List.set_cons_zero]
              have hcx := HX.out _ hu.has.1
              go_wp2_with (fail)
              exact ⟨rfl, hu, Ext.refl _, slot_eq rfl⟩) ?_
            refine sp_op (Ph.eq _) (fun u hu => by
              refine spArg_eq 0 rfl rfl ?_
              refine spArg_nil ?_
              simp only [Act.put, List.setIfInBounds_toArray, List.set_cons_succ, List.set_cons_zero]
              have hcx := HX.out _ hu.has.1
              go_wp2_with (fail)
              exact ⟨rfl, hu, Ext.refl _, slot_eq rfl⟩) ?_
            refine sp_op (Ph.eq _) (fun u hu => by
              refine spArg_nil ?_
              have hcx := HX.out _ hu.has.1
              go_wp2_with (fail)
              exact ⟨rfl, hu, Ext.refl _, slot_eq rfl⟩) ?_
            refine sp_op (Ph.eq (PV pc ps)) (fun u hu => by
              refine spArg_eq 0 rfl rfl ?_
              refine spArg_nil ?_
              simp only [Act.put, List.setIfInBounds_toArray, List.set_cons_succ, List.set_cons_zero]
              have hcx := HX.out _ hu.has.1
              go_wp2_with ((refine wpList_load_mid rfl 34 _ rfl w.heap.size 34 rfl _ _ (HPP.out _ hu.has.1) Tryz.underlying34 rfl info_proof ?_))
              exact ⟨rfl, hu, Ext.refl _, slot_eq rfl⟩) ?_
            refine sp_op (Ph.eq (.bool true)) (fun u hu => by
              refine spArg_eq 2 rfl rfl ?_
              refine spArg_eq 0 rfl rfl ?_
              refine spArg_nil ?_
              simp only [Act.put, List.setIfInBounds_toArray, List.set_cons_succ, List.set_cons_zero]
              have hcx := HX.out _ hu.has.1
              go_wp2_with ((go_at_call 46; refine (HCKK.out _).mono ?_; rintro e x1 ⟨rfl, hb1⟩))
              exact ⟨rfl, HoldT.step hst hu hb1, hb1, slot_eq rfl⟩) ?_
            refine sp_op (Ph.eq _) (fun u hu => by
              refine spArg_eq 0 rfl rfl ?_
              refine spArg_nil ?_
              simp only [Act.put, List.setIfInBounds_toArray, List.set_cons_succ, List.set_cons_zero]
              have hcx := HX.out _ hu.has.1
              go_wp2_with (fail)
              exact ⟨rfl, hu, Ext.refl _, slot_eq rfl⟩) ?_
            refine sp_op (Ph.eq _) (fun u hu => by
              refine spArg_eq 0 rfl rfl ?_
              refine spArg_nil ?_
              simp only [Act.put, List.setIfInBounds_toArray, List.set_cons_succ, List.set_cons_zero]
              have hcx := HX.out _ hu.has.1
              go_wp2_with (fail)
              exact ⟨rfl, hu, Ext.refl _, slot_eq rfl⟩) ?_
            refine sp_op (Ph.eq _) (fun u hu => by
              refine spArg_eq 0 rfl rfl ?_
              refine spArg_nil ?_
              simp only [Act.put, List.setIfInBounds_toArray, List.set_cons_succ, List.set_cons_zero]
              have hcx := HX.out _ hu.has.1
              go_wp2_with (fail)
              exact ⟨rfl, hu, Ext.refl _, slot_eq rfl⟩) ?_
            refine sp_op (Ph.eq (.agg SC)) (fun u hu => by
              refine spArg_eq 1 rfl rfl ?_
              refine spArg_nil ?_
              simp only [Act.put, List.setIfInBounds_toArray, List.set_cons_succ, List.set_cons_zero]
              have hcx := HX.out _ hu.has.1
              go_wp2_with ((refine wpList_load_rowG rfl 36 _ rfl w.heap.size rfl _ _ (0, 0) _ hu.has.1 Tryz.underlying36 rfl (by rw [HSZ.out]; exact info_sub) ?_))
              exact ⟨rfl, hu, Ext.refl _, slot_eq rfl⟩) ?_
            refine sp_op (Ph.eq _) (fun u hu => by
              refine spArg_eq 2 rfl rfl ?_
              refine spArg_nil ?_
              simp only [Act.put, List.setIfInBounds_toArray, List.set_cons_succ, List.set_cons_zero]
              have hcx := HX.out _ hu.has.1
              go_wp2_with (fail)
              exact ⟨rfl, hu, Ext.refl _, slot_eq rfl⟩) ?_
            refine sp_op (Ph.eq _) (fun u hu => by
              refine spArg_eq 3 rfl rfl ?_
              refine spArg_nil ?_
              simp only [Act.put, List.setIfInBounds_toArray, List.set_cons_succ, List.set_cons_zero]
              have hcx := HX.out _ hu.has.1
              go_wp2_with (fail)
              exact ⟨rfl, hu, Ext.refl _, slot_eq rfl⟩) ?_
            refine sp_op (Ph.seesB SL) (fun u hu => by
              refine spArg_eq 2 rfl rfl ?_
              refine spArg_eq 1 rfl rfl ?_
              refine spArg_eq 0 rfl rfl ?_
              refine spArg_eq 4 rfl rfl ?_
              refine spArg_nil ?_
              simp only [Act.put, List.setIfInBounds_toArray, List.set_cons_succ, List.set_cons_zero]
              have hcx := HX.out _ hu.has.1
              go_wp2_with ((go_at_call 14; refine (HSG.out _ hu.has.2).mono ?_; rintro e x1 ⟨v1, rfl, hs1, hb1⟩))
              exact ⟨rfl, HoldT.step hst hu hb1, hb1, slot_of rfl hs1⟩) ?_
            refine sp_op (Ph.eq _) (fun u hu => by
              refine spArg_eq 5 rfl rfl ?_
              refine spArg_nil ?_
              simp only [Act.put, List.setIfInBounds_toArray, List.set_cons_succ, List.set_cons_zero]
              have hcx := HX.out _ hu.has.1
              go_wp2_with (fail)
              exact ⟨rfl, hu, Ext.refl _, slot_eq rfl⟩) ?_
            refine sp_op (Ph.eq (PV gc gs)) (fun u hu => by
              refine spArg_eq 0 rfl rfl ?_
              refine spArg_eq 6 rfl rfl ?_
              refine spArg_nil ?_
              simp only [Act.put, List.setIfInBounds_toArray, List.set_cons_succ, List.set_cons_zero]
              have hcx := HX.out _ hu.has.1
              go_wp2_with ((refine wpList_load_midG rfl 34 _ rfl w.heap.size 36 rfl _ _ (HGG.out _ hu.has.1) Tryz.underlying34 rfl info_proof ?_))
              exact ⟨rfl, hu, Ext.refl _, slot_eq rfl⟩) ?_
            refine sp_op (Ph.eq (.bool _)) (fun u hu => by
              refine spArg_eq 6 rfl rfl ?_
              refine spArg_in (φ := Ph.seesB SL) 2 rfl rfl ?_; intro v12 h12
              skip
              refine spArg_eq 0 rfl rfl ?_
              refine spArg_eq 7 rfl rfl ?_
              refine spArg_nil ?_
              simp only [Act.put, List.setIfInBounds_toArray, List.set_cons_succ, List.set_cons_zero]
              have hcx := HX.out _ hu.has.1
              go_wp2_with ((go_at_call 47; refine (HSCC.out _ _ h12).mono ?_; rintro e x1 ⟨rfl, hb1⟩))
              exact ⟨rfl, HoldT.step hst hu hb1, hb1, slot_eq rfl⟩) ?_
            refine sp_op (Ph.eq _) (fun u hu => by
              refine spArg_eq 0 rfl rfl ?_
              refine spArg_eq 8 rfl rfl ?_
              refine spArg_nil ?_
              simp only [Act.put, List.setIfInBounds_toArray, List.set_cons_succ, List.set_cons_zero]
              have hcx := HX.out _ hu.has.1
              go_wp2_with (fail)
              exact ⟨rfl, hu, Ext.refl _, slot_eq rfl⟩) ?_
            refine sp_op (Ph.eq _) (fun u hu => by
              refine spArg_eq 9 rfl rfl ?_
              refine spArg_eq 0 rfl rfl ?_
              refine spArg_nil ?_
              simp only [Act.put, List.setIfInBounds_toArray, List.set_cons_succ, List.set_cons_zero]
              have hcx := HX.out _ hu.has.1
              go_wp2_with (fail)
              exact ⟨rfl, hu, Ext.refl _, slot_eq rfl⟩) ?_
            refine sp_op (Ph.eq _) (fun u hu => by
              refine spArg_eq 0 rfl rfl ?_
              refine spArg_nil ?_
              simp only [Act.put, List.setIfInBounds_toArray, List.set_cons_succ, List.set_cons_zero]
              have hcx := HX.out _ hu.has.1
              go_wp2_with (fail)
              exact ⟨rfl, hu, Ext.refl _, slot_eq rfl⟩) ?_
            refine sp_end ?_
            intro u hu
            refine spArg_eq 18 rfl rfl ?_
            refine spArg_eq 17 rfl rfl ?_
            refine spArg_eq 16 rfl rfl ?_
            refine spArg_eq 15 rfl rfl ?_
            refine spArg_eq 14 rfl rfl ?_
            refine spArg_eq 13 rfl rfl ?_
            refine spArg_eq 12 rfl rfl ?_
            refine spArg_eq 11 rfl rfl ?_
            refine spArg_eq 10 rfl rfl ?_
            refine spArg_eq 9 rfl rfl ?_
            refine spArg_eq 8 rfl rfl ?_
            refine spArg_eq 7 rfl rfl ?_
            refine spArg_in (φ := Ph.seesB SL) 6 rfl rfl ?_; intro v12 h12
            skip
            refine spArg_eq 5 rfl rfl ?_
            refine spArg_eq 4 rfl rfl ?_
            refine spArg_eq 3 rfl rfl ?_
            refine spArg_eq 2 rfl rfl ?_
            refine spArg_eq 1 rfl rfl ?_
            refine spArg_eq 0 rfl rfl ?_
            refine spArg_nil ?_
            simp only [Act.put, List.setIfInBounds_toArray, List.set_cons_succ, List.set_cons_zero]
            go_wp2_with fail
            go_ret
            exact ⟨congrArg (fun n => Ending.returned (.int .i64 n)) HCO.out.symm, hu.up⟩
        · rw [if_neg (fun h => hkn h.1)] at hCO
          rw [decide_eq_false hkn] at HCK
          clear hkn HSC
          have HSC : True := trivial
          rw [hnb] at hneq
          have HNEQ := Lib.hid hneq
          have HCO := Lib.hid hCO; have HCKK := Lib.hid HCK; have HRR := Lib.hid HRI; have HSCC := Lib.hid HSC
          clear hneq hnb hCO HCK HRI HSC
          go_enter Tryz.func17, Tryz.ntmps17
          go_wp2_with fail
          have hk : HoldT (fun u => Blk u w.heap.size SC 36 ∧ SeesB u (.slice a0 BX.length c0) BX) w _ := HoldT.drew hst ⟨⟨hk0.out, HV.out⟩, hb0.out⟩
          try change Code.wp _ _ _ (Act.mk _ _) _
          refine wp_region_runR Ext 6 50 (HoldT (fun u => Blk u w.heap.size SC 36 ∧ SeesB u (.slice a0 BX.length c0) BX) _) [[], [(0, 12)], [], [(2, 14)], [(1, 13), (3, 15)], [(4, 16)]] [(0, 12), (1, 13), (2, 14), (3, 15), (4, 16), (5, 11)] (by kernel_rfl) (by kernel_rfl) (by first | rfl | simp) (hk) ?_
          simp only [List.take_succ_cons, List.take_zero, List.drop_succ_cons, List.drop_zero]
          refine sp_op (Ph.eq _) (fun u hu => by
            refine spArg_nil ?_
            go_wp2_with (fail)
            exact ⟨rfl, hu, Ext.refl _, slot_eq rfl⟩) ?_
          refine sp_op (Ph.eq (.agg (keyA U))) (fun u hu => by
            refine spArg_eq 0 rfl rfl ?_
            refine spArg_nil ?_
            simp only [Act.put, List.setIfInBounds_toArray, List.set_cons_succ, List.set_cons_zero]
            go_wp2_with ((refine wpList_load_mid rfl 23 _ rfl w.heap.size 0 rfl (U.map BV) _ (HU.out _ hu.has.1) under_key rfl (by rw [HUL.out]; exact info_key) ?_))
            exact ⟨rfl, hu, Ext.refl _, slot_eq rfl⟩) ?_
          refine sp_op (Ph.eq _) (fun u hu => by
            refine spArg_nil ?_
            go_wp2_with (fail)
            exact ⟨rfl, hu, Ext.refl _, slot_eq rfl⟩) ?_
          refine sp_op (Ph.eq (.agg (keyA NM))) (fun u hu => by
            refine spArg_eq 0 rfl rfl ?_
            refine spArg_nil ?_
            simp only [Act.put, List.setIfInBounds_toArray, List.set_cons_succ, List.set_cons_zero]
            go_wp2_with ((go_at_call 44; refine (HNM.out _).mono ?_; rintro e x1 ⟨rfl, hb1⟩))
            exact ⟨rfl, HoldT.step hst hu hb1, hb1, slot_eq rfl⟩) ?_
          refine sp_op (Ph.eq _) (fun u hu => by
            refine spArg_eq 2 rfl rfl ?_
            refine spArg_eq 0 rfl rfl ?_
            refine spArg_nil ?_
            simp only [Act.put, List.setIfInBounds_toArray, List.set_cons_succ, List.set_cons_zero]
            go_wp2_with ((refine wpList_cmp rfl 23 _ _ rfl _ _ _ rfl rfl guard_key HNEQ.out ?_))
            exact ⟨rfl, hu, Ext.refl _, slot_eq rfl⟩) ?_
          refine sp_op (Ph.eq _) (fun u hu => by
            refine spArg_eq 0 rfl rfl ?_
            refine spArg_nil ?_
            simp only [Act.put, List.setIfInBounds_toArray, List.set_cons_succ, List.set_cons_zero]
            go_wp2_with (fail)
            exact ⟨rfl, hu, Ext.refl _, slot_eq rfl⟩) ?_
          refine sp_end ?_
          intro u hu
          refine spArg_eq 5 rfl rfl ?_
          refine spArg_eq 4 rfl rfl ?_
          refine spArg_eq 3 rfl rfl ?_
          refine spArg_eq 2 rfl rfl ?_
          refine spArg_eq 1 rfl rfl ?_
          refine spArg_eq 0 rfl rfl ?_
          refine spArg_nil ?_
          simp only [Act.put, List.setIfInBounds_toArray, List.set_cons_succ, List.set_cons_zero]
          have hcx := HX.out _ hu.has.1
          have hcb := HBX.out _ hu.has.1
          go_wp2_with (go_at_call 45; refine (HRR.out _).mono ?_; rintro e w' ⟨rfl, rfl⟩)
          have hk5 : HoldT (fun u => Blk u w.heap.size SC 36 ∧ SeesB u (.slice a0 BX.length c0) BX) w u.drew := HoldT.drew hst hu
          clear hcx hcb
          try change Code.wp _ _ _ (Act.mk _ _) _
          refine wp_region_runR Ext 19 50 (HoldT (fun u => Blk u w.heap.size SC 36 ∧ SeesB u (.slice a0 BX.length c0) BX) _) [[], [(0, 32)], [(1, 33)], [], [(3, 35)], [(2, 34), (4, 36)], [(5, 37)], [(6, 38)], [(7, 39)], [(7, 39)], [(7, 39)], [(7, 39)], [(9, 41), (10, 42), (11, 43), (7, 39)], [(7, 39)], [(13, 45), (7, 39)], [(8, 40), (12, 44), (14, 46), (7, 39)], [(15, 47), (7, 39)], [(7, 39), (16, 48)], [(17, 49)]] [(0, 32), (1, 33), (2, 34), (3, 35), (4, 36), (5, 37), (6, 38), (7, 39), (8, 40), (9, 41), (10, 42), (11, 43), (12, 44), (13, 45), (14, 46), (15, 47), (16, 48), (17, 49), (18, 31)] (by kernel_rfl) (by kernel_rfl) (by first | rfl | simp) (hk5) ?_
          simp only [List.take_succ_cons, List.take_zero, List.drop_succ_cons, List.drop_zero]
          refine sp_op (Ph.eq _) (fun u hu => by
            refine spArg_nil ?_
            have hcx := HX.out _ hu.has.1
            go_wp2_with (fail)
            exact ⟨rfl, hu, Ext.refl _, slot_eq rfl⟩) ?_
          refine sp_op (Ph.eq _) (fun u hu => by
            refine spArg_eq 0 rfl rfl ?_
            refine spArg_nil ?_
            simp only [Act.put, List.setIfInBounds_toArray, List.set_cons_succ, List.set_cons_zero]
            have hcx := HX.out _ hu.has.1
            go_wp2_with (fail)
            exact ⟨rfl, hu, Ext.refl _, slot_eq rfl⟩) ?_
          refine sp_op (Ph.eq _) (fun u hu => by
            refine spArg_eq 0 rfl rfl ?_
            refine spArg_nil ?_
            simp only [Act.put, List.setIfInBounds_toArray, List.set_cons_succ, List.set_cons_zero]
            have hcx := HX.out _ hu.has.1
            go_wp2_with (fail)
            exact ⟨rfl, hu, Ext.refl _, slot_eq rfl⟩) ?_
          refine sp_op (Ph.eq _) (fun u hu => by
            refine spArg_nil ?_
            have hcx := HX.out _ hu.has.1
            go_wp2_with (fail)
            exact ⟨rfl, hu, Ext.refl _, slot_eq rfl⟩) ?_
          refine sp_op (Ph.eq (PV pc ps)) (fun u hu => by
            refine spArg_eq 0 rfl rfl ?_
            refine spArg_nil ?_
            simp only [Act.put, List.setIfInBounds_toArray, List.set_cons_succ, List.set_cons_zero]
            have hcx := HX.out _ hu.has.1
            go_wp2_with ((refine wpList_load_mid rfl 34 _ rfl w.heap.size 34 rfl _ _ (HPP.out _ hu.has.1) Tryz.underlying34 rfl info_proof ?_))
            exact ⟨rfl, hu, Ext.refl _, slot_eq rfl⟩) ?_
          refine sp_op (Ph.eq (.bool false)) (fun u hu => by
            refine spArg_eq 2 rfl rfl ?_
            refine spArg_eq 0 rfl rfl ?_
            refine spArg_nil ?_
            simp only [Act.put, List.setIfInBounds_toArray, List.set_cons_succ, List.set_cons_zero]
            have hcx := HX.out _ hu.has.1
            go_wp2_with ((go_at_call 46; refine (HCKK.out _).mono ?_; rintro e x1 ⟨rfl, hb1⟩))
            exact ⟨rfl, HoldT.step hst hu hb1, hb1, slot_eq rfl⟩) ?_
          refine sp_op (Ph.eq _) (fun u hu => by
            refine spArg_eq 0 rfl rfl ?_
            refine spArg_nil ?_
            simp only [Act.put, List.setIfInBounds_toArray, List.set_cons_succ, List.set_cons_zero]
            have hcx := HX.out _ hu.has.1
            go_wp2_with (fail)
            exact ⟨rfl, hu, Ext.refl _, slot_eq rfl⟩) ?_
          refine sp_op (Ph.eq _) (fun u hu => by
            refine spArg_eq 0 rfl rfl ?_
            refine spArg_nil ?_
            simp only [Act.put, List.setIfInBounds_toArray, List.set_cons_succ, List.set_cons_zero]
            have hcx := HX.out _ hu.has.1
            go_wp2_with (fail)
            exact ⟨rfl, hu, Ext.refl _, slot_eq rfl⟩) ?_
          refine sp_op (Ph.eq _) (fun u hu => by
            refine spArg_eq 0 rfl rfl ?_
            refine spArg_nil ?_
            simp only [Act.put, List.setIfInBounds_toArray, List.set_cons_succ, List.set_cons_zero]
            have hcx := HX.out _ hu.has.1
            go_wp2_with (fail)
            exact ⟨rfl, hu, Ext.refl _, slot_eq rfl⟩) ?_
          refine sp_op (Ph.eq _) (fun u hu => by
            refine spArg_eq 1 rfl rfl ?_
            refine spArg_nil ?_
            simp only [Act.put, List.setIfInBounds_toArray, List.set_cons_succ, List.set_cons_zero]
            have hcx := HX.out _ hu.has.1
            go_wp2_with (fail)
            exact ⟨rfl, hu, Ext.refl _, slot_eq rfl⟩) ?_
          refine sp_op (Ph.eq _) (fun u hu => by
            refine spArg_eq 2 rfl rfl ?_
            refine spArg_nil ?_
            simp only [Act.put, List.setIfInBounds_toArray, List.set_cons_succ, List.set_cons_zero]
            have hcx := HX.out _ hu.has.1
            go_wp2_with (fail)
            exact ⟨rfl, hu, Ext.refl _, slot_eq rfl⟩) ?_
          refine sp_op (Ph.eq _) (fun u hu => by
            refine spArg_eq 3 rfl rfl ?_
            refine spArg_nil ?_
            simp only [Act.put, List.setIfInBounds_toArray, List.set_cons_succ, List.set_cons_zero]
            have hcx := HX.out _ hu.has.1
            go_wp2_with (fail)
            exact ⟨rfl, hu, Ext.refl _, slot_eq rfl⟩) ?_
          refine sp_op (Ph.eq _) (fun u hu => by
            refine spArg_eq 2 rfl rfl ?_
            refine spArg_eq 1 rfl rfl ?_
            refine spArg_eq 0 rfl rfl ?_
            refine spArg_eq 4 rfl rfl ?_
            refine spArg_nil ?_
            simp only [Act.put, List.setIfInBounds_toArray, List.set_cons_succ, List.set_cons_zero]
            have hcx := HX.out _ hu.has.1
            go_wp2_with (fail)
            exact ⟨rfl, hu, Ext.refl _, slot_eq rfl⟩) ?_
          refine sp_op (Ph.eq _) (fun u hu => by
            refine spArg_eq 5 rfl rfl ?_
            refine spArg_nil ?_
            simp only [Act.put, List.setIfInBounds_toArray, List.set_cons_succ, List.set_cons_zero]
            have hcx := HX.out _ hu.has.1
            go_wp2_with (fail)
            exact ⟨rfl, hu, Ext.refl _, slot_eq rfl⟩) ?_
          refine sp_op (Ph.eq _) (fun u hu => by
            refine spArg_eq 0 rfl rfl ?_
            refine spArg_eq 6 rfl rfl ?_
            refine spArg_nil ?_
            simp only [Act.put, List.setIfInBounds_toArray, List.set_cons_succ, List.set_cons_zero]
            have hcx := HX.out _ hu.has.1
            go_wp2_with (fail)
            exact ⟨rfl, hu, Ext.refl _, slot_eq rfl⟩) ?_
          refine sp_op (Ph.eq _) (fun u hu => by
            refine spArg_eq 6 rfl rfl ?_
            refine spArg_eq 2 rfl rfl ?_
            refine spArg_eq 0 rfl rfl ?_
            refine spArg_eq 7 rfl rfl ?_
            refine spArg_nil ?_
            simp only [Act.put, List.setIfInBounds_toArray, List.set_cons_succ, List.set_cons_zero]
            have hcx := HX.out _ hu.has.1
            go_wp2_with (fail)
            exact ⟨rfl, hu, Ext.refl _, slot_eq rfl⟩) ?_
          refine sp_op (Ph.eq _) (fun u hu => by
            refine spArg_eq 0 rfl rfl ?_
            refine spArg_eq 8 rfl rfl ?_
            refine spArg_nil ?_
            simp only [Act.put, List.setIfInBounds_toArray, List.set_cons_succ, List.set_cons_zero]
            have hcx := HX.out _ hu.has.1
            go_wp2_with (fail)
            exact ⟨rfl, hu, Ext.refl _, slot_eq rfl⟩) ?_
          refine sp_op (Ph.eq _) (fun u hu => by
            refine spArg_eq 9 rfl rfl ?_
            refine spArg_eq 0 rfl rfl ?_
            refine spArg_nil ?_
            simp only [Act.put, List.setIfInBounds_toArray, List.set_cons_succ, List.set_cons_zero]
            have hcx := HX.out _ hu.has.1
            go_wp2_with (fail)
            exact ⟨rfl, hu, Ext.refl _, slot_eq rfl⟩) ?_
          refine sp_op (Ph.eq _) (fun u hu => by
            refine spArg_eq 0 rfl rfl ?_
            refine spArg_nil ?_
            simp only [Act.put, List.setIfInBounds_toArray, List.set_cons_succ, List.set_cons_zero]
            have hcx := HX.out _ hu.has.1
            go_wp2_with (fail)
            exact ⟨rfl, hu, Ext.refl _, slot_eq rfl⟩) ?_
          refine sp_end ?_
          intro u hu
          refine spArg_eq 18 rfl rfl ?_
          refine spArg_eq 17 rfl rfl ?_
          refine spArg_eq 16 rfl rfl ?_
          refine spArg_eq 15 rfl rfl ?_
          refine spArg_eq 14 rfl rfl ?_
          refine spArg_eq 13 rfl rfl ?_
          refine spArg_eq 12 rfl rfl ?_
          refine spArg_eq 11 rfl rfl ?_
          refine spArg_eq 10 rfl rfl ?_
          refine spArg_eq 9 rfl rfl ?_
          refine spArg_eq 8 rfl rfl ?_
          refine spArg_eq 7 rfl rfl ?_
          refine spArg_eq 6 rfl rfl ?_
          refine spArg_eq 5 rfl rfl ?_
          refine spArg_eq 4 rfl rfl ?_
          refine spArg_eq 3 rfl rfl ?_
          refine spArg_eq 2 rfl rfl ?_
          refine spArg_eq 1 rfl rfl ?_
          refine spArg_eq 0 rfl rfl ?_
          refine spArg_nil ?_
          simp only [Act.put, List.setIfInBounds_toArray, List.set_cons_succ, List.set_cons_zero]
          go_wp2_with fail
          go_ret
          exact ⟨congrArg (fun n => Ending.returned (.int .i64 n)) HCO.out.symm, hu.up⟩
      · rw [if_neg (fun h => hok h.2)] at hCO
        rw [decide_eq_false hok] at HRI
        have hne : ((BX.length : Int) != size) = false := by rw [hsz]; simp
        clear hsz hok
        rw [hnb] at hneq
        have HNEQ := Lib.hid hneq
        have HCO := Lib.hid hCO; have HCKK := Lib.hid HCK; have HRR := Lib.hid HRI; have HSCC := Lib.hid HSC
        clear hneq hnb hCO HCK HRI HSC
        go_enter Tryz.func17, Tryz.ntmps17
        go_wp2_with fail
        have hk : HoldT (fun u => Blk u w.heap.size SC 36 ∧ SeesB u (.slice a0 BX.length c0) BX) w _ := HoldT.drew hst ⟨⟨hk0.out, HV.out⟩, hb0.out⟩
        try change Code.wp _ _ _ (Act.mk _ _) _
        refine wp_region_runR Ext 6 50 (HoldT (fun u => Blk u w.heap.size SC 36 ∧ SeesB u (.slice a0 BX.length c0) BX) _) [[], [(0, 12)], [], [(2, 14)], [(1, 13), (3, 15)], [(4, 16)]] [(0, 12), (1, 13), (2, 14), (3, 15), (4, 16), (5, 11)] (by kernel_rfl) (by kernel_rfl) (by first | rfl | simp) (hk) ?_
        simp only [List.take_succ_cons, List.take_zero, List.drop_succ_cons, List.drop_zero]
        refine sp_op (Ph.eq _) (fun u hu => by
          refine spArg_nil ?_
          go_wp2_with (fail)
          exact ⟨rfl, hu, Ext.refl _, slot_eq rfl⟩) ?_
        refine sp_op (Ph.eq (.agg (keyA U))) (fun u hu => by
          refine spArg_eq 0 rfl rfl ?_
          refine spArg_nil ?_
          simp only [Act.put, List.setIfInBounds_toArray, List.set_cons_succ, List.set_cons_zero]
          go_wp2_with ((refine wpList_load_mid rfl 23 _ rfl w.heap.size 0 rfl (U.map BV) _ (HU.out _ hu.has.1) under_key rfl (by rw [HUL.out]; exact info_key) ?_))
          exact ⟨rfl, hu, Ext.refl _, slot_eq rfl⟩) ?_
        refine sp_op (Ph.eq _) (fun u hu => by
          refine spArg_nil ?_
          go_wp2_with (fail)
          exact ⟨rfl, hu, Ext.refl _, slot_eq rfl⟩) ?_
        refine sp_op (Ph.eq (.agg (keyA NM))) (fun u hu => by
          refine spArg_eq 0 rfl rfl ?_
          refine spArg_nil ?_
          simp only [Act.put, List.setIfInBounds_toArray, List.set_cons_succ, List.set_cons_zero]
          go_wp2_with ((go_at_call 44; refine (HNM.out _).mono ?_; rintro e x1 ⟨rfl, hb1⟩))
          exact ⟨rfl, HoldT.step hst hu hb1, hb1, slot_eq rfl⟩) ?_
        refine sp_op (Ph.eq _) (fun u hu => by
          refine spArg_eq 2 rfl rfl ?_
          refine spArg_eq 0 rfl rfl ?_
          refine spArg_nil ?_
          simp only [Act.put, List.setIfInBounds_toArray, List.set_cons_succ, List.set_cons_zero]
          go_wp2_with ((refine wpList_cmp rfl 23 _ _ rfl _ _ _ rfl rfl guard_key HNEQ.out ?_))
          exact ⟨rfl, hu, Ext.refl _, slot_eq rfl⟩) ?_
        refine sp_op (Ph.eq _) (fun u hu => by
          refine spArg_eq 0 rfl rfl ?_
          refine spArg_nil ?_
          simp only [Act.put, List.setIfInBounds_toArray, List.set_cons_succ, List.set_cons_zero]
          go_wp2_with (fail)
          exact ⟨rfl, hu, Ext.refl _, slot_eq rfl⟩) ?_
        refine sp_end ?_
        intro u hu
        refine spArg_eq 5 rfl rfl ?_
        refine spArg_eq 4 rfl rfl ?_
        refine spArg_eq 3 rfl rfl ?_
        refine spArg_eq 2 rfl rfl ?_
        refine spArg_eq 1 rfl rfl ?_
        refine spArg_eq 0 rfl rfl ?_
        refine spArg_nil ?_
        simp only [Act.put, List.setIfInBounds_toArray, List.set_cons_succ, List.set_cons_zero]
        have hcx := HX.out _ hu.has.1
        have hcb := HBX.out _ hu.has.1
        go_wp2_with (go_at_call 45; refine (HRR.out _).mono ?_; rintro e w' ⟨rfl, rfl⟩)
        go_ret
        exact ⟨congrArg (fun n => Ending.returned (.int .i64 n)) HCO.out.symm, hu.up⟩
    · rw [if_neg (fun h => hsz h.1)] at hCO
      have hne : ((BX.length : Int) != size) = true := by rw [bne_iff_ne]; exact hsz
      clear hsz
      rw [hnb] at hneq
      have HNEQ := Lib.hid hneq
      have HCO := Lib.hid hCO; have HCKK := Lib.hid HCK; have HRR := Lib.hid HRI; have HSCC := Lib.hid HSC
      clear hneq hnb hCO HCK HRI HSC
      go_enter Tryz.func17, Tryz.ntmps17
      go_wp2_with fail
      have hk : HoldT (fun u => Blk u w.heap.size SC 36 ∧ SeesB u (.slice a0 BX.length c0) BX) w _ := HoldT.drew hst ⟨⟨hk0.out, HV.out⟩, hb0.out⟩
      try change Code.wp _ _ _ (Act.mk _ _) _
      refine wp_region_runR Ext 6 50 (HoldT (fun u => Blk u w.heap.size SC 36 ∧ SeesB u (.slice a0 BX.length c0) BX) _) [[], [(0, 12)], [], [(2, 14)], [(1, 13), (3, 15)], [(4, 16)]] [(0, 12), (1, 13), (2, 14), (3, 15), (4, 16), (5, 11)] (by kernel_rfl) (by kernel_rfl) (by first | rfl | simp) (hk) ?_
      simp only [List.take_succ_cons, List.take_zero, List.drop_succ_cons, List.drop_zero]
      refine sp_op (Ph.eq _) (fun u hu => by
        refine spArg_nil ?_
        go_wp2_with (fail)
        exact ⟨rfl, hu, Ext.refl _, slot_eq rfl⟩) ?_
      refine sp_op (Ph.eq (.agg (keyA U))) (fun u hu => by
        refine spArg_eq 0 rfl rfl ?_
        refine spArg_nil ?_
        simp only [Act.put, List.setIfInBounds_toArray, List.set_cons_succ, List.set_cons_zero]
        go_wp2_with ((refine wpList_load_mid rfl 23 _ rfl w.heap.size 0 rfl (U.map BV) _ (HU.out _ hu.has.1) under_key rfl (by rw [HUL.out]; exact info_key) ?_))
        exact ⟨rfl, hu, Ext.refl _, slot_eq rfl⟩) ?_
      refine sp_op (Ph.eq _) (fun u hu => by
        refine spArg_nil ?_
        go_wp2_with (fail)
        exact ⟨rfl, hu, Ext.refl _, slot_eq rfl⟩) ?_
      refine sp_op (Ph.eq (.agg (keyA NM))) (fun u hu => by
        refine spArg_eq 0 rfl rfl ?_
        refine spArg_nil ?_
        simp only [Act.put, List.setIfInBounds_toArray, List.set_cons_succ, List.set_cons_zero]
        go_wp2_with ((go_at_call 44; refine (HNM.out _).mono ?_; rintro e x1 ⟨rfl, hb1⟩))
        exact ⟨rfl, HoldT.step hst hu hb1, hb1, slot_eq rfl⟩) ?_
      refine sp_op (Ph.eq _) (fun u hu => by
        refine spArg_eq 2 rfl rfl ?_
        refine spArg_eq 0 rfl rfl ?_
        refine spArg_nil ?_
        simp only [Act.put, List.setIfInBounds_toArray, List.set_cons_succ, List.set_cons_zero]
        go_wp2_with ((refine wpList_cmp rfl 23 _ _ rfl _ _ _ rfl rfl guard_key HNEQ.out ?_))
        exact ⟨rfl, hu, Ext.refl _, slot_eq rfl⟩) ?_
      refine sp_op (Ph.eq _) (fun u hu => by
        refine spArg_eq 0 rfl rfl ?_
        refine spArg_nil ?_
        simp only [Act.put, List.setIfInBounds_toArray, List.set_cons_succ, List.set_cons_zero]
        go_wp2_with (fail)
        exact ⟨rfl, hu, Ext.refl _, slot_eq rfl⟩) ?_
      refine sp_end ?_
      intro u hu
      refine spArg_eq 5 rfl rfl ?_
      refine spArg_eq 4 rfl rfl ?_
      refine spArg_eq 3 rfl rfl ?_
      refine spArg_eq 2 rfl rfl ?_
      refine spArg_eq 1 rfl rfl ?_
      refine spArg_eq 0 rfl rfl ?_
      refine spArg_nil ?_
      simp only [Act.put, List.setIfInBounds_toArray, List.set_cons_succ, List.set_cons_zero]
      have hcx := HX.out _ hu.has.1
      have hcb := HBX.out _ hu.has.1
      go_wp2_with (go_at_call 45; refine (HRR.out _).mono ?_; rintro e w' ⟨rfl, rfl⟩)
      go_ret
      exact ⟨congrArg (fun n => Ending.returned (.int .i64 n)) HCO.out.symm, hu.up⟩
  · rw [if_neg hn] at hCO
    have hnb : (!(U == NM)) = true := by rw [Bool.not_eq_true', beq_eq_false_iff_ne]; exact hn
    have hne : True := trivial
    clear hn
    rw [hnb] at hneq
    have HNEQ := Lib.hid hneq
    have HCO := Lib.hid hCO; have HCKK := Lib.hid HCK; have HRR := Lib.hid HRI; have HSCC := Lib.hid HSC
    clear hneq hnb hCO HCK HRI HSC
    go_enter Tryz.func17, Tryz.ntmps17
    go_wp2_with fail
    have hk : HoldT (fun u => Blk u w.heap.size SC 36 ∧ SeesB u (.slice a0 BX.length c0) BX) w _ := HoldT.drew hst ⟨⟨hk0.out, HV.out⟩, hb0.out⟩
    try change Code.wp _ _ _ (Act.mk _ _) _
    refine wp_region_runR Ext 6 50 (HoldT (fun u => Blk u w.heap.size SC 36 ∧ SeesB u (.slice a0 BX.length c0) BX) _) [[], [(0, 12)], [], [(2, 14)], [(1, 13), (3, 15)], [(4, 16)]] [(0, 12), (1, 13), (2, 14), (3, 15), (4, 16), (5, 11)] (by kernel_rfl) (by kernel_rfl) (by first | rfl | simp) (hk) ?_
    simp only [List.take_succ_cons, List.take_zero, List.drop_succ_cons, List.drop_zero]
    refine sp_op (Ph.eq _) (fun u hu => by
      refine spArg_nil ?_
      go_wp2_with (fail)
      exact ⟨rfl, hu, Ext.refl _, slot_eq rfl⟩) ?_
    refine sp_op (Ph.eq (.agg (keyA U))) (fun u hu => by
      refine spArg_eq 0 rfl rfl ?_
      refine spArg_nil ?_
      simp only [Act.put, List.setIfInBounds_toArray, List.set_cons_succ, List.set_cons_zero]
      go_wp2_with ((refine wpList_load_mid rfl 23 _ rfl w.heap.size 0 rfl (U.map BV) _ (HU.out _ hu.has.1) under_key rfl (by rw [HUL.out]; exact info_key) ?_))
      exact ⟨rfl, hu, Ext.refl _, slot_eq rfl⟩) ?_
    refine sp_op (Ph.eq _) (fun u hu => by
      refine spArg_nil ?_
      go_wp2_with (fail)
      exact ⟨rfl, hu, Ext.refl _, slot_eq rfl⟩) ?_
    refine sp_op (Ph.eq (.agg (keyA NM))) (fun u hu => by
      refine spArg_eq 0 rfl rfl ?_
      refine spArg_nil ?_
      simp only [Act.put, List.setIfInBounds_toArray, List.set_cons_succ, List.set_cons_zero]
      go_wp2_with ((go_at_call 44; refine (HNM.out _).mono ?_; rintro e x1 ⟨rfl, hb1⟩))
      exact ⟨rfl, HoldT.step hst hu hb1, hb1, slot_eq rfl⟩) ?_
    refine sp_op (Ph.eq _) (fun u hu => by
      refine spArg_eq 2 rfl rfl ?_
      refine spArg_eq 0 rfl rfl ?_
      refine spArg_nil ?_
      simp only [Act.put, List.setIfInBounds_toArray, List.set_cons_succ, List.set_cons_zero]
      go_wp2_with ((refine wpList_cmp rfl 23 _ _ rfl _ _ _ rfl rfl guard_key HNEQ.out ?_))
      exact ⟨rfl, hu, Ext.refl _, slot_eq rfl⟩) ?_
    refine sp_op (Ph.eq _) (fun u hu => by
      refine spArg_eq 0 rfl rfl ?_
      refine spArg_nil ?_
      simp only [Act.put, List.setIfInBounds_toArray, List.set_cons_succ, List.set_cons_zero]
      go_wp2_with (fail)
      exact ⟨rfl, hu, Ext.refl _, slot_eq rfl⟩) ?_
    refine sp_end ?_
    intro u hu
    refine spArg_eq 5 rfl rfl ?_
    refine spArg_eq 4 rfl rfl ?_
    refine spArg_eq 3 rfl rfl ?_
    refine spArg_eq 2 rfl rfl ?_
    refine spArg_eq 1 rfl rfl ?_
    refine spArg_eq 0 rfl rfl ?_
    refine spArg_nil ?_
    simp only [Act.put, List.setIfInBounds_toArray, List.set_cons_succ, List.set_cons_zero]
    have hcx := HX.out _ hu.has.1
    have hcb := HBX.out _ hu.has.1
    go_wp2_with (go_at_call 45; refine (HRR.out _).mono ?_; rintro e w' ⟨rfl, rfl⟩)
    go_ret
    exact ⟨congrArg (fun n => Ending.returned (.int .i64 n)) HCO.out.symm, hu.up⟩
set_option maxRecDepth 100000 in
set_option maxHeartbeats 4000000 in
theorem CheckOr_any (s : Sub) (vb : Value) (pub round chain size : Int) (w : World) (hs : s.ok) (hp : in64 pub) (hv : SeesB w vb s.e.box) (hl : s.e.box.length ≤ 70368744170000) :
    Calls Tryz.prog 19 #[.agg (subC s vb), .int .u64 pub, .int .i64 round, .int .i64 chain, .int .i64 size] w fun e w' => e = .returned (.int .i64 (checkO s pub round chain size)) ∧ Below w.heap.size w w' := by
  have hso := hs
  obtain ⟨h32, hx, hpp, hgg⟩ := hs
  obtain ⟨a0, c0, rfl, -, -⟩ := sees_form hv
  have hk0 := Lib.hid (show Blk (w.alloc (.cells (subC s (.slice a0 s.e.box.length c0)) 36)) w.heap.size (subC s (.slice a0 s.e.box.length c0)) 36 from Blk.new _ _ _)
  have hb0 := Lib.hid (show Below w.heap.size w (w.alloc (.cells (subC s (.slice a0 s.e.box.length c0)) 36)) by go_grown)
  have HV := Lib.hid (hv.below hb0.out (by decide)); clear hv
  have HX := Lib.hid fun (u : World) (h : Blk u w.heap.size (subC s (.slice a0 s.e.box.length c0)) 36) => sub_x h h32
  have HBX := Lib.hid fun (u : World) (h : Blk u w.heap.size (subC s (.slice a0 s.e.box.length c0)) 36) => sub_box h h32
  have HU := Lib.hid fun (u : World) (h : Blk u w.heap.size (subC s (.slice a0 s.e.box.length c0)) 36) => sub_user h
  have HPP := Lib.hid fun (u : World) (h : Blk u w.heap.size (subC s (.slice a0 s.e.box.length c0)) 36) => sub_p h h32
  have HGG := Lib.hid fun (u : World) (h : Blk u w.heap.size (subC s (.slice a0 s.e.box.length c0)) 36) => sub_g h h32
  have HCK := fun w' : World => CheckKnowr_any 37 s.e.x s.p.c s.p.s w' ⟨by decide, by decide⟩ hx hpp.1 hpp.2
  have HSG := Lib.hid fun (w' : World) (h : SeesB w' (.slice a0 s.e.box.length c0) s.e.box) => Signedr_any s (.slice a0 s.e.box.length c0) round chain w' hso h hl
  have HSC := fun (w' : World) (v : Value) (h : SeesB w' v (signedL s.e.x s.e.box round chain)) => SCheckr_any pub s.g.c s.g.s (signedL s.e.x s.e.box round chain) v w' hp hgg.1 hgg.2 h (by rw [length_signedL]; decide)
  have HNM := Lib.hid fun (w' : World) => Namer_any pub w' hp
  have HRI := fun (w' : World) => Rightr_any s.e.x w' hx.1 hx.2
  have HSZ := Lib.hid (subC_size s (.slice a0 s.e.box.length c0) h32)
  have hneq := fun w' : World => run_neqKey s.user (nameL pub) h32 (length_nameL _) w'
  have HUL := Lib.hid (show (s.user.map BV).length = 32 by rw [List.length_map, h32])
  have hCO : checkO s pub round chain size = if s.user = nameL pub then if (s.e.box.length : Int) = size ∧ okP s.e.x then if knowOk 37 s.e.x s.p.c s.p.s ∧ signOk pub (signedL s.e.x s.e.box round chain) s.g.c s.g.s then 0 else 10 else 1 else 6 := rfl
  clear hso hx hpp hgg h32
  generalize checkO s pub round chain size = CO at *
  generalize signedL s.e.x s.e.box round chain = SL at *
  generalize s.e.x = X at *
  generalize s.e.box = BX at *
  generalize s.p.c = pc at *
  generalize s.p.s = ps at *
  generalize s.g.c = gc at *
  generalize s.g.s = gs at *
  generalize s.user = U at *
  generalize nameL pub = NM at *
  generalize subC s (.slice a0 BX.length c0) = SC at *
  have hst : Stab (fun u => Blk u w.heap.size SC 36 ∧ SeesB u (.slice a0 BX.length c0) BX) := Stab.and (Stab.blk _ _ _) (Stab.sees _ _ _ _ (by decide))
  by_cases hn : U = NM
  · rw [if_pos hn] at hCO
    have hnb : (!(U == NM)) = false := by rw [hn]; simp
    clear hn
    by_cases hsz : (BX.length : Int) = size
    · by_cases hok : okP X
      · rw [if_pos ⟨hsz, hok⟩] at hCO
        rw [decide_eq_true hok] at HRI
        have hne : ((BX.length : Int) != size) = false := by rw [hsz]; simp
        clear hsz hok
        by_cases hkn : knowOk 37 X pc ps
        · rw [decide_eq_true hkn] at HCK
          by_cases hsg : signOk pub SL gc gs
          · rw [if_pos ⟨hkn, hsg⟩] at hCO
            simp only [decide_eq_true hsg] at HSC
            clear hkn hsg
            rw [hnb] at hneq
            have HNEQ := Lib.hid hneq
            have HCO := Lib.hid hCO; have HCKK := Lib.hid HCK; have HRR := Lib.hid HRI; have HSCC := Lib.hid HSC
            clear hneq hnb hCO HCK HRI HSC
            go_enter Tryz.func19, Tryz.ntmps19
            go_wp2_with fail
            have hk : HoldT (fun u => Blk u w.heap.size SC 36 ∧ SeesB u (.slice a0 BX.length c0) BX) w _ := HoldT.drew hst ⟨⟨hk0.out, HV.out⟩, hb0.out⟩
            try change Code.wp _ _ _ (Act.mk _ _) _
            refine wp_region_runR Ext 6 50 (HoldT (fun u => Blk u w.heap.size SC 36 ∧ SeesB u (.slice a0 BX.length c0) BX) _) [[], [(0, 12)], [], [(2, 14)], [(1, 13), (3, 15)], [(4, 16)]] [(0, 12), (1, 13), (2, 14), (3, 15), (4, 16), (5, 11)] (by kernel_rfl) (by kernel_rfl) (by first | rfl | simp) (hk) ?_
            simp only [List.take_succ_cons, List.take_zero, List.drop_succ_cons, List.drop_zero]
            refine sp_op (Ph.eq _) (fun u hu => by
              refine spArg_nil ?_
              go_wp2_with (fail)
              exact ⟨rfl, hu, Ext.refl _, slot_eq rfl⟩) ?_
            refine sp_op (Ph.eq (.agg (keyA U))) (fun u hu => by
              refine spArg_eq 0 rfl rfl ?_
              refine spArg_nil ?_
              simp only [Act.put, List.setIfInBounds_toArray, List.set_cons_succ, List.set_cons_zero]
              go_wp2_with ((refine wpList_load_mid rfl 23 _ rfl w.heap.size 0 rfl (U.map BV) _ (HU.out _ hu.has.1) under_key rfl (by rw [HUL.out]; exact info_key) ?_))
              exact ⟨rfl, hu, Ext.refl _, slot_eq rfl⟩) ?_
            refine sp_op (Ph.eq _) (fun u hu => by
              refine spArg_nil ?_
              go_wp2_with (fail)
              exact ⟨rfl, hu, Ext.refl _, slot_eq rfl⟩) ?_
            refine sp_op (Ph.eq (.agg (keyA NM))) (fun u hu => by
              refine spArg_eq 0 rfl rfl ?_
              refine spArg_nil ?_
              simp only [Act.put, List.setIfInBounds_toArray, List.set_cons_succ, List.set_cons_zero]
              go_wp2_with ((go_at_call 49; refine (HNM.out _).mono ?_; rintro e x1 ⟨rfl, hb1⟩))
              exact ⟨rfl, HoldT.step hst hu hb1, hb1, slot_eq rfl⟩) ?_
            refine sp_op (Ph.eq _) (fun u hu => by
              refine spArg_eq 2 rfl rfl ?_
              refine spArg_eq 0 rfl rfl ?_
              refine spArg_nil ?_
              simp only [Act.put, List.setIfInBounds_toArray, List.set_cons_succ, List.set_cons_zero]
              go_wp2_with ((refine wpList_cmp rfl 23 _ _ rfl _ _ _ rfl rfl guard_key HNEQ.out ?_))
              exact ⟨rfl, hu, Ext.refl _, slot_eq rfl⟩) ?_
            refine sp_op (Ph.eq _) (fun u hu => by
              refine spArg_eq 0 rfl rfl ?_
              refine spArg_nil ?_
              simp only [Act.put, List.setIfInBounds_toArray, List.set_cons_succ, List.set_cons_zero]
              go_wp2_with (fail)
              exact ⟨rfl, hu, Ext.refl _, slot_eq rfl⟩) ?_
            refine sp_end ?_
            intro u hu
            refine spArg_eq 5 rfl rfl ?_
            refine spArg_eq 4 rfl rfl ?_
            refine spArg_eq 3 rfl rfl ?_
            refine spArg_eq 2 rfl rfl ?_
            refine spArg_eq 1 rfl rfl ?_
            refine spArg_eq 0 rfl rfl ?_
            refine spArg_nil ?_
            simp only [Act.put, List.setIfInBounds_toArray, List.set_cons_succ, List.set_cons_zero]
            have hcx := HX.out _ hu.has.1
            have hcb := HBX.out _ hu.has.1
            go_wp2_with (go_at_call 50; refine (HRR.out _).mono ?_; rintro e w' ⟨rfl, rfl⟩)
            have hk5 : HoldT (fun u => Blk u w.heap.size SC 36 ∧ SeesB u (.slice a0 BX.length c0) BX) w u.drew := HoldT.drew hst hu
            clear hcx hcb
            try change Code.wp _ _ _ (Act.mk _ _) _
            refine wp_region_runR Ext 19 50 (HoldT (fun u => Blk u w.heap.size SC 36 ∧ SeesB u (.slice a0 BX.length c0) BX) _) [[], [(0, 32)], [(1, 33)], [], [(3, 35)], [(2, 34), (4, 36)], [(5, 37)], [(6, 38)], [(7, 39)], [(7, 39)], [(7, 39)], [(7, 39)], [(9, 41), (10, 42), (11, 43), (7, 39)], [(7, 39)], [(13, 45), (7, 39)], [(8, 40), (12, 44), (14, 46), (7, 39)], [(15, 47), (7, 39)], [(7, 39), (16, 48)], [(17, 49)]] [(0, 32), (1, 33), (2, 34), (3, 35), (4, 36), (5, 37), (6, 38), (7, 39), (8, 40), (9, 41), (10, 42), (11, 43), (12, 44), (13, 45), (14, 46), (15, 47), (16, 48), (17, 49), (18, 31)] (by kernel_rfl) (by kernel_rfl) (by first | rfl | simp) (hk5) ?_
            simp only [List.take_succ_cons, List.take_zero, List.drop_succ_cons, List.drop_zero]
            refine sp_op (Ph.eq _) (fun u hu => by
              refine spArg_nil ?_
              have hcx := HX.out _ hu.has.1
              go_wp2_with (fail)
              exact ⟨rfl, hu, Ext.refl _, slot_eq rfl⟩) ?_
            refine sp_op (Ph.eq _) (fun u hu => by
              refine spArg_eq 0 rfl rfl ?_
              refine spArg_nil ?_
              simp only [Act.put, List.setIfInBounds_toArray, List.set_cons_succ, List.set_cons_zero]
              have hcx := HX.out _ hu.has.1
              go_wp2_with (fail)
              exact ⟨rfl, hu, Ext.refl _, slot_eq rfl⟩) ?_
            refine sp_op (Ph.eq _) (fun u hu => by
              refine spArg_eq 0 rfl rfl ?_
              refine spArg_nil ?_
              simp only [Act.put, List.setIfInBounds_toArray, List.set_cons_succ, List.set_cons_zero]
              have hcx := HX.out _ hu.has.1
              go_wp2_with (fail)
              exact ⟨rfl, hu, Ext.refl _, slot_eq rfl⟩) ?_
            refine sp_op (Ph.eq _) (fun u hu => by
              refine spArg_nil ?_
              have hcx := HX.out _ hu.has.1
              go_wp2_with (fail)
              exact ⟨rfl, hu, Ext.refl _, slot_eq rfl⟩) ?_
            refine sp_op (Ph.eq (PV pc ps)) (fun u hu => by
              refine spArg_eq 0 rfl rfl ?_
              refine spArg_nil ?_
              simp only [Act.put, List.setIfInBounds_toArray, List.set_cons_succ, List.set_cons_zero]
              have hcx := HX.out _ hu.has.1
              go_wp2_with ((refine wpList_load_mid rfl 34 _ rfl w.heap.size 34 rfl _ _ (HPP.out _ hu.has.1) Tryz.underlying34 rfl info_proof ?_))
              exact ⟨rfl, hu, Ext.refl _, slot_eq rfl⟩) ?_
            refine sp_op (Ph.eq (.bool true)) (fun u hu => by
              refine spArg_eq 2 rfl rfl ?_
              refine spArg_eq 0 rfl rfl ?_
              refine spArg_nil ?_
              simp only [Act.put, List.setIfInBounds_toArray, List.set_cons_succ, List.set_cons_zero]
              have hcx := HX.out _ hu.has.1
              go_wp2_with ((go_at_call 51; refine (HCKK.out _).mono ?_; rintro e x1 ⟨rfl, hb1⟩))
              exact ⟨rfl, HoldT.step hst hu hb1, hb1, slot_eq rfl⟩) ?_
            refine sp_op (Ph.eq _) (fun u hu => by
              refine spArg_eq 0 rfl rfl ?_
              refine spArg_nil ?_
              simp only [Act.put, List.setIfInBounds_toArray, List.set_cons_succ, List.set_cons_zero]
              have hcx := HX.out _ hu.has.1
              go_wp2_with (fail)
              exact ⟨rfl, hu, Ext.refl _, slot_eq rfl⟩) ?_
            refine sp_op (Ph.eq _) (fun u hu => by
              refine spArg_eq 0 rfl rfl ?_
              refine spArg_nil ?_
              simp only [Act.put, List.setIfInBounds_toArray, List.set_cons_succ, List.set_cons_zero]
              have hcx := HX.out _ hu.has.1
              go_wp2_with (fail)
              exact ⟨rfl, hu, Ext.refl _, slot_eq rfl⟩) ?_
            refine sp_op (Ph.eq _) (fun u hu => by
              refine spArg_eq 0 rfl rfl ?_
              refine spArg_nil ?_
              simp only [Act.put, List.setIfInBounds_toArray, List.set_cons_succ, List.set_cons_zero]
              have hcx := HX.out _ hu.has.1
              go_wp2_with (fail)
              exact ⟨rfl, hu, Ext.refl _, slot_eq rfl⟩) ?_
            refine sp_op (Ph.eq (.agg SC)) (fun u hu => by
              refine spArg_eq 1 rfl rfl ?_
              refine spArg_nil ?_
              simp only [Act.put, List.setIfInBounds_toArray, List.set_cons_succ, List.set_cons_zero]
              have hcx := HX.out _ hu.has.1
              go_wp2_with ((refine wpList_load_rowG rfl 36 _ rfl w.heap.size rfl _ _ (0, 0) _ hu.has.1 Tryz.underlying36 rfl (by rw [HSZ.out]; exact info_sub) ?_))
              exact ⟨rfl, hu, Ext.refl _, slot_eq rfl⟩) ?_
            refine sp_op (Ph.eq _) (fun u hu => by
              refine spArg_eq 2 rfl rfl ?_
              refine spArg_nil ?_
              simp only [Act.put, List.setIfInBounds_toArray, List.set_cons_succ, List.set_cons_zero]
              have hcx := HX.out _ hu.has.1
              go_wp2_with (fail)
              exact ⟨rfl, hu, Ext.refl _, slot_eq rfl⟩) ?_
            refine sp_op (Ph.eq _) (fun u hu => by
              refine spArg_eq 3 rfl rfl ?_
              refine spArg_nil ?_
              simp only [Act.put, List.setIfInBounds_toArray, List.set_cons_succ, List.set_cons_zero]
              have hcx := HX.out _ hu.has.1
              go_wp2_with (fail)
              exact ⟨rfl, hu, Ext.refl _, slot_eq rfl⟩) ?_
            refine sp_op (Ph.seesB SL) (fun u hu => by
              refine spArg_eq 2 rfl rfl ?_
              refine spArg_eq 1 rfl rfl ?_
              refine spArg_eq 0 rfl rfl ?_
              refine spArg_eq 4 rfl rfl ?_
              refine spArg_nil ?_
              simp only [Act.put, List.setIfInBounds_toArray, List.set_cons_succ, List.set_cons_zero]
              have hcx := HX.out _ hu.has.1
              go_wp2_with ((go_at_call 15; refine (HSG.out _ hu.has.2).mono ?_; rintro e x1 ⟨v1, rfl, hs1, hb1⟩))
              exact ⟨rfl, HoldT.step hst hu hb1, hb1, slot_of rfl hs1⟩) ?_
            refine sp_op (Ph.eq _) (fun u hu => by
              refine spArg_eq 5 rfl rfl ?_
              refine spArg_nil ?_
              simp only [Act.put, List.setIfInBounds_toArray, List.set_cons_succ, List.set_cons_zero]
              have hcx := HX.out _ hu.has.1
              go_wp2_with (fail)
              exact ⟨rfl, hu, Ext.refl _, slot_eq rfl⟩) ?_
            refine sp_op (Ph.eq (PV gc gs)) (fun u hu => by
              refine spArg_eq 0 rfl rfl ?_
              refine spArg_eq 6 rfl rfl ?_
              refine spArg_nil ?_
              simp only [Act.put, List.setIfInBounds_toArray, List.set_cons_succ, List.set_cons_zero]
              have hcx := HX.out _ hu.has.1
              go_wp2_with ((refine wpList_load_midG rfl 34 _ rfl w.heap.size 36 rfl _ _ (HGG.out _ hu.has.1) Tryz.underlying34 rfl info_proof ?_))
              exact ⟨rfl, hu, Ext.refl _, slot_eq rfl⟩) ?_
            refine sp_op (Ph.eq (.bool _)) (fun u hu => by
              refine spArg_eq 6 rfl rfl ?_
              refine spArg_in (φ := Ph.seesB SL) 2 rfl rfl ?_; intro v12 h12
              skip
              refine spArg_eq 0 rfl rfl ?_
              refine spArg_eq 7 rfl rfl ?_
              refine spArg_nil ?_
              simp only [Act.put, List.setIfInBounds_toArray, List.set_cons_succ, List.set_cons_zero]
              have hcx := HX.out _ hu.has.1
              go_wp2_with ((go_at_call 52; refine (HSCC.out _ _ h12).mono ?_; rintro e x1 ⟨rfl, hb1⟩))
              exact ⟨rfl, HoldT.step hst hu hb1, hb1, slot_eq rfl⟩) ?_
            refine sp_op (Ph.eq _) (fun u hu => by
              refine spArg_eq 0 rfl rfl ?_
              refine spArg_eq 8 rfl rfl ?_
              refine spArg_nil ?_
              simp only [Act.put, List.setIfInBounds_toArray, List.set_cons_succ, List.set_cons_zero]
              have hcx := HX.out _ hu.has.1
              go_wp2_with (fail)
              exact ⟨rfl, hu, Ext.refl _, slot_eq rfl⟩) ?_
            refine sp_op (Ph.eq _) (fun u hu => by
              refine spArg_eq 9 rfl rfl ?_
              refine spArg_eq 0 rfl rfl ?_
              refine spArg_nil ?_
              simp only [Act.put, List.setIfInBounds_toArray, List.set_cons_succ, List.set_cons_zero]
              have hcx := HX.out _ hu.has.1
              go_wp2_with (fail)
              exact ⟨rfl, hu, Ext.refl _, slot_eq rfl⟩) ?_
            refine sp_op (Ph.eq _) (fun u hu => by
              refine spArg_eq 0 rfl rfl ?_
              refine spArg_nil ?_
              simp only [Act.put, List.setIfInBounds_toArray, List.set_cons_succ, List.set_cons_zero]
              have hcx := HX.out _ hu.has.1
              go_wp2_with (fail)
              exact ⟨rfl, hu, Ext.refl _, slot_eq rfl⟩) ?_
            refine sp_end ?_
            intro u hu
            refine spArg_eq 18 rfl rfl ?_
            refine spArg_eq 17 rfl rfl ?_
            refine spArg_eq 16 rfl rfl ?_
            refine spArg_eq 15 rfl rfl ?_
            refine spArg_eq 14 rfl rfl ?_
            refine spArg_eq 13 rfl rfl ?_
            refine spArg_eq 12 rfl rfl ?_
            refine spArg_eq 11 rfl rfl ?_
            refine spArg_eq 10 rfl rfl ?_
            refine spArg_eq 9 rfl rfl ?_
            refine spArg_eq 8 rfl rfl ?_
            refine spArg_eq 7 rfl rfl ?_
            refine spArg_in (φ := Ph.seesB SL) 6 rfl rfl ?_; intro v12 h12
            skip
            refine spArg_eq 5 rfl rfl ?_
            refine spArg_eq 4 rfl rfl ?_
            refine spArg_eq 3 rfl rfl ?_
            refine spArg_eq 2 rfl rfl ?_
            refine spArg_eq 1 rfl rfl ?_
            refine spArg_eq 0 rfl rfl ?_
            refine spArg_nil ?_
            simp only [Act.put, List.setIfInBounds_toArray, List.set_cons_succ, List.set_cons_zero]
            go_wp2_with fail
            go_ret
            exact ⟨congrArg (fun n => Ending.returned (.int .i64 n)) HCO.out.symm, hu.up⟩
          · rw [if_neg (fun h => hsg h.2)] at hCO
            simp only [decide_eq_false hsg] at HSC
            clear hkn hsg
            rw [hnb] at hneq
            have HNEQ := Lib.hid hneq
            have HCO := Lib.hid hCO; have HCKK := Lib.hid HCK; have HRR := Lib.hid HRI; have HSCC := Lib.hid HSC
            clear hneq hnb hCO HCK HRI HSC
            go_enter Tryz.func19, Tryz.ntmps19
            go_wp2_with fail
            have hk : HoldT (fun u => Blk u w.heap.size SC 36 ∧ SeesB u (.slice a0 BX.length c0) BX) w _ := HoldT.drew hst ⟨⟨hk0.out, HV.out⟩, hb0.out⟩
            try change Code.wp _ _ _ (Act.mk _ _) _
            refine wp_region_runR Ext 6 50 (HoldT (fun u => Blk u w.heap.size SC 36 ∧ SeesB u (.slice a0 BX.length c0) BX) _) [[], [(0, 12)], [], [(2, 14)], [(1, 13), (3, 15)], [(4, 16)]] [(0, 12), (1, 13), (2, 14), (3, 15), (4, 16), (5, 11)] (by kernel_rfl) (by kernel_rfl) (by first | rfl | simp) (hk) ?_
            simp only [List.take_succ_cons, List.take_zero, List.drop_succ_cons, List.drop_zero]
            refine sp_op (Ph.eq _) (fun u hu => by
              refine spArg_nil ?_
              go_wp2_with (fail)
              exact ⟨rfl, hu, Ext.refl _, slot_eq rfl⟩) ?_
            refine sp_op (Ph.eq (.agg (keyA U))) (fun u hu => by
              refine spArg_eq 0 rfl rfl ?_
              refine spArg_nil ?_
              simp only [Act.put, List.setIfInBounds_toArray, List.set_cons_succ, List.set_cons_zero]
              go_wp2_with ((refine wpList_load_mid rfl 23 _ rfl w.heap.size 0 rfl (U.map BV) _ (HU.out _ hu.has.1) under_key rfl (by rw [HUL.out]; exact info_key) ?_))
              exact ⟨rfl, hu, Ext.refl _, slot_eq rfl⟩) ?_
            refine sp_op (Ph.eq _) (fun u hu => by
              refine spArg_nil ?_
              go_wp2_with (fail)
              exact ⟨rfl, hu, Ext.refl _, slot_eq rfl⟩) ?_
            refine sp_op (Ph.eq (.agg (keyA NM))) (fun u hu => by
              refine spArg_eq 0 rfl rfl ?_
              refine spArg_nil ?_
              simp only [Act.put, List.setIfInBounds_toArray, List.set_cons_succ, List.set_cons_zero]
              go_wp2_with ((go_at_call 49; refine (HNM.out _).mono ?_; rintro e x1 ⟨rfl, hb1⟩))
              exact ⟨rfl, HoldT.step hst hu hb1, hb1, slot_eq rfl⟩) ?_
            refine sp_op (Ph.eq _) (fun u hu => by
              refine spArg_eq 2 rfl rfl ?_
              refine spArg_eq 0 rfl rfl ?_
              refine spArg_nil ?_
              simp only [Act.put, List.setIfInBounds_toArray, List.set_cons_succ, List.set_cons_zero]
              go_wp2_with ((refine wpList_cmp rfl 23 _ _ rfl _ _ _ rfl rfl guard_key HNEQ.out ?_))
              exact ⟨rfl, hu, Ext.refl _, slot_eq rfl⟩) ?_
            refine sp_op (Ph.eq _) (fun u hu => by
              refine spArg_eq 0 rfl rfl ?_
              refine spArg_nil ?_
              simp only [Act.put, List.setIfInBounds_toArray, List.set_cons_succ, List.set_cons_zero]
              go_wp2_with (fail)
              exact ⟨rfl, hu, Ext.refl _, slot_eq rfl⟩) ?_
            refine sp_end ?_
            intro u hu
            refine spArg_eq 5 rfl rfl ?_
            refine spArg_eq 4 rfl rfl ?_
            refine spArg_eq 3 rfl rfl ?_
            refine spArg_eq 2 rfl rfl ?_
            refine spArg_eq 1 rfl rfl ?_
            refine spArg_eq 0 rfl rfl ?_
            refine spArg_nil ?_
            simp only [Act.put, List.setIfInBounds_toArray, List.set_cons_succ, List.set_cons_zero]
            have hcx := HX.out _ hu.has.1
            have hcb := HBX.out _ hu.has.1
            go_wp2_with (go_at_call 50; refine (HRR.out _).mono ?_; rintro e w' ⟨rfl, rfl⟩)
            have hk5 : HoldT (fun u => Blk u w.heap.size SC 36 ∧ SeesB u (.slice a0 BX.length c0) BX) w u.drew := HoldT.drew hst hu
            clear hcx hcb
            try change Code.wp _ _ _ (Act.mk _ _) _
            refine wp_region_runR Ext 19 50 (HoldT (fun u => Blk u w.heap.size SC 36 ∧ SeesB u (.slice a0 BX.length c0) BX) _) [[], [(0, 32)], [(1, 33)], [], [(3, 35)], [(2, 34), (4, 36)], [(5, 37)], [(6, 38)], [(7, 39)], [(7, 39)], [(7, 39)], [(7, 39)], [(9, 41), (10, 42), (11, 43), (7, 39)], [(7, 39)], [(13, 45), (7, 39)], [(8, 40), (12, 44), (14, 46), (7, 39)], [(15, 47), (7, 39)], [(7, 39), (16, 48)], [(17, 49)]] [(0, 32), (1, 33), (2, 34), (3, 35), (4, 36), (5, 37), (6, 38), (7, 39), (8, 40), (9, 41), (10, 42), (11, 43), (12, 44), (13, 45), (14, 46), (15, 47), (16, 48), (17, 49), (18, 31)] (by kernel_rfl) (by kernel_rfl) (by first | rfl | simp) (hk5) ?_
            simp only [List.take_succ_cons, List.take_zero, List.drop_succ_cons, List.drop_zero]
            refine sp_op (Ph.eq _) (fun u hu => by
              refine spArg_nil ?_
              have hcx := HX.out _ hu.has.1
              go_wp2_with (fail)
              exact ⟨rfl, hu, Ext.refl _, slot_eq rfl⟩) ?_
            refine sp_op (Ph.eq _) (fun u hu => by
              refine spArg_eq 0 rfl rfl ?_
              refine spArg_nil ?_
              simp only [Act.put, List.setIfInBounds_toArray, List.set_cons_succ, List.set_cons_zero]
              have hcx := HX.out _ hu.has.1
              go_wp2_with (fail)
              exact ⟨rfl, hu, Ext.refl _, slot_eq rfl⟩) ?_
            refine sp_op (Ph.eq _) (fun u hu => by
              refine spArg_eq 0 rfl rfl ?_
              refine spArg_nil ?_
              simp only [Act.put, List.setIfInBounds_toArray, List.set_cons_succ, List.set_cons_zero]
              have hcx := HX.out _ hu.has.1
              go_wp2_with (fail)
              exact ⟨rfl, hu, Ext.refl _, slot_eq rfl⟩) ?_
            refine sp_op (Ph.eq _) (fun u hu => by
              refine spArg_nil ?_
              have hcx := HX.out _ hu.has.1
              go_wp2_with (fail)
              exact ⟨rfl, hu, Ext.refl _, slot_eq rfl⟩) ?_
            refine sp_op (Ph.eq (PV pc ps)) (fun u hu => by
              refine spArg_eq 0 rfl rfl ?_
              refine spArg_nil ?_
              simp only [Act.put, List.setIfInBounds_toArray, List.set_cons_succ, List.set_cons_zero]
              have hcx := HX.out _ hu.has.1
              go_wp2_with ((refine wpList_load_mid rfl 34 _ rfl w.heap.size 34 rfl _ _ (HPP.out _ hu.has.1) Tryz.underlying34 rfl info_proof ?_))
              exact ⟨rfl, hu, Ext.refl _, slot_eq rfl⟩) ?_
            refine sp_op (Ph.eq (.bool true)) (fun u hu => by
              refine spArg_eq 2 rfl rfl ?_
              refine spArg_eq 0 rfl rfl ?_
              refine spArg_nil ?_
              simp only [Act.put, List.setIfInBounds_toArray, List.set_cons_succ, List.set_cons_zero]
              have hcx := HX.out _ hu.has.1
              go_wp2_with ((go_at_call 51; refine (HCKK.out _).mono ?_; rintro e x1 ⟨rfl, hb1⟩))
              exact ⟨rfl, HoldT.step hst hu hb1, hb1, slot_eq rfl⟩) ?_
            refine sp_op (Ph.eq _) (fun u hu => by
              refine spArg_eq 0 rfl rfl ?_
              refine spArg_nil ?_
              simp only [Act.put, List.setIfInBounds_toArray, List.set_cons_succ, List.set_cons_zero]
              have hcx := HX.out _ hu.has.1
              go_wp2_with (fail)
              exact ⟨rfl, hu, Ext.refl _, slot_eq rfl⟩) ?_
            refine sp_op (Ph.eq _) (fun u hu => by
              refine spArg_eq 0 rfl rfl ?_
              refine spArg_nil ?_
              simp only [Act.put, List.setIfInBounds_toArray, List.set_cons_succ, List.set_cons_zero]
              have hcx := HX.out _ hu.has.1
              go_wp2_with (fail)
              exact ⟨rfl, hu, Ext.refl _, slot_eq rfl⟩) ?_
            refine sp_op (Ph.eq _) (fun u hu => by
              refine spArg_eq 0 rfl rfl ?_
              refine spArg_nil ?_
              simp only [Act.put, List.setIfInBounds_toArray, List.set_cons_succ, List.set_cons_zero]
              have hcx := HX.out _ hu.has.1
              go_wp2_with (fail)
              exact ⟨rfl, hu, Ext.refl _, slot_eq rfl⟩) ?_
            refine sp_op (Ph.eq (.agg SC)) (fun u hu => by
              refine spArg_eq 1 rfl rfl ?_
              refine spArg_nil ?_
              simp only [Act.put, List.setIfInBounds_toArray, List.set_cons_succ, List.set_cons_zero]
              have hcx := HX.out _ hu.has.1
              go_wp2_with ((refine wpList_load_rowG rfl 36 _ rfl w.heap.size rfl _ _ (0, 0) _ hu.has.1 Tryz.underlying36 rfl (by rw [HSZ.out]; exact info_sub) ?_))
              exact ⟨rfl, hu, Ext.refl _, slot_eq rfl⟩) ?_
            refine sp_op (Ph.eq _) (fun u hu => by
              refine spArg_eq 2 rfl rfl ?_
              refine spArg_nil ?_
              simp only [Act.put, List.setIfInBounds_toArray, List.set_cons_succ, List.set_cons_zero]
              have hcx := HX.out _ hu.has.1
              go_wp2_with (fail)
              exact ⟨rfl, hu, Ext.refl _, slot_eq rfl⟩) ?_
            refine sp_op (Ph.eq _) (fun u hu => by
              refine spArg_eq 3 rfl rfl ?_
              refine spArg_nil ?_
              simp only [Act.put, List.setIfInBounds_toArray, List.set_cons_succ, List.set_cons_zero]
              have hcx := HX.out _ hu.has.1
              go_wp2_with (fail)
              exact ⟨rfl, hu, Ext.refl _, slot_eq rfl⟩) ?_
            refine sp_op (Ph.seesB SL) (fun u hu => by
              refine spArg_eq 2 rfl rfl ?_
              refine spArg_eq 1 rfl rfl ?_
              refine spArg_eq 0 rfl rfl ?_
              refine spArg_eq 4 rfl rfl ?_
              refine spArg_nil ?_
              simp only [Act.put, List.setIfInBounds_toArray, List.set_cons_succ, List.set_cons_zero]
              have hcx := HX.out _ hu.has.1
              go_wp2_with ((go_at_call 15; refine (HSG.out _ hu.has.2).mono ?_; rintro e x1 ⟨v1, rfl, hs1, hb1⟩))
              exact ⟨rfl, HoldT.step hst hu hb1, hb1, slot_of rfl hs1⟩) ?_
            refine sp_op (Ph.eq _) (fun u hu => by
              refine spArg_eq 5 rfl rfl ?_
              refine spArg_nil ?_
              simp only [Act.put, List.setIfInBounds_toArray, List.set_cons_succ, List.set_cons_zero]
              have hcx := HX.out _ hu.has.1
              go_wp2_with (fail)
              exact ⟨rfl, hu, Ext.refl _, slot_eq rfl⟩) ?_
            refine sp_op (Ph.eq (PV gc gs)) (fun u hu => by
              refine spArg_eq 0 rfl rfl ?_
              refine spArg_eq 6 rfl rfl ?_
              refine spArg_nil ?_
              simp only [Act.put, List.setIfInBounds_toArray, List.set_cons_succ, List.set_cons_zero]
              have hcx := HX.out _ hu.has.1
              go_wp2_with ((refine wpList_load_midG rfl 34 _ rfl w.heap.size 36 rfl _ _ (HGG.out _ hu.has.1) Tryz.underlying34 rfl info_proof ?_))
              exact ⟨rfl, hu, Ext.refl _, slot_eq rfl⟩) ?_
            refine sp_op (Ph.eq (.bool _)) (fun u hu => by
              refine spArg_eq 6 rfl rfl ?_
              refine spArg_in (φ := Ph.seesB SL) 2 rfl rfl ?_; intro v12 h12
              skip
              refine spArg_eq 0 rfl rfl ?_
              refine spArg_eq 7 rfl rfl ?_
              refine spArg_nil ?_
              simp only [Act.put, List.setIfInBounds_toArray, List.set_cons_succ, List.set_cons_zero]
              have hcx := HX.out _ hu.has.1
              go_wp2_with ((go_at_call 52; refine (HSCC.out _ _ h12).mono ?_; rintro e x1 ⟨rfl, hb1⟩))
              exact ⟨rfl, HoldT.step hst hu hb1, hb1, slot_eq rfl⟩) ?_
            refine sp_op (Ph.eq _) (fun u hu => by
              refine spArg_eq 0 rfl rfl ?_
              refine spArg_eq 8 rfl rfl ?_
              refine spArg_nil ?_
              simp only [Act.put, List.setIfInBounds_toArray, List.set_cons_succ, List.set_cons_zero]
              have hcx := HX.out _ hu.has.1
              go_wp2_with (fail)
              exact ⟨rfl, hu, Ext.refl _, slot_eq rfl⟩) ?_
            refine sp_op (Ph.eq _) (fun u hu => by
              refine spArg_eq 9 rfl rfl ?_
              refine spArg_eq 0 rfl rfl ?_
              refine spArg_nil ?_
              simp only [Act.put, List.setIfInBounds_toArray, List.set_cons_succ, List.set_cons_zero]
              have hcx := HX.out _ hu.has.1
              go_wp2_with (fail)
              exact ⟨rfl, hu, Ext.refl _, slot_eq rfl⟩) ?_
            refine sp_op (Ph.eq _) (fun u hu => by
              refine spArg_eq 0 rfl rfl ?_
              refine spArg_nil ?_
              simp only [Act.put, List.setIfInBounds_toArray, List.set_cons_succ, List.set_cons_zero]
              have hcx := HX.out _ hu.has.1
              go_wp2_with (fail)
              exact ⟨rfl, hu, Ext.refl _, slot_eq rfl⟩) ?_
            refine sp_end ?_
            intro u hu
            refine spArg_eq 18 rfl rfl ?_
            refine spArg_eq 17 rfl rfl ?_
            refine spArg_eq 16 rfl rfl ?_
            refine spArg_eq 15 rfl rfl ?_
            refine spArg_eq 14 rfl rfl ?_
            refine spArg_eq 13 rfl rfl ?_
            refine spArg_eq 12 rfl rfl ?_
            refine spArg_eq 11 rfl rfl ?_
            refine spArg_eq 10 rfl rfl ?_
            refine spArg_eq 9 rfl rfl ?_
            refine spArg_eq 8 rfl rfl ?_
            refine spArg_eq 7 rfl rfl ?_
            refine spArg_in (φ := Ph.seesB SL) 6 rfl rfl ?_; intro v12 h12
            skip
            refine spArg_eq 5 rfl rfl ?_
            refine spArg_eq 4 rfl rfl ?_
            refine spArg_eq 3 rfl rfl ?_
            refine spArg_eq 2 rfl rfl ?_
            refine spArg_eq 1 rfl rfl ?_
            refine spArg_eq 0 rfl rfl ?_
            refine spArg_nil ?_
            simp only [Act.put, List.setIfInBounds_toArray, List.set_cons_succ, List.set_cons_zero]
            go_wp2_with fail
            go_ret
            exact ⟨congrArg (fun n => Ending.returned (.int .i64 n)) HCO.out.symm, hu.up⟩
        · rw [if_neg (fun h => hkn h.1)] at hCO
          rw [decide_eq_false hkn] at HCK
          clear hkn HSC
          have HSC : True := trivial
          rw [hnb] at hneq
          have HNEQ := Lib.hid hneq
          have HCO := Lib.hid hCO; have HCKK := Lib.hid HCK; have HRR := Lib.hid HRI; have HSCC := Lib.hid HSC
          clear hneq hnb hCO HCK HRI HSC
          go_enter Tryz.func19, Tryz.ntmps19
          go_wp2_with fail
          have hk : HoldT (fun u => Blk u w.heap.size SC 36 ∧ SeesB u (.slice a0 BX.length c0) BX) w _ := HoldT.drew hst ⟨⟨hk0.out, HV.out⟩, hb0.out⟩
          try change Code.wp _ _ _ (Act.mk _ _) _
          refine wp_region_runR Ext 6 50 (HoldT (fun u => Blk u w.heap.size SC 36 ∧ SeesB u (.slice a0 BX.length c0) BX) _) [[], [(0, 12)], [], [(2, 14)], [(1, 13), (3, 15)], [(4, 16)]] [(0, 12), (1, 13), (2, 14), (3, 15), (4, 16), (5, 11)] (by kernel_rfl) (by kernel_rfl) (by first | rfl | simp) (hk) ?_
          simp only [List.take_succ_cons, List.take_zero, List.drop_succ_cons, List.drop_zero]
          refine sp_op (Ph.eq _) (fun u hu => by
            refine spArg_nil ?_
            go_wp2_with (fail)
            exact ⟨rfl, hu, Ext.refl _, slot_eq rfl⟩) ?_
          refine sp_op (Ph.eq (.agg (keyA U))) (fun u hu => by
            refine spArg_eq 0 rfl rfl ?_
            refine spArg_nil ?_
            simp only [Act.put, List.setIfInBounds_toArray, List.set_cons_succ, List.set_cons_zero]
            go_wp2_with ((refine wpList_load_mid rfl 23 _ rfl w.heap.size 0 rfl (U.map BV) _ (HU.out _ hu.has.1) under_key rfl (by rw [HUL.out]; exact info_key) ?_))
            exact ⟨rfl, hu, Ext.refl _, slot_eq rfl⟩) ?_
          refine sp_op (Ph.eq _) (fun u hu => by
            refine spArg_nil ?_
            go_wp2_with (fail)
            exact ⟨rfl, hu, Ext.refl _, slot_eq rfl⟩) ?_
          refine sp_op (Ph.eq (.agg (keyA NM))) (fun u hu => by
            refine spArg_eq 0 rfl rfl ?_
            refine spArg_nil ?_
            simp only [Act.put, List.setIfInBounds_toArray, List.set_cons_succ, List.set_cons_zero]
            go_wp2_with ((go_at_call 49; refine (HNM.out _).mono ?_; rintro e x1 ⟨rfl, hb1⟩))
            exact ⟨rfl, HoldT.step hst hu hb1, hb1, slot_eq rfl⟩) ?_
          refine sp_op (Ph.eq _) (fun u hu => by
            refine spArg_eq 2 rfl rfl ?_
            refine spArg_eq 0 rfl rfl ?_
            refine spArg_nil ?_
            simp only [Act.put, List.setIfInBounds_toArray, List.set_cons_succ, List.set_cons_zero]
            go_wp2_with ((refine wpList_cmp rfl 23 _ _ rfl _ _ _ rfl rfl guard_key HNEQ.out ?_))
            exact ⟨rfl, hu, Ext.refl _, slot_eq rfl⟩) ?_
          refine sp_op (Ph.eq _) (fun u hu => by
            refine spArg_eq 0 rfl rfl ?_
            refine spArg_nil ?_
            simp only [Act.put, List.setIfInBounds_toArray, List.set_cons_succ, List.set_cons_zero]
            go_wp2_with (fail)
            exact ⟨rfl, hu, Ext.refl _, slot_eq rfl⟩) ?_
          refine sp_end ?_
          intro u hu
          refine spArg_eq 5 rfl rfl ?_
          refine spArg_eq 4 rfl rfl ?_
          refine spArg_eq 3 rfl rfl ?_
          refine spArg_eq 2 rfl rfl ?_
          refine spArg_eq 1 rfl rfl ?_
          refine spArg_eq 0 rfl rfl ?_
          refine spArg_nil ?_
          simp only [Act.put, List.setIfInBounds_toArray, List.set_cons_succ, List.set_cons_zero]
          have hcx := HX.out _ hu.has.1
          have hcb := HBX.out _ hu.has.1
          go_wp2_with (go_at_call 50; refine (HRR.out _).mono ?_; rintro e w' ⟨rfl, rfl⟩)
          have hk5 : HoldT (fun u => Blk u w.heap.size SC 36 ∧ SeesB u (.slice a0 BX.length c0) BX) w u.drew := HoldT.drew hst hu
          clear hcx hcb
          try change Code.wp _ _ _ (Act.mk _ _) _
          refine wp_region_runR Ext 19 50 (HoldT (fun u => Blk u w.heap.size SC 36 ∧ SeesB u (.slice a0 BX.length c0) BX) _) [[], [(0, 32)], [(1, 33)], [], [(3, 35)], [(2, 34), (4, 36)], [(5, 37)], [(6, 38)], [(7, 39)], [(7, 39)], [(7, 39)], [(7, 39)], [(9, 41), (10, 42), (11, 43), (7, 39)], [(7, 39)], [(13, 45), (7, 39)], [(8, 40), (12, 44), (14, 46), (7, 39)], [(15, 47), (7, 39)], [(7, 39), (16, 48)], [(17, 49)]] [(0, 32), (1, 33), (2, 34), (3, 35), (4, 36), (5, 37), (6, 38), (7, 39), (8, 40), (9, 41), (10, 42), (11, 43), (12, 44), (13, 45), (14, 46), (15, 47), (16, 48), (17, 49), (18, 31)] (by kernel_rfl) (by kernel_rfl) (by first | rfl | simp) (hk5) ?_
          simp only [List.take_succ_cons, List.take_zero, List.drop_succ_cons, List.drop_zero]
          refine sp_op (Ph.eq _) (fun u hu => by
            refine spArg_nil ?_
            have hcx := HX.out _ hu.has.1
            go_wp2_with (fail)
            exact ⟨rfl, hu, Ext.refl _, slot_eq rfl⟩) ?_
          refine sp_op (Ph.eq _) (fun u hu => by
            refine spArg_eq 0 rfl rfl ?_
            refine spArg_nil ?_
            simp only [Act.put, List.setIfInBounds_toArray, List.set_cons_succ, List.set_cons_zero]
            have hcx := HX.out _ hu.has.1
            go_wp2_with (fail)
            exact ⟨rfl, hu, Ext.refl _, slot_eq rfl⟩) ?_
          refine sp_op (Ph.eq _) (fun u hu => by
            refine spArg_eq 0 rfl rfl ?_
            refine spArg_nil ?_
            simp only [Act.put, List.setIfInBounds_toArray, List.set_cons_succ, List.set_cons_zero]
            have hcx := HX.out _ hu.has.1
            go_wp2_with (fail)
            exact ⟨rfl, hu, Ext.refl _, slot_eq rfl⟩) ?_
          refine sp_op (Ph.eq _) (fun u hu => by
            refine spArg_nil ?_
            have hcx := HX.out _ hu.has.1
            go_wp2_with (fail)
            exact ⟨rfl, hu, Ext.refl _, slot_eq rfl⟩) ?_
          refine sp_op (Ph.eq (PV pc ps)) (fun u hu => by
            refine spArg_eq 0 rfl rfl ?_
            refine spArg_nil ?_
            simp only [Act.put, List.setIfInBounds_toArray, List.set_cons_succ, List.set_cons_zero]
            have hcx := HX.out _ hu.has.1
            go_wp2_with ((refine wpList_load_mid rfl 34 _ rfl w.heap.size 34 rfl _ _ (HPP.out _ hu.has.1) Tryz.underlying34 rfl info_proof ?_))
            exact ⟨rfl, hu, Ext.refl _, slot_eq rfl⟩) ?_
          refine sp_op (Ph.eq (.bool false)) (fun u hu => by
            refine spArg_eq 2 rfl rfl ?_
            refine spArg_eq 0 rfl rfl ?_
            refine spArg_nil ?_
            simp only [Act.put, List.setIfInBounds_toArray, List.set_cons_succ, List.set_cons_zero]
            have hcx := HX.out _ hu.has.1
            go_wp2_with ((go_at_call 51; refine (HCKK.out _).mono ?_; rintro e x1 ⟨rfl, hb1⟩))
            exact ⟨rfl, HoldT.step hst hu hb1, hb1, slot_eq rfl⟩) ?_
          refine sp_op (Ph.eq _) (fun u hu => by
            refine spArg_eq 0 rfl rfl ?_
            refine spArg_nil ?_
            simp only [Act.put, List.setIfInBounds_toArray, List.set_cons_succ, List.set_cons_zero]
            have hcx := HX.out _ hu.has.1
            go_wp2_with (fail)
            exact ⟨rfl, hu, Ext.refl _, slot_eq rfl⟩) ?_
          refine sp_op (Ph.eq _) (fun u hu => by
            refine spArg_eq 0 rfl rfl ?_
            refine spArg_nil ?_
            simp only [Act.put, List.setIfInBounds_toArray, List.set_cons_succ, List.set_cons_zero]
            have hcx := HX.out _ hu.has.1
            go_wp2_with (fail)
            exact ⟨rfl, hu, Ext.refl _, slot_eq rfl⟩) ?_
          refine sp_op (Ph.eq _) (fun u hu => by
            refine spArg_eq 0 rfl rfl ?_
            refine spArg_nil ?_
            simp only [Act.put, List.setIfInBounds_toArray, List.set_cons_succ, List.set_cons_zero]
            have hcx := HX.out _ hu.has.1
            go_wp2_with (fail)
            exact ⟨rfl, hu, Ext.refl _, slot_eq rfl⟩) ?_
          refine sp_op (Ph.eq _) (fun u hu => by
            refine spArg_eq 1 rfl rfl ?_
            refine spArg_nil ?_
            simp only [Act.put, List.setIfInBounds_toArray, List.set_cons_succ, List.set_cons_zero]
            have hcx := HX.out _ hu.has.1
            go_wp2_with (fail)
            exact ⟨rfl, hu, Ext.refl _, slot_eq rfl⟩) ?_
          refine sp_op (Ph.eq _) (fun u hu => by
            refine spArg_eq 2 rfl rfl ?_
            refine spArg_nil ?_
            simp only [Act.put, List.setIfInBounds_toArray, List.set_cons_succ, List.set_cons_zero]
            have hcx := HX.out _ hu.has.1
            go_wp2_with (fail)
            exact ⟨rfl, hu, Ext.refl _, slot_eq rfl⟩) ?_
          refine sp_op (Ph.eq _) (fun u hu => by
            refine spArg_eq 3 rfl rfl ?_
            refine spArg_nil ?_
            simp only [Act.put, List.setIfInBounds_toArray, List.set_cons_succ, List.set_cons_zero]
            have hcx := HX.out _ hu.has.1
            go_wp2_with (fail)
            exact ⟨rfl, hu, Ext.refl _, slot_eq rfl⟩) ?_
          refine sp_op (Ph.eq _) (fun u hu => by
            refine spArg_eq 2 rfl rfl ?_
            refine spArg_eq 1 rfl rfl ?_
            refine spArg_eq 0 rfl rfl ?_
            refine spArg_eq 4 rfl rfl ?_
            refine spArg_nil ?_
            simp only [Act.put, List.setIfInBounds_toArray, List.set_cons_succ, List.set_cons_zero]
            have hcx := HX.out _ hu.has.1
            go_wp2_with (fail)
            exact ⟨rfl, hu, Ext.refl _, slot_eq rfl⟩) ?_
          refine sp_op (Ph.eq _) (fun u hu => by
            refine spArg_eq 5 rfl rfl ?_
            refine spArg_nil ?_
            simp only [Act.put, List.setIfInBounds_toArray, List.set_cons_succ, List.set_cons_zero]
            have hcx := HX.out _ hu.has.1
            go_wp2_with (fail)
            exact ⟨rfl, hu, Ext.refl _, slot_eq rfl⟩) ?_
          refine sp_op (Ph.eq _) (fun u hu => by
            refine spArg_eq 0 rfl rfl ?_
            refine spArg_eq 6 rfl rfl ?_
            refine spArg_nil ?_
            simp only [Act.put, List.setIfInBounds_toArray, List.set_cons_succ, List.set_cons_zero]
            have hcx := HX.out _ hu.has.1
            go_wp2_with (fail)
            exact ⟨rfl, hu, Ext.refl _, slot_eq rfl⟩) ?_
          refine sp_op (Ph.eq _) (fun u hu => by
            refine spArg_eq 6 rfl rfl ?_
            refine spArg_eq 2 rfl rfl ?_
            refine spArg_eq 0 rfl rfl ?_
            refine spArg_eq 7 rfl rfl ?_
            refine spArg_nil ?_
            simp only [Act.put, List.setIfInBounds_toArray, List.set_cons_succ, List.set_cons_zero]
            have hcx := HX.out _ hu.has.1
            go_wp2_with (fail)
            exact ⟨rfl, hu, Ext.refl _, slot_eq rfl⟩) ?_
          refine sp_op (Ph.eq _) (fun u hu => by
            refine spArg_eq 0 rfl rfl ?_
            refine spArg_eq 8 rfl rfl ?_
            refine spArg_nil ?_
            simp only [Act.put, List.setIfInBounds_toArray, List.set_cons_succ, List.set_cons_zero]
            have hcx := HX.out _ hu.has.1
            go_wp2_with (fail)
            exact ⟨rfl, hu, Ext.refl _, slot_eq rfl⟩) ?_
          refine sp_op (Ph.eq _) (fun u hu => by
            refine spArg_eq 9 rfl rfl ?_
            refine spArg_eq 0 rfl rfl ?_
            refine spArg_nil ?_
            simp only [Act.put, List.setIfInBounds_toArray, List.set_cons_succ, List.set_cons_zero]
            have hcx := HX.out _ hu.has.1
            go_wp2_with (fail)
            exact ⟨rfl, hu, Ext.refl _, slot_eq rfl⟩) ?_
          refine sp_op (Ph.eq _) (fun u hu => by
            refine spArg_eq 0 rfl rfl ?_
            refine spArg_nil ?_
            simp only [Act.put, List.setIfInBounds_toArray, List.set_cons_succ, List.set_cons_zero]
            have hcx := HX.out _ hu.has.1
            go_wp2_with (fail)
            exact ⟨rfl, hu, Ext.refl _, slot_eq rfl⟩) ?_
          refine sp_end ?_
          intro u hu
          refine spArg_eq 18 rfl rfl ?_
          refine spArg_eq 17 rfl rfl ?_
          refine spArg_eq 16 rfl rfl ?_
          refine spArg_eq 15 rfl rfl ?_
          refine spArg_eq 14 rfl rfl ?_
          refine spArg_eq 13 rfl rfl ?_
          refine spArg_eq 12 rfl rfl ?_
          refine spArg_eq 11 rfl rfl ?_
          refine spArg_eq 10 rfl rfl ?_
          refine spArg_eq 9 rfl rfl ?_
          refine spArg_eq 8 rfl rfl ?_
          refine spArg_eq 7 rfl rfl ?_
          refine spArg_eq 6 rfl rfl ?_
          refine spArg_eq 5 rfl rfl ?_
          refine spArg_eq 4 rfl rfl ?_
          refine spArg_eq 3 rfl rfl ?_
          refine spArg_eq 2 rfl rfl ?_
          refine spArg_eq 1 rfl rfl ?_
          refine spArg_eq 0 rfl rfl ?_
          refine spArg_nil ?_
          simp only [Act.put, List.setIfInBounds_toArray, List.set_cons_succ, List.set_cons_zero]
          go_wp2_with fail
          go_ret
          exact ⟨congrArg (fun n => Ending.returned (.int .i64 n)) HCO.out.symm, hu.up⟩
      · rw [if_neg (fun h => hok h.2)] at hCO
        rw [decide_eq_false hok] at HRI
        have hne : ((BX.length : Int) != size) = false := by rw [hsz]; simp
        clear hsz hok
        rw [hnb] at hneq
        have HNEQ := Lib.hid hneq
        have HCO := Lib.hid hCO; have HCKK := Lib.hid HCK; have HRR := Lib.hid HRI; have HSCC := Lib.hid HSC
        clear hneq hnb hCO HCK HRI HSC
        go_enter Tryz.func19, Tryz.ntmps19
        go_wp2_with fail
        have hk : HoldT (fun u => Blk u w.heap.size SC 36 ∧ SeesB u (.slice a0 BX.length c0) BX) w _ := HoldT.drew hst ⟨⟨hk0.out, HV.out⟩, hb0.out⟩
        try change Code.wp _ _ _ (Act.mk _ _) _
        refine wp_region_runR Ext 6 50 (HoldT (fun u => Blk u w.heap.size SC 36 ∧ SeesB u (.slice a0 BX.length c0) BX) _) [[], [(0, 12)], [], [(2, 14)], [(1, 13), (3, 15)], [(4, 16)]] [(0, 12), (1, 13), (2, 14), (3, 15), (4, 16), (5, 11)] (by kernel_rfl) (by kernel_rfl) (by first | rfl | simp) (hk) ?_
        simp only [List.take_succ_cons, List.take_zero, List.drop_succ_cons, List.drop_zero]
        refine sp_op (Ph.eq _) (fun u hu => by
          refine spArg_nil ?_
          go_wp2_with (fail)
          exact ⟨rfl, hu, Ext.refl _, slot_eq rfl⟩) ?_
        refine sp_op (Ph.eq (.agg (keyA U))) (fun u hu => by
          refine spArg_eq 0 rfl rfl ?_
          refine spArg_nil ?_
          simp only [Act.put, List.setIfInBounds_toArray, List.set_cons_succ, List.set_cons_zero]
          go_wp2_with ((refine wpList_load_mid rfl 23 _ rfl w.heap.size 0 rfl (U.map BV) _ (HU.out _ hu.has.1) under_key rfl (by rw [HUL.out]; exact info_key) ?_))
          exact ⟨rfl, hu, Ext.refl _, slot_eq rfl⟩) ?_
        refine sp_op (Ph.eq _) (fun u hu => by
          refine spArg_nil ?_
          go_wp2_with (fail)
          exact ⟨rfl, hu, Ext.refl _, slot_eq rfl⟩) ?_
        refine sp_op (Ph.eq (.agg (keyA NM))) (fun u hu => by
          refine spArg_eq 0 rfl rfl ?_
          refine spArg_nil ?_
          simp only [Act.put, List.setIfInBounds_toArray, List.set_cons_succ, List.set_cons_zero]
          go_wp2_with ((go_at_call 49; refine (HNM.out _).mono ?_; rintro e x1 ⟨rfl, hb1⟩))
          exact ⟨rfl, HoldT.step hst hu hb1, hb1, slot_eq rfl⟩) ?_
        refine sp_op (Ph.eq _) (fun u hu => by
          refine spArg_eq 2 rfl rfl ?_
          refine spArg_eq 0 rfl rfl ?_
          refine spArg_nil ?_
          simp only [Act.put, List.setIfInBounds_toArray, List.set_cons_succ, List.set_cons_zero]
          go_wp2_with ((refine wpList_cmp rfl 23 _ _ rfl _ _ _ rfl rfl guard_key HNEQ.out ?_))
          exact ⟨rfl, hu, Ext.refl _, slot_eq rfl⟩) ?_
        refine sp_op (Ph.eq _) (fun u hu => by
          refine spArg_eq 0 rfl rfl ?_
          refine spArg_nil ?_
          simp only [Act.put, List.setIfInBounds_toArray, List.set_cons_succ, List.set_cons_zero]
          go_wp2_with (fail)
          exact ⟨rfl, hu, Ext.refl _, slot_eq rfl⟩) ?_
        refine sp_end ?_
        intro u hu
        refine spArg_eq 5 rfl rfl ?_
        refine spArg_eq 4 rfl rfl ?_
        refine spArg_eq 3 rfl rfl ?_
        refine spArg_eq 2 rfl rfl ?_
        refine spArg_eq 1 rfl rfl ?_
        refine spArg_eq 0 rfl rfl ?_
        refine spArg_nil ?_
        simp only [Act.put, List.setIfInBounds_toArray, List.set_cons_succ, List.set_cons_zero]
        have hcx := HX.out _ hu.has.1
        have hcb := HBX.out _ hu.has.1
        go_wp2_with (go_at_call 50; refine (HRR.out _).mono ?_; rintro e w' ⟨rfl, rfl⟩)
        go_ret
        exact ⟨congrArg (fun n => Ending.returned (.int .i64 n)) HCO.out.symm, hu.up⟩
    · rw [if_neg (fun h => hsz h.1)] at hCO
      have hne : ((BX.length : Int) != size) = true := by rw [bne_iff_ne]; exact hsz
      clear hsz
      rw [hnb] at hneq
      have HNEQ := Lib.hid hneq
      have HCO := Lib.hid hCO; have HCKK := Lib.hid HCK; have HRR := Lib.hid HRI; have HSCC := Lib.hid HSC
      clear hneq hnb hCO HCK HRI HSC
      go_enter Tryz.func19, Tryz.ntmps19
      go_wp2_with fail
      have hk : HoldT (fun u => Blk u w.heap.size SC 36 ∧ SeesB u (.slice a0 BX.length c0) BX) w _ := HoldT.drew hst ⟨⟨hk0.out, HV.out⟩, hb0.out⟩
      try change Code.wp _ _ _ (Act.mk _ _) _
      refine wp_region_runR Ext 6 50 (HoldT (fun u => Blk u w.heap.size SC 36 ∧ SeesB u (.slice a0 BX.length c0) BX) _) [[], [(0, 12)], [], [(2, 14)], [(1, 13), (3, 15)], [(4, 16)]] [(0, 12), (1, 13), (2, 14), (3, 15), (4, 16), (5, 11)] (by kernel_rfl) (by kernel_rfl) (by first | rfl | simp) (hk) ?_
      simp only [List.take_succ_cons, List.take_zero, List.drop_succ_cons, List.drop_zero]
      refine sp_op (Ph.eq _) (fun u hu => by
        refine spArg_nil ?_
        go_wp2_with (fail)
        exact ⟨rfl, hu, Ext.refl _, slot_eq rfl⟩) ?_
      refine sp_op (Ph.eq (.agg (keyA U))) (fun u hu => by
        refine spArg_eq 0 rfl rfl ?_
        refine spArg_nil ?_
        simp only [Act.put, List.setIfInBounds_toArray, List.set_cons_succ, List.set_cons_zero]
        go_wp2_with ((refine wpList_load_mid rfl 23 _ rfl w.heap.size 0 rfl (U.map BV) _ (HU.out _ hu.has.1) under_key rfl (by rw [HUL.out]; exact info_key) ?_))
        exact ⟨rfl, hu, Ext.refl _, slot_eq rfl⟩) ?_
      refine sp_op (Ph.eq _) (fun u hu => by
        refine spArg_nil ?_
        go_wp2_with (fail)
        exact ⟨rfl, hu, Ext.refl _, slot_eq rfl⟩) ?_
      refine sp_op (Ph.eq (.agg (keyA NM))) (fun u hu => by
        refine spArg_eq 0 rfl rfl ?_
        refine spArg_nil ?_
        simp only [Act.put, List.setIfInBounds_toArray, List.set_cons_succ, List.set_cons_zero]
        go_wp2_with ((go_at_call 49; refine (HNM.out _).mono ?_; rintro e x1 ⟨rfl, hb1⟩))
        exact ⟨rfl, HoldT.step hst hu hb1, hb1, slot_eq rfl⟩) ?_
      refine sp_op (Ph.eq _) (fun u hu => by
        refine spArg_eq 2 rfl rfl ?_
        refine spArg_eq 0 rfl rfl ?_
        refine spArg_nil ?_
        simp only [Act.put, List.setIfInBounds_toArray, List.set_cons_succ, List.set_cons_zero]
        go_wp2_with ((refine wpList_cmp rfl 23 _ _ rfl _ _ _ rfl rfl guard_key HNEQ.out ?_))
        exact ⟨rfl, hu, Ext.refl _, slot_eq rfl⟩) ?_
      refine sp_op (Ph.eq _) (fun u hu => by
        refine spArg_eq 0 rfl rfl ?_
        refine spArg_nil ?_
        simp only [Act.put, List.setIfInBounds_toArray, List.set_cons_succ, List.set_cons_zero]
        go_wp2_with (fail)
        exact ⟨rfl, hu, Ext.refl _, slot_eq rfl⟩) ?_
      refine sp_end ?_
      intro u hu
      refine spArg_eq 5 rfl rfl ?_
      refine spArg_eq 4 rfl rfl ?_
      refine spArg_eq 3 rfl rfl ?_
      refine spArg_eq 2 rfl rfl ?_
      refine spArg_eq 1 rfl rfl ?_
      refine spArg_eq 0 rfl rfl ?_
      refine spArg_nil ?_
      simp only [Act.put, List.setIfInBounds_toArray, List.set_cons_succ, List.set_cons_zero]
      have hcx := HX.out _ hu.has.1
      have hcb := HBX.out _ hu.has.1
      go_wp2_with (go_at_call 50; refine (HRR.out _).mono ?_; rintro e w' ⟨rfl, rfl⟩)
      go_ret
      exact ⟨congrArg (fun n => Ending.returned (.int .i64 n)) HCO.out.symm, hu.up⟩
  · rw [if_neg hn] at hCO
    have hnb : (!(U == NM)) = true := by rw [Bool.not_eq_true', beq_eq_false_iff_ne]; exact hn
    have hne : True := trivial
    clear hn
    rw [hnb] at hneq
    have HNEQ := Lib.hid hneq
    have HCO := Lib.hid hCO; have HCKK := Lib.hid HCK; have HRR := Lib.hid HRI; have HSCC := Lib.hid HSC
    clear hneq hnb hCO HCK HRI HSC
    go_enter Tryz.func19, Tryz.ntmps19
    go_wp2_with fail
    have hk : HoldT (fun u => Blk u w.heap.size SC 36 ∧ SeesB u (.slice a0 BX.length c0) BX) w _ := HoldT.drew hst ⟨⟨hk0.out, HV.out⟩, hb0.out⟩
    try change Code.wp _ _ _ (Act.mk _ _) _
    refine wp_region_runR Ext 6 50 (HoldT (fun u => Blk u w.heap.size SC 36 ∧ SeesB u (.slice a0 BX.length c0) BX) _) [[], [(0, 12)], [], [(2, 14)], [(1, 13), (3, 15)], [(4, 16)]] [(0, 12), (1, 13), (2, 14), (3, 15), (4, 16), (5, 11)] (by kernel_rfl) (by kernel_rfl) (by first | rfl | simp) (hk) ?_
    simp only [List.take_succ_cons, List.take_zero, List.drop_succ_cons, List.drop_zero]
    refine sp_op (Ph.eq _) (fun u hu => by
      refine spArg_nil ?_
      go_wp2_with (fail)
      exact ⟨rfl, hu, Ext.refl _, slot_eq rfl⟩) ?_
    refine sp_op (Ph.eq (.agg (keyA U))) (fun u hu => by
      refine spArg_eq 0 rfl rfl ?_
      refine spArg_nil ?_
      simp only [Act.put, List.setIfInBounds_toArray, List.set_cons_succ, List.set_cons_zero]
      go_wp2_with ((refine wpList_load_mid rfl 23 _ rfl w.heap.size 0 rfl (U.map BV) _ (HU.out _ hu.has.1) under_key rfl (by rw [HUL.out]; exact info_key) ?_))
      exact ⟨rfl, hu, Ext.refl _, slot_eq rfl⟩) ?_
    refine sp_op (Ph.eq _) (fun u hu => by
      refine spArg_nil ?_
      go_wp2_with (fail)
      exact ⟨rfl, hu, Ext.refl _, slot_eq rfl⟩) ?_
    refine sp_op (Ph.eq (.agg (keyA NM))) (fun u hu => by
      refine spArg_eq 0 rfl rfl ?_
      refine spArg_nil ?_
      simp only [Act.put, List.setIfInBounds_toArray, List.set_cons_succ, List.set_cons_zero]
      go_wp2_with ((go_at_call 49; refine (HNM.out _).mono ?_; rintro e x1 ⟨rfl, hb1⟩))
      exact ⟨rfl, HoldT.step hst hu hb1, hb1, slot_eq rfl⟩) ?_
    refine sp_op (Ph.eq _) (fun u hu => by
      refine spArg_eq 2 rfl rfl ?_
      refine spArg_eq 0 rfl rfl ?_
      refine spArg_nil ?_
      simp only [Act.put, List.setIfInBounds_toArray, List.set_cons_succ, List.set_cons_zero]
      go_wp2_with ((refine wpList_cmp rfl 23 _ _ rfl _ _ _ rfl rfl guard_key HNEQ.out ?_))
      exact ⟨rfl, hu, Ext.refl _, slot_eq rfl⟩) ?_
    refine sp_op (Ph.eq _) (fun u hu => by
      refine spArg_eq 0 rfl rfl ?_
      refine spArg_nil ?_
      simp only [Act.put, List.setIfInBounds_toArray, List.set_cons_succ, List.set_cons_zero]
      go_wp2_with (fail)
      exact ⟨rfl, hu, Ext.refl _, slot_eq rfl⟩) ?_
    refine sp_end ?_
    intro u hu
    refine spArg_eq 5 rfl rfl ?_
    refine spArg_eq 4 rfl rfl ?_
    refine spArg_eq 3 rfl rfl ?_
    refine spArg_eq 2 rfl rfl ?_
    refine spArg_eq 1 rfl rfl ?_
    refine spArg_eq 0 rfl rfl ?_
    refine spArg_nil ?_
    simp only [Act.put, List.setIfInBounds_toArray, List.set_cons_succ, List.set_cons_zero]
    have hcx := HX.out _ hu.has.1
    have hcb := HBX.out _ hu.has.1
    go_wp2_with (go_at_call 50; refine (HRR.out _).mono ?_; rintro e w' ⟨rfl, rfl⟩)
    go_ret
    exact ⟨congrArg (fun n => Ending.returned (.int .i64 n)) HCO.out.symm, hu.up⟩
end Go.Proofs.YtnmniblaefjekaaGreat
