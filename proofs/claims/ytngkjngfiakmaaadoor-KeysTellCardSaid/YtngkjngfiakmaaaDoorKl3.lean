/-
  KeysTell: walked.
-/
import Derived.Test.YtngkjngfiakmaaaDoorKl1
namespace Go.Proofs.YtngkjngfiakmaaaDoor
set_option linter.unusedVariables false
set_option linter.unusedSimpArgs false
open Go Go.RowKit

theorem appS_nil {w : World} {ops : Array Oper} {rest : List Oper} {o : Oper} {a : Act} {Q : Exit → Act → World → Prop} (hgd : o.guard = none) (s x : Operand)
    (ho : o.op = .call { callee := .builtin .append, args := #[s, x], argTypes := #[33, 33] })
    (hs : a.eval s = .slice none 0 0) (vx : Value) (ss : List Sec) (hx : a.eval x = vx) (hsee : SeesS w vx ss) (hl : ss.length ≤ 1000)
    (h : ∀ v' w', SeesS w' v' ss → Ext w w' → wpList Tryd.prog ops Q rest (a.put o.dst v') w') : wpList Tryd.prog ops Q (o :: rest) a w :=
  wpList_app hgd s x _ ho w.heap.size 27 (.agg (SecC 0 0 0)) 3 24 Tryd.underlying33 info_sec3 rfl (by decide) (.slice none 0 0) 0 [] hs (World.ownsRow_nil _ _ _ _) vx ss.length (ss.flatMap Sec.cells) hx hsee
    (by intro u hu; obtain ⟨p, _, hp⟩ := List.mem_flatMap.1 hu; exact one_sec p u hp) (by omega) (Nat.le_refl _) (fun v' w' h1 h2 _ => h v' w' (by have := sees_of_owns h1; simpa using this) (ext_none h2))
set_option maxRecDepth 100000 in
set_option maxHeartbeats 4000000 in
theorem KeysTell_any (ss : List Sec) (dd : List (List Int)) (base : Int) (v0 v1 : Value) (w : World) (hv : SeesS w v0 ss) (hd : SeesUU w v1 dd) (hok : ∀ s ∈ ss, s.ok) (hdo : ∀ l ∈ dd, ∀ x ∈ l, in64 x) (hb : in64 base) :
    Calls Tryd.prog 6 #[v0, v1, .int .u64 base] w fun e w' => e = .returned (.bool true) ∧ Below w.heap.size w w' := by
  have HV := Lib.hid hv; have HOK := Lib.hid hok; have HD := Lib.hid hd; have HDO := Lib.hid hdo; have HB := Lib.hid hb
  obtain ⟨a, c, rfl, hac, hcm⟩ := sees_form hv
  obtain ⟨a1, c1, rfl, hac1, hcm1, hel⟩ := seesUU_open hd
  have HEL := Lib.hid hel
  clear hv hok hd hdo hel
  by_cases h22 : ss.length ≤ 22
  · have hd1 : ¬ (22 : Int) < (ss.length : Int) := by omega
    by_cases h30 : dd.length ≤ 30
    · have hd2 : ¬ (30 : Int) < (dd.length : Int) := by omega
      have HCH := Lib.hid fun (u : World) (v v' : Value) (h : SeesS u v ss) (h' : SeesUU u v' dd) => Chain_any ss dd v v' u h h' HOK.out HDO.out (by omega)
      have HCR := Lib.hid fun (u : World) (v v' : Value) (h : SeesS u v ss) (h' : SeesUU u v' dd) => Chainr_any ss dd v v' u h h' HOK.out HDO.out (by omega)
      have HPO := Lib.hid (show ∀ p ∈ chainL ss dd, p.ok from chainN_ok _ _ _)
      have HCL := Lib.hid (length_chainL ss dd)
      have HCC := Lib.hid (check_chain (ss := ss) (dd := dd) HOK.out HDO.out)
      generalize chainL ss dd = CH at *
      have HSP := Lib.hid fun (u : World) (v v' : Value) (h : SeesP u v CH) (h' : SeesP u v' CH) => SameP_any CH v v' u h h' (by rw [HCL.out]; omega)
      have HCK := Lib.hid fun (u : World) (v : Value) (h : SeesP u v CH) => CheckK_any CH v u h HPO.out (by rw [HCL.out]; omega)
      have HI1 := Lib.hid fun (u : World) (v : Value) (h : SeesP u v CH) => InnerK_any CH v u h HPO.out (by rw [HCL.out]; omega)
      have HI2 := Lib.hid fun (u : World) (v : Value) (h : SeesP u v CH) => InnerKr_any CH v u h HPO.out (by rw [HCL.out]; omega)
      generalize checkK CH = CK at *
      generalize innerP CH = IK at *
      by_cases h1 : 1 ≤ ss.length
      · have hg1 : (1 : Int) ≤ (ss.length : Int) := by omega
        obtain ⟨s, hs⟩ : ∃ s, ss[0]? = some s := ⟨_, List.getElem?_eq_getElem (by omega)⟩
        have hso := HOK.out s (List.mem_of_getElem? hs)
        obtain ⟨b, ob, cb, e2, -, -, hrange⟩ := seesS_open HV.out (by omega)
        obtain ⟨rfl, rfl⟩ : a = some ⟨b, ob, none⟩ ∧ c = cb := by injection e2 with e1 _ e3; exact ⟨e1, e3⟩
        have hr0 := hrange 0 s hs
        rw [Nat.zero_mul, Nat.add_zero] at hr0
        have HR0 := Lib.hid hr0
        have hz : ¬ ss.length = 0 := by omega
        have hz2 : ((ss.length : Int) == 0) = false := by rw [beq_eq_false_iff_ne]; omega
        have hz3 : decide (ss.length ≤ 0) = false := decide_eq_false (by omega)
        clear e2 hrange hr0 hs
        by_cases hdl : 0 < dd.length
        · obtain ⟨l, hl⟩ : ∃ l, dd[0]? = some l := ⟨_, List.getElem?_eq_getElem hdl⟩
          obtain ⟨b2, o2, u2, rfl, hcu, hsu⟩ := HEL.out 0 l hl
          rw [Nat.add_zero] at hcu
          obtain ⟨au, cu, rfl, -, -⟩ := sees_form hsu
          have hlo := HDO.out l (List.mem_of_getElem? hl)
          have hdz : (0 : Int) < (dd.length : Int) := by omega
          have hdz2 : decide (dd.length ≤ 0) = false := decide_eq_false (by omega)
          have HLL := Lib.hid hsu
          have HT1 := Lib.hid fun (u : World) (v : Value) (h : SeesU u v l) => Tell_any base s l v u HB.out hso h hlo
          have HT2 := Lib.hid fun (u : World) (v : Value) (h : SeesU u v l) => Tellr_any base s l v u HB.out hso h hlo
          generalize tellP base s l = TP at *
          obtain ⟨sb, sm, si⟩ := s
          clear hsu hlo hl hso
          by_cases h20 : ss.length ≤ 20
          · have hg2 : (ss.length : Int) ≤ 20 := by omega
            have hcc := HCC.out.trans (decide_eq_true ⟨h1, h20⟩)
            have HCC := Lib.hid hcc; clear hcc
            go_enter Tryd.func6, Tryd.ntmps6
            go_wp2_with (first
              | (go_at_call 9; refine (alive16_any _).mono ?_; rintro e w1 ⟨rfl, hb1⟩; have e1 : Ext w w1 := hb1; clear hb1; have hS1 := HV.out.below e1 (by decide))
              | (at_builtin; refine appS_nil rfl _ _ rfl rfl _ ss rfl hS1 (by omega) ?_; intro v2 w2 hs2 e2; have e2' : Ext w w2 := Ext.tr e1 e2)
              | (go_at_call 13; refine (HCH.out _ _ _ hs2 (HD.out.below e2')).mono ?_; rintro e w3 ⟨v3, rfl, ho3, hb3⟩; have e3 : Ext w w3 := Ext.tr e2' hb3; have hp3 := sees_of_owns ho3; obtain ⟨a3, c3, rfl, -, -⟩ := owns_form ho3)
              | (go_at_call 19; refine (HCR.out _ _ _ (HV.out.below e3 (by decide)) (HD.out.below e3)).mono ?_; rintro e w4 ⟨v4, rfl, ho4, hb4⟩; have e34 : Ext w3 w4 := hb4; have e4 : Ext w w4 := Ext.tr e3 hb4; have hp4 := sees_of_owns ho4)
              | (go_at_call 18; refine (HSP.out _ _ _ (hp3.below e34 (by decide)) hp4).mono ?_; rintro e w5 ⟨rfl, hb5⟩; have e35 : Ext w3 w5 := Ext.tr e34 hb5)
              | (go_at_call 14; refine (HCK.out _ _ (hp3.below e35 (by decide))).mono ?_; rintro e w6 ⟨rfl, hb6⟩; rw [HCC.out]; have e36 : Ext w3 w6 := Ext.tr e35 hb6)
              | (go_at_call 20; refine (HI1.out _ _ (hp3.below e36 (by decide))).mono ?_; rintro e w7 ⟨rfl, hb7⟩; have e37 : Ext w3 w7 := Ext.tr e36 hb7)
              | (go_at_call 21; refine (HI2.out _ _ (hp3.below e37 (by decide))).mono ?_; rintro e w8 ⟨rfl, hb8⟩; have e38 : Ext w3 w8 := Ext.tr e37 hb8; have e8 : Ext w w8 := Ext.tr e3 e38; (try have hc8 := (Below.cell e8 (World.block_lt_of_cell? w _ hcu)).trans hcu)))
            have hst : Stab (fun u => Ext w u) := fun _ _ h hb => Ext.tr h hb
            have hkS : HoldT (fun u => Ext w u) w w8.drew := HoldT.drew hst ⟨e8, e8⟩
            try change Code.wp _ _ _ (Act.mk _ _) _
            refine wp_region_runR Ext 14 76 (HoldT (fun u => Ext w u) _) [[], [], [(1, 64)], [(2, 65)], [], [(0, 63), (3, 66), (4, 67)], [], [], [(7, 70)], [(8, 71)], [], [(6, 69), (9, 72), (10, 73)], [(5, 68), (11, 74)], [(12, 75)]] [(0, 63), (1, 64), (2, 65), (3, 66), (4, 67), (5, 68), (6, 69), (7, 70), (8, 71), (9, 72), (10, 73), (11, 74), (12, 75), (13, 6)] (by kernel_rfl) (by kernel_rfl) (by first | rfl | simp) (hkS) ?_
            simp only [List.take_succ_cons, List.take_zero, List.drop_succ_cons, List.drop_zero]
            refine sp_op (Ph.eq _) (fun u hu => by
              refine spArg_nil ?_
              go_wp2_with (fail)
              exact ⟨rfl, hu, Ext.refl _, slot_eq rfl⟩) ?_
            refine sp_op (Ph.eq _) (fun u hu => by
              refine spArg_nil ?_
              go_wp2_with (fail)
              exact ⟨rfl, hu, Ext.refl _, slot_eq rfl⟩) ?_
            refine sp_op (Ph.eq _) (fun u hu => by
              refine spArg_eq 0 rfl rfl ?_
              refine spArg_nil ?_
              simp only [Act.put, List.setIfInBounds_toArray, List.set_cons_succ, List.set_cons_zero]
              go_wp2_with (fail)
              exact ⟨rfl, hu, Ext.refl _, slot_eq rfl⟩) ?_
            refine sp_op (Ph.eq _) (fun u hu => by
              refine spArg_eq 0 rfl rfl ?_
              refine spArg_nil ?_
              simp only [Act.put, List.setIfInBounds_toArray, List.set_cons_succ, List.set_cons_zero]
              go_wp2_with ((refine wpList_load_midG rfl 27 _ rfl (b) (ob) rfl _ _ (range_ext HR0.out hu.has) Tryd.underlying27 rfl (info_sec) ?_))
              exact ⟨rfl, hu, Ext.refl _, slot_eq rfl⟩) ?_
            refine sp_op (Ph.eq _) (fun u hu => by
              refine spArg_nil ?_
              go_wp2_with (fail)
              exact ⟨rfl, hu, Ext.refl _, slot_eq rfl⟩) ?_
            refine sp_op (Ph.eq _) (fun u hu => by
              refine spArg_eq 4 rfl rfl ?_
              refine spArg_eq 1 rfl rfl ?_
              refine spArg_eq 0 rfl rfl ?_
              refine spArg_nil ?_
              simp only [Act.put, List.setIfInBounds_toArray, List.set_cons_succ, List.set_cons_zero]
              go_wp2_with ((go_at_call 22; refine (HT1.out _ _ (HLL.out.below hu.has (by decide))).mono ?_; rintro e_ x_ ⟨rfl, hb_⟩))
              exact ⟨rfl, HoldT.step hst hu hb_, hb_, slot_eq rfl⟩) ?_
            refine sp_op (Ph.eq _) (fun u hu => by
              refine spArg_nil ?_
              go_wp2_with (fail)
              exact ⟨rfl, hu, Ext.refl _, slot_eq rfl⟩) ?_
            refine sp_op (Ph.eq _) (fun u hu => by
              refine spArg_nil ?_
              go_wp2_with (fail)
              exact ⟨rfl, hu, Ext.refl _, slot_eq rfl⟩) ?_
            refine sp_op (Ph.eq _) (fun u hu => by
              refine spArg_eq 0 rfl rfl ?_
              refine spArg_nil ?_
              simp only [Act.put, List.setIfInBounds_toArray, List.set_cons_succ, List.set_cons_zero]
              go_wp2_with (fail)
              exact ⟨rfl, hu, Ext.refl _, slot_eq rfl⟩) ?_
            refine sp_op (Ph.eq _) (fun u hu => by
              refine spArg_eq 0 rfl rfl ?_
              refine spArg_nil ?_
              simp only [Act.put, List.setIfInBounds_toArray, List.set_cons_succ, List.set_cons_zero]
              go_wp2_with ((refine wpList_load_midG rfl 27 _ rfl (b) (ob) rfl _ _ (range_ext HR0.out hu.has) Tryd.underlying27 rfl (info_sec) ?_))
              exact ⟨rfl, hu, Ext.refl _, slot_eq rfl⟩) ?_
            refine sp_op (Ph.eq _) (fun u hu => by
              refine spArg_nil ?_
              go_wp2_with (fail)
              exact ⟨rfl, hu, Ext.refl _, slot_eq rfl⟩) ?_
            refine sp_op (Ph.eq _) (fun u hu => by
              refine spArg_eq 4 rfl rfl ?_
              refine spArg_eq 1 rfl rfl ?_
              refine spArg_eq 0 rfl rfl ?_
              refine spArg_nil ?_
              simp only [Act.put, List.setIfInBounds_toArray, List.set_cons_succ, List.set_cons_zero]
              go_wp2_with ((go_at_call 23; refine (HT2.out _ _ (HLL.out.below hu.has (by decide))).mono ?_; rintro e_ x_ ⟨rfl, hb_⟩))
              exact ⟨rfl, HoldT.step hst hu hb_, hb_, slot_eq rfl⟩) ?_
            refine sp_op (Ph.eq _) (fun u hu => by
              refine spArg_eq 6 rfl rfl ?_
              refine spArg_eq 0 rfl rfl ?_
              refine spArg_nil ?_
              simp only [Act.put, List.setIfInBounds_toArray, List.set_cons_succ, List.set_cons_zero]
              go_wp2_with ((refine wpList_cmp rfl 39 _ _ rfl TP.cells.toArray TP.cells.toArray (.bool true) rfl rfl guard_pub (run_eqPub TP) ?_))
              exact ⟨rfl, hu, Ext.refl _, slot_eq rfl⟩) ?_
            refine sp_op (Ph.eq _) (fun u hu => by
              refine spArg_eq 0 rfl rfl ?_
              refine spArg_nil ?_
              simp only [Act.put, List.setIfInBounds_toArray, List.set_cons_succ, List.set_cons_zero]
              go_wp2_with (fail)
              exact ⟨rfl, hu, Ext.refl _, slot_eq rfl⟩) ?_
            refine sp_end ?_
            intro u hu
            refine spArg_eq 13 rfl rfl ?_
            refine spArg_eq 12 rfl rfl ?_
            refine spArg_eq 11 rfl rfl ?_
            refine spArg_eq 10 rfl rfl ?_
            refine spArg_eq 9 rfl rfl ?_
            refine spArg_eq 8 rfl rfl ?_
            refine spArg_eq 7 rfl rfl ?_
            refine spArg_eq 6 rfl rfl ?_
            refine spArg_eq 5 rfl rfl ?_
            refine spArg_eq 4 rfl rfl ?_
            refine spArg_eq 3 rfl rfl ?_
            refine spArg_eq 2 rfl rfl ?_
            refine spArg_eq 1 rfl rfl ?_
            refine spArg_eq 0 rfl rfl ?_
            refine spArg_nil ?_
            simp only [Act.put, List.setIfInBounds_toArray, List.set_cons_succ, List.set_cons_zero]
            go_wp2_with fail
            go_ret
            exact ⟨rfl, hu.has⟩
          · have hg2 : (20 : Int) < (ss.length : Int) := by omega
            have hcc := HCC.out.trans (decide_eq_false (fun h => h20 h.2))
            have HCC := Lib.hid hcc; clear hcc
            go_enter Tryd.func6, Tryd.ntmps6
            go_wp2_with (first
              | (go_at_call 9; refine (alive16_any _).mono ?_; rintro e w1 ⟨rfl, hb1⟩; have e1 : Ext w w1 := hb1; clear hb1; have hS1 := HV.out.below e1 (by decide))
              | (at_builtin; refine appS_nil rfl _ _ rfl rfl _ ss rfl hS1 (by omega) ?_; intro v2 w2 hs2 e2; have e2' : Ext w w2 := Ext.tr e1 e2)
              | (go_at_call 13; refine (HCH.out _ _ _ hs2 (HD.out.below e2')).mono ?_; rintro e w3 ⟨v3, rfl, ho3, hb3⟩; have e3 : Ext w w3 := Ext.tr e2' hb3; have hp3 := sees_of_owns ho3; obtain ⟨a3, c3, rfl, -, -⟩ := owns_form ho3)
              | (go_at_call 19; refine (HCR.out _ _ _ (HV.out.below e3 (by decide)) (HD.out.below e3)).mono ?_; rintro e w4 ⟨v4, rfl, ho4, hb4⟩; have e34 : Ext w3 w4 := hb4; have e4 : Ext w w4 := Ext.tr e3 hb4; have hp4 := sees_of_owns ho4)
              | (go_at_call 18; refine (HSP.out _ _ _ (hp3.below e34 (by decide)) hp4).mono ?_; rintro e w5 ⟨rfl, hb5⟩; have e35 : Ext w3 w5 := Ext.tr e34 hb5)
              | (go_at_call 14; refine (HCK.out _ _ (hp3.below e35 (by decide))).mono ?_; rintro e w6 ⟨rfl, hb6⟩; rw [HCC.out]; have e36 : Ext w3 w6 := Ext.tr e35 hb6)
              | (go_at_call 20; refine (HI1.out _ _ (hp3.below e36 (by decide))).mono ?_; rintro e w7 ⟨rfl, hb7⟩; have e37 : Ext w3 w7 := Ext.tr e36 hb7)
              | (go_at_call 21; refine (HI2.out _ _ (hp3.below e37 (by decide))).mono ?_; rintro e w8 ⟨rfl, hb8⟩; have e38 : Ext w3 w8 := Ext.tr e37 hb8; have e8 : Ext w w8 := Ext.tr e3 e38; (try have hc8 := (Below.cell e8 (World.block_lt_of_cell? w _ hcu)).trans hcu)))
            have hst : Stab (fun u => Ext w u) := fun _ _ h hb => Ext.tr h hb
            have hkS : HoldT (fun u => Ext w u) w w8.drew := HoldT.drew hst ⟨e8, e8⟩
            try change Code.wp _ _ _ (Act.mk _ _) _
            refine wp_region_runR Ext 14 76 (HoldT (fun u => Ext w u) _) [[], [], [(1, 64)], [(2, 65)], [], [(0, 63), (3, 66), (4, 67)], [], [], [(7, 70)], [(8, 71)], [], [(6, 69), (9, 72), (10, 73)], [(5, 68), (11, 74)], [(12, 75)]] [(0, 63), (1, 64), (2, 65), (3, 66), (4, 67), (5, 68), (6, 69), (7, 70), (8, 71), (9, 72), (10, 73), (11, 74), (12, 75), (13, 6)] (by kernel_rfl) (by kernel_rfl) (by first | rfl | simp) (hkS) ?_
            simp only [List.take_succ_cons, List.take_zero, List.drop_succ_cons, List.drop_zero]
            refine sp_op (Ph.eq _) (fun u hu => by
              refine spArg_nil ?_
              go_wp2_with (fail)
              exact ⟨rfl, hu, Ext.refl _, slot_eq rfl⟩) ?_
            refine sp_op (Ph.eq _) (fun u hu => by
              refine spArg_nil ?_
              go_wp2_with (fail)
              exact ⟨rfl, hu, Ext.refl _, slot_eq rfl⟩) ?_
            refine sp_op (Ph.eq _) (fun u hu => by
              refine spArg_eq 0 rfl rfl ?_
              refine spArg_nil ?_
              simp only [Act.put, List.setIfInBounds_toArray, List.set_cons_succ, List.set_cons_zero]
              go_wp2_with (fail)
              exact ⟨rfl, hu, Ext.refl _, slot_eq rfl⟩) ?_
            refine sp_op (Ph.eq _) (fun u hu => by
              refine spArg_eq 0 rfl rfl ?_
              refine spArg_nil ?_
              simp only [Act.put, List.setIfInBounds_toArray, List.set_cons_succ, List.set_cons_zero]
              go_wp2_with ((refine wpList_load_midG rfl 27 _ rfl (b) (ob) rfl _ _ (range_ext HR0.out hu.has) Tryd.underlying27 rfl (info_sec) ?_))
              exact ⟨rfl, hu, Ext.refl _, slot_eq rfl⟩) ?_
            refine sp_op (Ph.eq _) (fun u hu => by
              refine spArg_nil ?_
              go_wp2_with (fail)
              exact ⟨rfl, hu, Ext.refl _, slot_eq rfl⟩) ?_
            refine sp_op (Ph.eq _) (fun u hu => by
              refine spArg_eq 4 rfl rfl ?_
              refine spArg_eq 1 rfl rfl ?_
              refine spArg_eq 0 rfl rfl ?_
              refine spArg_nil ?_
              simp only [Act.put, List.setIfInBounds_toArray, List.set_cons_succ, List.set_cons_zero]
              go_wp2_with ((go_at_call 22; refine (HT1.out _ _ (HLL.out.below hu.has (by decide))).mono ?_; rintro e_ x_ ⟨rfl, hb_⟩))
              exact ⟨rfl, HoldT.step hst hu hb_, hb_, slot_eq rfl⟩) ?_
            refine sp_op (Ph.eq _) (fun u hu => by
              refine spArg_nil ?_
              go_wp2_with (fail)
              exact ⟨rfl, hu, Ext.refl _, slot_eq rfl⟩) ?_
            refine sp_op (Ph.eq _) (fun u hu => by
              refine spArg_nil ?_
              go_wp2_with (fail)
              exact ⟨rfl, hu, Ext.refl _, slot_eq rfl⟩) ?_
            refine sp_op (Ph.eq _) (fun u hu => by
              refine spArg_eq 0 rfl rfl ?_
              refine spArg_nil ?_
              simp only [Act.put, List.setIfInBounds_toArray, List.set_cons_succ, List.set_cons_zero]
              go_wp2_with (fail)
              exact ⟨rfl, hu, Ext.refl _, slot_eq rfl⟩) ?_
            refine sp_op (Ph.eq _) (fun u hu => by
              refine spArg_eq 0 rfl rfl ?_
              refine spArg_nil ?_
              simp only [Act.put, List.setIfInBounds_toArray, List.set_cons_succ, List.set_cons_zero]
              go_wp2_with ((refine wpList_load_midG rfl 27 _ rfl (b) (ob) rfl _ _ (range_ext HR0.out hu.has) Tryd.underlying27 rfl (info_sec) ?_))
              exact ⟨rfl, hu, Ext.refl _, slot_eq rfl⟩) ?_
            refine sp_op (Ph.eq _) (fun u hu => by
              refine spArg_nil ?_
              go_wp2_with (fail)
              exact ⟨rfl, hu, Ext.refl _, slot_eq rfl⟩) ?_
            refine sp_op (Ph.eq _) (fun u hu => by
              refine spArg_eq 4 rfl rfl ?_
              refine spArg_eq 1 rfl rfl ?_
              refine spArg_eq 0 rfl rfl ?_
              refine spArg_nil ?_
              simp only [Act.put, List.setIfInBounds_toArray, List.set_cons_succ, List.set_cons_zero]
              go_wp2_with ((go_at_call 23; refine (HT2.out _ _ (HLL.out.below hu.has (by decide))).mono ?_; rintro e_ x_ ⟨rfl, hb_⟩))
              exact ⟨rfl, HoldT.step hst hu hb_, hb_, slot_eq rfl⟩) ?_
            refine sp_op (Ph.eq _) (fun u hu => by
              refine spArg_eq 6 rfl rfl ?_
              refine spArg_eq 0 rfl rfl ?_
              refine spArg_nil ?_
              simp only [Act.put, List.setIfInBounds_toArray, List.set_cons_succ, List.set_cons_zero]
              go_wp2_with ((refine wpList_cmp rfl 39 _ _ rfl TP.cells.toArray TP.cells.toArray (.bool true) rfl rfl guard_pub (run_eqPub TP) ?_))
              exact ⟨rfl, hu, Ext.refl _, slot_eq rfl⟩) ?_
            refine sp_op (Ph.eq _) (fun u hu => by
              refine spArg_eq 0 rfl rfl ?_
              refine spArg_nil ?_
              simp only [Act.put, List.setIfInBounds_toArray, List.set_cons_succ, List.set_cons_zero]
              go_wp2_with (fail)
              exact ⟨rfl, hu, Ext.refl _, slot_eq rfl⟩) ?_
            refine sp_end ?_
            intro u hu
            refine spArg_eq 13 rfl rfl ?_
            refine spArg_eq 12 rfl rfl ?_
            refine spArg_eq 11 rfl rfl ?_
            refine spArg_eq 10 rfl rfl ?_
            refine spArg_eq 9 rfl rfl ?_
            refine spArg_eq 8 rfl rfl ?_
            refine spArg_eq 7 rfl rfl ?_
            refine spArg_eq 6 rfl rfl ?_
            refine spArg_eq 5 rfl rfl ?_
            refine spArg_eq 4 rfl rfl ?_
            refine spArg_eq 3 rfl rfl ?_
            refine spArg_eq 2 rfl rfl ?_
            refine spArg_eq 1 rfl rfl ?_
            refine spArg_eq 0 rfl rfl ?_
            refine spArg_nil ?_
            simp only [Act.put, List.setIfInBounds_toArray, List.set_cons_succ, List.set_cons_zero]
            go_wp2_with fail
            go_ret
            exact ⟨rfl, hu.has⟩
        · have hdz : ¬ (0 : Int) < (dd.length : Int) := by omega
          have HLL := Lib.hid (show SeesU w (.slice none 0 0) [] from Sees.nil _ _)
          have HT1 := Lib.hid fun (u : World) (v : Value) (h : SeesU u v []) => Tell_any base s [] v u HB.out hso h (fun x hx => by cases hx)
          have HT2 := Lib.hid fun (u : World) (v : Value) (h : SeesU u v []) => Tellr_any base s [] v u HB.out hso h (fun x hx => by cases hx)
          generalize tellP base s [] = TP at *
          obtain ⟨sb, sm, si⟩ := s
          clear hso
          by_cases h20 : ss.length ≤ 20
          · have hg2 : (ss.length : Int) ≤ 20 := by omega
            have hcc := HCC.out.trans (decide_eq_true ⟨h1, h20⟩)
            have HCC := Lib.hid hcc; clear hcc
            go_enter Tryd.func6, Tryd.ntmps6
            go_wp2_with (first
              | (go_at_call 9; refine (alive16_any _).mono ?_; rintro e w1 ⟨rfl, hb1⟩; have e1 : Ext w w1 := hb1; clear hb1; have hS1 := HV.out.below e1 (by decide))
              | (at_builtin; refine appS_nil rfl _ _ rfl rfl _ ss rfl hS1 (by omega) ?_; intro v2 w2 hs2 e2; have e2' : Ext w w2 := Ext.tr e1 e2)
              | (go_at_call 13; refine (HCH.out _ _ _ hs2 (HD.out.below e2')).mono ?_; rintro e w3 ⟨v3, rfl, ho3, hb3⟩; have e3 : Ext w w3 := Ext.tr e2' hb3; have hp3 := sees_of_owns ho3; obtain ⟨a3, c3, rfl, -, -⟩ := owns_form ho3)
              | (go_at_call 19; refine (HCR.out _ _ _ (HV.out.below e3 (by decide)) (HD.out.below e3)).mono ?_; rintro e w4 ⟨v4, rfl, ho4, hb4⟩; have e34 : Ext w3 w4 := hb4; have e4 : Ext w w4 := Ext.tr e3 hb4; have hp4 := sees_of_owns ho4)
              | (go_at_call 18; refine (HSP.out _ _ _ (hp3.below e34 (by decide)) hp4).mono ?_; rintro e w5 ⟨rfl, hb5⟩; have e35 : Ext w3 w5 := Ext.tr e34 hb5)
              | (go_at_call 14; refine (HCK.out _ _ (hp3.below e35 (by decide))).mono ?_; rintro e w6 ⟨rfl, hb6⟩; rw [HCC.out]; have e36 : Ext w3 w6 := Ext.tr e35 hb6)
              | (go_at_call 20; refine (HI1.out _ _ (hp3.below e36 (by decide))).mono ?_; rintro e w7 ⟨rfl, hb7⟩; have e37 : Ext w3 w7 := Ext.tr e36 hb7)
              | (go_at_call 21; refine (HI2.out _ _ (hp3.below e37 (by decide))).mono ?_; rintro e w8 ⟨rfl, hb8⟩; have e38 : Ext w3 w8 := Ext.tr e37 hb8; have e8 : Ext w w8 := Ext.tr e3 e38; (try have hc8 := (Below.cell e8 (World.block_lt_of_cell? w _ hcu)).trans hcu)))
            have hst : Stab (fun u => Ext w u) := fun _ _ h hb => Ext.tr h hb
            have hkS : HoldT (fun u => Ext w u) w w8.drew := HoldT.drew hst ⟨e8, e8⟩
            try change Code.wp _ _ _ (Act.mk _ _) _
            refine wp_region_runR Ext 14 76 (HoldT (fun u => Ext w u) _) [[], [], [(1, 64)], [(2, 65)], [], [(0, 63), (3, 66), (4, 67)], [], [], [(7, 70)], [(8, 71)], [], [(6, 69), (9, 72), (10, 73)], [(5, 68), (11, 74)], [(12, 75)]] [(0, 63), (1, 64), (2, 65), (3, 66), (4, 67), (5, 68), (6, 69), (7, 70), (8, 71), (9, 72), (10, 73), (11, 74), (12, 75), (13, 6)] (by kernel_rfl) (by kernel_rfl) (by first | rfl | simp) (hkS) ?_
            simp only [List.take_succ_cons, List.take_zero, List.drop_succ_cons, List.drop_zero]
            refine sp_op (Ph.eq _) (fun u hu => by
              refine spArg_nil ?_
              go_wp2_with (fail)
              exact ⟨rfl, hu, Ext.refl _, slot_eq rfl⟩) ?_
            refine sp_op (Ph.eq _) (fun u hu => by
              refine spArg_nil ?_
              go_wp2_with (fail)
              exact ⟨rfl, hu, Ext.refl _, slot_eq rfl⟩) ?_
            refine sp_op (Ph.eq _) (fun u hu => by
              refine spArg_eq 0 rfl rfl ?_
              refine spArg_nil ?_
              simp only [Act.put, List.setIfInBounds_toArray, List.set_cons_succ, List.set_cons_zero]
              go_wp2_with (fail)
              exact ⟨rfl, hu, Ext.refl _, slot_eq rfl⟩) ?_
            refine sp_op (Ph.eq _) (fun u hu => by
              refine spArg_eq 0 rfl rfl ?_
              refine spArg_nil ?_
              simp only [Act.put, List.setIfInBounds_toArray, List.set_cons_succ, List.set_cons_zero]
              go_wp2_with ((refine wpList_load_midG rfl 27 _ rfl (b) (ob) rfl _ _ (range_ext HR0.out hu.has) Tryd.underlying27 rfl (info_sec) ?_))
              exact ⟨rfl, hu, Ext.refl _, slot_eq rfl⟩) ?_
            refine sp_op (Ph.eq _) (fun u hu => by
              refine spArg_nil ?_
              go_wp2_with (fail)
              exact ⟨rfl, hu, Ext.refl _, slot_eq rfl⟩) ?_
            refine sp_op (Ph.eq _) (fun u hu => by
              refine spArg_eq 4 rfl rfl ?_
              refine spArg_eq 1 rfl rfl ?_
              refine spArg_eq 0 rfl rfl ?_
              refine spArg_nil ?_
              simp only [Act.put, List.setIfInBounds_toArray, List.set_cons_succ, List.set_cons_zero]
              go_wp2_with ((go_at_call 22; refine (HT1.out _ _ (HLL.out.below hu.has (by decide))).mono ?_; rintro e_ x_ ⟨rfl, hb_⟩))
              exact ⟨rfl, HoldT.step hst hu hb_, hb_, slot_eq rfl⟩) ?_
            refine sp_op (Ph.eq _) (fun u hu => by
              refine spArg_nil ?_
              go_wp2_with (fail)
              exact ⟨rfl, hu, Ext.refl _, slot_eq rfl⟩) ?_
            refine sp_op (Ph.eq _) (fun u hu => by
              refine spArg_nil ?_
              go_wp2_with (fail)
              exact ⟨rfl, hu, Ext.refl _, slot_eq rfl⟩) ?_
            refine sp_op (Ph.eq _) (fun u hu => by
              refine spArg_eq 0 rfl rfl ?_
              refine spArg_nil ?_
              simp only [Act.put, List.setIfInBounds_toArray, List.set_cons_succ, List.set_cons_zero]
              go_wp2_with (fail)
              exact ⟨rfl, hu, Ext.refl _, slot_eq rfl⟩) ?_
            refine sp_op (Ph.eq _) (fun u hu => by
              refine spArg_eq 0 rfl rfl ?_
              refine spArg_nil ?_
              simp only [Act.put, List.setIfInBounds_toArray, List.set_cons_succ, List.set_cons_zero]
              go_wp2_with ((refine wpList_load_midG rfl 27 _ rfl (b) (ob) rfl _ _ (range_ext HR0.out hu.has) Tryd.underlying27 rfl (info_sec) ?_))
              exact ⟨rfl, hu, Ext.refl _, slot_eq rfl⟩) ?_
            refine sp_op (Ph.eq _) (fun u hu => by
              refine spArg_nil ?_
              go_wp2_with (fail)
              exact ⟨rfl, hu, Ext.refl _, slot_eq rfl⟩) ?_
            refine sp_op (Ph.eq _) (fun u hu => by
              refine spArg_eq 4 rfl rfl ?_
              refine spArg_eq 1 rfl rfl ?_
              refine spArg_eq 0 rfl rfl ?_
              refine spArg_nil ?_
              simp only [Act.put, List.setIfInBounds_toArray, List.set_cons_succ, List.set_cons_zero]
              go_wp2_with ((go_at_call 23; refine (HT2.out _ _ (HLL.out.below hu.has (by decide))).mono ?_; rintro e_ x_ ⟨rfl, hb_⟩))
              exact ⟨rfl, HoldT.step hst hu hb_, hb_, slot_eq rfl⟩) ?_
            refine sp_op (Ph.eq _) (fun u hu => by
              refine spArg_eq 6 rfl rfl ?_
              refine spArg_eq 0 rfl rfl ?_
              refine spArg_nil ?_
              simp only [Act.put, List.setIfInBounds_toArray, List.set_cons_succ, List.set_cons_zero]
              go_wp2_with ((refine wpList_cmp rfl 39 _ _ rfl TP.cells.toArray TP.cells.toArray (.bool true) rfl rfl guard_pub (run_eqPub TP) ?_))
              exact ⟨rfl, hu, Ext.refl _, slot_eq rfl⟩) ?_
            refine sp_op (Ph.eq _) (fun u hu => by
              refine spArg_eq 0 rfl rfl ?_
              refine spArg_nil ?_
              simp only [Act.put, List.setIfInBounds_toArray, List.set_cons_succ, List.set_cons_zero]
              go_wp2_with (fail)
              exact ⟨rfl, hu, Ext.refl _, slot_eq rfl⟩) ?_
            refine sp_end ?_
            intro u hu
            refine spArg_eq 13 rfl rfl ?_
            refine spArg_eq 12 rfl rfl ?_
            refine spArg_eq 11 rfl rfl ?_
            refine spArg_eq 10 rfl rfl ?_
            refine spArg_eq 9 rfl rfl ?_
            refine spArg_eq 8 rfl rfl ?_
            refine spArg_eq 7 rfl rfl ?_
            refine spArg_eq 6 rfl rfl ?_
            refine spArg_eq 5 rfl rfl ?_
            refine spArg_eq 4 rfl rfl ?_
            refine spArg_eq 3 rfl rfl ?_
            refine spArg_eq 2 rfl rfl ?_
            refine spArg_eq 1 rfl rfl ?_
            refine spArg_eq 0 rfl rfl ?_
            refine spArg_nil ?_
            simp only [Act.put, List.setIfInBounds_toArray, List.set_cons_succ, List.set_cons_zero]
            go_wp2_with fail
            go_ret
            exact ⟨rfl, hu.has⟩
          · have hg2 : (20 : Int) < (ss.length : Int) := by omega
            have hcc := HCC.out.trans (decide_eq_false (fun h => h20 h.2))
            have HCC := Lib.hid hcc; clear hcc
            go_enter Tryd.func6, Tryd.ntmps6
            go_wp2_with (first
              | (go_at_call 9; refine (alive16_any _).mono ?_; rintro e w1 ⟨rfl, hb1⟩; have e1 : Ext w w1 := hb1; clear hb1; have hS1 := HV.out.below e1 (by decide))
              | (at_builtin; refine appS_nil rfl _ _ rfl rfl _ ss rfl hS1 (by omega) ?_; intro v2 w2 hs2 e2; have e2' : Ext w w2 := Ext.tr e1 e2)
              | (go_at_call 13; refine (HCH.out _ _ _ hs2 (HD.out.below e2')).mono ?_; rintro e w3 ⟨v3, rfl, ho3, hb3⟩; have e3 : Ext w w3 := Ext.tr e2' hb3; have hp3 := sees_of_owns ho3; obtain ⟨a3, c3, rfl, -, -⟩ := owns_form ho3)
              | (go_at_call 19; refine (HCR.out _ _ _ (HV.out.below e3 (by decide)) (HD.out.below e3)).mono ?_; rintro e w4 ⟨v4, rfl, ho4, hb4⟩; have e34 : Ext w3 w4 := hb4; have e4 : Ext w w4 := Ext.tr e3 hb4; have hp4 := sees_of_owns ho4)
              | (go_at_call 18; refine (HSP.out _ _ _ (hp3.below e34 (by decide)) hp4).mono ?_; rintro e w5 ⟨rfl, hb5⟩; have e35 : Ext w3 w5 := Ext.tr e34 hb5)
              | (go_at_call 14; refine (HCK.out _ _ (hp3.below e35 (by decide))).mono ?_; rintro e w6 ⟨rfl, hb6⟩; rw [HCC.out]; have e36 : Ext w3 w6 := Ext.tr e35 hb6)
              | (go_at_call 20; refine (HI1.out _ _ (hp3.below e36 (by decide))).mono ?_; rintro e w7 ⟨rfl, hb7⟩; have e37 : Ext w3 w7 := Ext.tr e36 hb7)
              | (go_at_call 21; refine (HI2.out _ _ (hp3.below e37 (by decide))).mono ?_; rintro e w8 ⟨rfl, hb8⟩; have e38 : Ext w3 w8 := Ext.tr e37 hb8; have e8 : Ext w w8 := Ext.tr e3 e38; (try have hc8 := (Below.cell e8 (World.block_lt_of_cell? w _ hcu)).trans hcu)))
            have hst : Stab (fun u => Ext w u) := fun _ _ h hb => Ext.tr h hb
            have hkS : HoldT (fun u => Ext w u) w w8.drew := HoldT.drew hst ⟨e8, e8⟩
            try change Code.wp _ _ _ (Act.mk _ _) _
            refine wp_region_runR Ext 14 76 (HoldT (fun u => Ext w u) _) [[], [], [(1, 64)], [(2, 65)], [], [(0, 63), (3, 66), (4, 67)], [], [], [(7, 70)], [(8, 71)], [], [(6, 69), (9, 72), (10, 73)], [(5, 68), (11, 74)], [(12, 75)]] [(0, 63), (1, 64), (2, 65), (3, 66), (4, 67), (5, 68), (6, 69), (7, 70), (8, 71), (9, 72), (10, 73), (11, 74), (12, 75), (13, 6)] (by kernel_rfl) (by kernel_rfl) (by first | rfl | simp) (hkS) ?_
            simp only [List.take_succ_cons, List.take_zero, List.drop_succ_cons, List.drop_zero]
            refine sp_op (Ph.eq _) (fun u hu => by
              refine spArg_nil ?_
              go_wp2_with (fail)
              exact ⟨rfl, hu, Ext.refl _, slot_eq rfl⟩) ?_
            refine sp_op (Ph.eq _) (fun u hu => by
              refine spArg_nil ?_
              go_wp2_with (fail)
              exact ⟨rfl, hu, Ext.refl _, slot_eq rfl⟩) ?_
            refine sp_op (Ph.eq _) (fun u hu => by
              refine spArg_eq 0 rfl rfl ?_
              refine spArg_nil ?_
              simp only [Act.put, List.setIfInBounds_toArray, List.set_cons_succ, List.set_cons_zero]
              go_wp2_with (fail)
              exact ⟨rfl, hu, Ext.refl _, slot_eq rfl⟩) ?_
            refine sp_op (Ph.eq _) (fun u hu => by
              refine spArg_eq 0 rfl rfl ?_
              refine spArg_nil ?_
              simp only [Act.put, List.setIfInBounds_toArray, List.set_cons_succ, List.set_cons_zero]
              go_wp2_with ((refine wpList_load_midG rfl 27 _ rfl (b) (ob) rfl _ _ (range_ext HR0.out hu.has) Tryd.underlying27 rfl (info_sec) ?_))
              exact ⟨rfl, hu, Ext.refl _, slot_eq rfl⟩) ?_
            refine sp_op (Ph.eq _) (fun u hu => by
              refine spArg_nil ?_
              go_wp2_with (fail)
              exact ⟨rfl, hu, Ext.refl _, slot_eq rfl⟩) ?_
            refine sp_op (Ph.eq _) (fun u hu => by
              refine spArg_eq 4 rfl rfl ?_
              refine spArg_eq 1 rfl rfl ?_
              refine spArg_eq 0 rfl rfl ?_
              refine spArg_nil ?_
              simp only [Act.put, List.setIfInBounds_toArray, List.set_cons_succ, List.set_cons_zero]
              go_wp2_with ((go_at_call 22; refine (HT1.out _ _ (HLL.out.below hu.has (by decide))).mono ?_; rintro e_ x_ ⟨rfl, hb_⟩))
              exact ⟨rfl, HoldT.step hst hu hb_, hb_, slot_eq rfl⟩) ?_
            refine sp_op (Ph.eq _) (fun u hu => by
              refine spArg_nil ?_
              go_wp2_with (fail)
              exact ⟨rfl, hu, Ext.refl _, slot_eq rfl⟩) ?_
            refine sp_op (Ph.eq _) (fun u hu => by
              refine spArg_nil ?_
              go_wp2_with (fail)
              exact ⟨rfl, hu, Ext.refl _, slot_eq rfl⟩) ?_
            refine sp_op (Ph.eq _) (fun u hu => by
              refine spArg_eq 0 rfl rfl ?_
              refine spArg_nil ?_
              simp only [Act.put, List.setIfInBounds_toArray, List.set_cons_succ, List.set_cons_zero]
              go_wp2_with (fail)
              exact ⟨rfl, hu, Ext.refl _, slot_eq rfl⟩) ?_
            refine sp_op (Ph.eq _) (fun u hu => by
              refine spArg_eq 0 rfl rfl ?_
              refine spArg_nil ?_
              simp only [Act.put, List.setIfInBounds_toArray, List.set_cons_succ, List.set_cons_zero]
              go_wp2_with ((refine wpList_load_midG rfl 27 _ rfl (b) (ob) rfl _ _ (range_ext HR0.out hu.has) Tryd.underlying27 rfl (info_sec) ?_))
              exact ⟨rfl, hu, Ext.refl _, slot_eq rfl⟩) ?_
            refine sp_op (Ph.eq _) (fun u hu => by
              refine spArg_nil ?_
              go_wp2_with (fail)
              exact ⟨rfl, hu, Ext.refl _, slot_eq rfl⟩) ?_
            refine sp_op (Ph.eq _) (fun u hu => by
              refine spArg_eq 4 rfl rfl ?_
              refine spArg_eq 1 rfl rfl ?_
              refine spArg_eq 0 rfl rfl ?_
              refine spArg_nil ?_
              simp only [Act.put, List.setIfInBounds_toArray, List.set_cons_succ, List.set_cons_zero]
              go_wp2_with ((go_at_call 23; refine (HT2.out _ _ (HLL.out.below hu.has (by decide))).mono ?_; rintro e_ x_ ⟨rfl, hb_⟩))
              exact ⟨rfl, HoldT.step hst hu hb_, hb_, slot_eq rfl⟩) ?_
            refine sp_op (Ph.eq _) (fun u hu => by
              refine spArg_eq 6 rfl rfl ?_
              refine spArg_eq 0 rfl rfl ?_
              refine spArg_nil ?_
              simp only [Act.put, List.setIfInBounds_toArray, List.set_cons_succ, List.set_cons_zero]
              go_wp2_with ((refine wpList_cmp rfl 39 _ _ rfl TP.cells.toArray TP.cells.toArray (.bool true) rfl rfl guard_pub (run_eqPub TP) ?_))
              exact ⟨rfl, hu, Ext.refl _, slot_eq rfl⟩) ?_
            refine sp_op (Ph.eq _) (fun u hu => by
              refine spArg_eq 0 rfl rfl ?_
              refine spArg_nil ?_
              simp only [Act.put, List.setIfInBounds_toArray, List.set_cons_succ, List.set_cons_zero]
              go_wp2_with (fail)
              exact ⟨rfl, hu, Ext.refl _, slot_eq rfl⟩) ?_
            refine sp_end ?_
            intro u hu
            refine spArg_eq 13 rfl rfl ?_
            refine spArg_eq 12 rfl rfl ?_
            refine spArg_eq 11 rfl rfl ?_
            refine spArg_eq 10 rfl rfl ?_
            refine spArg_eq 9 rfl rfl ?_
            refine spArg_eq 8 rfl rfl ?_
            refine spArg_eq 7 rfl rfl ?_
            refine spArg_eq 6 rfl rfl ?_
            refine spArg_eq 5 rfl rfl ?_
            refine spArg_eq 4 rfl rfl ?_
            refine spArg_eq 3 rfl rfl ?_
            refine spArg_eq 2 rfl rfl ?_
            refine spArg_eq 1 rfl rfl ?_
            refine spArg_eq 0 rfl rfl ?_
            refine spArg_nil ?_
            simp only [Act.put, List.setIfInBounds_toArray, List.set_cons_succ, List.set_cons_zero]
            go_wp2_with fail
            go_ret
            exact ⟨rfl, hu.has⟩
      · have hg1 : (ss.length : Int) < 1 := by omega
        have hz : ss.length = 0 := by omega
        have hz2 : ((ss.length : Int) == 0) = true := by rw [beq_iff_eq]; omega
        clear hz
        have hcc := HCC.out.trans (decide_eq_false (fun h => h1 h.1))
        have HCC := Lib.hid hcc; clear hcc
        go_enter Tryd.func6, Tryd.ntmps6
        go_wp2_with (first
          | (go_at_call 9; refine (alive16_any _).mono ?_; rintro e w1 ⟨rfl, hb1⟩; have e1 : Ext w w1 := hb1; clear hb1; have hS1 := HV.out.below e1 (by decide))
          | (at_builtin; refine appS_nil rfl _ _ rfl rfl _ ss rfl hS1 (by omega) ?_; intro v2 w2 hs2 e2; have e2' : Ext w w2 := Ext.tr e1 e2)
          | (go_at_call 13; refine (HCH.out _ _ _ hs2 (HD.out.below e2')).mono ?_; rintro e w3 ⟨v3, rfl, ho3, hb3⟩; have e3 : Ext w w3 := Ext.tr e2' hb3; have hp3 := sees_of_owns ho3; obtain ⟨a3, c3, rfl, -, -⟩ := owns_form ho3)
          | (go_at_call 19; refine (HCR.out _ _ _ (HV.out.below e3 (by decide)) (HD.out.below e3)).mono ?_; rintro e w4 ⟨v4, rfl, ho4, hb4⟩; have e34 : Ext w3 w4 := hb4; have e4 : Ext w w4 := Ext.tr e3 hb4; have hp4 := sees_of_owns ho4)
          | (go_at_call 18; refine (HSP.out _ _ _ (hp3.below e34 (by decide)) hp4).mono ?_; rintro e w5 ⟨rfl, hb5⟩; have e35 : Ext w3 w5 := Ext.tr e34 hb5)
          | (go_at_call 14; refine (HCK.out _ _ (hp3.below e35 (by decide))).mono ?_; rintro e w6 ⟨rfl, hb6⟩; rw [HCC.out]; have e36 : Ext w3 w6 := Ext.tr e35 hb6)
          | (go_at_call 20; refine (HI1.out _ _ (hp3.below e36 (by decide))).mono ?_; rintro e w7 ⟨rfl, hb7⟩; have e37 : Ext w3 w7 := Ext.tr e36 hb7)
          | (go_at_call 21; refine (HI2.out _ _ (hp3.below e37 (by decide))).mono ?_; rintro e w8 ⟨rfl, hb8⟩; have e38 : Ext w3 w8 := Ext.tr e37 hb8; have e8 : Ext w w8 := Ext.tr e3 e38; (try have hc8 := (Below.cell e8 (World.block_lt_of_cell? w _ hcu)).trans hcu)))
        go_ret
        exact ⟨rfl, e8⟩
    · have hd2 : (30 : Int) < (dd.length : Int) := by omega
      go_enter Tryd.func6, Tryd.ntmps6
      go_wp2_with (go_at_call 9; refine (alive16_any _).mono ?_; rintro e w1 ⟨rfl, hb1⟩; have e1 : Ext w w1 := hb1; clear hb1)
      go_ret
      exact ⟨rfl, e1⟩
  · have hd1 : (22 : Int) < (ss.length : Int) := by omega
    go_enter Tryd.func6, Tryd.ntmps6
    go_wp2_with (go_at_call 9; refine (alive16_any _).mono ?_; rintro e w1 ⟨rfl, hb1⟩; have e1 : Ext w w1 := hb1; clear hb1)
    go_ret
    exact ⟨rfl, e1⟩
end Go.Proofs.YtngkjngfiakmaaaDoor
