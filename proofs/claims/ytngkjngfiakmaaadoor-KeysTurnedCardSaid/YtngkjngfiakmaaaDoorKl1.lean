/-
  KeysCheck, KeysInner, KeysTell: walked.
-/
import Derived.Test.YtngkjngfiakmaaaDoorAl16
import Derived.Test.YtngkjngfiakmaaaDoorSamK
namespace Go.Proofs.YtngkjngfiakmaaaDoor
set_option linter.unusedVariables false
set_option linter.unusedSimpArgs false
open Go Go.RowKit

set_option maxRecDepth 100000 in
set_option maxHeartbeats 2000000 in
theorem KeysCheck_any (l : List Pub) (v0 : Value) (w : World) (hv : SeesP w v0 l) (hok : ∀ p ∈ l, p.ok) :
    Calls Tryd.prog 7 #[v0] w fun e w' => e = .returned (.bool true) ∧ Below w.heap.size w w' := by
  have HV := Lib.hid hv; have HOK := Lib.hid hok
  obtain ⟨a, c, rfl, -, -⟩ := sees_form hv
  clear hv hok
  by_cases h22 : l.length ≤ 22
  · have hd : ¬ (22 : Int) < (l.length : Int) := by omega
    have hcl : (l.flatMap Pub.cells).length = l.length * 10 := length_flatP l
    have HC1 := Lib.hid fun (u : World) (v : Value) (h : SeesP u v l) => CheckK_any l v u h HOK.out (by omega)
    have HC2 := Lib.hid fun (u : World) (v : Value) (h : SeesP u v l) => CheckKr_any l v u h HOK.out (by omega)
    have HI1 := Lib.hid fun (u : World) (v : Value) (h : SeesP u v l) => InnerK_any l v u h HOK.out (by omega)
    have HI2 := Lib.hid fun (u : World) (v : Value) (h : SeesP u v l) => InnerKr_any l v u h HOK.out (by omega)
    generalize checkK l = CK at *
    generalize innerP l = IK at *
    go_enter Tryd.func7, Tryd.ntmps7
    go_wp2_with (first
      | (go_at_call 9; refine (alive16_any _).mono ?_; rintro e w1 ⟨rfl, hb1⟩; have e1 : Ext w w1 := hb1; clear hb1; have hS1 : SeesP w1 (.slice a l.length c) l := HV.out.below e1 (by decide))
      | (at_builtin; refine wpList_app rfl _ _ _ rfl w1.heap.size 39 (.agg (PubC 0 0 0 0 0 0 0 0 0 0)) 10 80 Tryd.underlying34 info_pub3 rfl (by decide) (.slice none 0 0) 0 [] rfl (World.ownsRow_nil _ _ _ _) (.slice a l.length c) l.length (l.flatMap Pub.cells) rfl hS1 (by intro u hu; obtain ⟨p, _, hp⟩ := List.mem_flatMap.1 hu; exact one_pub p u hp) (by omega) (Nat.le_refl _) ?_
         intro v2 w2 hown2 hg2 _
         have e2 : Ext w w2 := Ext.tr e1 (ext_none hg2)
         have hS2 : SeesP w2 v2 l := by have := sees_of_owns hown2; simpa using this
         clear hg2 hown2)
      | (go_at_call 14; refine (HC1.out _ _ hS2).mono ?_; rintro e w3 ⟨rfl, hb3⟩; have e3 : Ext w w3 := Ext.tr e2 hb3; have hS3 : SeesP w3 (.slice a l.length c) l := HV.out.below e3 (by decide))
      | (go_at_call 15; refine (HC2.out _ _ hS3).mono ?_; rintro e w4 ⟨rfl, hb4⟩; have e4 : Ext w w4 := Ext.tr e3 hb4; have hS4 : SeesP w4 (.slice a l.length c) l := HV.out.below e4 (by decide))
      | (go_at_call 20; refine (HI1.out _ _ hS4).mono ?_; rintro e w5 ⟨rfl, hb5⟩; have e5 : Ext w w5 := Ext.tr e4 hb5; have hS5 : SeesP w5 (.slice a l.length c) l := HV.out.below e5 (by decide))
      | (go_at_call 21; refine (HI2.out _ _ hS5).mono ?_; rintro e w6 ⟨rfl, hb6⟩; have e6 : Ext w w6 := Ext.tr e5 hb6))
    go_ret
    exact ⟨by simp, e6⟩
  · have hd : (22 : Int) < (l.length : Int) := by omega
    go_enter Tryd.func7, Tryd.ntmps7
    go_wp2_with (go_at_call 9; refine (alive16_any _).mono ?_; rintro e w1 ⟨rfl, hb1⟩; have e1 : Ext w w1 := hb1; clear hb1)
    go_ret
    exact ⟨rfl, e1⟩
theorem seesUU_nil (w : World) : SeesUU w (.slice none 0 0) [] := ⟨[], Sees.nil _ _, fun i l u h => by simp at h⟩
theorem secC_at {w : World} {b o : Nat} {s : Sec} (h : w.rangeAt b o s.cells) : w.cell? ⟨b, o, none⟩ = some (.int .u64 s.blind) ∧ w.cell? ⟨b, o + 1, none⟩ = some (.int .u64 s.mix) ∧ w.cell? ⟨b, o + 2, none⟩ = some (.int .u64 s.inner) :=
  ⟨by have := h 0 _ rfl; rwa [Nat.add_zero] at this, h 1 _ rfl, h 2 _ rfl⟩
set_option maxRecDepth 100000 in
set_option maxHeartbeats 2000000 in
theorem KeysInner_any (ss : List Sec) (v0 : Value) (w : World) (hv : SeesS w v0 ss) (hok : ∀ s ∈ ss, s.ok) :
    Calls Tryd.prog 8 #[v0] w fun e w' => e = .returned (.bool true) ∧ Below w.heap.size w w' := by
  have HV := Lib.hid hv; have HOK := Lib.hid hok
  obtain ⟨a, c, rfl, hac, hcm⟩ := sees_form hv
  clear hv hok
  by_cases h20 : ss.length ≤ 20
  · have hd : ¬ (20 : Int) < (ss.length : Int) := by omega
    go_enter Tryd.func8, Tryd.ntmps8
    go_wp2_with (go_at_call 9; refine (alive16_any _).mono ?_; rintro e w1 ⟨rfl, hb1⟩; have e1 : Ext w w1 := hb1; clear hb1)
    have HV1 := Lib.hid (show SeesS w1 (.slice a ss.length c) ss from HV.out.below e1 (by decide))
    have HSUM := Lib.hid (show innerP (chainL ss []) = timesP 37 (sumS ss 0) from inner_chain HOK.out)
    have HPO := Lib.hid (show ∀ p ∈ chainL ss [], p.ok from chainN_ok _ _ _)
    have HCL := Lib.hid (length_chainL ss [])
    go_loopw [4, 5] (fun sv i wr => ∃ (k : Nat) (o : Int), k ≤ ss.length ∧ i = .int .i64 k ∧ sv = .int .u64 o ∧ in64 o ∧ Hid (sumS ss 0 = sumS (ss.drop k) o) ∧ wr = w1) (fun _ i _ => ss.length - (intOf i).toNat)
    case atStart => exact ⟨0, 0, Nat.zero_le _, rfl, rfl, ⟨by decide, by decide⟩, Lib.hid rfl, rfl⟩
    case round =>
      obtain ⟨k, o, hk, rfl, rfl, ho, hP, rfl⟩ := hrel
      by_cases hlt : k < ss.length
      · obtain ⟨s, hs⟩ : ∃ s, ss[k]? = some s := ⟨_, List.getElem?_eq_getElem hlt⟩
        obtain ⟨b, ob, cb, e2, -, -, hrange⟩ := seesS_open HV1.out (by omega)
        obtain ⟨rfl, rfl⟩ : a = some ⟨b, ob, none⟩ ∧ c = cb := by injection e2 with e1 _ e3; exact ⟨e1, e3⟩
        obtain ⟨-, -, hcell⟩ := secC_at (hrange k s hs)
        have HP := Lib.hid (hP.out.trans (sumS_drop hs))
        obtain ⟨z0, z1⟩ := (HOK.out s (List.mem_of_getElem? hs)).2.2
        obtain ⟨o0, o1⟩ := ho
        obtain ⟨y0, y1⟩ := addN_pos o s.inner
        generalize s.inner = z at *
        have HA := Lib.hid (AddN_any o z wr o0 o1 z0 z1)
        generalize addN o z = y at *
        clear e2 hrange hs hP
        go_wp2_with (go_at_call 24; refine HA.out.mono ?_; rintro e x ⟨rfl, rfl⟩)
        go_roundw
        case rel => exact ⟨k + 1, y, by omega, by go_num, rfl, ⟨y0, by omega⟩, HP, trivial⟩
        case measure => simp [intOf]; omega
      · obtain rfl : k = ss.length := by omega
        have hP2 := hP.out
        rw [List.drop_length, sumS] at hP2
        subst hP2
        clear hP
        obtain ⟨o0, o1⟩ := ho
        generalize sumS ss 0 = o at *
        have HB := Lib.hid fun u : World => Baser_any o u o0 o1
        have HCH := Lib.hid (Chain_any ss [] _ _ wr HV1.out (seesUU_nil wr) HOK.out (fun l h => by cases h) (by omega))
        generalize chainL ss [] = CH at *
        have HI := Lib.hid fun (u : World) (v : Value) (h : SeesP u v CH) => InnerK_any CH v u h HPO.out (by rw [HCL.out]; omega)
        generalize innerP CH = IC at *
        go_wp2_with (first
          | (go_at_call 13; refine HCH.out.mono ?_; rintro e w2 ⟨v2, rfl, ho2, hb2⟩; have e2 : Ext wr w2 := hb2; have hs2 := sees_of_owns ho2)
          | (go_at_call 20; refine (HI.out _ _ hs2).mono ?_; rintro e w3 ⟨rfl, hb3⟩; have e3 : Ext w w3 := Ext.tr e1 (Ext.tr e2 hb3); rw [HSUM.out])
          | (go_at_call 16; refine (HB.out _).mono ?_; rintro e w4 ⟨rfl, rfl⟩))
        go_ret
        exact ⟨by simp, e3⟩
  · have hd : (20 : Int) < (ss.length : Int) := by omega
    go_enter Tryd.func8, Tryd.ntmps8
    go_wp2_with (go_at_call 9; refine (alive16_any _).mono ?_; rintro e w1 ⟨rfl, hb1⟩; have e1 : Ext w w1 := hb1; clear hb1)
    go_ret
    exact ⟨rfl, e1⟩
set_option maxRecDepth 100000 in
set_option maxHeartbeats 2000000 in
theorem KeysShared_any (ss : List Sec) (x : Int) (v0 : Value) (w : World) (hv : SeesS w v0 ss) (hok : ∀ s ∈ ss, s.ok) (hx : in64 x) :
    Calls Tryd.prog 5 #[v0, .int .u64 x] w fun e w' => e = .returned (.bool true) ∧ Below w.heap.size w w' := by
  have HV := Lib.hid hv; have HOK := Lib.hid hok
  obtain ⟨a, c, rfl, hac, hcm⟩ := sees_form hv
  have HX := Lib.hid hx
  obtain ⟨x0, x1⟩ := hx
  clear hv hok
  by_cases h10 : ss.length ≤ 10
  · have hd : ¬ (10 : Int) < (ss.length : Int) := by omega
    have HB := Lib.hid fun u : World => Baser_any x u x0 x1
    have HCH := Lib.hid fun (u : World) (h : SeesS u (.slice a ss.length c) ss) => Chain_any ss [] _ _ u h (seesUU_nil u) HOK.out (fun l h => by cases h) (by omega)
    have HSH := Lib.hid fun (i : Nat) (s : Sec) (p : Pub) (h : ss[i]? = some s) (hp : (chainL ss [])[i]? = some p) => shared_eq (dd := []) HOK.out HX.out h hp
    have HXA := Lib.hid fun (i : Nat) (s : Sec) (h : ss[i]? = some s) => xAt_succ ss [] x i s h HOK.out HX.out
    have HPO := Lib.hid (show ∀ p ∈ chainL ss [], p.ok from chainN_ok _ _ _)
    have HCL := Lib.hid (length_chainL ss [])
    have HX0 := Lib.hid (xAt_zero ss [] x)
    have HXI := Lib.hid fun i : Nat => (show 0 ≤ xAt ss [] x i ∧ xAt ss [] x i < 2305843009213693951 from timesP_pos _ _)
    generalize chainL ss [] = CH at *
    generalize hXT : xAt ss [] x = XT at *
    clear hXT
    go_enter Tryd.func5, Tryd.ntmps5
    go_wp2_with (first
      | (go_at_call 9; refine (alive16_any _).mono ?_; rintro e w1 ⟨rfl, hb1⟩; have e1 : Ext w w1 := hb1; clear hb1; have hS1 : SeesS w1 (.slice a ss.length c) ss := HV.out.below e1 (by decide))
      | (go_at_call 13; refine (HCH.out _ hS1).mono ?_; rintro e w2 ⟨v2, rfl, ho2, hb2⟩; have e2 : Ext w w2 := Ext.tr e1 hb2; obtain ⟨a2, c2, rfl, -, -⟩ := owns_form ho2)
      | (go_at_call 16; refine (HB.out _).mono ?_; rintro e w3 ⟨rfl, rfl⟩; rw [← HX0.out]))
    have HS2 := Lib.hid (show SeesS w2 (.slice a ss.length c) ss from HV.out.below e2 (by decide))
    have HP2 := Lib.hid (show SeesP w2 (.slice a2 CH.length c2) CH from sees_of_owns ho2)
    clear ho2 hb2 hS1
    rw [HCL.out]
    have hst : Stab (fun u => Ext w2 u) := fun _ _ h hb => Ext.tr h hb
    go_loopw [7, 8] (fun av i wr => ∃ k : Nat, k ≤ ss.length ∧ i = .int .i64 k ∧ av = .int .u64 (XT k) ∧ Ext w2 wr) (fun _ i _ => ss.length - (intOf i).toNat)
    case atStart => exact ⟨0, Nat.zero_le _, rfl, rfl, Ext.refl _⟩
    case round =>
      obtain ⟨k, hk, rfl, rfl, hX⟩ := hrel
      by_cases hlt : k < ss.length
      · obtain ⟨s, hs⟩ : ∃ s, ss[k]? = some s := ⟨_, List.getElem?_eq_getElem hlt⟩
        obtain ⟨p, hp⟩ : ∃ p, CH[k]? = some p := ⟨_, List.getElem?_eq_getElem (by rw [HCL.out]; exact hlt)⟩
        have hso := HOK.out s (List.mem_of_getElem? hs)
        have hpo := HPO.out p (List.mem_of_getElem? hp)
        obtain ⟨b, ob, cb, e3, -, -, hrange⟩ := seesS_open HS2.out (by omega)
        obtain ⟨rfl, rfl⟩ : a = some ⟨b, ob, none⟩ ∧ c = cb := by injection e3 with e1 _ e3; exact ⟨e1, e3⟩
        obtain ⟨bP, oP, cP, e4⟩ := seesP_opn HP2.out (by rw [HCL.out]; omega)
        obtain ⟨rfl, rfl⟩ : a2 = some ⟨bP, oP, none⟩ ∧ c2 = cP := by injection e4 with e1 _ e3; exact ⟨e1, e3⟩
        have HR := Lib.hid (hrange k s hs)
        have HRP := Lib.hid (seesP_at HP2.out (by rw [HCL.out]; omega) k p hp)
        have hsh := HSH.out k s p hs hp
        have hxs := HXA.out k s hs
        obtain ⟨w0, w1'⟩ := HXI.out k
        have HT1 := Lib.hid fun u : World => Timesr_any (XT k) s.mix u w0 (by omega) hso.2.1.1 hso.2.1.2
        have HT2 := Lib.hid fun u : World => Timesr_any p.mix x u hpo.2.2.1.1 hpo.2.2.1.2 x0 x1
        have HT3 := Lib.hid fun u : World => Timesr_any (XT k) s.blind u w0 (by omega) hso.1.1 hso.1.2
        rw [hsh] at HT1
        rw [← hxs] at HT3
        generalize timesP p.mix x = TV at *
        have hdA : decide (ss.length ≤ k) = false := decide_eq_false (by omega)
        have hkS : HoldT (fun u => Ext w2 u) w wr.drew := HoldT.drew hst ⟨hX, Ext.tr e2 hX⟩
        obtain ⟨sb, sm, si⟩ := s
        obtain ⟨pa, pb, pm, pn, q1, q2, q3, q4, q5, q6⟩ := p
        have HXX := Lib.hid hX
        clear hrange e3 e4 hs hp hso hpo hsh hxs hX
        generalize XT k = X0 at *
        generalize hX1 : XT (k + 1) = X1 at *
        have HX1 := Lib.hid hX1
        clear hX1
        go_wp2_with fail
        try change Code.wp _ _ _ (Act.mk _ _) _
        refine wp_region_runR Ext 15 55 (HoldT (fun u => Ext w2 u) _) [[], [], [], [(1, 29), (2, 30)], [(3, 31)], [(4, 32)], [(0, 28), (5, 33)], [], [], [(7, 35), (8, 36)], [(9, 37)], [(10, 38)], [], [(11, 39), (12, 40)], [(6, 34), (13, 41)]] [(0, 28), (1, 29), (2, 30), (3, 31), (4, 32), (5, 33), (6, 34), (7, 35), (8, 36), (9, 37), (10, 38), (11, 39), (12, 40), (13, 41), (14, 42)] (by kernel_rfl) (by kernel_rfl) (by first | rfl | simp) (hkS) ?_
        simp only [List.take_succ_cons, List.take_zero, List.drop_succ_cons, List.drop_zero]
        refine sp_op (Ph.eq _) (fun u hu => by
          refine spArg_nil ?_
          have q1 : u.cell? ⟨b, ob + k * 3 + 1, none⟩ = some (.int .u64 sm) := range_ext HR.out hu.has 1 _ rfl
          have q2 : u.cell? ⟨bP, oP + k * 10 + 2, none⟩ = some (.int .u64 pm) := range_ext HRP.out hu.has 2 _ rfl
          go_wp2_with (fail)
          exact ⟨rfl, hu, Ext.refl _, slot_eq rfl⟩) ?_
        refine sp_op (Ph.eq _) (fun u hu => by
          refine spArg_nil ?_
          have q1 : u.cell? ⟨b, ob + k * 3 + 1, none⟩ = some (.int .u64 sm) := range_ext HR.out hu.has 1 _ rfl
          have q2 : u.cell? ⟨bP, oP + k * 10 + 2, none⟩ = some (.int .u64 pm) := range_ext HRP.out hu.has 2 _ rfl
          go_wp2_with (fail)
          exact ⟨rfl, hu, Ext.refl _, slot_eq rfl⟩) ?_
        refine sp_op (Ph.eq _) (fun u hu => by
          refine spArg_nil ?_
          have q1 : u.cell? ⟨b, ob + k * 3 + 1, none⟩ = some (.int .u64 sm) := range_ext HR.out hu.has 1 _ rfl
          have q2 : u.cell? ⟨bP, oP + k * 10 + 2, none⟩ = some (.int .u64 pm) := range_ext HRP.out hu.has 2 _ rfl
          go_wp2_with (fail)
          exact ⟨rfl, hu, Ext.refl _, slot_eq rfl⟩) ?_
        refine sp_op (Ph.eq _) (fun u hu => by
          refine spArg_eq 1 rfl rfl ?_
          refine spArg_eq 0 rfl rfl ?_
          refine spArg_nil ?_
          simp only [Act.put, List.setIfInBounds_toArray, List.set_cons_succ, List.set_cons_zero]
          have q1 : u.cell? ⟨b, ob + k * 3 + 1, none⟩ = some (.int .u64 sm) := range_ext HR.out hu.has 1 _ rfl
          have q2 : u.cell? ⟨bP, oP + k * 10 + 2, none⟩ = some (.int .u64 pm) := range_ext HRP.out hu.has 2 _ rfl
          go_wp2_with (fail)
          exact ⟨rfl, hu, Ext.refl _, slot_eq rfl⟩) ?_
        refine sp_op (Ph.eq _) (fun u hu => by
          refine spArg_eq 0 rfl rfl ?_
          refine spArg_nil ?_
          simp only [Act.put, List.setIfInBounds_toArray, List.set_cons_succ, List.set_cons_zero]
          have q1 : u.cell? ⟨b, ob + k * 3 + 1, none⟩ = some (.int .u64 sm) := range_ext HR.out hu.has 1 _ rfl
          have q2 : u.cell? ⟨bP, oP + k * 10 + 2, none⟩ = some (.int .u64 pm) := range_ext HRP.out hu.has 2 _ rfl
          go_wp2_with (fail)
          exact ⟨rfl, hu, Ext.refl _, slot_eq rfl⟩) ?_
        refine sp_op (Ph.eq _) (fun u hu => by
          refine spArg_eq 0 rfl rfl ?_
          refine spArg_nil ?_
          simp only [Act.put, List.setIfInBounds_toArray, List.set_cons_succ, List.set_cons_zero]
          have q1 : u.cell? ⟨b, ob + k * 3 + 1, none⟩ = some (.int .u64 sm) := range_ext HR.out hu.has 1 _ rfl
          have q2 : u.cell? ⟨bP, oP + k * 10 + 2, none⟩ = some (.int .u64 pm) := range_ext HRP.out hu.has 2 _ rfl
          go_wp2_with (fail)
          exact ⟨rfl, hu, Ext.refl _, slot_eq rfl⟩) ?_
        refine sp_op (Ph.eq _) (fun u hu => by
          refine spArg_eq 5 rfl rfl ?_
          refine spArg_eq 0 rfl rfl ?_
          refine spArg_nil ?_
          simp only [Act.put, List.setIfInBounds_toArray, List.set_cons_succ, List.set_cons_zero]
          have q1 : u.cell? ⟨b, ob + k * 3 + 1, none⟩ = some (.int .u64 sm) := range_ext HR.out hu.has 1 _ rfl
          have q2 : u.cell? ⟨bP, oP + k * 10 + 2, none⟩ = some (.int .u64 pm) := range_ext HRP.out hu.has 2 _ rfl
          go_wp2_with ((go_at_call 17; refine (HT1.out _).mono ?_; rintro e_ x_ ⟨rfl, rfl⟩))
          exact ⟨rfl, hu, Ext.refl _, slot_eq rfl⟩) ?_
        refine sp_op (Ph.eq _) (fun u hu => by
          refine spArg_nil ?_
          have q1 : u.cell? ⟨b, ob + k * 3 + 1, none⟩ = some (.int .u64 sm) := range_ext HR.out hu.has 1 _ rfl
          have q2 : u.cell? ⟨bP, oP + k * 10 + 2, none⟩ = some (.int .u64 pm) := range_ext HRP.out hu.has 2 _ rfl
          go_wp2_with (fail)
          exact ⟨rfl, hu, Ext.refl _, slot_eq rfl⟩) ?_
        refine sp_op (Ph.eq _) (fun u hu => by
          refine spArg_nil ?_
          have q1 : u.cell? ⟨b, ob + k * 3 + 1, none⟩ = some (.int .u64 sm) := range_ext HR.out hu.has 1 _ rfl
          have q2 : u.cell? ⟨bP, oP + k * 10 + 2, none⟩ = some (.int .u64 pm) := range_ext HRP.out hu.has 2 _ rfl
          go_wp2_with (fail)
          exact ⟨rfl, hu, Ext.refl _, slot_eq rfl⟩) ?_
        refine sp_op (Ph.eq _) (fun u hu => by
          refine spArg_eq 1 rfl rfl ?_
          refine spArg_eq 0 rfl rfl ?_
          refine spArg_nil ?_
          simp only [Act.put, List.setIfInBounds_toArray, List.set_cons_succ, List.set_cons_zero]
          have q1 : u.cell? ⟨b, ob + k * 3 + 1, none⟩ = some (.int .u64 sm) := range_ext HR.out hu.has 1 _ rfl
          have q2 : u.cell? ⟨bP, oP + k * 10 + 2, none⟩ = some (.int .u64 pm) := range_ext HRP.out hu.has 2 _ rfl
          go_wp2_with (fail)
          exact ⟨rfl, hu, Ext.refl _, slot_eq rfl⟩) ?_
        refine sp_op (Ph.eq _) (fun u hu => by
          refine spArg_eq 0 rfl rfl ?_
          refine spArg_nil ?_
          simp only [Act.put, List.setIfInBounds_toArray, List.set_cons_succ, List.set_cons_zero]
          have q1 : u.cell? ⟨b, ob + k * 3 + 1, none⟩ = some (.int .u64 sm) := range_ext HR.out hu.has 1 _ rfl
          have q2 : u.cell? ⟨bP, oP + k * 10 + 2, none⟩ = some (.int .u64 pm) := range_ext HRP.out hu.has 2 _ rfl
          go_wp2_with (fail)
          exact ⟨rfl, hu, Ext.refl _, slot_eq rfl⟩) ?_
        refine sp_op (Ph.eq _) (fun u hu => by
          refine spArg_eq 0 rfl rfl ?_
          refine spArg_nil ?_
          simp only [Act.put, List.setIfInBounds_toArray, List.set_cons_succ, List.set_cons_zero]
          have q1 : u.cell? ⟨b, ob + k * 3 + 1, none⟩ = some (.int .u64 sm) := range_ext HR.out hu.has 1 _ rfl
          have q2 : u.cell? ⟨bP, oP + k * 10 + 2, none⟩ = some (.int .u64 pm) := range_ext HRP.out hu.has 2 _ rfl
          go_wp2_with (fail)
          exact ⟨rfl, hu, Ext.refl _, slot_eq rfl⟩) ?_
        refine sp_op (Ph.eq _) (fun u hu => by
          refine spArg_nil ?_
          have q1 : u.cell? ⟨b, ob + k * 3 + 1, none⟩ = some (.int .u64 sm) := range_ext HR.out hu.has 1 _ rfl
          have q2 : u.cell? ⟨bP, oP + k * 10 + 2, none⟩ = some (.int .u64 pm) := range_ext HRP.out hu.has 2 _ rfl
          go_wp2_with (fail)
          exact ⟨rfl, hu, Ext.refl _, slot_eq rfl⟩) ?_
        refine sp_op (Ph.eq _) (fun u hu => by
          refine spArg_eq 1 rfl rfl ?_
          refine spArg_eq 0 rfl rfl ?_
          refine spArg_nil ?_
          simp only [Act.put, List.setIfInBounds_toArray, List.set_cons_succ, List.set_cons_zero]
          have q1 : u.cell? ⟨b, ob + k * 3 + 1, none⟩ = some (.int .u64 sm) := range_ext HR.out hu.has 1 _ rfl
          have q2 : u.cell? ⟨bP, oP + k * 10 + 2, none⟩ = some (.int .u64 pm) := range_ext HRP.out hu.has 2 _ rfl
          go_wp2_with ((go_at_call 17; refine (HT2.out _).mono ?_; rintro e_ x_ ⟨rfl, rfl⟩))
          exact ⟨rfl, hu, Ext.refl _, slot_eq rfl⟩) ?_
        refine sp_op (Ph.eq _) (fun u hu => by
          refine spArg_eq 7 rfl rfl ?_
          refine spArg_eq 0 rfl rfl ?_
          refine spArg_nil ?_
          simp only [Act.put, List.setIfInBounds_toArray, List.set_cons_succ, List.set_cons_zero]
          have q1 : u.cell? ⟨b, ob + k * 3 + 1, none⟩ = some (.int .u64 sm) := range_ext HR.out hu.has 1 _ rfl
          have q2 : u.cell? ⟨bP, oP + k * 10 + 2, none⟩ = some (.int .u64 pm) := range_ext HRP.out hu.has 2 _ rfl
          go_wp2_with (fail)
          exact ⟨rfl, hu, Ext.refl _, slot_eq rfl⟩) ?_
        refine sp_end ?_
        intro u hu
        refine spArg_eq 14 rfl rfl ?_
        refine spArg_eq 13 rfl rfl ?_
        refine spArg_eq 12 rfl rfl ?_
        refine spArg_eq 11 rfl rfl ?_
        refine spArg_eq 10 rfl rfl ?_
        refine spArg_eq 9 rfl rfl ?_
        refine spArg_eq 8 rfl rfl ?_
        refine spArg_eq 7 rfl rfl ?_
        refine spArg_eq 6 rfl rfl ?_
        refine spArg_eq 5 rfl rfl ?_
        refine spArg_eq 4 rfl rfl ?_
        refine spArg_eq 3 rfl rfl ?_
        refine spArg_eq 2 rfl rfl ?_
        refine spArg_eq 1 rfl rfl ?_
        refine spArg_eq 0 rfl rfl ?_
        refine spArg_nil ?_
        simp only [Act.put, List.setIfInBounds_toArray, List.set_cons_succ, List.set_cons_zero]
        have q1 : u.cell? ⟨b, ob + k * 3, none⟩ = some (.int .u64 sb) := by have := range_ext HR.out hu.has 0 _ rfl; rwa [Nat.add_zero] at this
        go_wp2_with (go_at_call 17; refine (HT3.out _).mono ?_; rintro e x ⟨rfl, rfl⟩)
        go_roundw
        case rel => exact ⟨k + 1, by omega, by go_num, by rw [HX1.out], hu.has⟩
        case measure => simp [intOf]; omega
      · obtain rfl : k = ss.length := by omega
        go_wp2_with fail
        go_ret
        exact ⟨by simp, Ext.tr e2 hX⟩
  · have hd : (10 : Int) < (ss.length : Int) := by omega
    go_enter Tryd.func5, Tryd.ntmps5
    go_wp2_with (go_at_call 9; refine (alive16_any _).mono ?_; rintro e w1 ⟨rfl, hb1⟩; have e1 : Ext w w1 := hb1; clear hb1)
    go_ret
    exact ⟨rfl, e1⟩
end Go.Proofs.YtngkjngfiakmaaaDoor
