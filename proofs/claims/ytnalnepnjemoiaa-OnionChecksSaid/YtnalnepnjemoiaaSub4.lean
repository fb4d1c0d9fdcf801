/-
  OnionChecks: walked; submissions that came in.
-/
import Derived.Test.YtnalnepnjemoiaaSub3
import Derived.Test.YtnalnepnjemoiaaWr1
import Derived.Test.YtnalnepnjemoiaaPr
namespace Go.Proofs.Ytnalnepnjemoiaa
set_option linter.unusedVariables false
set_option linter.unusedSimpArgs false
open Go Go.RowKit

theorem num18_any (n : Int) (w : World) : Calls Try.prog 8 #[.int .i64 n] w fun e w' => e = .returned (.int .i64 n) ∧ w = w' := by
  go_enter Try.func8, Try.ntmps8
  go_wp2_with fail
  go_ret
  exact ⟨rfl, rfl⟩
set_option maxRecDepth 100000 in
set_option maxHeartbeats 4000000 in
theorem OnionChecks_any (s : Sub) (vb : Value) (pub round chain size : Int) (w : World) (hs : s.ok) (hp : in64 pub) (hv : SeesB w vb s.e.box) :
    Calls Try.prog 3 #[.agg (subC s vb), .int .u64 pub, .int .i64 round, .int .i64 chain, .int .i64 size] w fun e w' => e = .returned (.bool true) ∧ Below w.heap.size w w' := by
  have hso := hs
  obtain ⟨h32, -, -, -⟩ := hs
  obtain ⟨a0, c0, rfl, -, -⟩ := sees_form hv
  have hk0 := Lib.hid (show Blk (w.alloc (.cells (subC s (.slice a0 s.e.box.length c0)) 31)) w.heap.size (subC s (.slice a0 s.e.box.length c0)) 31 from Blk.new _ _ _)
  have hb0 := Lib.hid (show Below w.heap.size w (w.alloc (.cells (subC s (.slice a0 s.e.box.length c0)) 31)) by go_grown)
  have HV := Lib.hid (hv.below hb0.out (by decide)); clear hv
  have HBX := Lib.hid fun (u : World) (h : Blk u w.heap.size (subC s (.slice a0 s.e.box.length c0)) 31) => sub_box h h32
  have HSZ := Lib.hid (subC_size s (.slice a0 s.e.box.length c0) h32)
  by_cases hl : s.e.box.length ≤ 400
  · have HA := Lib.hid fun (w' : World) (h : SeesB w' (.slice a0 s.e.box.length c0) s.e.box) => CheckO_any s (.slice a0 s.e.box.length c0) pub round chain size w' hso hp h (by omega)
    have HB := Lib.hid fun (w' : World) (h : SeesB w' (.slice a0 s.e.box.length c0) s.e.box) => CheckOr_any s (.slice a0 s.e.box.length c0) pub round chain size w' hso hp h (by omega)
    generalize checkO s pub round chain size = CO at *
    clear hso h32
    generalize s.e.box = BX at *
    generalize subC s (.slice a0 BX.length c0) = SC at *
    have hst : Stab (fun u => Blk u w.heap.size SC 31 ∧ SeesB u (.slice a0 BX.length c0) BX) := Stab.and (Stab.blk _ _ _) (Stab.sees _ _ _ _ (by decide))
    have hd : ¬ (400 : Int) < (BX.length : Int) := by omega
    go_enter Try.func3, Try.ntmps3
    go_wp2_with (go_at_call 7; refine (alive18_any _).mono ?_; rintro e w1 ⟨rfl, hb1⟩; have hkey1 := hk0.out.below hb1; have hbel1 := hb0.out.trans (hb1.mono hb0.out.size); have hcb := HBX.out _ hkey1)
    have hk : HoldT (fun u => Blk u w.heap.size SC 31 ∧ SeesB u (.slice a0 BX.length c0) BX) w w1.drew := HoldT.drew hst ⟨⟨hkey1, HV.out.below hb1 (by decide)⟩, hbel1⟩
    clear hcb
    try change Code.wp _ _ _ (Act.mk _ _) _
    refine wp_region_runR Ext 15 37 (HoldT (fun u => Blk u w.heap.size SC 31 ∧ SeesB u (.slice a0 BX.length c0) BX) _) [[], [], [], [], [], [(0, 23), (1, 24), (2, 25), (3, 26), (4, 27)], [(5, 28)], [], [], [], [], [], [(7, 30), (8, 31), (9, 32), (10, 33), (11, 34)], [(6, 29), (12, 35)], [(13, 36)]] [(0, 23), (1, 24), (2, 25), (3, 26), (4, 27), (5, 28), (6, 29), (7, 30), (8, 31), (9, 32), (10, 33), (11, 34), (12, 35), (13, 36), (14, 10)] (by kernel_rfl) (by kernel_rfl) (by first | rfl | simp) (hk) ?_
    simp only [List.take_succ_cons, List.take_zero, List.drop_succ_cons, List.drop_zero]
    refine sp_op (Ph.eq (.agg SC)) (fun u hu => by
      refine spArg_nil ?_
      go_wp2_with ((refine wpList_load_row rfl 31 _ rfl w.heap.size rfl _ _ (0, 0) _ hu.has.1 Try.underlying31 rfl (by rw [HSZ.out]; exact info_sub) ?_))
      exact ⟨rfl, hu, Ext.refl _, slot_eq rfl⟩) ?_
    refine sp_op (Ph.eq _) (fun u hu => by
      refine spArg_nil ?_
      go_wp2_with (fail)
      exact ⟨rfl, hu, Ext.refl _, slot_eq rfl⟩) ?_
    refine sp_op (Ph.eq _) (fun u hu => by
      refine spArg_nil ?_
      go_wp2_with (fail)
      exact ⟨rfl, hu, Ext.refl _, slot_eq rfl⟩) ?_
    refine sp_op (Ph.eq _) (fun u hu => by
      refine spArg_nil ?_
      go_wp2_with (fail)
      exact ⟨rfl, hu, Ext.refl _, slot_eq rfl⟩) ?_
    refine sp_op (Ph.eq _) (fun u hu => by
      refine spArg_nil ?_
      go_wp2_with (fail)
      exact ⟨rfl, hu, Ext.refl _, slot_eq rfl⟩) ?_
    refine sp_op (Ph.eq (.int .i64 CO)) (fun u hu => by
      refine spArg_in (φ := Ph.eq (.agg SC)) 4 rfl rfl ?_; intro v0 h0
      skip
      refine spArg_eq 3 rfl rfl ?_
      refine spArg_eq 2 rfl rfl ?_
      refine spArg_eq 1 rfl rfl ?_
      refine spArg_eq 0 rfl rfl ?_
      refine spArg_nil ?_
      simp only [Act.put, List.setIfInBounds_toArray, List.set_cons_succ, List.set_cons_zero]
      go_wp2_with ((go_at_call 9; cases h0; refine (HA.out _ hu.has.2).mono ?_; rintro e x1 ⟨rfl, hb1⟩))
      exact ⟨rfl, HoldT.step hst hu hb1, hb1, slot_eq rfl⟩) ?_
    refine sp_op (Ph.eq (.int .i64 CO)) (fun u hu => by
      refine spArg_in (φ := Ph.eq (.int .i64 CO)) 0 rfl rfl ?_; intro v5 h5
      cases h5
      refine spArg_nil ?_
      simp only [Act.put, List.setIfInBounds_toArray, List.set_cons_succ, List.set_cons_zero]
      go_wp2_with ((go_at_call 8; refine (num18_any _ _).mono ?_; rintro e x1 ⟨rfl, rfl⟩))
      exact ⟨rfl, hu, Ext.refl _, slot_eq rfl⟩) ?_
    refine sp_op (Ph.eq (.agg SC)) (fun u hu => by
      refine spArg_nil ?_
      go_wp2_with ((refine wpList_load_row rfl 31 _ rfl w.heap.size rfl _ _ (0, 0) _ hu.has.1 Try.underlying31 rfl (by rw [HSZ.out]; exact info_sub) ?_))
      exact ⟨rfl, hu, Ext.refl _, slot_eq rfl⟩) ?_
    refine sp_op (Ph.eq _) (fun u hu => by
      refine spArg_nil ?_
      go_wp2_with (fail)
      exact ⟨rfl, hu, Ext.refl _, slot_eq rfl⟩) ?_
    refine sp_op (Ph.eq _) (fun u hu => by
      refine spArg_nil ?_
      go_wp2_with (fail)
      exact ⟨rfl, hu, Ext.refl _, slot_eq rfl⟩) ?_
    refine sp_op (Ph.eq _) (fun u hu => by
      refine spArg_nil ?_
      go_wp2_with (fail)
      exact ⟨rfl, hu, Ext.refl _, slot_eq rfl⟩) ?_
    refine sp_op (Ph.eq _) (fun u hu => by
      refine spArg_nil ?_
      go_wp2_with (fail)
      exact ⟨rfl, hu, Ext.refl _, slot_eq rfl⟩) ?_
    refine sp_op (Ph.eq (.int .i64 CO)) (fun u hu => by
      refine spArg_in (φ := Ph.eq (.agg SC)) 4 rfl rfl ?_; intro v7 h7
      skip
      refine spArg_eq 3 rfl rfl ?_
      refine spArg_eq 2 rfl rfl ?_
      refine spArg_eq 1 rfl rfl ?_
      refine spArg_eq 0 rfl rfl ?_
      refine spArg_nil ?_
      simp only [Act.put, List.setIfInBounds_toArray, List.set_cons_succ, List.set_cons_zero]
      go_wp2_with ((go_at_call 10; cases h7; refine (HB.out _ hu.has.2).mono ?_; rintro e x1 ⟨rfl, hb1⟩))
      exact ⟨rfl, HoldT.step hst hu hb1, hb1, slot_eq rfl⟩) ?_
    refine sp_op (Ph.eq _) (fun u hu => by
      refine spArg_in (φ := Ph.eq (.int .i64 CO)) 6 rfl rfl ?_; intro v6 h6
      cases h6
      refine spArg_in (φ := Ph.eq (.int .i64 CO)) 0 rfl rfl ?_; intro v12 h12
      cases h12
      refine spArg_nil ?_
      simp only [Act.put, List.setIfInBounds_toArray, List.set_cons_succ, List.set_cons_zero]
      go_wp2_with (fail)
      exact ⟨rfl, hu, Ext.refl _, slot_eq rfl⟩) ?_
    refine sp_op (Ph.eq _) (fun u hu => by
      refine spArg_eq 0 rfl rfl ?_
      refine spArg_nil ?_
      simp only [Act.put, List.setIfInBounds_toArray, List.set_cons_succ, List.set_cons_zero]
      go_wp2_with (fail)
      exact ⟨rfl, hu, Ext.refl _, slot_eq rfl⟩) ?_
    refine sp_end ?_
    intro u hu
    refine spArg_in (φ := Ph.eq (.agg SC)) 14 rfl rfl ?_; intro v0 h0
    skip
    refine spArg_eq 13 rfl rfl ?_
    refine spArg_eq 12 rfl rfl ?_
    refine spArg_eq 11 rfl rfl ?_
    refine spArg_eq 10 rfl rfl ?_
    refine spArg_in (φ := Ph.eq (.int .i64 CO)) 9 rfl rfl ?_; intro v5 h5
    cases h5
    refine spArg_in (φ := Ph.eq (.int .i64 CO)) 8 rfl rfl ?_; intro v6 h6
    cases h6
    refine spArg_in (φ := Ph.eq (.agg SC)) 7 rfl rfl ?_; intro v7 h7
    skip
    refine spArg_eq 6 rfl rfl ?_
    refine spArg_eq 5 rfl rfl ?_
    refine spArg_eq 4 rfl rfl ?_
    refine spArg_eq 3 rfl rfl ?_
    refine spArg_in (φ := Ph.eq (.int .i64 CO)) 2 rfl rfl ?_; intro v12 h12
    cases h12
    refine spArg_eq 1 rfl rfl ?_
    refine spArg_eq 0 rfl rfl ?_
    refine spArg_nil ?_
    simp only [Act.put, List.setIfInBounds_toArray, List.set_cons_succ, List.set_cons_zero]
    go_wp2_with fail
    go_ret
    exact ⟨by simp, hu.up⟩
  · clear hso h32
    generalize s.e.box = BX at *
    generalize subC s (.slice a0 BX.length c0) = SC at *
    have hd : (400 : Int) < (BX.length : Int) := by omega
    go_enter Try.func3, Try.ntmps3
    go_wp2_with (go_at_call 7; refine (alive18_any _).mono ?_; rintro e w1 ⟨rfl, hb1⟩; have hkey1 := hk0.out.below hb1; have hbel1 := hb0.out.trans (hb1.mono hb0.out.size); have hcb := HBX.out _ hkey1)
    go_ret
    exact ⟨rfl, hbel1⟩
end Go.Proofs.Ytnalnepnjemoiaa
