/-
  OnionMakes: walked.
-/
import Derived.Test.YtnmniblaefjekaaGreatMk3
import Derived.Test.YtnmniblaefjekaaGreatWr1
namespace Go.Proofs.YtnmniblaefjekaaGreat
set_option linter.unusedVariables false
set_option linter.unusedSimpArgs false
open Go Go.RowKit

theorem sign_holdsM (x : Int) (b : List UInt8) (hx : in64 x) : signOk (timesP 37 x) b (signC x b) (signS x b) := by
  have hd : in64 (sigD x b) := ⟨(sigD_pos x b).1, by have := (sigD_pos x b).2; omega⟩
  obtain ⟨h1, h2⟩ := back_holds (g := 37) (a := x) (d := sigD x b) (c := signC x b) (by decide) hx hd (signC_pos x b).1
  refine ⟨h1, ⟨(signC_pos x b).2, (signS_pos x b).2⟩, ?_⟩
  unfold signS
  rw [h2]; rfl
/-- What is made is taken. -/
theorem onion_taken (ps : List Pub) (secret x draw round chain : Int) (inside : List UInt8) (hs : in64 secret) (hx : in64 x) (hd : in64 draw) :
    checkO (onionL ps secret x draw round chain inside) (timesP 37 secret) round chain ((inside.length : Int) + 16 * (ps.length : Int)) = 0 := by
  unfold checkO
  rw [if_pos (show (onionL ps secret x draw round chain inside).user = nameL (timesP 37 secret) from rfl)]
  have hl : ((boxL ps x inside (-1)).length : Int) = (inside.length : Int) + 16 * (ps.length : Int) := by rw [length_boxL]; omega
  rw [if_pos ⟨hl, (timesP_ok ok37 hx : okP (timesP 37 x))⟩]
  rw [if_pos ⟨know_holds ok37 hx hd, sign_holdsM secret _ hs⟩]
theorem num18b_any (n : Int) (w : World) : Calls Tryz.prog 16 #[.int .i64 n] w fun e w' => e = .returned (.int .i64 n) ∧ w = w' := by
  go_enter Tryz.func16, Tryz.ntmps16
  go_wp2_with fail
  go_ret
  exact ⟨rfl, rfl⟩
set_option maxRecDepth 100000 in
set_option maxHeartbeats 4000000 in
theorem OnionMakes_any (seed : List UInt8) (k secret x draw round chain : Int) (inside : List UInt8) (v : Value) (w : World) (h32 : seed.length = 32) (hk : inI k) (hs : in64 secret) (hx : in64 x) (hd : in64 draw) (hv : SeesB w v inside) :
    Calls Tryz.prog 3 #[.agg (keyA seed), .int .i64 k, .int .u64 secret, .int .u64 x, .int .u64 draw, .int .i64 round, .int .i64 chain, v] w fun e w' => e = .returned (.bool true) ∧ Below w.heap.size w w' := by
  have HK := Lib.hid h32; clear h32
  have HKI := Lib.hid hk
  obtain ⟨a0, c0, rfl, hac0, hc0⟩ := sees_form hv
  obtain ⟨k0, k1⟩ := hk
  have hk0 := Lib.hid (Blk.new w (keyA seed) 23)
  have hb0 := Lib.hid (show Below w.heap.size w (w.alloc (.cells (keyA seed) 23)) by go_grown)
  have HV := Lib.hid hv; clear hv
  by_cases hr : 1 ≤ k ∧ k ≤ 6
  · have HD := Lib.hid (decide_eq_true hr)
    by_cases hlen : inside.length ≤ 200
    · obtain ⟨N, rfl⟩ : ∃ N : Nat, k = N := ⟨k.toNat, by omega⟩
      have hN : N ≤ 6 := by omega
      have hdl : ¬ (200 : Int) < (inside.length : Int) := by omega
      have hL := length_keysP seed 3 4 (N : Int).toNat
      have hO : ∀ p ∈ keysP seed 3 4 (N : Int).toNat, p.ok := chainN_ok _ _ _
      have HRR := Lib.hid fun (u : World) => LChain_any seed N u HK.out HKI.out
      unfold RetC at HRR
      generalize keysP seed 3 4 (N : Int).toNat = ps at *
      rw [Int.toNat_natCast] at hL
      have HL := Lib.hid hL; clear hL
      have HA := Lib.hid fun (w' : World) (v1 v2 : Value) (h1 : SeesP w' v1 ps) (h2 : SeesB w' v2 inside) => OMake_any ps secret x draw round chain inside v1 v2 w' h1 hO hs hx hd h2 (by omega) (by rw [HL.out]; omega)
      have HB := Lib.hid fun (w' : World) (v1 v2 : Value) (h1 : SeesP w' v1 ps) (h2 : SeesB w' v2 inside) => Onionr_any ps secret x draw round chain inside v1 v2 w' h1 hO hs hx hd h2 (by omega) (by rw [HL.out]; omega)
      have hlb : (onionL ps secret x draw round chain inside).e.box.length ≤ 10000 := by rw [show (onionL ps secret x draw round chain inside).e.box = boxL ps x inside (-1) from rfl, length_boxL, HL.out]; omega
      have hOK : (onionL ps secret x draw round chain inside).ok := ⟨submitL_user _ _ _ _ _, (show in64 (timesP 37 x) from in64_P (timesP_pos _ _)), ⟨in64_N (knowC_pos _ _ _), in64_N (ansP_pos _ _ _)⟩, ⟨in64_N (sigC_pos _ _ _), in64_N (ansP_pos _ _ _)⟩⟩
      have HCK := Lib.hid fun (w' : World) (v1 : Value) (h : SeesB w' v1 (onionL ps secret x draw round chain inside).e.box) => CheckO_any (onionL ps secret x draw round chain inside) v1 (timesP 37 secret) round chain ((inside.length : Int) + 16 * (N : Int)) w' hOK (in64_P (timesP_pos _ _)) h (by omega)
      have hct := onion_taken ps secret x draw round chain inside hs hx hd
      rw [HL.out] at hct
      rw [hct] at HCK
      have HU := Lib.hid (submitL_user ⟨timesP 37 x, boxL ps x inside (-1)⟩ ⟨knowC 37 (timesP 37 x) draw, ansP (knowC 37 (timesP 37 x) draw) x draw⟩ secret round chain)
      have HS1 := Lib.hid fun (w' : World) (v1 : Value) (h : SeesB w' v1 (onionL ps secret x draw round chain inside).e.box) => Signed_any (onionL ps secret x draw round chain inside) v1 round chain w' hOK h (by omega)
      have HS2 := Lib.hid fun (w' : World) (v1 : Value) (h : SeesB w' v1 (onionL ps secret x draw round chain inside).e.box) => Signedr_any (onionL ps secret x draw round chain inside) v1 round chain w' hOK h (by omega)
      have HBS := Lib.hid fun (w' : World) => Baser_any secret w' hs.1 hs.2
      have HUS : Hid ((onionL ps secret x draw round chain inside).user.length = 32) := HU
      generalize signedL (onionL ps secret x draw round chain inside).e.x (onionL ps secret x draw round chain inside).e.box round chain = SL at *
      generalize onionL ps secret x draw round chain inside = OL at *
      generalize timesP 37 secret = PB at *
      clear hct hOK HU
      have HZ := Lib.hid fun v => subC_size OL v HUS.out
      go_enter Tryz.func3, Tryz.ntmps3
      go_wp2_with (first
        | (go_at_call 9; refine (alive18_any _).mono ?_; rintro e w1 ⟨rfl, hb1⟩; have hkey1 := hk0.out.below hb1; have hbel1 := hb0.out.trans (hb1.mono hb0.out.size))
        | (refine wpList_load_row rfl 23 _ rfl w.heap.size rfl _ (keyA seed) (0, 0) _ hkey1 under_key rfl (by rw [keyA_size, HK.out]; exact info_key) ?_)
        | (go_at_call 10; refine (HRR.out _).mono ?_; rintro e w2 ⟨v2, u2, rfl, hok2, hb2⟩; rw [HD.out]; have hbel2 : Ext w w2 := hbel1.trans (hb2.mono hbel1.size)
           have HP := Lib.hid (show SeesP w2 u2 ps from sees_of_owns (hok2 hr).2)
           clear hok2)
        | (at_builtin; refine appB (W := w2) rfl _ _ rfl _ [] rfl (ownB_nil _ _) _ inside rfl (HV.out.below hbel2 (by decide)) (by simp only [List.length_nil]; omega) (Below.refl _ _) ?_; intro v3 w3 hown3 hg3 hb3
           have HO3 := Lib.hid (show SeesB w3 v3 inside from sees_of_owns (by simpa using hown3))
           clear hown3 hg3)
        | (go_at_call 11; refine (HA.out _ _ _ (HP.out.below hb3 (by decide)) HO3.out).mono ?_; rintro e w4 ⟨v4, rfl, hown4, hb4⟩
           obtain ⟨a4, c4, rfl, -, -⟩ := owns_form hown4
           have e4 : Ext w2 w4 := Ext.tr hb3 hb4)
        | (refine wpList_store_row rfl 36 (.tmp 21) _ rfl w4.heap.size (subC OL (.slice a4 OL.e.box.length c4)) _ _ rfl rfl (Blk.new w4 SubZ _) (subZ_size.trans (HZ.out _).symm) (by rw [HZ.out]; exact info_sub) (one_sub _ _ _ _) ?_; intro x5 hg5 hs5 hR5
           have e5 : Ext w2 x5 := ext_row (Ext.tr e4 (Ext.alloc _ _)) hg5 (Below.size e4)
           have hbel5 : Ext w x5 := Ext.tr hbel2 e5
           have HB5 := Lib.hid (show SeesB x5 (.slice a4 OL.e.box.length c4) OL.e.box from sees_of_owns (own_grown (owns_below hown4 (Ext.alloc _ _)) hg5 (RowT.blk (Blk.new _ _ _)) (by decide)))
           have HR5 := Lib.hid hR5
           clear hs5 hg5 hR5 hown4))
      generalize w4.heap.size = g at *
      have hst := stabExt x5
      have hk5 : HoldT (fun u => Ext x5 u) w x5.drew := HoldT.drew hst ⟨Ext.refl _, hbel5⟩
      try change Code.wp _ _ _ (Act.mk _ _) _
      refine wp_region_runR Ext 24 88 (HoldT (fun u => Ext x5 u) _) [[], [], [], [], [], [], [], [], [(1, 52), (2, 53), (3, 54), (4, 55), (5, 56), (6, 57), (7, 58)], [(0, 51), (8, 59)], [(9, 60)], [(10, 61)], [(11, 62)], [(11, 62)], [(11, 62)], [(12, 63), (13, 64), (14, 65), (11, 62)], [(15, 66), (11, 62)], [(11, 62)], [(11, 62)], [(11, 62)], [(17, 68), (18, 69), (19, 70), (11, 62)], [(20, 71), (11, 62)], [(16, 67), (21, 72), (11, 62)], [(11, 62), (22, 73)]] [(0, 51), (1, 52), (2, 53), (3, 54), (4, 55), (5, 56), (6, 57), (7, 58), (8, 59), (9, 60), (10, 61), (11, 62), (12, 63), (13, 64), (14, 65), (15, 66), (16, 67), (17, 68), (18, 69), (19, 70), (20, 71), (21, 72), (22, 73), (23, 74)] (by kernel_rfl) (by kernel_rfl) (by first | rfl | simp) (hk5) ?_
      simp only [List.take_succ_cons, List.take_zero, List.drop_succ_cons, List.drop_zero]
      refine sp_op (Ph.eq _) (fun u hu => by
        refine spArg_nil ?_
        go_wp2_with ((refine wpList_load_rowG rfl 36 _ rfl (g) rfl _ _ (0, 0) _ (HR5.out.below hu.has) Tryz.underlying36 rfl (by rw [HZ.out]; exact info_sub) ?_))
        exact ⟨rfl, hu, Ext.refl _, slot_eq rfl⟩) ?_
      refine sp_op (Ph.eq _) (fun u hu => by
        refine spArg_nil ?_
        go_wp2_with (fail)
        exact ⟨rfl, hu, Ext.refl _, slot_eq rfl⟩) ?_
      refine sp_op (Ph.eq _) (fun u hu => by
        refine spArg_nil ?_
        go_wp2_with (fail)
        exact ⟨rfl, hu, Ext.refl _, slot_eq rfl⟩) ?_
      refine sp_op (Ph.eq _) (fun u hu => by
        refine spArg_nil ?_
        go_wp2_with (fail)
        exact ⟨rfl, hu, Ext.refl _, slot_eq rfl⟩) ?_
      refine sp_op (Ph.eq _) (fun u hu => by
        refine spArg_nil ?_
        go_wp2_with (fail)
        exact ⟨rfl, hu, Ext.refl _, slot_eq rfl⟩) ?_
      refine sp_op (Ph.eq _) (fun u hu => by
        refine spArg_nil ?_
        go_wp2_with (fail)
        exact ⟨rfl, hu, Ext.refl _, slot_eq rfl⟩) ?_
      refine sp_op (Ph.eq _) (fun u hu => by
        refine spArg_nil ?_
        go_wp2_with (fail)
        exact ⟨rfl, hu, Ext.refl _, slot_eq rfl⟩) ?_
      refine sp_op (Ph.eq _) (fun u hu => by
        refine spArg_nil ?_
        go_wp2_with (fail)
        exact ⟨rfl, hu, Ext.refl _, slot_eq rfl⟩) ?_
      refine sp_op (Ph.map (fun v => .agg (subC OL v)) (Ph.ownB w.heap.size OL.e.box)) (fun u hu => by
        refine spArg_eq 6 rfl rfl ?_
        refine spArg_eq 5 rfl rfl ?_
        refine spArg_eq 4 rfl rfl ?_
        refine spArg_eq 3 rfl rfl ?_
        refine spArg_eq 2 rfl rfl ?_
        refine spArg_eq 1 rfl rfl ?_
        refine spArg_eq 0 rfl rfl ?_
        refine spArg_nil ?_
        simp only [Act.put, List.setIfInBounds_toArray, List.set_cons_succ, List.set_cons_zero]
        go_wp2_with ((go_at_call 13; refine (HB.out _ _ _ (HP.out.below (Ext.tr e5 hu.has) (by decide)) (HV.out.below hu.up (by decide))).mono ?_; rintro r_ x_ ⟨v_, rfl, how_, hb_⟩))
        exact ⟨rfl, HoldT.step hst hu hb_, hb_, slot_of rfl ⟨v_, rfl, owns_mono how_ hu.up.size⟩⟩) ?_
      refine sp_op (Ph.eq _) (fun u hu => by
        refine spArg_eq 8 rfl rfl ?_
        refine spArg_in (φ := Ph.map (fun v => .agg (subC OL v)) (Ph.ownB w.heap.size OL.e.box)) 0 rfl rfl ?_; intro v8 h8
        obtain ⟨v8', rfl, h8'⟩ := h8
        refine spArg_nil ?_
        simp only [Act.put, List.setIfInBounds_toArray, List.set_cons_succ, List.set_cons_zero]
        go_wp2_with ((go_at_call 12; refine (SameSub_any OL _ _ _ HUS.out (HB5.out.below hu.has (by decide)) (sees_of_owns h8')).mono ?_; rintro e_ x_ ⟨rfl, hb_⟩))
        exact ⟨rfl, HoldT.step hst hu hb_, hb_, slot_eq rfl⟩) ?_
      refine sp_op (Ph.eq _) (fun u hu => by
        refine spArg_eq 0 rfl rfl ?_
        refine spArg_nil ?_
        simp only [Act.put, List.setIfInBounds_toArray, List.set_cons_succ, List.set_cons_zero]
        go_wp2_with (fail)
        exact ⟨rfl, hu, Ext.refl _, slot_eq rfl⟩) ?_
      refine sp_op (Ph.eq _) (fun u hu => by
        refine spArg_eq 0 rfl rfl ?_
        refine spArg_nil ?_
        simp only [Act.put, List.setIfInBounds_toArray, List.set_cons_succ, List.set_cons_zero]
        go_wp2_with (fail)
        exact ⟨rfl, hu, Ext.refl _, slot_eq rfl⟩) ?_
      refine sp_op (Ph.eq _) (fun u hu => by
        refine spArg_eq 0 rfl rfl ?_
        refine spArg_nil ?_
        simp only [Act.put, List.setIfInBounds_toArray, List.set_cons_succ, List.set_cons_zero]
        go_wp2_with ((refine wpList_load_rowG rfl 36 _ rfl (g) rfl _ _ (0, 0) _ (HR5.out.below hu.has) Tryz.underlying36 rfl (by rw [HZ.out]; exact info_sub) ?_))
        exact ⟨rfl, hu, Ext.refl _, slot_eq rfl⟩) ?_
      refine sp_op (Ph.eq _) (fun u hu => by
        refine spArg_eq 1 rfl rfl ?_
        refine spArg_nil ?_
        simp only [Act.put, List.setIfInBounds_toArray, List.set_cons_succ, List.set_cons_zero]
        go_wp2_with (fail)
        exact ⟨rfl, hu, Ext.refl _, slot_eq rfl⟩) ?_
      refine sp_op (Ph.eq _) (fun u hu => by
        refine spArg_eq 2 rfl rfl ?_
        refine spArg_nil ?_
        simp only [Act.put, List.setIfInBounds_toArray, List.set_cons_succ, List.set_cons_zero]
        go_wp2_with (fail)
        exact ⟨rfl, hu, Ext.refl _, slot_eq rfl⟩) ?_
      refine sp_op (Ph.seesB SL) (fun u hu => by
        refine spArg_eq 2 rfl rfl ?_
        refine spArg_eq 1 rfl rfl ?_
        refine spArg_eq 0 rfl rfl ?_
        refine spArg_eq 3 rfl rfl ?_
        refine spArg_nil ?_
        simp only [Act.put, List.setIfInBounds_toArray, List.set_cons_succ, List.set_cons_zero]
        go_wp2_with ((go_at_call 14; refine (HS1.out _ _ (HB5.out.below hu.has (by decide))).mono ?_; rintro r_ x_ ⟨v_, rfl, hs_, hb_⟩))
        exact ⟨rfl, HoldT.step hst hu hb_, hb_, slot_of rfl hs_⟩) ?_
      refine sp_op (Ph.eq _) (fun u hu => by
        refine spArg_in (φ := Ph.seesB SL) 0 rfl rfl ?_; intro v15 h15
        obtain ⟨a15, c15, rfl, -, -⟩ := sees_form h15
        have k15 := conv_str _ _ _ h15
        refine spArg_eq 4 rfl rfl ?_
        refine spArg_nil ?_
        simp only [Act.put, List.setIfInBounds_toArray, List.set_cons_succ, List.set_cons_zero]
        go_wp2_with (fail)
        exact ⟨rfl, hu, Ext.refl _, slot_eq rfl⟩) ?_
      refine sp_op (Ph.eq _) (fun u hu => by
        refine spArg_eq 5 rfl rfl ?_
        refine spArg_nil ?_
        simp only [Act.put, List.setIfInBounds_toArray, List.set_cons_succ, List.set_cons_zero]
        go_wp2_with ((refine wpList_load_rowG rfl 36 _ rfl (g) rfl _ _ (0, 0) _ (HR5.out.below hu.has) Tryz.underlying36 rfl (by rw [HZ.out]; exact info_sub) ?_))
        exact ⟨rfl, hu, Ext.refl _, slot_eq rfl⟩) ?_
      refine sp_op (Ph.eq _) (fun u hu => by
        refine spArg_eq 6 rfl rfl ?_
        refine spArg_nil ?_
        simp only [Act.put, List.setIfInBounds_toArray, List.set_cons_succ, List.set_cons_zero]
        go_wp2_with (fail)
        exact ⟨rfl, hu, Ext.refl _, slot_eq rfl⟩) ?_
      refine sp_op (Ph.eq _) (fun u hu => by
        refine spArg_eq 7 rfl rfl ?_
        refine spArg_nil ?_
        simp only [Act.put, List.setIfInBounds_toArray, List.set_cons_succ, List.set_cons_zero]
        go_wp2_with (fail)
        exact ⟨rfl, hu, Ext.refl _, slot_eq rfl⟩) ?_
      refine sp_op (Ph.seesB SL) (fun u hu => by
        refine spArg_eq 2 rfl rfl ?_
        refine spArg_eq 1 rfl rfl ?_
        refine spArg_eq 0 rfl rfl ?_
        refine spArg_eq 8 rfl rfl ?_
        refine spArg_nil ?_
        simp only [Act.put, List.setIfInBounds_toArray, List.set_cons_succ, List.set_cons_zero]
        go_wp2_with ((go_at_call 15; refine (HS2.out _ _ (HB5.out.below hu.has (by decide))).mono ?_; rintro r_ x_ ⟨v_, rfl, hs_, hb_⟩))
        exact ⟨rfl, HoldT.step hst hu hb_, hb_, slot_of rfl hs_⟩) ?_
      refine sp_op (Ph.eq _) (fun u hu => by
        refine spArg_in (φ := Ph.seesB SL) 0 rfl rfl ?_; intro v20 h20
        obtain ⟨a20, c20, rfl, -, -⟩ := sees_form h20
        have k20 := conv_str _ _ _ h20
        refine spArg_eq 9 rfl rfl ?_
        refine spArg_nil ?_
        simp only [Act.put, List.setIfInBounds_toArray, List.set_cons_succ, List.set_cons_zero]
        go_wp2_with (fail)
        exact ⟨rfl, hu, Ext.refl _, slot_eq rfl⟩) ?_
      refine sp_op (Ph.eq _) (fun u hu => by
        refine spArg_eq 5 rfl rfl ?_
        refine spArg_eq 0 rfl rfl ?_
        refine spArg_eq 10 rfl rfl ?_
        refine spArg_nil ?_
        simp only [Act.put, List.setIfInBounds_toArray, List.set_cons_succ, List.set_cons_zero]
        go_wp2_with (fail)
        exact ⟨rfl, hu, Ext.refl _, slot_eq rfl⟩) ?_
      refine sp_op (Ph.eq _) (fun u hu => by
        refine spArg_eq 11 rfl rfl ?_
        refine spArg_eq 0 rfl rfl ?_
        refine spArg_nil ?_
        simp only [Act.put, List.setIfInBounds_toArray, List.set_cons_succ, List.set_cons_zero]
        go_wp2_with (fail)
        exact ⟨rfl, hu, Ext.refl _, slot_eq rfl⟩) ?_
      refine sp_end ?_
      intro u hu
      refine spArg_eq 23 rfl rfl ?_
      refine spArg_eq 22 rfl rfl ?_
      refine spArg_eq 21 rfl rfl ?_
      refine spArg_eq 20 rfl rfl ?_
      refine spArg_eq 19 rfl rfl ?_
      refine spArg_eq 18 rfl rfl ?_
      refine spArg_eq 17 rfl rfl ?_
      refine spArg_eq 16 rfl rfl ?_
      refine spArg_in (φ := Ph.map (fun v => .agg (subC OL v)) (Ph.ownB w.heap.size OL.e.box)) 15 rfl rfl ?_; intro v8 h8
      obtain ⟨v8', rfl, h8'⟩ := h8
      refine spArg_eq 14 rfl rfl ?_
      refine spArg_eq 13 rfl rfl ?_
      refine spArg_eq 12 rfl rfl ?_
      refine spArg_eq 11 rfl rfl ?_
      refine spArg_eq 10 rfl rfl ?_
      refine spArg_eq 9 rfl rfl ?_
      refine spArg_in (φ := Ph.seesB SL) 8 rfl rfl ?_; intro v15 h15
      obtain ⟨a15, c15, rfl, -, -⟩ := sees_form h15
      have k15 := conv_str _ _ _ h15
      refine spArg_eq 7 rfl rfl ?_
      refine spArg_eq 6 rfl rfl ?_
      refine spArg_eq 5 rfl rfl ?_
      refine spArg_eq 4 rfl rfl ?_
      refine spArg_in (φ := Ph.seesB SL) 3 rfl rfl ?_; intro v20 h20
      obtain ⟨a20, c20, rfl, -, -⟩ := sees_form h20
      have k20 := conv_str _ _ _ h20
      refine spArg_eq 2 rfl rfl ?_
      refine spArg_eq 1 rfl rfl ?_
      refine spArg_eq 0 rfl rfl ?_
      refine spArg_nil ?_
      simp only [Act.put, List.setIfInBounds_toArray, List.set_cons_succ, List.set_cons_zero]
      clear k15 k20
      go_wp2_with fail
      have hk8 : HoldT (fun u => Ext x5 u) w u.drew := HoldT.drew hst hu
      try change Code.wp _ _ _ (Act.mk _ _) _
      refine wp_region_runR Ext 14 88 (HoldT (fun u => Ext x5 u) _) [[], [], [(1, 76)], [], [], [], [(5, 80)], [], [(7, 82)], [(6, 81), (8, 83)], [(0, 75), (2, 77), (3, 78), (4, 79), (9, 84)], [(10, 85)], [(11, 86)], [(12, 87)]] [(0, 75), (1, 76), (2, 77), (3, 78), (4, 79), (5, 80), (6, 81), (7, 82), (8, 83), (9, 84), (10, 85), (11, 86), (12, 87), (13, 16)] (by kernel_rfl) (by kernel_rfl) (by first | rfl | simp) (hk8) ?_
      simp only [List.take_succ_cons, List.take_zero, List.drop_succ_cons, List.drop_zero]
      refine sp_op (Ph.eq _) (fun u hu => by
        refine spArg_nil ?_
        go_wp2_with ((refine wpList_load_rowG rfl 36 _ rfl (g) rfl _ _ (0, 0) _ (HR5.out.below hu.has) Tryz.underlying36 rfl (by rw [HZ.out]; exact info_sub) ?_))
        exact ⟨rfl, hu, Ext.refl _, slot_eq rfl⟩) ?_
      refine sp_op (Ph.eq _) (fun u hu => by
        refine spArg_nil ?_
        go_wp2_with (fail)
        exact ⟨rfl, hu, Ext.refl _, slot_eq rfl⟩) ?_
      refine sp_op (Ph.eq _) (fun u hu => by
        refine spArg_eq 0 rfl rfl ?_
        refine spArg_nil ?_
        simp only [Act.put, List.setIfInBounds_toArray, List.set_cons_succ, List.set_cons_zero]
        go_wp2_with ((go_at_call 18; refine (HBS.out _).mono ?_; rintro e_ x_ ⟨rfl, rfl⟩))
        exact ⟨rfl, hu, Ext.refl _, slot_eq rfl⟩) ?_
      refine sp_op (Ph.eq _) (fun u hu => by
        refine spArg_nil ?_
        go_wp2_with (fail)
        exact ⟨rfl, hu, Ext.refl _, slot_eq rfl⟩) ?_
      refine sp_op (Ph.eq _) (fun u hu => by
        refine spArg_nil ?_
        go_wp2_with (fail)
        exact ⟨rfl, hu, Ext.refl _, slot_eq rfl⟩) ?_
      refine sp_op (Ph.eq _) (fun u hu => by
        refine spArg_nil ?_
        go_wp2_with (fail)
        exact ⟨rfl, hu, Ext.refl _, slot_eq rfl⟩) ?_
      refine sp_op (Ph.eq _) (fun u hu => by
        refine spArg_eq 0 rfl rfl ?_
        refine spArg_nil ?_
        simp only [Act.put, List.setIfInBounds_toArray, List.set_cons_succ, List.set_cons_zero]
        go_wp2_with (fail)
        exact ⟨rfl, hu, Ext.refl _, slot_eq rfl⟩) ?_
      refine sp_op (Ph.eq _) (fun u hu => by
        refine spArg_nil ?_
        go_wp2_with (fail)
        exact ⟨rfl, hu, Ext.refl _, slot_eq rfl⟩) ?_
      refine sp_op (Ph.eq _) (fun u hu => by
        refine spArg_eq 0 rfl rfl ?_
        refine spArg_nil ?_
        simp only [Act.put, List.setIfInBounds_toArray, List.set_cons_succ, List.set_cons_zero]
        go_wp2_with (fail)
        exact ⟨rfl, hu, Ext.refl _, slot_eq rfl⟩) ?_
      refine sp_op (Ph.eq _) (fun u hu => by
        refine spArg_eq 2 rfl rfl ?_
        refine spArg_eq 0 rfl rfl ?_
        refine spArg_nil ?_
        simp only [Act.put, List.setIfInBounds_toArray, List.set_cons_succ, List.set_cons_zero]
        go_wp2_with (fail)
        exact ⟨rfl, hu, Ext.refl _, slot_eq rfl⟩) ?_
      refine sp_op (Ph.eq _) (fun u hu => by
        refine spArg_eq 9 rfl rfl ?_
        refine spArg_eq 7 rfl rfl ?_
        refine spArg_eq 6 rfl rfl ?_
        refine spArg_eq 5 rfl rfl ?_
        refine spArg_eq 0 rfl rfl ?_
        refine spArg_nil ?_
        simp only [Act.put, List.setIfInBounds_toArray, List.set_cons_succ, List.set_cons_zero]
        go_wp2_with ((go_at_call 17; refine (HCK.out _ _ (HB5.out.below hu.has (by decide))).mono ?_; rintro e_ x_ ⟨rfl, hb_⟩))
        exact ⟨rfl, HoldT.step hst hu hb_, hb_, slot_eq rfl⟩) ?_
      refine sp_op (Ph.eq _) (fun u hu => by
        refine spArg_eq 0 rfl rfl ?_
        refine spArg_nil ?_
        simp only [Act.put, List.setIfInBounds_toArray, List.set_cons_succ, List.set_cons_zero]
        go_wp2_with ((go_at_call 16; refine (num18b_any _ _).mono ?_; rintro e_ x_ ⟨rfl, rfl⟩))
        exact ⟨rfl, hu, Ext.refl _, slot_eq rfl⟩) ?_
      refine sp_op (Ph.eq _) (fun u hu => by
        refine spArg_eq 0 rfl rfl ?_
        refine spArg_nil ?_
        simp only [Act.put, List.setIfInBounds_toArray, List.set_cons_succ, List.set_cons_zero]
        go_wp2_with (fail)
        exact ⟨rfl, hu, Ext.refl _, slot_eq rfl⟩) ?_
      refine sp_op (Ph.eq _) (fun u hu => by
        refine spArg_eq 0 rfl rfl ?_
        refine spArg_nil ?_
        simp only [Act.put, List.setIfInBounds_toArray, List.set_cons_succ, List.set_cons_zero]
        go_wp2_with (fail)
        exact ⟨rfl, hu, Ext.refl _, slot_eq rfl⟩) ?_
      refine sp_end ?_
      intro u hu
      refine spArg_eq 13 rfl rfl ?_
      refine spArg_eq 12 rfl rfl ?_
      refine spArg_eq 11 rfl rfl ?_
      refine spArg_eq 10 rfl rfl ?_
      refine spArg_eq 9 rfl rfl ?_
      refine spArg_eq 8 rfl rfl ?_
      refine spArg_eq 7 rfl rfl ?_
      refine spArg_eq 6 rfl rfl ?_
      refine spArg_eq 5 rfl rfl ?_
      refine spArg_eq 4 rfl rfl ?_
      refine spArg_eq 3 rfl rfl ?_
      refine spArg_eq 2 rfl rfl ?_
      refine spArg_eq 1 rfl rfl ?_
      refine spArg_eq 0 rfl rfl ?_
      refine spArg_nil ?_
      simp only [Act.put, List.setIfInBounds_toArray, List.set_cons_succ, List.set_cons_zero]
      go_wp2_with fail
      go_ret
      exact ⟨rfl, hu.up⟩
    · have hdl : (200 : Int) < (inside.length : Int) := by omega
      go_enter Tryz.func3, Tryz.ntmps3
      go_wp2_with
      (first
        | (go_at_call 9; refine (alive18_any _).mono ?_; rintro e w1 ⟨rfl, hb1⟩; have hkey1 := hk0.out.below hb1; have hbel1 := hb0.out.trans (hb1.mono hb0.out.size))
        | (refine wpList_load_row rfl 23 _ rfl w.heap.size rfl _ (keyA seed) (0, 0) _ hkey1 under_key rfl (by rw [keyA_size, HK.out]; exact info_key) ?_)
        | (go_at_call 10; refine (LChain_any seed k _ HK.out HKI.out).mono ?_; rintro e w2 ⟨v2, u2, rfl, hok2, hb2⟩; rw [HD.out]; have hbel2 : Ext w w2 := hbel1.trans (hb2.mono hbel1.size)))
      go_ret
      exact ⟨rfl, hbel2⟩
  · have HD := Lib.hid (decide_eq_false hr)
    go_enter Tryz.func3, Tryz.ntmps3
    go_wp2_with
    (first
      | (go_at_call 9; refine (alive18_any _).mono ?_; rintro e w1 ⟨rfl, hb1⟩; have hkey1 := hk0.out.below hb1; have hbel1 := hb0.out.trans (hb1.mono hb0.out.size))
      | (refine wpList_load_row rfl 23 _ rfl w.heap.size rfl _ (keyA seed) (0, 0) _ hkey1 under_key rfl (by rw [keyA_size, HK.out]; exact info_key) ?_)
      | (go_at_call 10; refine (LChain_any seed k _ HK.out HKI.out).mono ?_; rintro e w2 ⟨v2, u2, rfl, hok2, hb2⟩; rw [HD.out]; have hbel2 : Ext w w2 := hbel1.trans (hb2.mono hbel1.size)))
    go_ret
    exact ⟨rfl, hbel2⟩
end Go.Proofs.YtnmniblaefjekaaGreat
