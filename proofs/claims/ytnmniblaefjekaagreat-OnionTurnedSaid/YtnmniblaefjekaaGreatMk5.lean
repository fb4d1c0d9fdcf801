/-
  OnionTurned: walked.
-/
import Derived.Test.YtnmniblaefjekaaGreatMk4
namespace Go.Proofs.YtnmniblaefjekaaGreat
set_option linter.unusedVariables false
set_option linter.unusedSimpArgs false
open Go Go.RowKit

theorem subC_setU (s : Sub) (v : Value) (i : Nat) (b : UInt8) (h : s.user.length = 32) (hi : i < 32) : (subC s v).setIfInBounds i (BV b) = subC ⟨s.user.set i b, s.e, s.p, s.g⟩ v := by
  rw [subC, subC, List.setIfInBounds_toArray, Sub.cells, List.set_append_left _ _ (by rw [List.length_map, h]; exact hi), ← List.map_set]; rfl
theorem subC_setR (s : Sub) (v : Value) (j : Nat) (y : Value) (h : s.user.length = 32) : (subC s v).setIfInBounds (32 + j) y = (s.user.map BV ++ [.int .u64 s.e.x, v, .int .u64 s.p.c, .int .u64 s.p.s, .int .u64 s.g.c, .int .u64 s.g.s].set j y).toArray := by
  rw [subC, List.setIfInBounds_toArray, Sub.cells, List.set_append_right _ _ (by rw [List.length_map, h]; omega), List.length_map, h, Nat.add_sub_cancel_left]
theorem subC_getU (s : Sub) (v : Value) (i : Nat) (h : s.user.length = 32) (hi : i < 32) : (subC s v)[i]? = some (BV (s.user[i]'(by omega))) := by
  rw [subC, List.getElem?_toArray, Sub.cells, List.getElem?_append_left (by rw [List.length_map, h]; exact hi), List.getElem?_map, List.getElem?_eq_getElem (by omega)]; rfl
theorem subC_getU' (s : Sub) (v : Value) (i : Nat) (y : UInt8) (h : s.user.length = 32) (hy : s.user[i]? = some y) : (subC s v)[i]? = some (.int .u8 (y.toNat : Int)) := by
  obtain ⟨hi, rfl⟩ := List.getElem?_eq_some_iff.1 hy
  exact subC_getU s v i h (by omega)
theorem in64_wrap (z : Int) : in64 (IntKind.u64.wrap z) := by rw [IntKind.wrap_u64]; exact ⟨Int.emod_nonneg _ (by decide), Int.emod_lt_of_pos _ (by decide)⟩
theorem by_u8 (b : Int) (h0 : 0 ≤ b) : b % 256 = ((UInt8.ofNat b.toNat).toNat : Int) := by simp; omega
theorem own_setB {w : World} {B g : Nat} {n c : Nat} {l : List UInt8} (h : OwnB w B (.slice (some ⟨g, 0, none⟩) n c) l) (i : Nat) (b : UInt8) (hi : i < l.length) : OwnB (w.setCell ⟨g, i, none⟩ (BV b)) B (.slice (some ⟨g, 0, none⟩) n c) (l.set i b) := by
  obtain ⟨hl, h⟩ := h
  rcases h with ⟨h, _⟩ | ⟨g', cap, cur, he, hg, hh, hn, hm, hs, hx⟩
  · cases h
  · cases he
    refine ⟨by simp, .inr ⟨g, c, cur.setIfInBounds i (BV b), by rw [List.length_set], hg, heap_setCell_same w g i cur _ _ hh, by rw [List.length_set]; exact hn, hm, by simp [hs], ?_⟩⟩
    rw [List.length_set, Nat.mul_one] at *
    rw [Array.toList_setIfInBounds, List.take_set, hx, List.map_set]
theorem conv6 (a b c d e f : Int) (W : World) : (convert 25 25 (.slice (some ⟨W.heap.size, 0, none⟩) 6 6)).run Tryz.prog (W.alloc (.cells #[.int .u8 a, .int .u8 b, .int .u8 c, .int .u8 d, .int .u8 e, .int .u8 f] 5)) = .ok (.slice (some ⟨W.heap.size, 0, none⟩) 6 6) (W.alloc (.cells #[.int .u8 a, .int .u8 b, .int .u8 c, .int .u8 d, .int .u8 e, .int .u8 f] 5 (6, 7))) :=
  Lib.run_convert_bytes_const W 25 5 #[.int .u8 a, .int .u8 b, .int .u8 c, .int .u8 d, .int .u8 e, .int .u8 f] 6 6 u_bytes u_byte
set_option maxRecDepth 100000 in
set_option maxHeartbeats 4000000 in
theorem OnionTurned_any (seed : List UInt8) (k secret x which at_ by_ : Int) (w : World) (h32 : seed.length = 32) (hk : inI k) (hs : in64 secret) (hx : in64 x) (hwh : inI which) (hat : inI at_) (hby : in64 by_) :
    Calls Tryz.prog 4 #[.agg (keyA seed), .int .i64 k, .int .u64 secret, .int .u64 x, .int .i64 which, .int .i64 at_, .int .u64 by_] w fun e w' => e = .returned (.bool true) ∧ Below w.heap.size w w' := by
  have HK := Lib.hid h32; clear h32
  have HKI := Lib.hid hk
  obtain ⟨k0, k1⟩ := hk
  obtain ⟨at0, at1⟩ := hat
  obtain ⟨by0, by1⟩ := hby
  have hk0 := Lib.hid (Blk.new w (keyA seed) 23)
  have hb0 := Lib.hid (show Below w.heap.size w (w.alloc (.cells (keyA seed) 23)) by go_grown)
  by_cases hr : 1 ≤ k ∧ k ≤ 6
  · have HD := Lib.hid (decide_eq_true hr)
    by_cases hat2 : 0 ≤ at_
    · obtain ⟨N, rfl⟩ : ∃ N : Nat, k = N := ⟨k.toNat, by omega⟩
      obtain ⟨A, rfl⟩ : ∃ A : Nat, at_ = A := ⟨at_.toNat, by omega⟩
      have hN : N ≤ 6 := by omega
      have hd0 : decide ((A : Int) < 0) = false := decide_eq_false (by omega)
      have hL := length_keysP seed 3 4 (N : Int).toNat
      have hO : ∀ p ∈ keysP seed 3 4 (N : Int).toNat, p.ok := chainN_ok _ _ _
      have HRR := Lib.hid fun (u : World) => LChain_any seed N u HK.out HKI.out
      unfold RetC at HRR
      generalize keysP seed 3 4 (N : Int).toNat = ps at *
      rw [Int.toNat_natCast] at hL
      have HL := Lib.hid hL; clear hL
      have HA := Lib.hid fun (w' : World) (v1 v2 : Value) (h1 : SeesP w' v1 ps) (h2 : SeesB w' v2 [105, 110, 115, 105, 100, 101]) => OMake_any ps secret x 9 7 8 [105, 110, 115, 105, 100, 101] v1 v2 w' h1 hO hs hx ⟨by decide, by decide⟩ h2 (by decide) (by rw [HL.out]; omega)
      have HLB := Lib.hid (show (onionL ps secret x 9 7 8 [105, 110, 115, 105, 100, 101]).e.box.length = 6 + 16 * N by rw [show (onionL ps secret x 9 7 8 [105, 110, 115, 105, 100, 101]).e.box = boxL ps x [105, 110, 115, 105, 100, 101] (-1) from rfl, length_boxL, HL.out]; rfl)
      have HOK : Hid (onionL ps secret x 9 7 8 [105, 110, 115, 105, 100, 101]).ok := Lib.hid ⟨submitL_user _ _ _ _ _, (show in64 (timesP 37 x) from in64_P (timesP_pos _ _)), ⟨in64_N (knowC_pos _ _ _), in64_N (ansP_pos _ _ _)⟩, ⟨in64_N (sigC_pos _ _ _), in64_N (ansP_pos _ _ _)⟩⟩
      have HBS := Lib.hid fun (w' : World) => Baser_any secret w' hs.1 hs.2
      have HPB := Lib.hid (in64_P (timesP_pos 37 secret))
      generalize onionL ps secret x 9 7 8 [105, 110, 115, 105, 100, 101] = OL at *
      generalize timesP 37 secret = PB at *
      clear hs hx
      have HU : Hid (OL.user.length = 32) := Lib.hid HOK.out.1
      have HZ := Lib.hid fun v => subC_size OL v HU.out
      have hcv := fun W : World => conv6 105 110 115 105 100 101 W
      have HLF0 : OL.e.box.length ≤ 10000 := by rw [HLB.out]; omega
      have HLO := Lib.hid HLF0; clear HLF0
      by_cases hw5 : which = 5
      · subst hw5
        have HPF := Lib.hid (in64_wrap (PB + by_))
        go_enter Tryz.func4, Tryz.ntmps4
        go_wp2_with (first
          | (go_at_call 9; refine (alive18_any _).mono ?_; rintro e w1 ⟨rfl, hb1⟩; have hkey1 := hk0.out.below hb1; have hbel1 := hb0.out.trans (hb1.mono hb0.out.size))
          | (refine wpList_load_row rfl 23 _ rfl w.heap.size rfl _ (keyA seed) (0, 0) _ hkey1 under_key rfl (by rw [keyA_size, HK.out]; exact info_key) ?_)
          | (go_at_call 10; refine (HRR.out _).mono ?_; rintro e w2 ⟨v2, u2, rfl, hok2, hb2⟩; rw [HD.out]; have hbel2 : Ext w w2 := hbel1.trans (hb2.mono hbel1.size)
             have HP := Lib.hid (show SeesP w2 u2 ps from sees_of_owns (hok2 hr).2)
             clear hok2)
          | (go_at_call 11; refine (HA.out _ _ _ (HP.out.below (Ext.alloc w2 _) (by decide)) (seesB_litF w2 [BV 105, BV 110, BV 115, BV 105, BV 100, BV 101] 5 (6, 7) [105, 110, 115, 105, 100, 101] 6 rfl rfl (by decide))).mono ?_; rintro e w4 ⟨v4, rfl, hown4, hb4⟩
             obtain ⟨a4, c4, rfl, -, -⟩ := owns_form hown4
             have hbel4 : Ext w w4 := Ext.tr hbel2 (Ext.tr (Ext.alloc _ _) hb4))
          | (refine wpList_store_row rfl 36 (.tmp 19) _ rfl w4.heap.size (subC OL (.slice a4 OL.e.box.length c4)) _ _ rfl rfl (Blk.new w4 SubZ _) (subZ_size.trans (HZ.out _).symm) (by rw [HZ.out]; exact info_sub) (one_sub _ _ _ _) ?_; intro x5 hg5 hs5 hR5
             have hbel5 : Ext w x5 := ext_row (Ext.tr hbel4 (Ext.alloc _ _)) hg5 (Below.size hbel4)
             have HB5 := Lib.hid (show OwnB x5 w.heap.size (.slice a4 OL.e.box.length c4) OL.e.box from owns_mono (own_grown (owns_below hown4 (Ext.alloc _ _)) hg5 (RowT.blk (Blk.new _ _ _)) (by decide)) (Nat.le_trans (Below.size hbel2) (Below.size (Ext.alloc w2 _))))
             have HR5 := Lib.hid hR5
             have q32 := sub_x hR5 HU.out; have q33 := sub_box hR5 HU.out
             have q35 : x5.cell? ⟨w4.heap.size, 35, none⟩ = some (.int .u64 OL.p.s) := by rw [hR5.cell]; exact subC_get OL _ HU.out 3
             have q36 : x5.cell? ⟨w4.heap.size, 36, none⟩ = some (.int .u64 OL.g.c) := by rw [hR5.cell]; exact subC_get OL _ HU.out 4
             have f32 := hR5.free 32; have f35 := hR5.free 35; have f36 := hR5.free 36
             skip
             clear hs5 hg5 hR5 hown4)
          | (go_at_call 18; refine (HBS.out _).mono ?_; rintro e_ x_ ⟨rfl, rfl⟩))
        have HG := Lib.hid (Below.size hbel4)
        clear q32 q33 q35 q36 f32 f35 f36
        generalize w4.heap.size = g at *
        have HRF := HR5; have HBF := Lib.hid (sees_of_owns HB5.out); have HOKF := HOK; have HLF := HLO; have hbelF := hbel5
        have hstF := stabExt x5
        have hkF : HoldT (fun u => Ext x5 u) w (x5).drew := HoldT.drew hstF ⟨Ext.refl _, hbelF⟩
        have HCA := Lib.hid fun (w' : World) (h : SeesB w' (.slice a4 OL.e.box.length c4) (OL).e.box) => CheckO_any OL (.slice a4 OL.e.box.length c4) (IntKind.u64.wrap (PB + by_)) 7 8 (6 + 16 * (N : Int)) w' HOKF.out HPF.out h (Nat.le_trans HLF.out (by decide))
        have HCB := Lib.hid fun (w' : World) (h : SeesB w' (.slice a4 OL.e.box.length c4) (OL).e.box) => CheckOr_any OL (.slice a4 OL.e.box.length c4) (IntKind.u64.wrap (PB + by_)) 7 8 (6 + 16 * (N : Int)) w' HOKF.out HPF.out h (Nat.le_trans HLF.out (by decide))
        have HZF := Lib.hid (subC_size OL (.slice a4 OL.e.box.length c4) HOKF.out.1)
        generalize checkO OL (IntKind.u64.wrap (PB + by_)) 7 8 (6 + 16 * (N : Int)) = CO at *
        have hst := hstF
        try change Code.wp _ _ _ (Act.mk _ _) _
        refine wp_region_runR Ext 17 144 (HoldT (fun u => Ext x5 u) _) [[], [], [], [], [(3, 131)], [(4, 132)], [(0, 128), (1, 129), (2, 130), (5, 133)], [(6, 134)], [], [], [], [], [(11, 139)], [(12, 140)], [(8, 136), (9, 137), (10, 138), (13, 141)], [(7, 135), (14, 142)], [(15, 143)]] [(0, 128), (1, 129), (2, 130), (3, 131), (4, 132), (5, 133), (6, 134), (7, 135), (8, 136), (9, 137), (10, 138), (11, 139), (12, 140), (13, 141), (14, 142), (15, 143), (16, 14)] (by kernel_rfl) (by kernel_rfl) (by first | rfl | simp) (hkF) ?_
        simp only [List.take_succ_cons, List.take_zero, List.drop_succ_cons, List.drop_zero]
        refine sp_op (Ph.eq _) (fun u hu => by
          refine spArg_nil ?_
          go_wp2_with ((refine wpList_load_rowG rfl 36 _ rfl (g) rfl _ _ (0, 0) _ (HRF.out.below hu.has) Tryz.underlying36 rfl (by rw [HZF.out]; exact info_sub) ?_))
          exact ⟨rfl, hu, Ext.refl _, slot_eq rfl⟩) ?_
        refine sp_op (Ph.eq _) (fun u hu => by
          refine spArg_nil ?_
          go_wp2_with (fail)
          exact ⟨rfl, hu, Ext.refl _, slot_eq rfl⟩) ?_
        refine sp_op (Ph.eq _) (fun u hu => by
          refine spArg_nil ?_
          go_wp2_with (fail)
          exact ⟨rfl, hu, Ext.refl _, slot_eq rfl⟩) ?_
        refine sp_op (Ph.eq _) (fun u hu => by
          refine spArg_nil ?_
          go_wp2_with (fail)
          exact ⟨rfl, hu, Ext.refl _, slot_eq rfl⟩) ?_
        refine sp_op (Ph.eq _) (fun u hu => by
          refine spArg_eq 0 rfl rfl ?_
          refine spArg_nil ?_
          simp only [Act.put, List.setIfInBounds_toArray, List.set_cons_succ, List.set_cons_zero]
          go_wp2_with (fail)
          exact ⟨rfl, hu, Ext.refl _, slot_eq rfl⟩) ?_
        refine sp_op (Ph.eq _) (fun u hu => by
          refine spArg_eq 0 rfl rfl ?_
          refine spArg_nil ?_
          simp only [Act.put, List.setIfInBounds_toArray, List.set_cons_succ, List.set_cons_zero]
          go_wp2_with (fail)
          exact ⟨rfl, hu, Ext.refl _, slot_eq rfl⟩) ?_
        refine sp_op (Ph.eq _) (fun u hu => by
          refine spArg_eq 5 rfl rfl ?_
          refine spArg_eq 4 rfl rfl ?_
          refine spArg_eq 3 rfl rfl ?_
          refine spArg_eq 0 rfl rfl ?_
          refine spArg_nil ?_
          simp only [Act.put, List.setIfInBounds_toArray, List.set_cons_succ, List.set_cons_zero]
          go_wp2_with ((go_at_call 17; refine (HCA.out _ (HBF.out.below hu.has (by decide))).mono ?_; rintro e_ x_ ⟨rfl, hb_⟩))
          exact ⟨rfl, HoldT.step hst hu hb_, hb_, slot_eq rfl⟩) ?_
        refine sp_op (Ph.eq _) (fun u hu => by
          refine spArg_eq 0 rfl rfl ?_
          refine spArg_nil ?_
          simp only [Act.put, List.setIfInBounds_toArray, List.set_cons_succ, List.set_cons_zero]
          go_wp2_with ((go_at_call 16; refine (num18b_any _ _).mono ?_; rintro e_ x_ ⟨rfl, rfl⟩))
          exact ⟨rfl, hu, Ext.refl _, slot_eq rfl⟩) ?_
        refine sp_op (Ph.eq _) (fun u hu => by
          refine spArg_nil ?_
          go_wp2_with ((refine wpList_load_rowG rfl 36 _ rfl (g) rfl _ _ (0, 0) _ (HRF.out.below hu.has) Tryz.underlying36 rfl (by rw [HZF.out]; exact info_sub) ?_))
          exact ⟨rfl, hu, Ext.refl _, slot_eq rfl⟩) ?_
        refine sp_op (Ph.eq _) (fun u hu => by
          refine spArg_nil ?_
          go_wp2_with (fail)
          exact ⟨rfl, hu, Ext.refl _, slot_eq rfl⟩) ?_
        refine sp_op (Ph.eq _) (fun u hu => by
          refine spArg_nil ?_
          go_wp2_with (fail)
          exact ⟨rfl, hu, Ext.refl _, slot_eq rfl⟩) ?_
        refine sp_op (Ph.eq _) (fun u hu => by
          refine spArg_nil ?_
          go_wp2_with (fail)
          exact ⟨rfl, hu, Ext.refl _, slot_eq rfl⟩) ?_
        refine sp_op (Ph.eq _) (fun u hu => by
          refine spArg_eq 0 rfl rfl ?_
          refine spArg_nil ?_
          simp only [Act.put, List.setIfInBounds_toArray, List.set_cons_succ, List.set_cons_zero]
          go_wp2_with (fail)
          exact ⟨rfl, hu, Ext.refl _, slot_eq rfl⟩) ?_
        refine sp_op (Ph.eq _) (fun u hu => by
          refine spArg_eq 0 rfl rfl ?_
          refine spArg_nil ?_
          simp only [Act.put, List.setIfInBounds_toArray, List.set_cons_succ, List.set_cons_zero]
          go_wp2_with (fail)
          exact ⟨rfl, hu, Ext.refl _, slot_eq rfl⟩) ?_
        refine sp_op (Ph.eq _) (fun u hu => by
          refine spArg_eq 5 rfl rfl ?_
          refine spArg_eq 4 rfl rfl ?_
          refine spArg_eq 3 rfl rfl ?_
          refine spArg_eq 0 rfl rfl ?_
          refine spArg_nil ?_
          simp only [Act.put, List.setIfInBounds_toArray, List.set_cons_succ, List.set_cons_zero]
          go_wp2_with ((go_at_call 19; refine (HCB.out _ (HBF.out.below hu.has (by decide))).mono ?_; rintro e_ x_ ⟨rfl, hb_⟩))
          exact ⟨rfl, HoldT.step hst hu hb_, hb_, slot_eq rfl⟩) ?_
        refine sp_op (Ph.eq _) (fun u hu => by
          refine spArg_eq 7 rfl rfl ?_
          refine spArg_eq 0 rfl rfl ?_
          refine spArg_nil ?_
          simp only [Act.put, List.setIfInBounds_toArray, List.set_cons_succ, List.set_cons_zero]
          go_wp2_with (fail)
          exact ⟨rfl, hu, Ext.refl _, slot_eq rfl⟩) ?_
        refine sp_op (Ph.eq _) (fun u hu => by
          refine spArg_eq 0 rfl rfl ?_
          refine spArg_nil ?_
          simp only [Act.put, List.setIfInBounds_toArray, List.set_cons_succ, List.set_cons_zero]
          go_wp2_with (fail)
          exact ⟨rfl, hu, Ext.refl _, slot_eq rfl⟩) ?_
        refine sp_end ?_
        intro u hu
        refine spArg_eq 16 rfl rfl ?_
        refine spArg_eq 15 rfl rfl ?_
        refine spArg_eq 14 rfl rfl ?_
        refine spArg_eq 13 rfl rfl ?_
        refine spArg_eq 12 rfl rfl ?_
        refine spArg_eq 11 rfl rfl ?_
        refine spArg_eq 10 rfl rfl ?_
        refine spArg_eq 9 rfl rfl ?_
        refine spArg_eq 8 rfl rfl ?_
        refine spArg_eq 7 rfl rfl ?_
        refine spArg_eq 6 rfl rfl ?_
        refine spArg_eq 5 rfl rfl ?_
        refine spArg_eq 4 rfl rfl ?_
        refine spArg_eq 3 rfl rfl ?_
        refine spArg_eq 2 rfl rfl ?_
        refine spArg_eq 1 rfl rfl ?_
        refine spArg_eq 0 rfl rfl ?_
        refine spArg_nil ?_
        simp only [Act.put, List.setIfInBounds_toArray, List.set_cons_succ, List.set_cons_zero]
        go_wp2_with fail
        go_ret
        exact ⟨by simp, hu.up⟩
      by_cases hw1 : which = 1
      · subst hw1
        go_enter Tryz.func4, Tryz.ntmps4
        go_wp2_with (first
          | (go_at_call 9; refine (alive18_any _).mono ?_; rintro e w1 ⟨rfl, hb1⟩; have hkey1 := hk0.out.below hb1; have hbel1 := hb0.out.trans (hb1.mono hb0.out.size))
          | (refine wpList_load_row rfl 23 _ rfl w.heap.size rfl _ (keyA seed) (0, 0) _ hkey1 under_key rfl (by rw [keyA_size, HK.out]; exact info_key) ?_)
          | (go_at_call 10; refine (HRR.out _).mono ?_; rintro e w2 ⟨v2, u2, rfl, hok2, hb2⟩; rw [HD.out]; have hbel2 : Ext w w2 := hbel1.trans (hb2.mono hbel1.size)
             have HP := Lib.hid (show SeesP w2 u2 ps from sees_of_owns (hok2 hr).2)
             clear hok2)
          | (go_at_call 11; refine (HA.out _ _ _ (HP.out.below (Ext.alloc w2 _) (by decide)) (seesB_litF w2 [BV 105, BV 110, BV 115, BV 105, BV 100, BV 101] 5 (6, 7) [105, 110, 115, 105, 100, 101] 6 rfl rfl (by decide))).mono ?_; rintro e w4 ⟨v4, rfl, hown4, hb4⟩
             obtain ⟨a4, c4, rfl, -, -⟩ := owns_form hown4
             have hbel4 : Ext w w4 := Ext.tr hbel2 (Ext.tr (Ext.alloc _ _) hb4))
          | (refine wpList_store_row rfl 36 (.tmp 19) _ rfl w4.heap.size (subC OL (.slice a4 OL.e.box.length c4)) _ _ rfl rfl (Blk.new w4 SubZ _) (subZ_size.trans (HZ.out _).symm) (by rw [HZ.out]; exact info_sub) (one_sub _ _ _ _) ?_; intro x5 hg5 hs5 hR5
             have hbel5 : Ext w x5 := ext_row (Ext.tr hbel4 (Ext.alloc _ _)) hg5 (Below.size hbel4)
             have HB5 := Lib.hid (show OwnB x5 w.heap.size (.slice a4 OL.e.box.length c4) OL.e.box from owns_mono (own_grown (owns_below hown4 (Ext.alloc _ _)) hg5 (RowT.blk (Blk.new _ _ _)) (by decide)) (Nat.le_trans (Below.size hbel2) (Below.size (Ext.alloc w2 _))))
             have HR5 := Lib.hid hR5
             have q32 := sub_x hR5 HU.out; have q33 := sub_box hR5 HU.out
             have q35 : x5.cell? ⟨w4.heap.size, 35, none⟩ = some (.int .u64 OL.p.s) := by rw [hR5.cell]; exact subC_get OL _ HU.out 3
             have q36 : x5.cell? ⟨w4.heap.size, 36, none⟩ = some (.int .u64 OL.g.c) := by rw [hR5.cell]; exact subC_get OL _ HU.out 4
             have f32 := hR5.free 32; have f35 := hR5.free 35; have f36 := hR5.free 36
             skip
             clear hs5 hg5 hR5 hown4)
          | (go_at_call 18; refine (HBS.out _).mono ?_; rintro e_ x_ ⟨rfl, rfl⟩))
        have HG := Lib.hid (Below.size hbel4)
        clear q32 q33 q35 q36 f32 f35 f36
        generalize w4.heap.size = g at *
        have HPF := HPB
        have hgS : x5.grownBy (x5.setCell ⟨g, 32, none⟩ (.int .u64 (IntKind.u64.wrap (OL.e.x + by_)))) (some g) := grownBy_set (grownBy_refl _ _) _ _
        have HRF : Hid (Blk (x5.setCell ⟨g, 32, none⟩ (.int .u64 (IntKind.u64.wrap (OL.e.x + by_)))) g (subC ⟨OL.user, ⟨IntKind.u64.wrap (OL.e.x + by_), OL.e.box⟩, OL.p, OL.g⟩ (.slice a4 OL.e.box.length c4)) 36) := Lib.hid (by
          have h := HR5.out.set 32 (.int .u64 (IntKind.u64.wrap (OL.e.x + by_)))
          rw [show (32 : Nat) = 32 + 0 from rfl, subC_setR OL _ 0 _ HU.out] at h
          exact h)
        have HBF := Lib.hid (sees_of_owns (own_grown HB5.out hgS (RowT.blk HR5.out) (by decide)))
        have hbelF : Ext w (x5.setCell ⟨g, 32, none⟩ (.int .u64 (IntKind.u64.wrap (OL.e.x + by_)))) := ext_row hbel5 hgS HG.out
        have HOKF : Hid (Sub.ok ⟨OL.user, ⟨IntKind.u64.wrap (OL.e.x + by_), OL.e.box⟩, OL.p, OL.g⟩) := Lib.hid ⟨HOK.out.1, in64_wrap _, HOK.out.2.2.1, HOK.out.2.2.2⟩
        have HLF := HLO
        clear hgS
        generalize x5.setCell ⟨g, 32, none⟩ (.int .u64 (IntKind.u64.wrap (OL.e.x + by_))) = xw at *
        have hstF := stabExt xw
        have hkF : HoldT (fun u => Ext xw u) w (xw).drew := HoldT.drew hstF ⟨Ext.refl _, hbelF⟩
        have HCA := Lib.hid fun (w' : World) (h : SeesB w' (.slice a4 OL.e.box.length c4) ((Sub.mk OL.user ⟨IntKind.u64.wrap (OL.e.x + by_), OL.e.box⟩ OL.p OL.g)).e.box) => CheckO_any (Sub.mk OL.user ⟨IntKind.u64.wrap (OL.e.x + by_), OL.e.box⟩ OL.p OL.g) (.slice a4 OL.e.box.length c4) PB 7 8 (6 + 16 * (N : Int)) w' HOKF.out HPF.out h (Nat.le_trans HLF.out (by decide))
        have HCB := Lib.hid fun (w' : World) (h : SeesB w' (.slice a4 OL.e.box.length c4) ((Sub.mk OL.user ⟨IntKind.u64.wrap (OL.e.x + by_), OL.e.box⟩ OL.p OL.g)).e.box) => CheckOr_any (Sub.mk OL.user ⟨IntKind.u64.wrap (OL.e.x + by_), OL.e.box⟩ OL.p OL.g) (.slice a4 OL.e.box.length c4) PB 7 8 (6 + 16 * (N : Int)) w' HOKF.out HPF.out h (Nat.le_trans HLF.out (by decide))
        have HZF := Lib.hid (subC_size (Sub.mk OL.user ⟨IntKind.u64.wrap (OL.e.x + by_), OL.e.box⟩ OL.p OL.g) (.slice a4 OL.e.box.length c4) HOKF.out.1)
        generalize checkO (Sub.mk OL.user ⟨IntKind.u64.wrap (OL.e.x + by_), OL.e.box⟩ OL.p OL.g) PB 7 8 (6 + 16 * (N : Int)) = CO at *
        have hst := hstF
        try change Code.wp _ _ _ (Act.mk _ _) _
        refine wp_region_runR Ext 17 144 (HoldT (fun u => Ext xw u) _) [[], [], [], [], [(3, 131)], [(4, 132)], [(0, 128), (1, 129), (2, 130), (5, 133)], [(6, 134)], [], [], [], [], [(11, 139)], [(12, 140)], [(8, 136), (9, 137), (10, 138), (13, 141)], [(7, 135), (14, 142)], [(15, 143)]] [(0, 128), (1, 129), (2, 130), (3, 131), (4, 132), (5, 133), (6, 134), (7, 135), (8, 136), (9, 137), (10, 138), (11, 139), (12, 140), (13, 141), (14, 142), (15, 143), (16, 14)] (by kernel_rfl) (by kernel_rfl) (by first | rfl | simp) (hkF) ?_
        simp only [List.take_succ_cons, List.take_zero, List.drop_succ_cons, List.drop_zero]
        refine sp_op (Ph.eq _) (fun u hu => by
          refine spArg_nil ?_
          go_wp2_with ((refine wpList_load_rowG rfl 36 _ rfl (g) rfl _ _ (0, 0) _ (HRF.out.below hu.has) Tryz.underlying36 rfl (by rw [HZF.out]; exact info_sub) ?_))
          exact ⟨rfl, hu, Ext.refl _, slot_eq rfl⟩) ?_
        refine sp_op (Ph.eq _) (fun u hu => by
          refine spArg_nil ?_
          go_wp2_with (fail)
          exact ⟨rfl, hu, Ext.refl _, slot_eq rfl⟩) ?_
        refine sp_op (Ph.eq _) (fun u hu => by
          refine spArg_nil ?_
          go_wp2_with (fail)
          exact ⟨rfl, hu, Ext.refl _, slot_eq rfl⟩) ?_
        refine sp_op (Ph.eq _) (fun u hu => by
          refine spArg_nil ?_
          go_wp2_with (fail)
          exact ⟨rfl, hu, Ext.refl _, slot_eq rfl⟩) ?_
        refine sp_op (Ph.eq _) (fun u hu => by
          refine spArg_eq 0 rfl rfl ?_
          refine spArg_nil ?_
          simp only [Act.put, List.setIfInBounds_toArray, List.set_cons_succ, List.set_cons_zero]
          go_wp2_with (fail)
          exact ⟨rfl, hu, Ext.refl _, slot_eq rfl⟩) ?_
        refine sp_op (Ph.eq _) (fun u hu => by
          refine spArg_eq 0 rfl rfl ?_
          refine spArg_nil ?_
          simp only [Act.put, List.setIfInBounds_toArray, List.set_cons_succ, List.set_cons_zero]
          go_wp2_with (fail)
          exact ⟨rfl, hu, Ext.refl _, slot_eq rfl⟩) ?_
        refine sp_op (Ph.eq _) (fun u hu => by
          refine spArg_eq 5 rfl rfl ?_
          refine spArg_eq 4 rfl rfl ?_
          refine spArg_eq 3 rfl rfl ?_
          refine spArg_eq 0 rfl rfl ?_
          refine spArg_nil ?_
          simp only [Act.put, List.setIfInBounds_toArray, List.set_cons_succ, List.set_cons_zero]
          go_wp2_with ((go_at_call 17; refine (HCA.out _ (HBF.out.below hu.has (by decide))).mono ?_; rintro e_ x_ ⟨rfl, hb_⟩))
          exact ⟨rfl, HoldT.step hst hu hb_, hb_, slot_eq rfl⟩) ?_
        refine sp_op (Ph.eq _) (fun u hu => by
          refine spArg_eq 0 rfl rfl ?_
          refine spArg_nil ?_
          simp only [Act.put, List.setIfInBounds_toArray, List.set_cons_succ, List.set_cons_zero]
          go_wp2_with ((go_at_call 16; refine (num18b_any _ _).mono ?_; rintro e_ x_ ⟨rfl, rfl⟩))
          exact ⟨rfl, hu, Ext.refl _, slot_eq rfl⟩) ?_
        refine sp_op (Ph.eq _) (fun u hu => by
          refine spArg_nil ?_
          go_wp2_with ((refine wpList_load_rowG rfl 36 _ rfl (g) rfl _ _ (0, 0) _ (HRF.out.below hu.has) Tryz.underlying36 rfl (by rw [HZF.out]; exact info_sub) ?_))
          exact ⟨rfl, hu, Ext.refl _, slot_eq rfl⟩) ?_
        refine sp_op (Ph.eq _) (fun u hu => by
          refine spArg_nil ?_
          go_wp2_with (fail)
          exact ⟨rfl, hu, Ext.refl _, slot_eq rfl⟩) ?_
        refine sp_op (Ph.eq _) (fun u hu => by
          refine spArg_nil ?_
          go_wp2_with (fail)
          exact ⟨rfl, hu, Ext.refl _, slot_eq rfl⟩) ?_
        refine sp_op (Ph.eq _) (fun u hu => by
          refine spArg_nil ?_
          go_wp2_with (fail)
          exact ⟨rfl, hu, Ext.refl _, slot_eq rfl⟩) ?_
        refine sp_op (Ph.eq _) (fun u hu => by
          refine spArg_eq 0 rfl rfl ?_
          refine spArg_nil ?_
          simp only [Act.put, List.setIfInBounds_toArray, List.set_cons_succ, List.set_cons_zero]
          go_wp2_with (fail)
          exact ⟨rfl, hu, Ext.refl _, slot_eq rfl⟩) ?_
        refine sp_op (Ph.eq _) (fun u hu => by
          refine spArg_eq 0 rfl rfl ?_
          refine spArg_nil ?_
          simp only [Act.put, List.setIfInBounds_toArray, List.set_cons_succ, List.set_cons_zero]
          go_wp2_with (fail)
          exact ⟨rfl, hu, Ext.refl _, slot_eq rfl⟩) ?_
        refine sp_op (Ph.eq _) (fun u hu => by
          refine spArg_eq 5 rfl rfl ?_
          refine spArg_eq 4 rfl rfl ?_
          refine spArg_eq 3 rfl rfl ?_
          refine spArg_eq 0 rfl rfl ?_
          refine spArg_nil ?_
          simp only [Act.put, List.setIfInBounds_toArray, List.set_cons_succ, List.set_cons_zero]
          go_wp2_with ((go_at_call 19; refine (HCB.out _ (HBF.out.below hu.has (by decide))).mono ?_; rintro e_ x_ ⟨rfl, hb_⟩))
          exact ⟨rfl, HoldT.step hst hu hb_, hb_, slot_eq rfl⟩) ?_
        refine sp_op (Ph.eq _) (fun u hu => by
          refine spArg_eq 7 rfl rfl ?_
          refine spArg_eq 0 rfl rfl ?_
          refine spArg_nil ?_
          simp only [Act.put, List.setIfInBounds_toArray, List.set_cons_succ, List.set_cons_zero]
          go_wp2_with (fail)
          exact ⟨rfl, hu, Ext.refl _, slot_eq rfl⟩) ?_
        refine sp_op (Ph.eq _) (fun u hu => by
          refine spArg_eq 0 rfl rfl ?_
          refine spArg_nil ?_
          simp only [Act.put, List.setIfInBounds_toArray, List.set_cons_succ, List.set_cons_zero]
          go_wp2_with (fail)
          exact ⟨rfl, hu, Ext.refl _, slot_eq rfl⟩) ?_
        refine sp_end ?_
        intro u hu
        refine spArg_eq 16 rfl rfl ?_
        refine spArg_eq 15 rfl rfl ?_
        refine spArg_eq 14 rfl rfl ?_
        refine spArg_eq 13 rfl rfl ?_
        refine spArg_eq 12 rfl rfl ?_
        refine spArg_eq 11 rfl rfl ?_
        refine spArg_eq 10 rfl rfl ?_
        refine spArg_eq 9 rfl rfl ?_
        refine spArg_eq 8 rfl rfl ?_
        refine spArg_eq 7 rfl rfl ?_
        refine spArg_eq 6 rfl rfl ?_
        refine spArg_eq 5 rfl rfl ?_
        refine spArg_eq 4 rfl rfl ?_
        refine spArg_eq 3 rfl rfl ?_
        refine spArg_eq 2 rfl rfl ?_
        refine spArg_eq 1 rfl rfl ?_
        refine spArg_eq 0 rfl rfl ?_
        refine spArg_nil ?_
        simp only [Act.put, List.setIfInBounds_toArray, List.set_cons_succ, List.set_cons_zero]
        go_wp2_with fail
        go_ret
        exact ⟨by simp, hu.up⟩
      by_cases hw3 : which = 3
      · subst hw3
        go_enter Tryz.func4, Tryz.ntmps4
        go_wp2_with (first
          | (go_at_call 9; refine (alive18_any _).mono ?_; rintro e w1 ⟨rfl, hb1⟩; have hkey1 := hk0.out.below hb1; have hbel1 := hb0.out.trans (hb1.mono hb0.out.size))
          | (refine wpList_load_row rfl 23 _ rfl w.heap.size rfl _ (keyA seed) (0, 0) _ hkey1 under_key rfl (by rw [keyA_size, HK.out]; exact info_key) ?_)
          | (go_at_call 10; refine (HRR.out _).mono ?_; rintro e w2 ⟨v2, u2, rfl, hok2, hb2⟩; rw [HD.out]; have hbel2 : Ext w w2 := hbel1.trans (hb2.mono hbel1.size)
             have HP := Lib.hid (show SeesP w2 u2 ps from sees_of_owns (hok2 hr).2)
             clear hok2)
          | (go_at_call 11; refine (HA.out _ _ _ (HP.out.below (Ext.alloc w2 _) (by decide)) (seesB_litF w2 [BV 105, BV 110, BV 115, BV 105, BV 100, BV 101] 5 (6, 7) [105, 110, 115, 105, 100, 101] 6 rfl rfl (by decide))).mono ?_; rintro e w4 ⟨v4, rfl, hown4, hb4⟩
             obtain ⟨a4, c4, rfl, -, -⟩ := owns_form hown4
             have hbel4 : Ext w w4 := Ext.tr hbel2 (Ext.tr (Ext.alloc _ _) hb4))
          | (refine wpList_store_row rfl 36 (.tmp 19) _ rfl w4.heap.size (subC OL (.slice a4 OL.e.box.length c4)) _ _ rfl rfl (Blk.new w4 SubZ _) (subZ_size.trans (HZ.out _).symm) (by rw [HZ.out]; exact info_sub) (one_sub _ _ _ _) ?_; intro x5 hg5 hs5 hR5
             have hbel5 : Ext w x5 := ext_row (Ext.tr hbel4 (Ext.alloc _ _)) hg5 (Below.size hbel4)
             have HB5 := Lib.hid (show OwnB x5 w.heap.size (.slice a4 OL.e.box.length c4) OL.e.box from owns_mono (own_grown (owns_below hown4 (Ext.alloc _ _)) hg5 (RowT.blk (Blk.new _ _ _)) (by decide)) (Nat.le_trans (Below.size hbel2) (Below.size (Ext.alloc w2 _))))
             have HR5 := Lib.hid hR5
             have q32 := sub_x hR5 HU.out; have q33 := sub_box hR5 HU.out
             have q35 : x5.cell? ⟨w4.heap.size, 35, none⟩ = some (.int .u64 OL.p.s) := by rw [hR5.cell]; exact subC_get OL _ HU.out 3
             have q36 : x5.cell? ⟨w4.heap.size, 36, none⟩ = some (.int .u64 OL.g.c) := by rw [hR5.cell]; exact subC_get OL _ HU.out 4
             have f32 := hR5.free 32; have f35 := hR5.free 35; have f36 := hR5.free 36
             skip
             clear hs5 hg5 hR5 hown4)
          | (go_at_call 18; refine (HBS.out _).mono ?_; rintro e_ x_ ⟨rfl, rfl⟩))
        have HG := Lib.hid (Below.size hbel4)
        clear q32 q33 q35 q36 f32 f35 f36
        generalize w4.heap.size = g at *
        have HPF := HPB
        have hgS : x5.grownBy (x5.setCell ⟨g, 35, none⟩ (.int .u64 (IntKind.u64.wrap (OL.p.s + by_)))) (some g) := grownBy_set (grownBy_refl _ _) _ _
        have HRF : Hid (Blk (x5.setCell ⟨g, 35, none⟩ (.int .u64 (IntKind.u64.wrap (OL.p.s + by_)))) g (subC ⟨OL.user, OL.e, ⟨OL.p.c, IntKind.u64.wrap (OL.p.s + by_)⟩, OL.g⟩ (.slice a4 OL.e.box.length c4)) 36) := Lib.hid (by
          have h := HR5.out.set 35 (.int .u64 (IntKind.u64.wrap (OL.p.s + by_)))
          rw [show (35 : Nat) = 32 + 3 from rfl, subC_setR OL _ 3 _ HU.out] at h
          exact h)
        have HBF := Lib.hid (sees_of_owns (own_grown HB5.out hgS (RowT.blk HR5.out) (by decide)))
        have hbelF : Ext w (x5.setCell ⟨g, 35, none⟩ (.int .u64 (IntKind.u64.wrap (OL.p.s + by_)))) := ext_row hbel5 hgS HG.out
        have HOKF : Hid (Sub.ok ⟨OL.user, OL.e, ⟨OL.p.c, IntKind.u64.wrap (OL.p.s + by_)⟩, OL.g⟩) := Lib.hid ⟨HOK.out.1, HOK.out.2.1, ⟨HOK.out.2.2.1.1, in64_wrap _⟩, HOK.out.2.2.2⟩
        have HLF := HLO
        clear hgS
        generalize x5.setCell ⟨g, 35, none⟩ (.int .u64 (IntKind.u64.wrap (OL.p.s + by_))) = xw at *
        have hstF := stabExt xw
        have hkF : HoldT (fun u => Ext xw u) w (xw).drew := HoldT.drew hstF ⟨Ext.refl _, hbelF⟩
        have HCA := Lib.hid fun (w' : World) (h : SeesB w' (.slice a4 OL.e.box.length c4) ((Sub.mk OL.user OL.e ⟨OL.p.c, IntKind.u64.wrap (OL.p.s + by_)⟩ OL.g)).e.box) => CheckO_any (Sub.mk OL.user OL.e ⟨OL.p.c, IntKind.u64.wrap (OL.p.s + by_)⟩ OL.g) (.slice a4 OL.e.box.length c4) PB 7 8 (6 + 16 * (N : Int)) w' HOKF.out HPF.out h (Nat.le_trans HLF.out (by decide))
        have HCB := Lib.hid fun (w' : World) (h : SeesB w' (.slice a4 OL.e.box.length c4) ((Sub.mk OL.user OL.e ⟨OL.p.c, IntKind.u64.wrap (OL.p.s + by_)⟩ OL.g)).e.box) => CheckOr_any (Sub.mk OL.user OL.e ⟨OL.p.c, IntKind.u64.wrap (OL.p.s + by_)⟩ OL.g) (.slice a4 OL.e.box.length c4) PB 7 8 (6 + 16 * (N : Int)) w' HOKF.out HPF.out h (Nat.le_trans HLF.out (by decide))
        have HZF := Lib.hid (subC_size (Sub.mk OL.user OL.e ⟨OL.p.c, IntKind.u64.wrap (OL.p.s + by_)⟩ OL.g) (.slice a4 OL.e.box.length c4) HOKF.out.1)
        generalize checkO (Sub.mk OL.user OL.e ⟨OL.p.c, IntKind.u64.wrap (OL.p.s + by_)⟩ OL.g) PB 7 8 (6 + 16 * (N : Int)) = CO at *
        have hst := hstF
        try change Code.wp _ _ _ (Act.mk _ _) _
        refine wp_region_runR Ext 17 144 (HoldT (fun u => Ext xw u) _) [[], [], [], [], [(3, 131)], [(4, 132)], [(0, 128), (1, 129), (2, 130), (5, 133)], [(6, 134)], [], [], [], [], [(11, 139)], [(12, 140)], [(8, 136), (9, 137), (10, 138), (13, 141)], [(7, 135), (14, 142)], [(15, 143)]] [(0, 128), (1, 129), (2, 130), (3, 131), (4, 132), (5, 133), (6, 134), (7, 135), (8, 136), (9, 137), (10, 138), (11, 139), (12, 140), (13, 141), (14, 142), (15, 143), (16, 14)] (by kernel_rfl) (by kernel_rfl) (by first | rfl | simp) (hkF) ?_
        simp only [List.take_succ_cons, List.take_zero, List.drop_succ_cons, List.drop_zero]
        refine sp_op (Ph.eq _) (fun u hu => by
          refine spArg_nil ?_
          go_wp2_with ((refine wpList_load_rowG rfl 36 _ rfl (g) rfl _ _ (0, 0) _ (HRF.out.below hu.has) Tryz.underlying36 rfl (by rw [HZF.out]; exact info_sub) ?_))
          exact ⟨rfl, hu, Ext.refl _, slot_eq rfl⟩) ?_
        refine sp_op (Ph.eq _) (fun u hu => by
          refine spArg_nil ?_
          go_wp2_with (fail)
          exact ⟨rfl, hu, Ext.refl _, slot_eq rfl⟩) ?_
        refine sp_op (Ph.eq _) (fun u hu => by
          refine spArg_nil ?_
          go_wp2_with (fail)
          exact ⟨rfl, hu, Ext.refl _, slot_eq rfl⟩) ?_
        refine sp_op (Ph.eq _) (fun u hu => by
          refine spArg_nil ?_
          go_wp2_with (fail)
          exact ⟨rfl, hu, Ext.refl _, slot_eq rfl⟩) ?_
        refine sp_op (Ph.eq _) (fun u hu => by
          refine spArg_eq 0 rfl rfl ?_
          refine spArg_nil ?_
          simp only [Act.put, List.setIfInBounds_toArray, List.set_cons_succ, List.set_cons_zero]
          go_wp2_with (fail)
          exact ⟨rfl, hu, Ext.refl _, slot_eq rfl⟩) ?_
        refine sp_op (Ph.eq _) (fun u hu => by
          refine spArg_eq 0 rfl rfl ?_
          refine spArg_nil ?_
          simp only [Act.put, List.setIfInBounds_toArray, List.set_cons_succ, List.set_cons_zero]
          go_wp2_with (fail)
          exact ⟨rfl, hu, Ext.refl _, slot_eq rfl⟩) ?_
        refine sp_op (Ph.eq _) (fun u hu => by
          refine spArg_eq 5 rfl rfl ?_
          refine spArg_eq 4 rfl rfl ?_
          refine spArg_eq 3 rfl rfl ?_
          refine spArg_eq 0 rfl rfl ?_
          refine spArg_nil ?_
          simp only [Act.put, List.setIfInBounds_toArray, List.set_cons_succ, List.set_cons_zero]
          go_wp2_with ((go_at_call 17; refine (HCA.out _ (HBF.out.below hu.has (by decide))).mono ?_; rintro e_ x_ ⟨rfl, hb_⟩))
          exact ⟨rfl, HoldT.step hst hu hb_, hb_, slot_eq rfl⟩) ?_
        refine sp_op (Ph.eq _) (fun u hu => by
          refine spArg_eq 0 rfl rfl ?_
          refine spArg_nil ?_
          simp only [Act.put, List.setIfInBounds_toArray, List.set_cons_succ, List.set_cons_zero]
          go_wp2_with ((go_at_call 16; refine (num18b_any _ _).mono ?_; rintro e_ x_ ⟨rfl, rfl⟩))
          exact ⟨rfl, hu, Ext.refl _, slot_eq rfl⟩) ?_
        refine sp_op (Ph.eq _) (fun u hu => by
          refine spArg_nil ?_
          go_wp2_with ((refine wpList_load_rowG rfl 36 _ rfl (g) rfl _ _ (0, 0) _ (HRF.out.below hu.has) Tryz.underlying36 rfl (by rw [HZF.out]; exact info_sub) ?_))
          exact ⟨rfl, hu, Ext.refl _, slot_eq rfl⟩) ?_
        refine sp_op (Ph.eq _) (fun u hu => by
          refine spArg_nil ?_
          go_wp2_with (fail)
          exact ⟨rfl, hu, Ext.refl _, slot_eq rfl⟩) ?_
        refine sp_op (Ph.eq _) (fun u hu => by
          refine spArg_nil ?_
          go_wp2_with (fail)
          exact ⟨rfl, hu, Ext.refl _, slot_eq rfl⟩) ?_
        refine sp_op (Ph.eq _) (fun u hu => by
          refine spArg_nil ?_
          go_wp2_with (fail)
          exact ⟨rfl, hu, Ext.refl _, slot_eq rfl⟩) ?_
        refine sp_op (Ph.eq _) (fun u hu => by
          refine spArg_eq 0 rfl rfl ?_
          refine spArg_nil ?_
          simp only [Act.put, List.setIfInBounds_toArray, List.set_cons_succ, List.set_cons_zero]
          go_wp2_with (fail)
          exact ⟨rfl, hu, Ext.refl _, slot_eq rfl⟩) ?_
        refine sp_op (Ph.eq _) (fun u hu => by
          refine spArg_eq 0 rfl rfl ?_
          refine spArg_nil ?_
          simp only [Act.put, List.setIfInBounds_toArray, List.set_cons_succ, List.set_cons_zero]
          go_wp2_with (fail)
          exact ⟨rfl, hu, Ext.refl _, slot_eq rfl⟩) ?_
        refine sp_op (Ph.eq _) (fun u hu => by
          refine spArg_eq 5 rfl rfl ?_
          refine spArg_eq 4 rfl rfl ?_
          refine spArg_eq 3 rfl rfl ?_
          refine spArg_eq 0 rfl rfl ?_
          refine spArg_nil ?_
          simp only [Act.put, List.setIfInBounds_toArray, List.set_cons_succ, List.set_cons_zero]
          go_wp2_with ((go_at_call 19; refine (HCB.out _ (HBF.out.below hu.has (by decide))).mono ?_; rintro e_ x_ ⟨rfl, hb_⟩))
          exact ⟨rfl, HoldT.step hst hu hb_, hb_, slot_eq rfl⟩) ?_
        refine sp_op (Ph.eq _) (fun u hu => by
          refine spArg_eq 7 rfl rfl ?_
          refine spArg_eq 0 rfl rfl ?_
          refine spArg_nil ?_
          simp only [Act.put, List.setIfInBounds_toArray, List.set_cons_succ, List.set_cons_zero]
          go_wp2_with (fail)
          exact ⟨rfl, hu, Ext.refl _, slot_eq rfl⟩) ?_
        refine sp_op (Ph.eq _) (fun u hu => by
          refine spArg_eq 0 rfl rfl ?_
          refine spArg_nil ?_
          simp only [Act.put, List.setIfInBounds_toArray, List.set_cons_succ, List.set_cons_zero]
          go_wp2_with (fail)
          exact ⟨rfl, hu, Ext.refl _, slot_eq rfl⟩) ?_
        refine sp_end ?_
        intro u hu
        refine spArg_eq 16 rfl rfl ?_
        refine spArg_eq 15 rfl rfl ?_
        refine spArg_eq 14 rfl rfl ?_
        refine spArg_eq 13 rfl rfl ?_
        refine spArg_eq 12 rfl rfl ?_
        refine spArg_eq 11 rfl rfl ?_
        refine spArg_eq 10 rfl rfl ?_
        refine spArg_eq 9 rfl rfl ?_
        refine spArg_eq 8 rfl rfl ?_
        refine spArg_eq 7 rfl rfl ?_
        refine spArg_eq 6 rfl rfl ?_
        refine spArg_eq 5 rfl rfl ?_
        refine spArg_eq 4 rfl rfl ?_
        refine spArg_eq 3 rfl rfl ?_
        refine spArg_eq 2 rfl rfl ?_
        refine spArg_eq 1 rfl rfl ?_
        refine spArg_eq 0 rfl rfl ?_
        refine spArg_nil ?_
        simp only [Act.put, List.setIfInBounds_toArray, List.set_cons_succ, List.set_cons_zero]
        go_wp2_with fail
        go_ret
        exact ⟨by simp, hu.up⟩
      by_cases hw4 : which = 4
      · subst hw4
        go_enter Tryz.func4, Tryz.ntmps4
        go_wp2_with (first
          | (go_at_call 9; refine (alive18_any _).mono ?_; rintro e w1 ⟨rfl, hb1⟩; have hkey1 := hk0.out.below hb1; have hbel1 := hb0.out.trans (hb1.mono hb0.out.size))
          | (refine wpList_load_row rfl 23 _ rfl w.heap.size rfl _ (keyA seed) (0, 0) _ hkey1 under_key rfl (by rw [keyA_size, HK.out]; exact info_key) ?_)
          | (go_at_call 10; refine (HRR.out _).mono ?_; rintro e w2 ⟨v2, u2, rfl, hok2, hb2⟩; rw [HD.out]; have hbel2 : Ext w w2 := hbel1.trans (hb2.mono hbel1.size)
             have HP := Lib.hid (show SeesP w2 u2 ps from sees_of_owns (hok2 hr).2)
             clear hok2)
          | (go_at_call 11; refine (HA.out _ _ _ (HP.out.below (Ext.alloc w2 _) (by decide)) (seesB_litF w2 [BV 105, BV 110, BV 115, BV 105, BV 100, BV 101] 5 (6, 7) [105, 110, 115, 105, 100, 101] 6 rfl rfl (by decide))).mono ?_; rintro e w4 ⟨v4, rfl, hown4, hb4⟩
             obtain ⟨a4, c4, rfl, -, -⟩ := owns_form hown4
             have hbel4 : Ext w w4 := Ext.tr hbel2 (Ext.tr (Ext.alloc _ _) hb4))
          | (refine wpList_store_row rfl 36 (.tmp 19) _ rfl w4.heap.size (subC OL (.slice a4 OL.e.box.length c4)) _ _ rfl rfl (Blk.new w4 SubZ _) (subZ_size.trans (HZ.out _).symm) (by rw [HZ.out]; exact info_sub) (one_sub _ _ _ _) ?_; intro x5 hg5 hs5 hR5
             have hbel5 : Ext w x5 := ext_row (Ext.tr hbel4 (Ext.alloc _ _)) hg5 (Below.size hbel4)
             have HB5 := Lib.hid (show OwnB x5 w.heap.size (.slice a4 OL.e.box.length c4) OL.e.box from owns_mono (own_grown (owns_below hown4 (Ext.alloc _ _)) hg5 (RowT.blk (Blk.new _ _ _)) (by decide)) (Nat.le_trans (Below.size hbel2) (Below.size (Ext.alloc w2 _))))
             have HR5 := Lib.hid hR5
             have q32 := sub_x hR5 HU.out; have q33 := sub_box hR5 HU.out
             have q35 : x5.cell? ⟨w4.heap.size, 35, none⟩ = some (.int .u64 OL.p.s) := by rw [hR5.cell]; exact subC_get OL _ HU.out 3
             have q36 : x5.cell? ⟨w4.heap.size, 36, none⟩ = some (.int .u64 OL.g.c) := by rw [hR5.cell]; exact subC_get OL _ HU.out 4
             have f32 := hR5.free 32; have f35 := hR5.free 35; have f36 := hR5.free 36
             skip
             clear hs5 hg5 hR5 hown4)
          | (go_at_call 18; refine (HBS.out _).mono ?_; rintro e_ x_ ⟨rfl, rfl⟩))
        have HG := Lib.hid (Below.size hbel4)
        clear q32 q33 q35 q36 f32 f35 f36
        generalize w4.heap.size = g at *
        have HPF := HPB
        have hgS : x5.grownBy (x5.setCell ⟨g, 36, none⟩ (.int .u64 (IntKind.u64.wrap (OL.g.c + by_)))) (some g) := grownBy_set (grownBy_refl _ _) _ _
        have HRF : Hid (Blk (x5.setCell ⟨g, 36, none⟩ (.int .u64 (IntKind.u64.wrap (OL.g.c + by_)))) g (subC ⟨OL.user, OL.e, OL.p, ⟨IntKind.u64.wrap (OL.g.c + by_), OL.g.s⟩⟩ (.slice a4 OL.e.box.length c4)) 36) := Lib.hid (by
          have h := HR5.out.set 36 (.int .u64 (IntKind.u64.wrap (OL.g.c + by_)))
          rw [show (36 : Nat) = 32 + 4 from rfl, subC_setR OL _ 4 _ HU.out] at h
          exact h)
        have HBF := Lib.hid (sees_of_owns (own_grown HB5.out hgS (RowT.blk HR5.out) (by decide)))
        have hbelF : Ext w (x5.setCell ⟨g, 36, none⟩ (.int .u64 (IntKind.u64.wrap (OL.g.c + by_)))) := ext_row hbel5 hgS HG.out
        have HOKF : Hid (Sub.ok ⟨OL.user, OL.e, OL.p, ⟨IntKind.u64.wrap (OL.g.c + by_), OL.g.s⟩⟩) := Lib.hid ⟨HOK.out.1, HOK.out.2.1, HOK.out.2.2.1, ⟨in64_wrap _, HOK.out.2.2.2.2⟩⟩
        have HLF := HLO
        clear hgS
        generalize x5.setCell ⟨g, 36, none⟩ (.int .u64 (IntKind.u64.wrap (OL.g.c + by_))) = xw at *
        have hstF := stabExt xw
        have hkF : HoldT (fun u => Ext xw u) w (xw).drew := HoldT.drew hstF ⟨Ext.refl _, hbelF⟩
        have HCA := Lib.hid fun (w' : World) (h : SeesB w' (.slice a4 OL.e.box.length c4) ((Sub.mk OL.user OL.e OL.p ⟨IntKind.u64.wrap (OL.g.c + by_), OL.g.s⟩)).e.box) => CheckO_any (Sub.mk OL.user OL.e OL.p ⟨IntKind.u64.wrap (OL.g.c + by_), OL.g.s⟩) (.slice a4 OL.e.box.length c4) PB 7 8 (6 + 16 * (N : Int)) w' HOKF.out HPF.out h (Nat.le_trans HLF.out (by decide))
        have HCB := Lib.hid fun (w' : World) (h : SeesB w' (.slice a4 OL.e.box.length c4) ((Sub.mk OL.user OL.e OL.p ⟨IntKind.u64.wrap (OL.g.c + by_), OL.g.s⟩)).e.box) => CheckOr_any (Sub.mk OL.user OL.e OL.p ⟨IntKind.u64.wrap (OL.g.c + by_), OL.g.s⟩) (.slice a4 OL.e.box.length c4) PB 7 8 (6 + 16 * (N : Int)) w' HOKF.out HPF.out h (Nat.le_trans HLF.out (by decide))
        have HZF := Lib.hid (subC_size (Sub.mk OL.user OL.e OL.p ⟨IntKind.u64.wrap (OL.g.c + by_), OL.g.s⟩) (.slice a4 OL.e.box.length c4) HOKF.out.1)
        generalize checkO (Sub.mk OL.user OL.e OL.p ⟨IntKind.u64.wrap (OL.g.c + by_), OL.g.s⟩) PB 7 8 (6 + 16 * (N : Int)) = CO at *
        have hst := hstF
        try change Code.wp _ _ _ (Act.mk _ _) _
        refine wp_region_runR Ext 17 144 (HoldT (fun u => Ext xw u) _) [[], [], [], [], [(3, 131)], [(4, 132)], [(0, 128), (1, 129), (2, 130), (5, 133)], [(6, 134)], [], [], [], [], [(11, 139)], [(12, 140)], [(8, 136), (9, 137), (10, 138), (13, 141)], [(7, 135), (14, 142)], [(15, 143)]] [(0, 128), (1, 129), (2, 130), (3, 131), (4, 132), (5, 133), (6, 134), (7, 135), (8, 136), (9, 137), (10, 138), (11, 139), (12, 140), (13, 141), (14, 142), (15, 143), (16, 14)] (by kernel_rfl) (by kernel_rfl) (by first | rfl | simp) (hkF) ?_
        simp only [List.take_succ_cons, List.take_zero, List.drop_succ_cons, List.drop_zero]
        refine sp_op (Ph.eq _) (fun u hu => by
          refine spArg_nil ?_
          go_wp2_with ((refine wpList_load_rowG rfl 36 _ rfl (g) rfl _ _ (0, 0) _ (HRF.out.below hu.has) Tryz.underlying36 rfl (by rw [HZF.out]; exact info_sub) ?_))
          exact ⟨rfl, hu, Ext.refl _, slot_eq rfl⟩) ?_
        refine sp_op (Ph.eq _) (fun u hu => by
          refine spArg_nil ?_
          go_wp2_with (fail)
          exact ⟨rfl, hu, Ext.refl _, slot_eq rfl⟩) ?_
        refine sp_op (Ph.eq _) (fun u hu => by
          refine spArg_nil ?_
          go_wp2_with (fail)
          exact ⟨rfl, hu, Ext.refl _, slot_eq rfl⟩) ?_
        refine sp_op (Ph.eq _) (fun u hu => by
          refine spArg_nil ?_
          go_wp2_with (fail)
          exact ⟨rfl, hu, Ext.refl _, slot_eq rfl⟩) ?_
        refine sp_op (Ph.eq _) (fun u hu => by
          refine spArg_eq 0 rfl rfl ?_
          refine spArg_nil ?_
          simp only [Act.put, List.setIfInBounds_toArray, List.set_cons_succ, List.set_cons_zero]
          go_wp2_with (fail)
          exact ⟨rfl, hu, Ext.refl _, slot_eq rfl⟩) ?_
        refine sp_op (Ph.eq _) (fun u hu => by
          refine spArg_eq 0 rfl rfl ?_
          refine spArg_nil ?_
          simp only [Act.put, List.setIfInBounds_toArray, List.set_cons_succ, List.set_cons_zero]
          go_wp2_with (fail)
          exact ⟨rfl, hu, Ext.refl _, slot_eq rfl⟩) ?_
        refine sp_op (Ph.eq _) (fun u hu => by
          refine spArg_eq 5 rfl rfl ?_
          refine spArg_eq 4 rfl rfl ?_
          refine spArg_eq 3 rfl rfl ?_
          refine spArg_eq 0 rfl rfl ?_
          refine spArg_nil ?_
          simp only [Act.put, List.setIfInBounds_toArray, List.set_cons_succ, List.set_cons_zero]
          go_wp2_with ((go_at_call 17; refine (HCA.out _ (HBF.out.below hu.has (by decide))).mono ?_; rintro e_ x_ ⟨rfl, hb_⟩))
          exact ⟨rfl, HoldT.step hst hu hb_, hb_, slot_eq rfl⟩) ?_
        refine sp_op (Ph.eq _) (fun u hu => by
          refine spArg_eq 0 rfl rfl ?_
          refine spArg_nil ?_
          simp only [Act.put, List.setIfInBounds_toArray, List.set_cons_succ, List.set_cons_zero]
          go_wp2_with ((go_at_call 16; refine (num18b_any _ _).mono ?_; rintro e_ x_ ⟨rfl, rfl⟩))
          exact ⟨rfl, hu, Ext.refl _, slot_eq rfl⟩) ?_
        refine sp_op (Ph.eq _) (fun u hu => by
          refine spArg_nil ?_
          go_wp2_with ((refine wpList_load_rowG rfl 36 _ rfl (g) rfl _ _ (0, 0) _ (HRF.out.below hu.has) Tryz.underlying36 rfl (by rw [HZF.out]; exact info_sub) ?_))
          exact ⟨rfl, hu, Ext.refl _, slot_eq rfl⟩) ?_
        refine sp_op (Ph.eq _) (fun u hu => by
          refine spArg_nil ?_
          go_wp2_with (fail)
          exact ⟨rfl, hu, Ext.refl _, slot_eq rfl⟩) ?_
        refine sp_op (Ph.eq _) (fun u hu => by
          refine spArg_nil ?_
          go_wp2_with (fail)
          exact ⟨rfl, hu, Ext.refl _, slot_eq rfl⟩) ?_
        refine sp_op (Ph.eq _) (fun u hu => by
          refine spArg_nil ?_
          go_wp2_with (fail)
          exact ⟨rfl, hu, Ext.refl _, slot_eq rfl⟩) ?_
        refine sp_op (Ph.eq _) (fun u hu => by
          refine spArg_eq 0 rfl rfl ?_
          refine spArg_nil ?_
          simp only [Act.put, List.setIfInBounds_toArray, List.set_cons_succ, List.set_cons_zero]
          go_wp2_with (fail)
          exact ⟨rfl, hu, Ext.refl _, slot_eq rfl⟩) ?_
        refine sp_op (Ph.eq _) (fun u hu => by
          refine spArg_eq 0 rfl rfl ?_
          refine spArg_nil ?_
          simp only [Act.put, List.setIfInBounds_toArray, List.set_cons_succ, List.set_cons_zero]
          go_wp2_with (fail)
          exact ⟨rfl, hu, Ext.refl _, slot_eq rfl⟩) ?_
        refine sp_op (Ph.eq _) (fun u hu => by
          refine spArg_eq 5 rfl rfl ?_
          refine spArg_eq 4 rfl rfl ?_
          refine spArg_eq 3 rfl rfl ?_
          refine spArg_eq 0 rfl rfl ?_
          refine spArg_nil ?_
          simp only [Act.put, List.setIfInBounds_toArray, List.set_cons_succ, List.set_cons_zero]
          go_wp2_with ((go_at_call 19; refine (HCB.out _ (HBF.out.below hu.has (by decide))).mono ?_; rintro e_ x_ ⟨rfl, hb_⟩))
          exact ⟨rfl, HoldT.step hst hu hb_, hb_, slot_eq rfl⟩) ?_
        refine sp_op (Ph.eq _) (fun u hu => by
          refine spArg_eq 7 rfl rfl ?_
          refine spArg_eq 0 rfl rfl ?_
          refine spArg_nil ?_
          simp only [Act.put, List.setIfInBounds_toArray, List.set_cons_succ, List.set_cons_zero]
          go_wp2_with (fail)
          exact ⟨rfl, hu, Ext.refl _, slot_eq rfl⟩) ?_
        refine sp_op (Ph.eq _) (fun u hu => by
          refine spArg_eq 0 rfl rfl ?_
          refine spArg_nil ?_
          simp only [Act.put, List.setIfInBounds_toArray, List.set_cons_succ, List.set_cons_zero]
          go_wp2_with (fail)
          exact ⟨rfl, hu, Ext.refl _, slot_eq rfl⟩) ?_
        refine sp_end ?_
        intro u hu
        refine spArg_eq 16 rfl rfl ?_
        refine spArg_eq 15 rfl rfl ?_
        refine spArg_eq 14 rfl rfl ?_
        refine spArg_eq 13 rfl rfl ?_
        refine spArg_eq 12 rfl rfl ?_
        refine spArg_eq 11 rfl rfl ?_
        refine spArg_eq 10 rfl rfl ?_
        refine spArg_eq 9 rfl rfl ?_
        refine spArg_eq 8 rfl rfl ?_
        refine spArg_eq 7 rfl rfl ?_
        refine spArg_eq 6 rfl rfl ?_
        refine spArg_eq 5 rfl rfl ?_
        refine spArg_eq 4 rfl rfl ?_
        refine spArg_eq 3 rfl rfl ?_
        refine spArg_eq 2 rfl rfl ?_
        refine spArg_eq 1 rfl rfl ?_
        refine spArg_eq 0 rfl rfl ?_
        refine spArg_nil ?_
        simp only [Act.put, List.setIfInBounds_toArray, List.set_cons_succ, List.set_cons_zero]
        go_wp2_with fail
        go_ret
        exact ⟨by simp, hu.up⟩
      by_cases hw0 : which = 0
      · subst hw0
        have hi32 : A % 32 < 32 := Nat.mod_lt _ (by decide)
        obtain ⟨y, hy⟩ : ∃ y, OL.user[A % 32]? = some y := ⟨_, List.getElem?_eq_getElem (by rw [HU.out]; exact hi32)⟩
        have HY := Lib.hid hy; clear hy
        go_enter Tryz.func4, Tryz.ntmps4
        go_wp2_with (first
          | (go_at_call 9; refine (alive18_any _).mono ?_; rintro e w1 ⟨rfl, hb1⟩; have hkey1 := hk0.out.below hb1; have hbel1 := hb0.out.trans (hb1.mono hb0.out.size))
          | (refine wpList_load_row rfl 23 _ rfl w.heap.size rfl _ (keyA seed) (0, 0) _ hkey1 under_key rfl (by rw [keyA_size, HK.out]; exact info_key) ?_)
          | (go_at_call 10; refine (HRR.out _).mono ?_; rintro e w2 ⟨v2, u2, rfl, hok2, hb2⟩; rw [HD.out]; have hbel2 : Ext w w2 := hbel1.trans (hb2.mono hbel1.size)
             have HP := Lib.hid (show SeesP w2 u2 ps from sees_of_owns (hok2 hr).2)
             clear hok2)
          | (go_at_call 11; refine (HA.out _ _ _ (HP.out.below (Ext.alloc w2 _) (by decide)) (seesB_litF w2 [BV 105, BV 110, BV 115, BV 105, BV 100, BV 101] 5 (6, 7) [105, 110, 115, 105, 100, 101] 6 rfl rfl (by decide))).mono ?_; rintro e w4 ⟨v4, rfl, hown4, hb4⟩
             obtain ⟨a4, c4, rfl, -, -⟩ := owns_form hown4
             have hbel4 : Ext w w4 := Ext.tr hbel2 (Ext.tr (Ext.alloc _ _) hb4))
          | (refine wpList_store_row rfl 36 (.tmp 19) _ rfl w4.heap.size (subC OL (.slice a4 OL.e.box.length c4)) _ _ rfl rfl (Blk.new w4 SubZ _) (subZ_size.trans (HZ.out _).symm) (by rw [HZ.out]; exact info_sub) (one_sub _ _ _ _) ?_; intro x5 hg5 hs5 hR5
             have hbel5 : Ext w x5 := ext_row (Ext.tr hbel4 (Ext.alloc _ _)) hg5 (Below.size hbel4)
             have HB5 := Lib.hid (show OwnB x5 w.heap.size (.slice a4 OL.e.box.length c4) OL.e.box from owns_mono (own_grown (owns_below hown4 (Ext.alloc _ _)) hg5 (RowT.blk (Blk.new _ _ _)) (by decide)) (Nat.le_trans (Below.size hbel2) (Below.size (Ext.alloc w2 _))))
             have HR5 := Lib.hid hR5
             have q32 := sub_x hR5 HU.out; have q33 := sub_box hR5 HU.out
             have q35 : x5.cell? ⟨w4.heap.size, 35, none⟩ = some (.int .u64 OL.p.s) := by rw [hR5.cell]; exact subC_get OL _ HU.out 3
             have q36 : x5.cell? ⟨w4.heap.size, 36, none⟩ = some (.int .u64 OL.g.c) := by rw [hR5.cell]; exact subC_get OL _ HU.out 4
             have f32 := hR5.free 32; have f35 := hR5.free 35; have f36 := hR5.free 36
             have qu : x5.cell? ⟨w4.heap.size, A % 32, none⟩ = some (.int .u8 (y.toNat : Int)) := (by rw [hR5.cell]; exact subC_getU' OL _ _ y HU.out HY.out); have fu := hR5.free (A % 32)
             clear hs5 hg5 hR5 hown4)
          | (go_at_call 18; refine (HBS.out _).mono ?_; rintro e_ x_ ⟨rfl, rfl⟩))
        have HG := Lib.hid (Below.size hbel4)
        clear q32 q33 q35 q36 f32 f35 f36
        generalize w4.heap.size = g at *
        rw [by_u8 by_ by0, xor_u8]
        generalize UInt8.ofNat by_.toNat = bb at *
        have HPF := HPB
        have hgS : x5.grownBy (x5.setCell ⟨g, A % 32, none⟩ (.int .u8 ((y ^^^ bb).toNat : Int))) (some g) := grownBy_set (grownBy_refl _ _) _ _
        have HRF : Hid (Blk (x5.setCell ⟨g, A % 32, none⟩ (.int .u8 ((y ^^^ bb).toNat : Int))) g (subC ⟨OL.user.set (A % 32) (y ^^^ bb), OL.e, OL.p, OL.g⟩ (.slice a4 OL.e.box.length c4)) 36) := Lib.hid (by
          have h := HR5.out.set (A % 32) (BV (y ^^^ bb))
          rw [subC_setU OL _ _ _ HU.out hi32] at h
          exact h)
        have HBF := Lib.hid (sees_of_owns (own_grown HB5.out hgS (RowT.blk HR5.out) (by decide)))
        have hbelF : Ext w (x5.setCell ⟨g, A % 32, none⟩ (.int .u8 ((y ^^^ bb).toNat : Int))) := ext_row hbel5 hgS HG.out
        have HOKF : Hid (Sub.ok ⟨OL.user.set (A % 32) (y ^^^ bb), OL.e, OL.p, OL.g⟩) := Lib.hid ⟨by rw [List.length_set]; exact HU.out, HOK.out.2⟩
        have HLF := HLO
        clear hgS
        generalize x5.setCell ⟨g, A % 32, none⟩ (.int .u8 ((y ^^^ bb).toNat : Int)) = xw at *
        clear HY
        have hstF := stabExt xw
        have hkF : HoldT (fun u => Ext xw u) w (xw).drew := HoldT.drew hstF ⟨Ext.refl _, hbelF⟩
        have HCA := Lib.hid fun (w' : World) (h : SeesB w' (.slice a4 OL.e.box.length c4) ((Sub.mk (OL.user.set (A % 32) (y ^^^ bb)) OL.e OL.p OL.g)).e.box) => CheckO_any (Sub.mk (OL.user.set (A % 32) (y ^^^ bb)) OL.e OL.p OL.g) (.slice a4 OL.e.box.length c4) PB 7 8 (6 + 16 * (N : Int)) w' HOKF.out HPF.out h (Nat.le_trans HLF.out (by decide))
        have HCB := Lib.hid fun (w' : World) (h : SeesB w' (.slice a4 OL.e.box.length c4) ((Sub.mk (OL.user.set (A % 32) (y ^^^ bb)) OL.e OL.p OL.g)).e.box) => CheckOr_any (Sub.mk (OL.user.set (A % 32) (y ^^^ bb)) OL.e OL.p OL.g) (.slice a4 OL.e.box.length c4) PB 7 8 (6 + 16 * (N : Int)) w' HOKF.out HPF.out h (Nat.le_trans HLF.out (by decide))
        have HZF := Lib.hid (subC_size (Sub.mk (OL.user.set (A % 32) (y ^^^ bb)) OL.e OL.p OL.g) (.slice a4 OL.e.box.length c4) HOKF.out.1)
        generalize checkO (Sub.mk (OL.user.set (A % 32) (y ^^^ bb)) OL.e OL.p OL.g) PB 7 8 (6 + 16 * (N : Int)) = CO at *
        have hst := hstF
        try change Code.wp _ _ _ (Act.mk _ _) _
        refine wp_region_runR Ext 17 144 (HoldT (fun u => Ext xw u) _) [[], [], [], [], [(3, 131)], [(4, 132)], [(0, 128), (1, 129), (2, 130), (5, 133)], [(6, 134)], [], [], [], [], [(11, 139)], [(12, 140)], [(8, 136), (9, 137), (10, 138), (13, 141)], [(7, 135), (14, 142)], [(15, 143)]] [(0, 128), (1, 129), (2, 130), (3, 131), (4, 132), (5, 133), (6, 134), (7, 135), (8, 136), (9, 137), (10, 138), (11, 139), (12, 140), (13, 141), (14, 142), (15, 143), (16, 14)] (by kernel_rfl) (by kernel_rfl) (by first | rfl | simp) (hkF) ?_
        simp only [List.take_succ_cons, List.take_zero, List.drop_succ_cons, List.drop_zero]
        refine sp_op (Ph.eq _) (fun u hu => by
          refine spArg_nil ?_
          go_wp2_with ((refine wpList_load_rowG rfl 36 _ rfl (g) rfl _ _ (0, 0) _ (HRF.out.below hu.has) Tryz.underlying36 rfl (by rw [HZF.out]; exact info_sub) ?_))
          exact ⟨rfl, hu, Ext.refl _, slot_eq rfl⟩) ?_
        refine sp_op (Ph.eq _) (fun u hu => by
          refine spArg_nil ?_
          go_wp2_with (fail)
          exact ⟨rfl, hu, Ext.refl _, slot_eq rfl⟩) ?_
        refine sp_op (Ph.eq _) (fun u hu => by
          refine spArg_nil ?_
          go_wp2_with (fail)
          exact ⟨rfl, hu, Ext.refl _, slot_eq rfl⟩) ?_
        refine sp_op (Ph.eq _) (fun u hu => by
          refine spArg_nil ?_
          go_wp2_with (fail)
          exact ⟨rfl, hu, Ext.refl _, slot_eq rfl⟩) ?_
        refine sp_op (Ph.eq _) (fun u hu => by
          refine spArg_eq 0 rfl rfl ?_
          refine spArg_nil ?_
          simp only [Act.put, List.setIfInBounds_toArray, List.set_cons_succ, List.set_cons_zero]
          go_wp2_with (fail)
          exact ⟨rfl, hu, Ext.refl _, slot_eq rfl⟩) ?_
        refine sp_op (Ph.eq _) (fun u hu => by
          refine spArg_eq 0 rfl rfl ?_
          refine spArg_nil ?_
          simp only [Act.put, List.setIfInBounds_toArray, List.set_cons_succ, List.set_cons_zero]
          go_wp2_with (fail)
          exact ⟨rfl, hu, Ext.refl _, slot_eq rfl⟩) ?_
        refine sp_op (Ph.eq _) (fun u hu => by
          refine spArg_eq 5 rfl rfl ?_
          refine spArg_eq 4 rfl rfl ?_
          refine spArg_eq 3 rfl rfl ?_
          refine spArg_eq 0 rfl rfl ?_
          refine spArg_nil ?_
          simp only [Act.put, List.setIfInBounds_toArray, List.set_cons_succ, List.set_cons_zero]
          go_wp2_with ((go_at_call 17; refine (HCA.out _ (HBF.out.below hu.has (by decide))).mono ?_; rintro e_ x_ ⟨rfl, hb_⟩))
          exact ⟨rfl, HoldT.step hst hu hb_, hb_, slot_eq rfl⟩) ?_
        refine sp_op (Ph.eq _) (fun u hu => by
          refine spArg_eq 0 rfl rfl ?_
          refine spArg_nil ?_
          simp only [Act.put, List.setIfInBounds_toArray, List.set_cons_succ, List.set_cons_zero]
          go_wp2_with ((go_at_call 16; refine (num18b_any _ _).mono ?_; rintro e_ x_ ⟨rfl, rfl⟩))
          exact ⟨rfl, hu, Ext.refl _, slot_eq rfl⟩) ?_
        refine sp_op (Ph.eq _) (fun u hu => by
          refine spArg_nil ?_
          go_wp2_with ((refine wpList_load_rowG rfl 36 _ rfl (g) rfl _ _ (0, 0) _ (HRF.out.below hu.has) Tryz.underlying36 rfl (by rw [HZF.out]; exact info_sub) ?_))
          exact ⟨rfl, hu, Ext.refl _, slot_eq rfl⟩) ?_
        refine sp_op (Ph.eq _) (fun u hu => by
          refine spArg_nil ?_
          go_wp2_with (fail)
          exact ⟨rfl, hu, Ext.refl _, slot_eq rfl⟩) ?_
        refine sp_op (Ph.eq _) (fun u hu => by
          refine spArg_nil ?_
          go_wp2_with (fail)
          exact ⟨rfl, hu, Ext.refl _, slot_eq rfl⟩) ?_
        refine sp_op (Ph.eq _) (fun u hu => by
          refine spArg_nil ?_
          go_wp2_with (fail)
          exact ⟨rfl, hu, Ext.refl _, slot_eq rfl⟩) ?_
        refine sp_op (Ph.eq _) (fun u hu => by
          refine spArg_eq 0 rfl rfl ?_
          refine spArg_nil ?_
          simp only [Act.put, List.setIfInBounds_toArray, List.set_cons_succ, List.set_cons_zero]
          go_wp2_with (fail)
          exact ⟨rfl, hu, Ext.refl _, slot_eq rfl⟩) ?_
        refine sp_op (Ph.eq _) (fun u hu => by
          refine spArg_eq 0 rfl rfl ?_
          refine spArg_nil ?_
          simp only [Act.put, List.setIfInBounds_toArray, List.set_cons_succ, List.set_cons_zero]
          go_wp2_with (fail)
          exact ⟨rfl, hu, Ext.refl _, slot_eq rfl⟩) ?_
        refine sp_op (Ph.eq _) (fun u hu => by
          refine spArg_eq 5 rfl rfl ?_
          refine spArg_eq 4 rfl rfl ?_
          refine spArg_eq 3 rfl rfl ?_
          refine spArg_eq 0 rfl rfl ?_
          refine spArg_nil ?_
          simp only [Act.put, List.setIfInBounds_toArray, List.set_cons_succ, List.set_cons_zero]
          go_wp2_with ((go_at_call 19; refine (HCB.out _ (HBF.out.below hu.has (by decide))).mono ?_; rintro e_ x_ ⟨rfl, hb_⟩))
          exact ⟨rfl, HoldT.step hst hu hb_, hb_, slot_eq rfl⟩) ?_
        refine sp_op (Ph.eq _) (fun u hu => by
          refine spArg_eq 7 rfl rfl ?_
          refine spArg_eq 0 rfl rfl ?_
          refine spArg_nil ?_
          simp only [Act.put, List.setIfInBounds_toArray, List.set_cons_succ, List.set_cons_zero]
          go_wp2_with (fail)
          exact ⟨rfl, hu, Ext.refl _, slot_eq rfl⟩) ?_
        refine sp_op (Ph.eq _) (fun u hu => by
          refine spArg_eq 0 rfl rfl ?_
          refine spArg_nil ?_
          simp only [Act.put, List.setIfInBounds_toArray, List.set_cons_succ, List.set_cons_zero]
          go_wp2_with (fail)
          exact ⟨rfl, hu, Ext.refl _, slot_eq rfl⟩) ?_
        refine sp_end ?_
        intro u hu
        refine spArg_eq 16 rfl rfl ?_
        refine spArg_eq 15 rfl rfl ?_
        refine spArg_eq 14 rfl rfl ?_
        refine spArg_eq 13 rfl rfl ?_
        refine spArg_eq 12 rfl rfl ?_
        refine spArg_eq 11 rfl rfl ?_
        refine spArg_eq 10 rfl rfl ?_
        refine spArg_eq 9 rfl rfl ?_
        refine spArg_eq 8 rfl rfl ?_
        refine spArg_eq 7 rfl rfl ?_
        refine spArg_eq 6 rfl rfl ?_
        refine spArg_eq 5 rfl rfl ?_
        refine spArg_eq 4 rfl rfl ?_
        refine spArg_eq 3 rfl rfl ?_
        refine spArg_eq 2 rfl rfl ?_
        refine spArg_eq 1 rfl rfl ?_
        refine spArg_eq 0 rfl rfl ?_
        refine spArg_nil ?_
        simp only [Act.put, List.setIfInBounds_toArray, List.set_cons_succ, List.set_cons_zero]
        go_wp2_with fail
        go_ret
        exact ⟨by simp, hu.up⟩
      by_cases hw2 : which = 2
      · subst hw2
        have hpos : 0 < OL.e.box.length := by rw [HLB.out]; omega
        have hz0 : (OL.e.box.length == 0) = false := by rw [beq_eq_false_iff_ne]; omega
        have hz1 : ((OL.e.box.length : Int) == 0) = false := by rw [beq_eq_false_iff_ne]; omega
        go_enter Tryz.func4, Tryz.ntmps4
        go_wp2_with (first
          | (go_at_call 9; refine (alive18_any _).mono ?_; rintro e w1 ⟨rfl, hb1⟩; have hkey1 := hk0.out.below hb1; have hbel1 := hb0.out.trans (hb1.mono hb0.out.size))
          | (refine wpList_load_row rfl 23 _ rfl w.heap.size rfl _ (keyA seed) (0, 0) _ hkey1 under_key rfl (by rw [keyA_size, HK.out]; exact info_key) ?_)
          | (go_at_call 10; refine (HRR.out _).mono ?_; rintro e w2 ⟨v2, u2, rfl, hok2, hb2⟩; rw [HD.out]; have hbel2 : Ext w w2 := hbel1.trans (hb2.mono hbel1.size)
             have HP := Lib.hid (show SeesP w2 u2 ps from sees_of_owns (hok2 hr).2)
             clear hok2)
          | (go_at_call 11; refine (HA.out _ _ _ (HP.out.below (Ext.alloc w2 _) (by decide)) (seesB_litF w2 [BV 105, BV 110, BV 115, BV 105, BV 100, BV 101] 5 (6, 7) [105, 110, 115, 105, 100, 101] 6 rfl rfl (by decide))).mono ?_; rintro e w4 ⟨v4, rfl, hown4, hb4⟩
             obtain ⟨a4, c4, rfl, -, -⟩ := owns_form hown4
             have hbel4 : Ext w w4 := Ext.tr hbel2 (Ext.tr (Ext.alloc _ _) hb4))
          | (refine wpList_store_row rfl 36 (.tmp 19) _ rfl w4.heap.size (subC OL (.slice a4 OL.e.box.length c4)) _ _ rfl rfl (Blk.new w4 SubZ _) (subZ_size.trans (HZ.out _).symm) (by rw [HZ.out]; exact info_sub) (one_sub _ _ _ _) ?_; intro x5 hg5 hs5 hR5
             have hbel5 : Ext w x5 := ext_row (Ext.tr hbel4 (Ext.alloc _ _)) hg5 (Below.size hbel4)
             have HB5 := Lib.hid (show OwnB x5 w.heap.size (.slice a4 OL.e.box.length c4) OL.e.box from owns_mono (own_grown (owns_below hown4 (Ext.alloc _ _)) hg5 (RowT.blk (Blk.new _ _ _)) (by decide)) (Nat.le_trans (Below.size hbel2) (Below.size (Ext.alloc w2 _))))
             have HR5 := Lib.hid hR5
             have q32 := sub_x hR5 HU.out; have q33 := sub_box hR5 HU.out
             have q35 : x5.cell? ⟨w4.heap.size, 35, none⟩ = some (.int .u64 OL.p.s) := by rw [hR5.cell]; exact subC_get OL _ HU.out 3
             have q36 : x5.cell? ⟨w4.heap.size, 36, none⟩ = some (.int .u64 OL.g.c) := by rw [hR5.cell]; exact subC_get OL _ HU.out 4
             have f32 := hR5.free 32; have f35 := hR5.free 35; have f36 := hR5.free 36
             skip
             clear hs5 hg5 hR5 hown4)
          | (go_at_call 18; refine (HBS.out _).mono ?_; rintro e_ x_ ⟨rfl, rfl⟩))
        have HG := Lib.hid (Below.size hbel4)
        clear q32 q33 q35 q36 f32 f35 f36
        generalize w4.heap.size = g at *
        have hib : A % OL.e.box.length < OL.e.box.length := Nat.mod_lt _ hpos
        obtain ⟨b4, cur, rfl, hB4, hb4⟩ : ∃ b4 cur, a4 = some ⟨b4, 0, none⟩ ∧ Blk x5 b4 cur 5 ∧ w.heap.size ≤ b4 := by
          rcases HB5.out.2 with ⟨h, h0⟩ | ⟨g', cap, cur, he, hg', hh, _⟩
          · omega
          · injection he with h1 _ _; exact ⟨g', cur, h1, hh, hg'⟩
        have HB4 := Lib.hid hB4; clear hB4
        obtain ⟨y, hy⟩ : ∃ y, OL.e.box[A % OL.e.box.length]? = some y := ⟨_, List.getElem?_eq_getElem hib⟩
        have hcb := Lib.hid (sees_cell (sees_of_owns HB5.out) hpos (A % OL.e.box.length) (BV y) (by rw [List.getElem?_map, hy]; rfl))
        have hdi : decide (OL.e.box.length ≤ A % OL.e.box.length) = false := decide_eq_false (by omega)
        have hst := stabExt x5
        have hk5 : HoldT (fun u => Ext x5 u) w x5.drew := HoldT.drew hst ⟨Ext.refl _, hbel5⟩
        try change Code.wp _ _ _ (Act.mk _ _) _
        refine wp_region_runR Ext 24 144 (HoldT (fun u => Ext x5 u) _) [[], [(0, 81)], [(1, 82)], [], [], [(4, 85)], [(5, 86)], [(6, 87)], [(3, 84), (7, 88)], [], [(9, 90)], [(10, 91)], [], [], [(13, 94)], [(14, 95)], [(15, 96)], [(12, 93), (16, 97)], [(11, 92), (17, 98)], [(18, 99)], [], [(20, 101)], [(19, 100), (21, 102)], [(2, 83), (8, 89)]] [(0, 81), (1, 82), (2, 83), (3, 84), (4, 85), (5, 86), (6, 87), (7, 88), (8, 89), (9, 90), (10, 91), (11, 92), (12, 93), (13, 94), (14, 95), (15, 96), (16, 97), (17, 98), (18, 99), (19, 100), (20, 101), (21, 102), (22, 103), (23, 104)] (by kernel_rfl) (by kernel_rfl) (by first | rfl | simp) (hk5) ?_
        simp only [List.take_succ_cons, List.take_zero, List.drop_succ_cons, List.drop_zero]
        refine sp_op (Ph.eq _) (fun u hu => by
          refine spArg_nil ?_
          have k33 := sub_box (HR5.out.below hu.has) HU.out
          have kb := (Below.cell hu.has (World.block_lt_of_cell? _ _ hcb.out)).trans hcb.out
          rw [Nat.zero_add] at kb
          go_wp2_with (fail)
          exact ⟨rfl, hu, Ext.refl _, slot_eq rfl⟩) ?_
        refine sp_op (Ph.eq _) (fun u hu => by
          refine spArg_eq 0 rfl rfl ?_
          refine spArg_nil ?_
          simp only [Act.put, List.setIfInBounds_toArray, List.set_cons_succ, List.set_cons_zero]
          have k33 := sub_box (HR5.out.below hu.has) HU.out
          have kb := (Below.cell hu.has (World.block_lt_of_cell? _ _ hcb.out)).trans hcb.out
          rw [Nat.zero_add] at kb
          go_wp2_with (fail)
          exact ⟨rfl, hu, Ext.refl _, slot_eq rfl⟩) ?_
        refine sp_op (Ph.eq _) (fun u hu => by
          refine spArg_eq 0 rfl rfl ?_
          refine spArg_nil ?_
          simp only [Act.put, List.setIfInBounds_toArray, List.set_cons_succ, List.set_cons_zero]
          have k33 := sub_box (HR5.out.below hu.has) HU.out
          have kb := (Below.cell hu.has (World.block_lt_of_cell? _ _ hcb.out)).trans hcb.out
          rw [Nat.zero_add] at kb
          go_wp2_with (fail)
          exact ⟨rfl, hu, Ext.refl _, slot_eq rfl⟩) ?_
        refine sp_op (Ph.eq _) (fun u hu => by
          refine spArg_nil ?_
          have k33 := sub_box (HR5.out.below hu.has) HU.out
          have kb := (Below.cell hu.has (World.block_lt_of_cell? _ _ hcb.out)).trans hcb.out
          rw [Nat.zero_add] at kb
          go_wp2_with (fail)
          exact ⟨rfl, hu, Ext.refl _, slot_eq rfl⟩) ?_
        refine sp_op (Ph.eq _) (fun u hu => by
          refine spArg_nil ?_
          have k33 := sub_box (HR5.out.below hu.has) HU.out
          have kb := (Below.cell hu.has (World.block_lt_of_cell? _ _ hcb.out)).trans hcb.out
          rw [Nat.zero_add] at kb
          go_wp2_with (fail)
          exact ⟨rfl, hu, Ext.refl _, slot_eq rfl⟩) ?_
        refine sp_op (Ph.eq _) (fun u hu => by
          refine spArg_eq 0 rfl rfl ?_
          refine spArg_nil ?_
          simp only [Act.put, List.setIfInBounds_toArray, List.set_cons_succ, List.set_cons_zero]
          have k33 := sub_box (HR5.out.below hu.has) HU.out
          have kb := (Below.cell hu.has (World.block_lt_of_cell? _ _ hcb.out)).trans hcb.out
          rw [Nat.zero_add] at kb
          go_wp2_with (fail)
          exact ⟨rfl, hu, Ext.refl _, slot_eq rfl⟩) ?_
        refine sp_op (Ph.eq _) (fun u hu => by
          refine spArg_eq 0 rfl rfl ?_
          refine spArg_nil ?_
          simp only [Act.put, List.setIfInBounds_toArray, List.set_cons_succ, List.set_cons_zero]
          have k33 := sub_box (HR5.out.below hu.has) HU.out
          have kb := (Below.cell hu.has (World.block_lt_of_cell? _ _ hcb.out)).trans hcb.out
          rw [Nat.zero_add] at kb
          go_wp2_with (fail)
          exact ⟨rfl, hu, Ext.refl _, slot_eq rfl⟩) ?_
        refine sp_op (Ph.eq _) (fun u hu => by
          refine spArg_eq 0 rfl rfl ?_
          refine spArg_nil ?_
          simp only [Act.put, List.setIfInBounds_toArray, List.set_cons_succ, List.set_cons_zero]
          have k33 := sub_box (HR5.out.below hu.has) HU.out
          have kb := (Below.cell hu.has (World.block_lt_of_cell? _ _ hcb.out)).trans hcb.out
          rw [Nat.zero_add] at kb
          go_wp2_with (fail)
          exact ⟨rfl, hu, Ext.refl _, slot_eq rfl⟩) ?_
        refine sp_op (Ph.eq _) (fun u hu => by
          refine spArg_eq 4 rfl rfl ?_
          refine spArg_eq 0 rfl rfl ?_
          refine spArg_nil ?_
          simp only [Act.put, List.setIfInBounds_toArray, List.set_cons_succ, List.set_cons_zero]
          have k33 := sub_box (HR5.out.below hu.has) HU.out
          have kb := (Below.cell hu.has (World.block_lt_of_cell? _ _ hcb.out)).trans hcb.out
          rw [Nat.zero_add] at kb
          go_wp2_with (fail)
          exact ⟨rfl, hu, Ext.refl _, slot_eq rfl⟩) ?_
        refine sp_op (Ph.eq _) (fun u hu => by
          refine spArg_nil ?_
          have k33 := sub_box (HR5.out.below hu.has) HU.out
          have kb := (Below.cell hu.has (World.block_lt_of_cell? _ _ hcb.out)).trans hcb.out
          rw [Nat.zero_add] at kb
          go_wp2_with (fail)
          exact ⟨rfl, hu, Ext.refl _, slot_eq rfl⟩) ?_
        refine sp_op (Ph.eq _) (fun u hu => by
          refine spArg_eq 0 rfl rfl ?_
          refine spArg_nil ?_
          simp only [Act.put, List.setIfInBounds_toArray, List.set_cons_succ, List.set_cons_zero]
          have k33 := sub_box (HR5.out.below hu.has) HU.out
          have kb := (Below.cell hu.has (World.block_lt_of_cell? _ _ hcb.out)).trans hcb.out
          rw [Nat.zero_add] at kb
          go_wp2_with (fail)
          exact ⟨rfl, hu, Ext.refl _, slot_eq rfl⟩) ?_
        refine sp_op (Ph.eq _) (fun u hu => by
          refine spArg_eq 0 rfl rfl ?_
          refine spArg_nil ?_
          simp only [Act.put, List.setIfInBounds_toArray, List.set_cons_succ, List.set_cons_zero]
          have k33 := sub_box (HR5.out.below hu.has) HU.out
          have kb := (Below.cell hu.has (World.block_lt_of_cell? _ _ hcb.out)).trans hcb.out
          rw [Nat.zero_add] at kb
          go_wp2_with (fail)
          exact ⟨rfl, hu, Ext.refl _, slot_eq rfl⟩) ?_
        refine sp_op (Ph.eq _) (fun u hu => by
          refine spArg_nil ?_
          have k33 := sub_box (HR5.out.below hu.has) HU.out
          have kb := (Below.cell hu.has (World.block_lt_of_cell? _ _ hcb.out)).trans hcb.out
          rw [Nat.zero_add] at kb
          go_wp2_with (fail)
          exact ⟨rfl, hu, Ext.refl _, slot_eq rfl⟩) ?_
        refine sp_op (Ph.eq _) (fun u hu => by
          refine spArg_nil ?_
          have k33 := sub_box (HR5.out.below hu.has) HU.out
          have kb := (Below.cell hu.has (World.block_lt_of_cell? _ _ hcb.out)).trans hcb.out
          rw [Nat.zero_add] at kb
          go_wp2_with (fail)
          exact ⟨rfl, hu, Ext.refl _, slot_eq rfl⟩) ?_
        refine sp_op (Ph.eq _) (fun u hu => by
          refine spArg_eq 0 rfl rfl ?_
          refine spArg_nil ?_
          simp only [Act.put, List.setIfInBounds_toArray, List.set_cons_succ, List.set_cons_zero]
          have k33 := sub_box (HR5.out.below hu.has) HU.out
          have kb := (Below.cell hu.has (World.block_lt_of_cell? _ _ hcb.out)).trans hcb.out
          rw [Nat.zero_add] at kb
          go_wp2_with (fail)
          exact ⟨rfl, hu, Ext.refl _, slot_eq rfl⟩) ?_
        refine sp_op (Ph.eq _) (fun u hu => by
          refine spArg_eq 0 rfl rfl ?_
          refine spArg_nil ?_
          simp only [Act.put, List.setIfInBounds_toArray, List.set_cons_succ, List.set_cons_zero]
          have k33 := sub_box (HR5.out.below hu.has) HU.out
          have kb := (Below.cell hu.has (World.block_lt_of_cell? _ _ hcb.out)).trans hcb.out
          rw [Nat.zero_add] at kb
          go_wp2_with (fail)
          exact ⟨rfl, hu, Ext.refl _, slot_eq rfl⟩) ?_
        refine sp_op (Ph.eq _) (fun u hu => by
          refine spArg_eq 0 rfl rfl ?_
          refine spArg_nil ?_
          simp only [Act.put, List.setIfInBounds_toArray, List.set_cons_succ, List.set_cons_zero]
          have k33 := sub_box (HR5.out.below hu.has) HU.out
          have kb := (Below.cell hu.has (World.block_lt_of_cell? _ _ hcb.out)).trans hcb.out
          rw [Nat.zero_add] at kb
          go_wp2_with (fail)
          exact ⟨rfl, hu, Ext.refl _, slot_eq rfl⟩) ?_
        refine sp_op (Ph.eq _) (fun u hu => by
          refine spArg_eq 4 rfl rfl ?_
          refine spArg_eq 0 rfl rfl ?_
          refine spArg_nil ?_
          simp only [Act.put, List.setIfInBounds_toArray, List.set_cons_succ, List.set_cons_zero]
          have k33 := sub_box (HR5.out.below hu.has) HU.out
          have kb := (Below.cell hu.has (World.block_lt_of_cell? _ _ hcb.out)).trans hcb.out
          rw [Nat.zero_add] at kb
          go_wp2_with (fail)
          exact ⟨rfl, hu, Ext.refl _, slot_eq rfl⟩) ?_
        refine sp_op (Ph.eq _) (fun u hu => by
          refine spArg_eq 6 rfl rfl ?_
          refine spArg_eq 0 rfl rfl ?_
          refine spArg_nil ?_
          simp only [Act.put, List.setIfInBounds_toArray, List.set_cons_succ, List.set_cons_zero]
          have k33 := sub_box (HR5.out.below hu.has) HU.out
          have kb := (Below.cell hu.has (World.block_lt_of_cell? _ _ hcb.out)).trans hcb.out
          rw [Nat.zero_add] at kb
          go_wp2_with (fail)
          exact ⟨rfl, hu, Ext.refl _, slot_eq rfl⟩) ?_
        refine sp_op (Ph.eq _) (fun u hu => by
          refine spArg_eq 0 rfl rfl ?_
          refine spArg_nil ?_
          simp only [Act.put, List.setIfInBounds_toArray, List.set_cons_succ, List.set_cons_zero]
          have k33 := sub_box (HR5.out.below hu.has) HU.out
          have kb := (Below.cell hu.has (World.block_lt_of_cell? _ _ hcb.out)).trans hcb.out
          rw [Nat.zero_add] at kb
          go_wp2_with (fail)
          exact ⟨rfl, hu, Ext.refl _, slot_eq rfl⟩) ?_
        refine sp_op (Ph.eq _) (fun u hu => by
          refine spArg_nil ?_
          have k33 := sub_box (HR5.out.below hu.has) HU.out
          have kb := (Below.cell hu.has (World.block_lt_of_cell? _ _ hcb.out)).trans hcb.out
          rw [Nat.zero_add] at kb
          go_wp2_with (fail)
          exact ⟨rfl, hu, Ext.refl _, slot_eq rfl⟩) ?_
        refine sp_op (Ph.eq _) (fun u hu => by
          refine spArg_eq 0 rfl rfl ?_
          refine spArg_nil ?_
          simp only [Act.put, List.setIfInBounds_toArray, List.set_cons_succ, List.set_cons_zero]
          have k33 := sub_box (HR5.out.below hu.has) HU.out
          have kb := (Below.cell hu.has (World.block_lt_of_cell? _ _ hcb.out)).trans hcb.out
          rw [Nat.zero_add] at kb
          go_wp2_with (fail)
          exact ⟨rfl, hu, Ext.refl _, slot_eq rfl⟩) ?_
        refine sp_op (Ph.eq _) (fun u hu => by
          refine spArg_eq 2 rfl rfl ?_
          refine spArg_eq 0 rfl rfl ?_
          refine spArg_nil ?_
          simp only [Act.put, List.setIfInBounds_toArray, List.set_cons_succ, List.set_cons_zero]
          have k33 := sub_box (HR5.out.below hu.has) HU.out
          have kb := (Below.cell hu.has (World.block_lt_of_cell? _ _ hcb.out)).trans hcb.out
          rw [Nat.zero_add] at kb
          go_wp2_with (fail)
          exact ⟨rfl, hu, Ext.refl _, slot_eq rfl⟩) ?_
        refine sp_op (Ph.eq _) (fun u hu => by
          refine spArg_eq 20 rfl rfl ?_
          refine spArg_eq 14 rfl rfl ?_
          refine spArg_nil ?_
          simp only [Act.put, List.setIfInBounds_toArray, List.set_cons_succ, List.set_cons_zero]
          have k33 := sub_box (HR5.out.below hu.has) HU.out
          have kb := (Below.cell hu.has (World.block_lt_of_cell? _ _ hcb.out)).trans hcb.out
          rw [Nat.zero_add] at kb
          go_wp2_with (fail)
          exact ⟨rfl, hu, Ext.refl _, slot_eq rfl⟩) ?_
        refine sp_end ?_
        intro u hu
        refine spArg_eq 23 rfl rfl ?_
        refine spArg_eq 22 rfl rfl ?_
        refine spArg_eq 21 rfl rfl ?_
        refine spArg_eq 20 rfl rfl ?_
        refine spArg_eq 19 rfl rfl ?_
        refine spArg_eq 18 rfl rfl ?_
        refine spArg_eq 17 rfl rfl ?_
        refine spArg_eq 16 rfl rfl ?_
        refine spArg_eq 15 rfl rfl ?_
        refine spArg_eq 14 rfl rfl ?_
        refine spArg_eq 13 rfl rfl ?_
        refine spArg_eq 12 rfl rfl ?_
        refine spArg_eq 11 rfl rfl ?_
        refine spArg_eq 10 rfl rfl ?_
        refine spArg_eq 9 rfl rfl ?_
        refine spArg_eq 8 rfl rfl ?_
        refine spArg_eq 7 rfl rfl ?_
        refine spArg_eq 6 rfl rfl ?_
        refine spArg_eq 5 rfl rfl ?_
        refine spArg_eq 4 rfl rfl ?_
        refine spArg_eq 3 rfl rfl ?_
        refine spArg_eq 2 rfl rfl ?_
        refine spArg_eq 1 rfl rfl ?_
        refine spArg_eq 0 rfl rfl ?_
        refine spArg_nil ?_
        simp only [Act.put, List.setIfInBounds_toArray, List.set_cons_succ, List.set_cons_zero]
        have kb := (Below.cell hu.has (World.block_lt_of_cell? _ _ hcb.out)).trans hcb.out
        rw [Nat.zero_add] at kb
        have kf := (HB4.out.below hu.has).free (A % OL.e.box.length)
        go_wp2_with fail
        clear kb kf
        rw [by_u8 by_ by0, xor_u8]
        generalize UInt8.ofNat by_.toNat = bb at *
        have HPF := HPB
        have HRF : Hid (Blk (u.setCell ⟨b4, A % OL.e.box.length, none⟩ (.int .u8 ((y ^^^ bb).toNat : Int))) g (subC ⟨OL.user, ⟨OL.e.x, OL.e.box.set (A % OL.e.box.length) (y ^^^ bb)⟩, OL.p, OL.g⟩ (.slice (some ⟨b4, 0, none⟩) OL.e.box.length c4)) 36) :=
          Lib.hid ((HR5.out.below hu.has).setCell _ _ (by
            have h := (RowT.blk HR5.out).ne (RowT.blk HB4.out) (by decide) g rfl
            intro e; exact h (by rw [e])))
        have HBF := Lib.hid (sees_of_owns (own_setB (owns_below HB5.out hu.has) (A % OL.e.box.length) (y ^^^ bb) hib))
        have hbelF : Ext w (u.setCell ⟨b4, A % OL.e.box.length, none⟩ (.int .u8 ((y ^^^ bb).toNat : Int))) := Below.setCell hu.up hb4 _
        have HOKF : Hid (Sub.ok ⟨OL.user, ⟨OL.e.x, OL.e.box.set (A % OL.e.box.length) (y ^^^ bb)⟩, OL.p, OL.g⟩) := HOK
        have HLF : Hid ((OL.e.box.set (A % OL.e.box.length) (y ^^^ bb)).length ≤ 10000) := Lib.hid (by rw [List.length_set]; exact HLO.out)
        clear hst hk5 hu hcb hy
        generalize u.setCell ⟨b4, A % OL.e.box.length, none⟩ (.int .u8 ((y ^^^ bb).toNat : Int)) = xw at *
        have hstF := stabExt xw
        have hkF : HoldT (fun u => Ext xw u) w (xw).drew := HoldT.drew hstF ⟨Ext.refl _, hbelF⟩
        have HCA := Lib.hid fun (w' : World) (h : SeesB w' (.slice (some ⟨b4, 0, none⟩) OL.e.box.length c4) ((Sub.mk OL.user ⟨OL.e.x, OL.e.box.set (A % OL.e.box.length) (y ^^^ bb)⟩ OL.p OL.g)).e.box) => CheckO_any (Sub.mk OL.user ⟨OL.e.x, OL.e.box.set (A % OL.e.box.length) (y ^^^ bb)⟩ OL.p OL.g) (.slice (some ⟨b4, 0, none⟩) OL.e.box.length c4) PB 7 8 (6 + 16 * (N : Int)) w' HOKF.out HPF.out h (Nat.le_trans HLF.out (by decide))
        have HCB := Lib.hid fun (w' : World) (h : SeesB w' (.slice (some ⟨b4, 0, none⟩) OL.e.box.length c4) ((Sub.mk OL.user ⟨OL.e.x, OL.e.box.set (A % OL.e.box.length) (y ^^^ bb)⟩ OL.p OL.g)).e.box) => CheckOr_any (Sub.mk OL.user ⟨OL.e.x, OL.e.box.set (A % OL.e.box.length) (y ^^^ bb)⟩ OL.p OL.g) (.slice (some ⟨b4, 0, none⟩) OL.e.box.length c4) PB 7 8 (6 + 16 * (N : Int)) w' HOKF.out HPF.out h (Nat.le_trans HLF.out (by decide))
        have HZF := Lib.hid (subC_size (Sub.mk OL.user ⟨OL.e.x, OL.e.box.set (A % OL.e.box.length) (y ^^^ bb)⟩ OL.p OL.g) (.slice (some ⟨b4, 0, none⟩) OL.e.box.length c4) HOKF.out.1)
        generalize checkO (Sub.mk OL.user ⟨OL.e.x, OL.e.box.set (A % OL.e.box.length) (y ^^^ bb)⟩ OL.p OL.g) PB 7 8 (6 + 16 * (N : Int)) = CO at *
        have hst := hstF
        try change Code.wp _ _ _ (Act.mk _ _) _
        refine wp_region_runR Ext 17 144 (HoldT (fun u => Ext xw u) _) [[], [], [], [], [(3, 131)], [(4, 132)], [(0, 128), (1, 129), (2, 130), (5, 133)], [(6, 134)], [], [], [], [], [(11, 139)], [(12, 140)], [(8, 136), (9, 137), (10, 138), (13, 141)], [(7, 135), (14, 142)], [(15, 143)]] [(0, 128), (1, 129), (2, 130), (3, 131), (4, 132), (5, 133), (6, 134), (7, 135), (8, 136), (9, 137), (10, 138), (11, 139), (12, 140), (13, 141), (14, 142), (15, 143), (16, 14)] (by kernel_rfl) (by kernel_rfl) (by first | rfl | simp) (hkF) ?_
        simp only [List.take_succ_cons, List.take_zero, List.drop_succ_cons, List.drop_zero]
        refine sp_op (Ph.eq _) (fun u hu => by
          refine spArg_nil ?_
          go_wp2_with ((refine wpList_load_rowG rfl 36 _ rfl (g) rfl _ _ (0, 0) _ (HRF.out.below hu.has) Tryz.underlying36 rfl (by rw [HZF.out]; exact info_sub) ?_))
          exact ⟨rfl, hu, Ext.refl _, slot_eq rfl⟩) ?_
        refine sp_op (Ph.eq _) (fun u hu => by
          refine spArg_nil ?_
          go_wp2_with (fail)
          exact ⟨rfl, hu, Ext.refl _, slot_eq rfl⟩) ?_
        refine sp_op (Ph.eq _) (fun u hu => by
          refine spArg_nil ?_
          go_wp2_with (fail)
          exact ⟨rfl, hu, Ext.refl _, slot_eq rfl⟩) ?_
        refine sp_op (Ph.eq _) (fun u hu => by
          refine spArg_nil ?_
          go_wp2_with (fail)
          exact ⟨rfl, hu, Ext.refl _, slot_eq rfl⟩) ?_
        refine sp_op (Ph.eq _) (fun u hu => by
          refine spArg_eq 0 rfl rfl ?_
          refine spArg_nil ?_
          simp only [Act.put, List.setIfInBounds_toArray, List.set_cons_succ, List.set_cons_zero]
          go_wp2_with (fail)
          exact ⟨rfl, hu, Ext.refl _, slot_eq rfl⟩) ?_
        refine sp_op (Ph.eq _) (fun u hu => by
          refine spArg_eq 0 rfl rfl ?_
          refine spArg_nil ?_
          simp only [Act.put, List.setIfInBounds_toArray, List.set_cons_succ, List.set_cons_zero]
          go_wp2_with (fail)
          exact ⟨rfl, hu, Ext.refl _, slot_eq rfl⟩) ?_
        refine sp_op (Ph.eq _) (fun u hu => by
          refine spArg_eq 5 rfl rfl ?_
          refine spArg_eq 4 rfl rfl ?_
          refine spArg_eq 3 rfl rfl ?_
          refine spArg_eq 0 rfl rfl ?_
          refine spArg_nil ?_
          simp only [Act.put, List.setIfInBounds_toArray, List.set_cons_succ, List.set_cons_zero]
          go_wp2_with ((go_at_call 17; refine (HCA.out _ (HBF.out.below hu.has (by decide))).mono ?_; rintro e_ x_ ⟨rfl, hb_⟩))
          exact ⟨rfl, HoldT.step hst hu hb_, hb_, slot_eq rfl⟩) ?_
        refine sp_op (Ph.eq _) (fun u hu => by
          refine spArg_eq 0 rfl rfl ?_
          refine spArg_nil ?_
          simp only [Act.put, List.setIfInBounds_toArray, List.set_cons_succ, List.set_cons_zero]
          go_wp2_with ((go_at_call 16; refine (num18b_any _ _).mono ?_; rintro e_ x_ ⟨rfl, rfl⟩))
          exact ⟨rfl, hu, Ext.refl _, slot_eq rfl⟩) ?_
        refine sp_op (Ph.eq _) (fun u hu => by
          refine spArg_nil ?_
          go_wp2_with ((refine wpList_load_rowG rfl 36 _ rfl (g) rfl _ _ (0, 0) _ (HRF.out.below hu.has) Tryz.underlying36 rfl (by rw [HZF.out]; exact info_sub) ?_))
          exact ⟨rfl, hu, Ext.refl _, slot_eq rfl⟩) ?_
        refine sp_op (Ph.eq _) (fun u hu => by
          refine spArg_nil ?_
          go_wp2_with (fail)
          exact ⟨rfl, hu, Ext.refl _, slot_eq rfl⟩) ?_
        refine sp_op (Ph.eq _) (fun u hu => by
          refine spArg_nil ?_
          go_wp2_with (fail)
          exact ⟨rfl, hu, Ext.refl _, slot_eq rfl⟩) ?_
        refine sp_op (Ph.eq _) (fun u hu => by
          refine spArg_nil ?_
          go_wp2_with (fail)
          exact ⟨rfl, hu, Ext.refl _, slot_eq rfl⟩) ?_
        refine sp_op (Ph.eq _) (fun u hu => by
          refine spArg_eq 0 rfl rfl ?_
          refine spArg_nil ?_
          simp only [Act.put, List.setIfInBounds_toArray, List.set_cons_succ, List.set_cons_zero]
          go_wp2_with (fail)
          exact ⟨rfl, hu, Ext.refl _, slot_eq rfl⟩) ?_
        refine sp_op (Ph.eq _) (fun u hu => by
          refine spArg_eq 0 rfl rfl ?_
          refine spArg_nil ?_
          simp only [Act.put, List.setIfInBounds_toArray, List.set_cons_succ, List.set_cons_zero]
          go_wp2_with (fail)
          exact ⟨rfl, hu, Ext.refl _, slot_eq rfl⟩) ?_
        refine sp_op (Ph.eq _) (fun u hu => by
          refine spArg_eq 5 rfl rfl ?_
          refine spArg_eq 4 rfl rfl ?_
          refine spArg_eq 3 rfl rfl ?_
          refine spArg_eq 0 rfl rfl ?_
          refine spArg_nil ?_
          simp only [Act.put, List.setIfInBounds_toArray, List.set_cons_succ, List.set_cons_zero]
          go_wp2_with ((go_at_call 19; refine (HCB.out _ (HBF.out.below hu.has (by decide))).mono ?_; rintro e_ x_ ⟨rfl, hb_⟩))
          exact ⟨rfl, HoldT.step hst hu hb_, hb_, slot_eq rfl⟩) ?_
        refine sp_op (Ph.eq _) (fun u hu => by
          refine spArg_eq 7 rfl rfl ?_
          refine spArg_eq 0 rfl rfl ?_
          refine spArg_nil ?_
          simp only [Act.put, List.setIfInBounds_toArray, List.set_cons_succ, List.set_cons_zero]
          go_wp2_with (fail)
          exact ⟨rfl, hu, Ext.refl _, slot_eq rfl⟩) ?_
        refine sp_op (Ph.eq _) (fun u hu => by
          refine spArg_eq 0 rfl rfl ?_
          refine spArg_nil ?_
          simp only [Act.put, List.setIfInBounds_toArray, List.set_cons_succ, List.set_cons_zero]
          go_wp2_with (fail)
          exact ⟨rfl, hu, Ext.refl _, slot_eq rfl⟩) ?_
        refine sp_end ?_
        intro u hu
        refine spArg_eq 16 rfl rfl ?_
        refine spArg_eq 15 rfl rfl ?_
        refine spArg_eq 14 rfl rfl ?_
        refine spArg_eq 13 rfl rfl ?_
        refine spArg_eq 12 rfl rfl ?_
        refine spArg_eq 11 rfl rfl ?_
        refine spArg_eq 10 rfl rfl ?_
        refine spArg_eq 9 rfl rfl ?_
        refine spArg_eq 8 rfl rfl ?_
        refine spArg_eq 7 rfl rfl ?_
        refine spArg_eq 6 rfl rfl ?_
        refine spArg_eq 5 rfl rfl ?_
        refine spArg_eq 4 rfl rfl ?_
        refine spArg_eq 3 rfl rfl ?_
        refine spArg_eq 2 rfl rfl ?_
        refine spArg_eq 1 rfl rfl ?_
        refine spArg_eq 0 rfl rfl ?_
        refine spArg_nil ?_
        simp only [Act.put, List.setIfInBounds_toArray, List.set_cons_succ, List.set_cons_zero]
        go_wp2_with fail
        go_ret
        exact ⟨by simp, hu.up⟩
      · have e0 : (which == 0) = false := by rw [beq_eq_false_iff_ne]; exact hw0
        have e1 : (which == 1) = false := by rw [beq_eq_false_iff_ne]; exact hw1
        have e2 : (which == 2) = false := by rw [beq_eq_false_iff_ne]; exact hw2
        have e3 : (which == 3) = false := by rw [beq_eq_false_iff_ne]; exact hw3
        have e4 : (which == 4) = false := by rw [beq_eq_false_iff_ne]; exact hw4
        have e5 : (which == 5) = false := by rw [beq_eq_false_iff_ne]; exact hw5
        clear hw0 hw1 hw2 hw3 hw4 hw5
        have HPF := HPB
        go_enter Tryz.func4, Tryz.ntmps4
        go_wp2_with (first
          | (go_at_call 9; refine (alive18_any _).mono ?_; rintro e w1 ⟨rfl, hb1⟩; have hkey1 := hk0.out.below hb1; have hbel1 := hb0.out.trans (hb1.mono hb0.out.size))
          | (refine wpList_load_row rfl 23 _ rfl w.heap.size rfl _ (keyA seed) (0, 0) _ hkey1 under_key rfl (by rw [keyA_size, HK.out]; exact info_key) ?_)
          | (go_at_call 10; refine (HRR.out _).mono ?_; rintro e w2 ⟨v2, u2, rfl, hok2, hb2⟩; rw [HD.out]; have hbel2 : Ext w w2 := hbel1.trans (hb2.mono hbel1.size)
             have HP := Lib.hid (show SeesP w2 u2 ps from sees_of_owns (hok2 hr).2)
             clear hok2)
          | (go_at_call 11; refine (HA.out _ _ _ (HP.out.below (Ext.alloc w2 _) (by decide)) (seesB_litF w2 [BV 105, BV 110, BV 115, BV 105, BV 100, BV 101] 5 (6, 7) [105, 110, 115, 105, 100, 101] 6 rfl rfl (by decide))).mono ?_; rintro e w4 ⟨v4, rfl, hown4, hb4⟩
             obtain ⟨a4, c4, rfl, -, -⟩ := owns_form hown4
             have hbel4 : Ext w w4 := Ext.tr hbel2 (Ext.tr (Ext.alloc _ _) hb4))
          | (refine wpList_store_row rfl 36 (.tmp 19) _ rfl w4.heap.size (subC OL (.slice a4 OL.e.box.length c4)) _ _ rfl rfl (Blk.new w4 SubZ _) (subZ_size.trans (HZ.out _).symm) (by rw [HZ.out]; exact info_sub) (one_sub _ _ _ _) ?_; intro x5 hg5 hs5 hR5
             have hbel5 : Ext w x5 := ext_row (Ext.tr hbel4 (Ext.alloc _ _)) hg5 (Below.size hbel4)
             have HB5 := Lib.hid (show OwnB x5 w.heap.size (.slice a4 OL.e.box.length c4) OL.e.box from owns_mono (own_grown (owns_below hown4 (Ext.alloc _ _)) hg5 (RowT.blk (Blk.new _ _ _)) (by decide)) (Nat.le_trans (Below.size hbel2) (Below.size (Ext.alloc w2 _))))
             have HR5 := Lib.hid hR5
             have q32 := sub_x hR5 HU.out; have q33 := sub_box hR5 HU.out
             have q35 : x5.cell? ⟨w4.heap.size, 35, none⟩ = some (.int .u64 OL.p.s) := by rw [hR5.cell]; exact subC_get OL _ HU.out 3
             have q36 : x5.cell? ⟨w4.heap.size, 36, none⟩ = some (.int .u64 OL.g.c) := by rw [hR5.cell]; exact subC_get OL _ HU.out 4
             have f32 := hR5.free 32; have f35 := hR5.free 35; have f36 := hR5.free 36
             skip
             clear hs5 hg5 hR5 hown4)
          | (go_at_call 18; refine (HBS.out _).mono ?_; rintro e_ x_ ⟨rfl, rfl⟩))
        have HG := Lib.hid (Below.size hbel4)
        clear q32 q33 q35 q36 f32 f35 f36
        generalize w4.heap.size = g at *
        have HRF := HR5; have HBF := Lib.hid (sees_of_owns HB5.out); have HOKF := HOK; have HLF := HLO; have hbelF := hbel5
        have hstF := stabExt x5
        have hkF : HoldT (fun u => Ext x5 u) w (x5).drew := HoldT.drew hstF ⟨Ext.refl _, hbelF⟩
        have HCA := Lib.hid fun (w' : World) (h : SeesB w' (.slice a4 OL.e.box.length c4) (OL).e.box) => CheckO_any OL (.slice a4 OL.e.box.length c4) PB (A : Int) 8 (6 + 16 * (N : Int)) w' HOKF.out HPF.out h (Nat.le_trans HLF.out (by decide))
        have HCB := Lib.hid fun (w' : World) (h : SeesB w' (.slice a4 OL.e.box.length c4) (OL).e.box) => CheckOr_any OL (.slice a4 OL.e.box.length c4) PB (A : Int) 8 (6 + 16 * (N : Int)) w' HOKF.out HPF.out h (Nat.le_trans HLF.out (by decide))
        have HZF := Lib.hid (subC_size OL (.slice a4 OL.e.box.length c4) HOKF.out.1)
        generalize checkO OL PB (A : Int) 8 (6 + 16 * (N : Int)) = CO at *
        have hst := hstF
        try change Code.wp _ _ _ (Act.mk _ _) _
        refine wp_region_runR Ext 17 144 (HoldT (fun u => Ext x5 u) _) [[], [], [], [], [(3, 131)], [(4, 132)], [(0, 128), (1, 129), (2, 130), (5, 133)], [(6, 134)], [], [], [], [], [(11, 139)], [(12, 140)], [(8, 136), (9, 137), (10, 138), (13, 141)], [(7, 135), (14, 142)], [(15, 143)]] [(0, 128), (1, 129), (2, 130), (3, 131), (4, 132), (5, 133), (6, 134), (7, 135), (8, 136), (9, 137), (10, 138), (11, 139), (12, 140), (13, 141), (14, 142), (15, 143), (16, 14)] (by kernel_rfl) (by kernel_rfl) (by first | rfl | simp) (hkF) ?_
        simp only [List.take_succ_cons, List.take_zero, List.drop_succ_cons, List.drop_zero]
        refine sp_op (Ph.eq _) (fun u hu => by
          refine spArg_nil ?_
          go_wp2_with ((refine wpList_load_rowG rfl 36 _ rfl (g) rfl _ _ (0, 0) _ (HRF.out.below hu.has) Tryz.underlying36 rfl (by rw [HZF.out]; exact info_sub) ?_))
          exact ⟨rfl, hu, Ext.refl _, slot_eq rfl⟩) ?_
        refine sp_op (Ph.eq _) (fun u hu => by
          refine spArg_nil ?_
          go_wp2_with (fail)
          exact ⟨rfl, hu, Ext.refl _, slot_eq rfl⟩) ?_
        refine sp_op (Ph.eq _) (fun u hu => by
          refine spArg_nil ?_
          go_wp2_with (fail)
          exact ⟨rfl, hu, Ext.refl _, slot_eq rfl⟩) ?_
        refine sp_op (Ph.eq _) (fun u hu => by
          refine spArg_nil ?_
          go_wp2_with (fail)
          exact ⟨rfl, hu, Ext.refl _, slot_eq rfl⟩) ?_
        refine sp_op (Ph.eq _) (fun u hu => by
          refine spArg_eq 0 rfl rfl ?_
          refine spArg_nil ?_
          simp only [Act.put, List.setIfInBounds_toArray, List.set_cons_succ, List.set_cons_zero]
          go_wp2_with (fail)
          exact ⟨rfl, hu, Ext.refl _, slot_eq rfl⟩) ?_
        refine sp_op (Ph.eq _) (fun u hu => by
          refine spArg_eq 0 rfl rfl ?_
          refine spArg_nil ?_
          simp only [Act.put, List.setIfInBounds_toArray, List.set_cons_succ, List.set_cons_zero]
          go_wp2_with (fail)
          exact ⟨rfl, hu, Ext.refl _, slot_eq rfl⟩) ?_
        refine sp_op (Ph.eq _) (fun u hu => by
          refine spArg_eq 5 rfl rfl ?_
          refine spArg_eq 4 rfl rfl ?_
          refine spArg_eq 3 rfl rfl ?_
          refine spArg_eq 0 rfl rfl ?_
          refine spArg_nil ?_
          simp only [Act.put, List.setIfInBounds_toArray, List.set_cons_succ, List.set_cons_zero]
          go_wp2_with ((go_at_call 17; refine (HCA.out _ (HBF.out.below hu.has (by decide))).mono ?_; rintro e_ x_ ⟨rfl, hb_⟩))
          exact ⟨rfl, HoldT.step hst hu hb_, hb_, slot_eq rfl⟩) ?_
        refine sp_op (Ph.eq _) (fun u hu => by
          refine spArg_eq 0 rfl rfl ?_
          refine spArg_nil ?_
          simp only [Act.put, List.setIfInBounds_toArray, List.set_cons_succ, List.set_cons_zero]
          go_wp2_with ((go_at_call 16; refine (num18b_any _ _).mono ?_; rintro e_ x_ ⟨rfl, rfl⟩))
          exact ⟨rfl, hu, Ext.refl _, slot_eq rfl⟩) ?_
        refine sp_op (Ph.eq _) (fun u hu => by
          refine spArg_nil ?_
          go_wp2_with ((refine wpList_load_rowG rfl 36 _ rfl (g) rfl _ _ (0, 0) _ (HRF.out.below hu.has) Tryz.underlying36 rfl (by rw [HZF.out]; exact info_sub) ?_))
          exact ⟨rfl, hu, Ext.refl _, slot_eq rfl⟩) ?_
        refine sp_op (Ph.eq _) (fun u hu => by
          refine spArg_nil ?_
          go_wp2_with (fail)
          exact ⟨rfl, hu, Ext.refl _, slot_eq rfl⟩) ?_
        refine sp_op (Ph.eq _) (fun u hu => by
          refine spArg_nil ?_
          go_wp2_with (fail)
          exact ⟨rfl, hu, Ext.refl _, slot_eq rfl⟩) ?_
        refine sp_op (Ph.eq _) (fun u hu => by
          refine spArg_nil ?_
          go_wp2_with (fail)
          exact ⟨rfl, hu, Ext.refl _, slot_eq rfl⟩) ?_
        refine sp_op (Ph.eq _) (fun u hu => by
          refine spArg_eq 0 rfl rfl ?_
          refine spArg_nil ?_
          simp only [Act.put, List.setIfInBounds_toArray, List.set_cons_succ, List.set_cons_zero]
          go_wp2_with (fail)
          exact ⟨rfl, hu, Ext.refl _, slot_eq rfl⟩) ?_
        refine sp_op (Ph.eq _) (fun u hu => by
          refine spArg_eq 0 rfl rfl ?_
          refine spArg_nil ?_
          simp only [Act.put, List.setIfInBounds_toArray, List.set_cons_succ, List.set_cons_zero]
          go_wp2_with (fail)
          exact ⟨rfl, hu, Ext.refl _, slot_eq rfl⟩) ?_
        refine sp_op (Ph.eq _) (fun u hu => by
          refine spArg_eq 5 rfl rfl ?_
          refine spArg_eq 4 rfl rfl ?_
          refine spArg_eq 3 rfl rfl ?_
          refine spArg_eq 0 rfl rfl ?_
          refine spArg_nil ?_
          simp only [Act.put, List.setIfInBounds_toArray, List.set_cons_succ, List.set_cons_zero]
          go_wp2_with ((go_at_call 19; refine (HCB.out _ (HBF.out.below hu.has (by decide))).mono ?_; rintro e_ x_ ⟨rfl, hb_⟩))
          exact ⟨rfl, HoldT.step hst hu hb_, hb_, slot_eq rfl⟩) ?_
        refine sp_op (Ph.eq _) (fun u hu => by
          refine spArg_eq 7 rfl rfl ?_
          refine spArg_eq 0 rfl rfl ?_
          refine spArg_nil ?_
          simp only [Act.put, List.setIfInBounds_toArray, List.set_cons_succ, List.set_cons_zero]
          go_wp2_with (fail)
          exact ⟨rfl, hu, Ext.refl _, slot_eq rfl⟩) ?_
        refine sp_op (Ph.eq _) (fun u hu => by
          refine spArg_eq 0 rfl rfl ?_
          refine spArg_nil ?_
          simp only [Act.put, List.setIfInBounds_toArray, List.set_cons_succ, List.set_cons_zero]
          go_wp2_with (fail)
          exact ⟨rfl, hu, Ext.refl _, slot_eq rfl⟩) ?_
        refine sp_end ?_
        intro u hu
        refine spArg_eq 16 rfl rfl ?_
        refine spArg_eq 15 rfl rfl ?_
        refine spArg_eq 14 rfl rfl ?_
        refine spArg_eq 13 rfl rfl ?_
        refine spArg_eq 12 rfl rfl ?_
        refine spArg_eq 11 rfl rfl ?_
        refine spArg_eq 10 rfl rfl ?_
        refine spArg_eq 9 rfl rfl ?_
        refine spArg_eq 8 rfl rfl ?_
        refine spArg_eq 7 rfl rfl ?_
        refine spArg_eq 6 rfl rfl ?_
        refine spArg_eq 5 rfl rfl ?_
        refine spArg_eq 4 rfl rfl ?_
        refine spArg_eq 3 rfl rfl ?_
        refine spArg_eq 2 rfl rfl ?_
        refine spArg_eq 1 rfl rfl ?_
        refine spArg_eq 0 rfl rfl ?_
        refine spArg_nil ?_
        simp only [Act.put, List.setIfInBounds_toArray, List.set_cons_succ, List.set_cons_zero]
        go_wp2_with fail
        go_ret
        exact ⟨by simp, hu.up⟩
    · have hd0 : decide (at_ < 0) = true := decide_eq_true (by omega)
      have hd1 : at_ < 0 := by omega
      go_enter Tryz.func4, Tryz.ntmps4
      go_wp2_with (first
        | (go_at_call 9; refine (alive18_any _).mono ?_; rintro e w1 ⟨rfl, hb1⟩; have hkey1 := hk0.out.below hb1; have hbel1 := hb0.out.trans (hb1.mono hb0.out.size))
        | (refine wpList_load_row rfl 23 _ rfl w.heap.size rfl _ (keyA seed) (0, 0) _ hkey1 under_key rfl (by rw [keyA_size, HK.out]; exact info_key) ?_)
        | (go_at_call 10; refine (LChain_any seed k _ HK.out HKI.out).mono ?_; rintro e w2 ⟨v2, u2, rfl, hok2, hb2⟩; rw [HD.out]; have hbel2 : Ext w w2 := hbel1.trans (hb2.mono hbel1.size)))
      go_ret
      exact ⟨rfl, hbel2⟩
  · have HD := Lib.hid (decide_eq_false hr)
    go_enter Tryz.func4, Tryz.ntmps4
    go_wp2_with (first
      | (go_at_call 9; refine (alive18_any _).mono ?_; rintro e w1 ⟨rfl, hb1⟩; have hkey1 := hk0.out.below hb1; have hbel1 := hb0.out.trans (hb1.mono hb0.out.size))
      | (refine wpList_load_row rfl 23 _ rfl w.heap.size rfl _ (keyA seed) (0, 0) _ hkey1 under_key rfl (by rw [keyA_size, HK.out]; exact info_key) ?_)
      | (go_at_call 10; refine (LChain_any seed k _ HK.out HKI.out).mono ?_; rintro e w2 ⟨v2, u2, rfl, hok2, hb2⟩; rw [HD.out]; have hbel2 : Ext w w2 := hbel1.trans (hb2.mono hbel1.size)))
    go_ret
    exact ⟨rfl, hbel2⟩
end Go.Proofs.YtnmniblaefjekaaGreat
