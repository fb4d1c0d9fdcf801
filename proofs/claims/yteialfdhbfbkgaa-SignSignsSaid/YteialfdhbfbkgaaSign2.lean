/-
  Signing and checking; both programs.
-/
import Derived.Test.YteialfdhbfbkgaaSign1
import Derived.Test.YteialfdhbfbkgaaEqP
namespace Go.Proofs.Yteialfdhbfbkgaa
set_option linter.unusedVariables false
set_option linter.unusedSimpArgs false
open Go Go.RowKit

theorem Public_any (e : Int) (w : World) (he0 : 0 ≤ e) (he : e < 18446744073709551616) :
    Calls Try.prog 39 #[.int .u64 e] w fun e_ w' => e_ = .returned (.int .u64 (timesP 37 e)) ∧ w = w' := by
  go_enter Try.func39, Try.ntmps39
  go_wp2_with (go_at_call 68; refine (Base_any _ _ (by omega) (by omega)).mono ?_; rintro e_ w' ⟨rfl, rfl⟩)
  go_ret
  exact ⟨rfl, rfl⟩

set_option maxRecDepth 100000 in
set_option maxHeartbeats 1000000 in
theorem Sign_any (x : Int) (b : List UInt8) (v : Value) (w : World) (hx : in64 x) (hv : SeesB w v b) (hl : b.length ≤ 70368744170000) :
    Calls Try.prog 37 #[.int .u64 x, v] w fun e w' => e = .returned (PV (signC x b) (signS x b)) ∧ Below w.heap.size w w' := by
  obtain ⟨x0, x1⟩ := hx
  obtain ⟨a0, c0, rfl, hac0, hc0⟩ := sees_form hv
  obtain ⟨d0, d1⟩ := sigD_pos x b
  have HD := Lib.hid (show sigD x b = ofN (mac (put64 x.toNat) b) from rfl)
  have HC0 : signC x b = sigC (timesP 37 x) (timesP 37 (sigD x b)) b := rfl
  have HS0 : signS x b = ansP (signC x b) x (sigD x b) := rfl
  obtain ⟨e0, e1⟩ := signC_pos x b
  obtain ⟨f0, f1⟩ := timesP_pos 37 x
  obtain ⟨g0, g1⟩ := timesP_pos 37 (sigD x b)
  generalize sigD x b = D at *
  generalize signS x b = S at *
  generalize signC x b = C at *
  have HC := Lib.hid HC0; have HS := Lib.hid HS0; clear HC0 HS0
  have hR0 := Lib.hid (Blk.new w #[.int .u64 0, .int .u64 0] 43)
  have hB0 := Lib.hid (show Below w.heap.size w (w.alloc (.cells #[.int .u64 0, .int .u64 0] 43)) by go_grown)
  go_enter Try.func37, Try.ntmps37
  go_wp2_with (first
    | (go_at_call 66; refine (Put64_any _ _ [] _ (Sees.nil _ _) (by omega) (by omega) (by simp)).mono ?_; rintro e w1 ⟨v1, rfl, hown1, hb1⟩; obtain ⟨a1, c1, rfl, hac1, hc1⟩ := owns_form hown1
       have hR1 := hR0.out.below hb1
       have hbel1 := hB0.out.trans (hb1.mono hB0.out.size))
    | (go_at_call 65; refine (MacOf_any _ _ _ (put64 x.toNat) b (sees_of_owns hown1) (hv.below hbel1 (by decide)) (by rw [length_put64]; decide) hl).mono ?_; rintro e w2 ⟨rfl, hb2⟩
       have hR2 := hR1.below hb2
       have hbel2 := hbel1.trans (hb2.mono hbel1.size))
    | (refine wpList_store_row rfl 23 _ _ rfl w2.heap.size (keyA (mac (put64 x.toNat) b)) _ _ rfl rfl (Blk.new _ _ _) (by rw [keyA_size, length_mac]; rfl) (by rw [keyA_size, length_mac]; exact info_key) (keyA_one _) ?_; intro w3 hg3 hs3 hK3
       have hsee := seesB_key hK3 (length_mac _ _)
       have hR3 := (hR2.alloc (.cells _ _)).grownBy hg3 (some_ne (by have := hR2.lt; omega))
       have hbel3 : Below w.heap.size w w3 := (hbel2.alloc hbel2.size _).grown hg3 (by simp only [World.size_alloc]; exact Nat.le_succ_of_le hbel2.size) (fun k hk => by cases hk; exact hbel2.size))
    | (go_at_call 58; refine (Of_any _ _ (mac (put64 x.toNat) b) hsee (by rw [length_mac]; decide)).mono ?_; rintro e w4 ⟨rfl, n4, rfl⟩; rw [← HD.out])
    | (go_at_call 39; refine (Public_any x _ (by omega) (by omega)).mono ?_; rintro e w5 ⟨rfl, rfl⟩)
    | (go_at_call 68; refine (Base_any D _ (by omega) (by omega)).mono ?_; rintro e w5 ⟨rfl, rfl⟩)
    | (go_at_call 67; refine (sigC_any _ _ b _ _ ⟨by omega, by omega⟩ ⟨by omega, by omega⟩ ((hv.below hbel3 (by decide)).drewN n4) hl).mono ?_; rintro e w6 ⟨rfl, hb6⟩; rw [← HC.out]
       have hR6 := Blk.below (hR3.drewN n4) hb6
       have hbel6 := (below_drewN hbel3 n4).trans (hb6.mono (below_drewN hbel3 n4).size))
    | (go_at_call 51; refine (Answer_any C x D _ (by omega) (by omega) (by omega) (by omega) (by omega) (by omega)).mono ?_; rintro e w7 ⟨rfl, n7, rfl⟩; rw [← HS.out])
    | (refine wpList_store_row rfl 43 _ _ rfl w.heap.size #[.int .u64 C, .int .u64 S] _ _ rfl rfl (hR6.drewN n7) (by rw [pv_size, pv_size]) (by rw [pv_size]; exact info_proof) (pv_one _ _) ?_; intro w8 hg8 hs8 hR8))
  have hbel8 := (below_drewN hbel6 n7).grown hg8 (below_drewN hbel6 n7).size (fun k hk => by cases hk; exact Nat.le_refl _)
  exact bodyPost_ret (results_cell_row Try.results37 _ _ w.heap.size _ _ (0, 0) _ rfl hR8 Try.underlying43 rfl (by rw [pv_size]; exact info_proof)) rfl ⟨rfl, hbel8⟩
set_option maxRecDepth 100000 in
set_option maxHeartbeats 1000000 in
theorem Signr_any (x : Int) (b : List UInt8) (v : Value) (w : World) (hx : in64 x) (hv : SeesB w v b) (hl : b.length ≤ 70368744170000) :
    Calls Try.prog 42 #[.int .u64 x, v] w fun e w' => e = .returned (PV (signC x b) (signS x b)) ∧ Below w.heap.size w w' := by
  obtain ⟨x0, x1⟩ := hx
  obtain ⟨a0, c0, rfl, hac0, hc0⟩ := sees_form hv
  obtain ⟨d0, d1⟩ := sigD_pos x b
  have HD := Lib.hid (show sigD x b = ofN (mac (put64 x.toNat) b) from rfl)
  have HC0 : signC x b = sigC (timesP 37 x) (timesP 37 (sigD x b)) b := rfl
  have HS0 : signS x b = ansP (signC x b) x (sigD x b) := rfl
  obtain ⟨e0, e1⟩ := signC_pos x b
  obtain ⟨f0, f1⟩ := timesP_pos 37 x
  obtain ⟨g0, g1⟩ := timesP_pos 37 (sigD x b)
  generalize sigD x b = D at *
  generalize signS x b = S at *
  generalize signC x b = C at *
  have HC := Lib.hid HC0; have HS := Lib.hid HS0; clear HC0 HS0
  have hR0 := Lib.hid (Blk.new w #[.int .u64 0, .int .u64 0] 43)
  have hB0 := Lib.hid (show Below w.heap.size w (w.alloc (.cells #[.int .u64 0, .int .u64 0] 43)) by go_grown)
  go_enter Try.func42, Try.ntmps42
  go_wp2_with (first
    | (go_at_call 71; refine (Put64r_any _ _ [] _ (Sees.nil _ _) (by omega) (by omega) (by simp)).mono ?_; rintro e w1 ⟨v1, rfl, hown1, hb1⟩; obtain ⟨a1, c1, rfl, hac1, hc1⟩ := owns_form hown1
       have hR1 := hR0.out.below hb1
       have hbel1 := hB0.out.trans (hb1.mono hB0.out.size))
    | (go_at_call 70; refine (Macr_any _ _ _ (put64 x.toNat) b (sees_of_owns hown1) (hv.below hbel1 (by decide)) (by rw [length_put64]; decide) hl).mono ?_; rintro e w2 ⟨rfl, hb2⟩
       have hR2 := hR1.below hb2
       have hbel2 := hbel1.trans (hb2.mono hbel1.size))
    | (refine wpList_store_row rfl 23 _ _ rfl w2.heap.size (keyA (mac (put64 x.toNat) b)) _ _ rfl rfl (Blk.new _ _ _) (by rw [keyA_size, length_mac]; rfl) (by rw [keyA_size, length_mac]; exact info_key) (keyA_one _) ?_; intro w3 hg3 hs3 hK3
       have hsee := seesB_key hK3 (length_mac _ _)
       have hR3 := (hR2.alloc (.cells _ _)).grownBy hg3 (some_ne (by have := hR2.lt; omega))
       have hbel3 : Below w.heap.size w w3 := (hbel2.alloc hbel2.size _).grown hg3 (by simp only [World.size_alloc]; exact Nat.le_succ_of_le hbel2.size) (fun k hk => by cases hk; exact hbel2.size))
    | (go_at_call 61; refine (OfN_any _ _ (mac (put64 x.toNat) b) hsee (by rw [length_mac]; decide)).mono ?_; rintro e w4 ⟨rfl, n4, rfl⟩; rw [← HD.out])
    | (go_at_call 41; refine (Baser_any x _ (by omega) (by omega)).mono ?_; rintro e w5 ⟨rfl, rfl⟩)
    | (go_at_call 41; refine (Baser_any D _ (by omega) (by omega)).mono ?_; rintro e w5 ⟨rfl, rfl⟩)
    | (go_at_call 69; refine (sigCr_any _ _ b _ _ ⟨by omega, by omega⟩ ⟨by omega, by omega⟩ ((hv.below hbel3 (by decide)).drewN n4) hl).mono ?_; rintro e w6 ⟨rfl, hb6⟩; rw [← HC.out]
       have hR6 := Blk.below (hR3.drewN n4) hb6
       have hbel6 := (below_drewN hbel3 n4).trans (hb6.mono (below_drewN hbel3 n4).size))
    | (go_at_call 62; refine (Answerr_any C x D _ (by omega) (by omega) (by omega) (by omega) (by omega) (by omega)).mono ?_; rintro e w7 ⟨rfl, n7, rfl⟩; rw [← HS.out])
    | (refine wpList_store_row rfl 43 _ _ rfl w.heap.size #[.int .u64 C, .int .u64 S] _ _ rfl rfl (hR6.drewN n7) (by rw [pv_size, pv_size]) (by rw [pv_size]; exact info_proof) (pv_one _ _) ?_; intro w8 hg8 hs8 hR8))
  have hbel8 := (below_drewN hbel6 n7).grown hg8 (below_drewN hbel6 n7).size (fun k hk => by cases hk; exact Nat.le_refl _)
  exact bodyPost_ret (results_cell_row Try.results42 _ _ w.heap.size _ _ (0, 0) _ rfl hR8 Try.underlying43 rfl (by rw [pv_size]; exact info_proof)) rfl ⟨rfl, hbel8⟩
end Go.Proofs.Yteialfdhbfbkgaa
