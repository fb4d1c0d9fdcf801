/-
  Bytes turned: the reference.
-/
import Derived.Test.YteialfdhbfbkgaaSeal1
namespace Go.Proofs.Yteialfdhbfbkgaa
set_option linter.unusedVariables false
set_option linter.unusedSimpArgs false
open Go Go.RowKit

abbrev KC (B : Nat) (key : List UInt8) (u : World) : Prop := Blk u B (keyA key) 23
theorem stabKC (B : Nat) (key : List UInt8) : Stab (KC B key) := Stab.blk _ _ _
def StreamRel (w : World) (H : Nat) (key b : List UInt8) (v i : Value) (wr : World) : Prop :=
  ∃ n : Nat, n ≤ b.length ∧ i = .int .i64 n ∧ wr.ownsRow (w.heap.size + 1) 5 1 v b.length ((turnTo key b n).map BV) ∧ KC w.heap.size key wr ∧
    (∃ hs : List UInt8, KC H hs wr ∧ hs.length = 32 ∧ (n % 32 ≠ 0 → hs = mac key ([115] ++ put64 (n / 32)))) ∧ Below w.heap.size w wr

def KO (W : Nat) (key : List UInt8) (g c m : Nat) (l : List UInt8) (u : World) : Prop := KC W key u ∧ u.ownsRow (W + 1) 5 1 (.slice (some ⟨g, 0, none⟩) m c) m (l.map BV)
theorem stabKO (W : Nat) (key : List UInt8) (g c m : Nat) (l : List UInt8) : Stab (KO W key g c m l) := fun _ _ h hb => ⟨h.1.below hb, owns_below h.2 hb⟩
set_option maxRecDepth 100000 in
set_option maxHeartbeats 2000000 in
theorem stream_any (key b : List UInt8) (v : Value) (w : World) (hk : key.length = 32) (hv : SeesB w v b) (hl : b.length ≤ 70368744170000) :
    Calls Try.prog 108 #[.agg (keyA key), v] w (RetB (turnL key b) w) := by
  have HK := Lib.hid hk; clear hk
  obtain ⟨a0, c0, rfl, hac0, hc0⟩ := sees_form hv
  have hk0 := Lib.hid (show KC w.heap.size key (w.alloc (.cells (keyA key) 23)) from Blk.new _ _ _)
  have hb0 := Lib.hid (show Below w.heap.size w (w.alloc (.cells (keyA key) 23)) by go_grown)
  go_enter Try.func108, Try.ntmps108
  go_wp2_with (first
    | (at_builtin; refine appB (W := w.alloc (.cells (keyA key) 23)) rfl _ _ rfl (.slice none 0 0) [] rfl (ownB_nil _ _) _ b rfl (hv.below hb0.out (by decide)) (by simp only [List.length_nil]; omega) (Below.refl _ _) ?_; intro v1 w1 hown1 hgr1 hb1; clear hgr1; rw [List.nil_append] at hown1; obtain ⟨a1, c1, rfl, hc1, hc1'⟩ := owns_form hown1)
    | (refine wpList_allocB rfl _ rfl _ run_allocKey ?_; intro w2 H hH hHB e2))
  have hst := Lib.hid (show StreamRel w H key b (.slice a1 b.length c1) (.int .i64 0) w2 from ⟨0, by omega, rfl, by rw [turnTo_zero]; exact owns_below (owns_mono hown1 (by simp only [World.size_alloc]; exact Nat.le_refl _)) e2, (hk0.out.below hb1).below e2, ⟨_, hH, List.length_replicate .., fun h => absurd rfl h⟩, (hb0.out.trans (hb1.mono hb0.out.size)).trans (Below.mono e2 (Nat.le_trans hb0.out.size hb1.size))⟩)
  have hHw : w.heap.size < H := Nat.lt_of_lt_of_le (hk0.out.below hb1).lt hHB
  have hHown : ∀ g, (Value.slice a1 b.length c1).ownBlock = some g → g < H := fun g h => Nat.lt_of_lt_of_le (hown1.lt g h).2 hHB
  clear hown1 hb1 e2 hH
  go_loopw [7] (fun i wr => StreamRel w H key b (.slice a1 b.length c1) i wr) (fun i _ => b.length + 40 - (intOf i).toNat)
  case atStart => exact hst.out
  case round =>
    clear hst
    obtain ⟨n, hn, rfl, hown, hB, ⟨hs, hHr, hhs, hhe⟩, hbel⟩ := hrel
    by_cases hlt : n < b.length
    · rcases hown.2 with ⟨h', h0⟩ | ⟨g, cap, cur, h', hg, _, hgc, hgm, _, _⟩
      · omega
      obtain ⟨rfl, rfl⟩ : a1 = some ⟨g, 0, none⟩ ∧ c1 = cap := by simpa using h'
      clear h'
      have hgH : g < H := hHown g rfl
      obtain ⟨S, hS⟩ : ∃ S, mac key ([115] ++ put64 (n / 32)) = S := ⟨_, rfl⟩
      have hSL : S.length = 32 := by rw [← hS]; exact length_mac _ _
      have HS := Lib.hid hS; have HSL := Lib.hid hSL
      clear hSL
      by_cases hm : n % 32 = 0
      · clear hS hhe
        have hmi : ((n : Int) % 32 == 0) = true := by rw [beq_iff_eq]; omega
        have hA32 : ((n : Int) / 32).toNat = n / 32 := by omega
        go_wp2_with fail
        have hstab := stabKO w.heap.size key g c1 b.length (turnTo key b n)
        have hk : HoldT (KO w.heap.size key g c1 b.length (turnTo key b n)) w wr.drew := ⟨⟨hB.drew, owns_below hown (Below.drew (Below.refl _ _))⟩, hbel.drew⟩
        have e0 := Ext.drew wr
        try change Code.wp _ _ _ (Act.mk _ _) _
        haveI hne_ : Nonempty (InC (KO w.heap.size key g c1 b.length (turnTo key b n))) := ⟨⟨_, (hk).1⟩⟩
        refine wp_region_tr (C := fun w_ => ∃ e_ : InC (KO w.heap.size key g c1 b.length (turnTo key b n)), w_ = e_.u) (.step [0, 2, 3, 4] (.alt 1 (.step [] (.alt 5 (.step [] (.alt 6 (.step [] (.alt 7 (.fin []) .nil)) .nil)) .nil)) .nil)) (by kernel_rfl) (by kernel_rfl) (fun _ _ _ _ hd_ h_ => ⟨hd_.symm.trans h_.1, h_.2⟩) ⟨⟨World.drew _, (hk).1⟩, rfl⟩ ?_
        have hk_ := hk
        refine wpTr_step ?_
        simp only [pickOps, List.flatMap_cons, List.flatMap_nil, List.drop_succ_cons, List.drop_zero, List.take_succ_cons, List.take_zero, List.cons_append, List.nil_append, List.append_nil]
        iterate 4 (go_big_quiet_step (exact rfl))
        refine wpQuiet_nil ?_
        refine wpTr_one ?_
        simp only [pickOps, List.flatMap_cons, List.flatMap_nil, List.drop_succ_cons, List.drop_zero, List.take_succ_cons, List.take_zero, List.cons_append, List.nil_append, List.append_nil]
        go_wp2_with (first
          | (refine wpList_lit1 rfl _ rfl 115 rfl ?_; intro x1 B1 hlit hB1 e1; have hk1 := HoldT.step hstab (by with_reducible assumption) e1)
          | (go_at_call 71; refine (Put64r_any _ _ [115] _ (hlit.below (show Ext x1 _ from (by first | with_reducible exact Ext.refl _ | solve_by_elim (maxDepth := 8) [Ext.tr])) (by decide)) (by omega) (by omega) (by decide)).mono ?_; rintro e x3 ⟨v3, rfl, hown3, hb3⟩; rw [hA32] at hown3; obtain ⟨a3, c3, rfl, hc3, hc3'⟩ := owns_form hown3; have e3 : Ext _ x3 := hb3; have hk3 := HoldT.step hstab (by with_reducible assumption) e3)
          | (go_at_call 70; refine (Macr_any _ _ _ key ([115] ++ put64 (n / 32)) (seesB_key (show HoldT (KO w.heap.size key g c1 b.length (turnTo key b n)) w _ from by with_reducible assumption).has.1 HK.out) ((sees_of_owns hown3).below (show Ext x3 _ from (by first | with_reducible exact Ext.refl _ | solve_by_elim (maxDepth := 8) [Ext.tr])) (by decide)) (by rw [HK.out]; omega) (by rw [List.length_append, length_put64]; decide)).mono ?_; rintro e x4 ⟨rfl, hb4⟩; rw [HS.out]; have e4 : Ext _ x4 := hb4; have hk4 := HoldT.step hstab (by with_reducible assumption) e4)
          | (refine wpList_store_row rfl 23 _ _ rfl H (keyA S) _ _ rfl rfl (hHr.below (show Ext wr _ from (by first | with_reducible exact Ext.refl _ | solve_by_elim (maxDepth := 8) [Ext.tr]))) (by rw [keyA_size, keyA_size, HSL.out, hhs]) (by rw [keyA_size, HSL.out]; exact info_key) (keyA_one _) ?_; intro x5 hg7 hs7 hHx
             have hk5 : HoldT (KO w.heap.size key g c1 b.length (turnTo key b n)) w x5 := ⟨⟨hk4.has.1.grownBy hg7 (some_ne (by omega)), hk4.has.2.kept hg7 (Or.inr (show some g ≠ some H from some_ne (by omega)))⟩, hk4.up.grown hg7 hk4.up.size (fun k hk => by cases hk; omega)⟩))
        refine phPost_hold (by first | with_reducible assumption | exact HoldT.alloc hstab (by with_reducible assumption) _ | exact HoldT.alloc hstab (HoldT.alloc hstab (by with_reducible assumption) _) _) ?_
        intro hk_
        refine wpTr_step ?_
        simp only [pickOps, List.flatMap_nil]
        refine wpQuiet_nil ?_
        refine wpTr_one ?_
        simp only [pickOps, List.flatMap_cons, List.flatMap_nil, List.drop_succ_cons, List.drop_zero, List.take_succ_cons, List.take_zero, List.cons_append, List.nil_append, List.append_nil]
        go_wp2_with (first
          | (refine wpList_lit1 rfl _ rfl 115 rfl ?_; intro x1 B1 hlit hB1 e1; have hk1 := HoldT.step hstab (by with_reducible assumption) e1)
          | (go_at_call 71; refine (Put64r_any _ _ [115] _ (hlit.below (show Ext x1 _ from (by first | with_reducible exact Ext.refl _ | solve_by_elim (maxDepth := 8) [Ext.tr])) (by decide)) (by omega) (by omega) (by decide)).mono ?_; rintro e x3 ⟨v3, rfl, hown3, hb3⟩; rw [hA32] at hown3; obtain ⟨a3, c3, rfl, hc3, hc3'⟩ := owns_form hown3; have e3 : Ext _ x3 := hb3; have hk3 := HoldT.step hstab (by with_reducible assumption) e3)
          | (go_at_call 70; refine (Macr_any _ _ _ key ([115] ++ put64 (n / 32)) (seesB_key (show HoldT (KO w.heap.size key g c1 b.length (turnTo key b n)) w _ from by with_reducible assumption).has.1 HK.out) ((sees_of_owns hown3).below (show Ext x3 _ from (by first | with_reducible exact Ext.refl _ | solve_by_elim (maxDepth := 8) [Ext.tr])) (by decide)) (by rw [HK.out]; omega) (by rw [List.length_append, length_put64]; decide)).mono ?_; rintro e x4 ⟨rfl, hb4⟩; rw [HS.out]; have e4 : Ext _ x4 := hb4; have hk4 := HoldT.step hstab (by with_reducible assumption) e4)
          | (refine wpList_store_row rfl 23 _ _ rfl H (keyA S) _ _ rfl rfl (hHr.below (show Ext wr _ from (by first | with_reducible exact Ext.refl _ | solve_by_elim (maxDepth := 8) [Ext.tr]))) (by rw [keyA_size, keyA_size, HSL.out, hhs]) (by rw [keyA_size, HSL.out]; exact info_key) (keyA_one _) ?_; intro x5 hg7 hs7 hHx
             have hk5 : HoldT (KO w.heap.size key g c1 b.length (turnTo key b n)) w x5 := ⟨⟨hk4.has.1.grownBy hg7 (some_ne (by omega)), hk4.has.2.kept hg7 (Or.inr (show some g ≠ some H from some_ne (by omega)))⟩, hk4.up.grown hg7 hk4.up.size (fun k hk => by cases hk; omega)⟩))
        refine phPost_hold (by first | with_reducible assumption | exact HoldT.alloc hstab (by with_reducible assumption) _ | exact HoldT.alloc hstab (HoldT.alloc hstab (by with_reducible assumption) _) _) ?_
        intro hk_
        refine wpTr_step ?_
        simp only [pickOps, List.flatMap_nil]
        refine wpQuiet_nil ?_
        refine wpTr_one ?_
        simp only [pickOps, List.flatMap_cons, List.flatMap_nil, List.drop_succ_cons, List.drop_zero, List.take_succ_cons, List.take_zero, List.cons_append, List.nil_append, List.append_nil]
        go_wp2_with (first
          | (refine wpList_lit1 rfl _ rfl 115 rfl ?_; intro x1 B1 hlit hB1 e1; have hk1 := HoldT.step hstab (by with_reducible assumption) e1)
          | (go_at_call 71; refine (Put64r_any _ _ [115] _ (hlit.below (show Ext x1 _ from (by first | with_reducible exact Ext.refl _ | solve_by_elim (maxDepth := 8) [Ext.tr])) (by decide)) (by omega) (by omega) (by decide)).mono ?_; rintro e x3 ⟨v3, rfl, hown3, hb3⟩; rw [hA32] at hown3; obtain ⟨a3, c3, rfl, hc3, hc3'⟩ := owns_form hown3; have e3 : Ext _ x3 := hb3; have hk3 := HoldT.step hstab (by with_reducible assumption) e3)
          | (go_at_call 70; refine (Macr_any _ _ _ key ([115] ++ put64 (n / 32)) (seesB_key (show HoldT (KO w.heap.size key g c1 b.length (turnTo key b n)) w _ from by with_reducible assumption).has.1 HK.out) ((sees_of_owns hown3).below (show Ext x3 _ from (by first | with_reducible exact Ext.refl _ | solve_by_elim (maxDepth := 8) [Ext.tr])) (by decide)) (by rw [HK.out]; omega) (by rw [List.length_append, length_put64]; decide)).mono ?_; rintro e x4 ⟨rfl, hb4⟩; rw [HS.out]; have e4 : Ext _ x4 := hb4; have hk4 := HoldT.step hstab (by with_reducible assumption) e4)
          | (refine wpList_store_row rfl 23 _ _ rfl H (keyA S) _ _ rfl rfl (hHr.below (show Ext wr _ from (by first | with_reducible exact Ext.refl _ | solve_by_elim (maxDepth := 8) [Ext.tr]))) (by rw [keyA_size, keyA_size, HSL.out, hhs]) (by rw [keyA_size, HSL.out]; exact info_key) (keyA_one _) ?_; intro x5 hg7 hs7 hHx
             have hk5 : HoldT (KO w.heap.size key g c1 b.length (turnTo key b n)) w x5 := ⟨⟨hk4.has.1.grownBy hg7 (some_ne (by omega)), hk4.has.2.kept hg7 (Or.inr (show some g ≠ some H from some_ne (by omega)))⟩, hk4.up.grown hg7 hk4.up.size (fun k hk => by cases hk; omega)⟩))
        refine phPost_hold (by first | with_reducible assumption | exact HoldT.alloc hstab (by with_reducible assumption) _ | exact HoldT.alloc hstab (HoldT.alloc hstab (by with_reducible assumption) _) _) ?_
        intro hk_
        refine wpTr_step ?_
        simp only [pickOps, List.flatMap_nil]
        refine wpQuiet_nil ?_
        refine wpTr_one ?_
        simp only [pickOps, List.flatMap_cons, List.flatMap_nil, List.drop_succ_cons, List.drop_zero, List.take_succ_cons, List.take_zero, List.cons_append, List.nil_append, List.append_nil]
        go_wp2_with (first
          | (refine wpList_lit1 rfl _ rfl 115 rfl ?_; intro x1 B1 hlit hB1 e1; have hk1 := HoldT.step hstab (by with_reducible assumption) e1)
          | (go_at_call 71; refine (Put64r_any _ _ [115] _ (hlit.below (show Ext x1 _ from (by first | with_reducible exact Ext.refl _ | solve_by_elim (maxDepth := 8) [Ext.tr])) (by decide)) (by omega) (by omega) (by decide)).mono ?_; rintro e x3 ⟨v3, rfl, hown3, hb3⟩; rw [hA32] at hown3; obtain ⟨a3, c3, rfl, hc3, hc3'⟩ := owns_form hown3; have e3 : Ext _ x3 := hb3; have hk3 := HoldT.step hstab (by with_reducible assumption) e3)
          | (go_at_call 70; refine (Macr_any _ _ _ key ([115] ++ put64 (n / 32)) (seesB_key (show HoldT (KO w.heap.size key g c1 b.length (turnTo key b n)) w _ from by with_reducible assumption).has.1 HK.out) ((sees_of_owns hown3).below (show Ext x3 _ from (by first | with_reducible exact Ext.refl _ | solve_by_elim (maxDepth := 8) [Ext.tr])) (by decide)) (by rw [HK.out]; omega) (by rw [List.length_append, length_put64]; decide)).mono ?_; rintro e x4 ⟨rfl, hb4⟩; rw [HS.out]; have e4 : Ext _ x4 := hb4; have hk4 := HoldT.step hstab (by with_reducible assumption) e4)
          | (refine wpList_store_row rfl 23 _ _ rfl H (keyA S) _ _ rfl rfl (hHr.below (show Ext wr _ from (by first | with_reducible exact Ext.refl _ | solve_by_elim (maxDepth := 8) [Ext.tr]))) (by rw [keyA_size, keyA_size, HSL.out, hhs]) (by rw [keyA_size, HSL.out]; exact info_key) (keyA_one _) ?_; intro x5 hg7 hs7 hHx
             have hk5 : HoldT (KO w.heap.size key g c1 b.length (turnTo key b n)) w x5 := ⟨⟨hk4.has.1.grownBy hg7 (some_ne (by omega)), hk4.has.2.kept hg7 (Or.inr (show some g ≠ some H from some_ne (by omega)))⟩, hk4.up.grown hg7 hk4.up.size (fun k hk => by cases hk; omega)⟩))
        refine phPost_hold (by first | with_reducible assumption | exact HoldT.alloc hstab (by with_reducible assumption) _ | exact HoldT.alloc hstab (HoldT.alloc hstab (by with_reducible assumption) _) _) ?_
        intro hk_
        refine wpTr_fin ?_
        simp only [pickOps, List.flatMap_nil]
        refine wpQuiet_nil ?_
        have hBx := hk5.has.1
        have hownx := hk5.has.2
        have hbelx := hk5.up
        have hnS : Hid (strm key n = S.getD (n % 32) 0) := Lib.hid (by unfold strm; rw [HS.out])
        obtain ⟨hc1x, hf1⟩ := own_cell hownx n (b.getD n 0) (by rw [turnTo_get _ _ _ _ hlt, if_neg (by omega)])
        have hcs : x5.cell? ⟨H, n % 32, none⟩ = some (BV (strm key n)) := by
          rw [hHx.cell, hnS.out, keyA, List.getElem?_toArray, List.getElem?_map, List.getD_eq_getElem?_getD, List.getElem?_eq_getElem (by rw [HSL.out]; omega)]; rfl
        have HT := Lib.hid (turnTo_set key b n)
        generalize b.getD n 0 = p1 at *
        generalize strm key n = q1 at *
        have hx := xor_u8 p1 q1
        rw [hm] at hcs
        go_wp2_with fail
        refine wp_region_quiet_tail 12 (by kernel_rfl) (by kernel_rfl) ?_
        simp only [List.take_succ_cons, List.take_zero, List.drop_succ_cons, List.drop_zero]
        iterate 12 (go_big_quiet_step (fail))
        refine wpQuiet_nil ?_
        intro nr
        go_wp2_with fail
        go_roundw
        case rel =>
          refine ⟨n + 1, by omega, by go_num, ?_, (Blk.setCell hBx _ _ (by simp only; omega)).drewN nr, ⟨S, (Blk.setCell hHx _ _ (by simp only; omega)).drewN nr, HSL.out, fun h => by rw [← HS.out, show (n + 1) / 32 = n / 32 from by omega]⟩, below_drewN (hbelx.setCell (by simp only; omega) _) nr⟩
          rw [← HT.out]
          exact own_set hownx n (p1 ^^^ q1)
        case measure => simp [intOf]; omega
      · have hSe := hhe hm
        rw [hS] at hSe
        rw [hSe] at hHr
        clear hS hhe hSe hhs
        have hmi : ((n : Int) % 32 == 0) = false := by rw [beq_eq_false_iff_ne]; omega
        have hBx := hB; have hownx := hown; have hbelx := hbel; have hHx := hHr
        have hnS : Hid (strm key n = S.getD (n % 32) 0) := Lib.hid (by unfold strm; rw [HS.out])
        obtain ⟨hc1x, hf1⟩ := own_cell hownx n (b.getD n 0) (by rw [turnTo_get _ _ _ _ hlt, if_neg (by omega)])
        have hcs : wr.cell? ⟨H, n % 32, none⟩ = some (BV (strm key n)) := by
          rw [hHx.cell, hnS.out, keyA, List.getElem?_toArray, List.getElem?_map, List.getD_eq_getElem?_getD, List.getElem?_eq_getElem (by rw [HSL.out]; omega)]; rfl
        have HT := Lib.hid (turnTo_set key b n)
        generalize b.getD n 0 = p1 at *
        generalize strm key n = q1 at *
        have hx := xor_u8 p1 q1
        go_wp2_with fail
        refine wp_region_quiet_tail 12 (by kernel_rfl) (by kernel_rfl) ?_
        simp only [List.take_succ_cons, List.take_zero, List.drop_succ_cons, List.drop_zero]
        iterate 12 (go_big_quiet_step (fail))
        refine wpQuiet_nil ?_
        intro nr
        go_wp2_with fail
        go_roundw
        case rel =>
          refine ⟨n + 1, by omega, by go_num, ?_, (Blk.setCell hBx _ _ (by simp only; omega)).drewN nr, ⟨S, (Blk.setCell hHx _ _ (by simp only; omega)).drewN nr, HSL.out, fun h => by rw [← HS.out, show (n + 1) / 32 = n / 32 from by omega]⟩, below_drewN (hbelx.setCell (by simp only; omega) _) nr⟩
          rw [← HT.out]
          exact own_set hownx n (p1 ^^^ q1)
        case measure => simp [intOf]; omega
    · have hTT := turnTo_ge key b n (by omega)
      rw [hTT] at hown
      clear hTT
      go_wp2_with fail
      go_ret
      have hown' : OwnB wr w.heap.size (.slice a1 b.length c1) (turnL key b) := by unfold OwnB; rw [length_turnL]; exact owns_mono hown (by omega)
      exact RetB.mk hown' hbel
end Go.Proofs.Yteialfdhbfbkgaa
