/-
  Tags: both programs.
-/
import Derived.Test.YteialfdhbfbkgaaSeal1
namespace Go.Proofs.Yteialfdhbfbkgaa
set_option linter.unusedVariables false
set_option linter.unusedSimpArgs false
open Go Go.RowKit

abbrev KD (B : Nat) (key : List UInt8) (u : World) : Prop := Blk u B (keyA key) 23
theorem stabKD (B : Nat) (key : List UInt8) : Stab (KD B key) := Stab.blk _ _ _

theorem sees_take {w : World} {g n c : Nat} {l : List UInt8} (h : SeesB w (.slice (some ⟨g, 0, none⟩) n c) l) (k : Nat) (hk : k ≤ l.length) (hl : (l.take k).length = k) : SeesB w (.slice (some ⟨g, 0, none⟩) k c) (l.take k) := by
  obtain ⟨h1, a, c0, he, hc, hm, _, hb⟩ := h
  injection he with e1 e2 e3
  subst e1; subst e3
  unfold SeesB; rw [hl]
  refine ⟨by simp; omega, _, c, rfl, by omega, hm, (fun h => nomatch h), fun h0 => ?_⟩
  obtain ⟨b, o, e, hcell⟩ := hb (by omega)
  refine ⟨b, o, e, fun j u hj => hcell j u ?_⟩
  rw [List.getElem?_map] at hj ⊢
  rw [List.getElem?_take] at hj
  split at hj
  · exact hj
  · cases hj
set_option maxRecDepth 100000 in
set_option maxHeartbeats 2000000 in
theorem tagged_any (key bs b : List UInt8) (vs v : Value) (w : World) (hk : key.length = 32) (hs : SeesB w vs bs) (hv : SeesB w v b) (hl1 : bs.length ≤ 20000000000000) (hl : b.length ≤ 20000000000000) :
    Calls Try.prog 106 #[.agg (keyA key), vs, v] w (RetS (tagL key bs b) w) := by
  have HK := Lib.hid hk; clear hk
  obtain ⟨a0, c0, rfl, hac0, hc0⟩ := sees_form hv
  obtain ⟨a1, c1, rfl, hac1, hc1⟩ := sees_form hs
  obtain ⟨S, hS⟩ : ∃ S, mac key (([116] ++ put64 bs.length) ++ bs ++ b) = S := ⟨_, rfl⟩
  have hSL : S.length = 32 := by rw [← hS]; exact length_mac _ _
  have HTG := Lib.hid (show tagL key bs b = S.take 16 by rw [← hS]; rfl)
  have HS := Lib.hid hS; have HSL := Lib.hid hSL
  clear hS hSL
  have hk0 := Lib.hid (show KD w.heap.size key (w.alloc (.cells (keyA key) 23)) from Blk.new _ _ _)
  have hb0 := Lib.hid (show Below w.heap.size w (w.alloc (.cells (keyA key) 23)) by go_grown)
  go_enter Try.func106, Try.ntmps106
  go_wp2_with (first
    | (refine wpList_lit1 rfl _ rfl 116 rfl ?_; intro x0 B0 hlit hB0 e0)
    | (go_at_call 66; refine (Put64_any _ _ [116] _ hlit (by omega) (by omega) (by decide)).mono ?_; rintro e x1 ⟨v1, rfl, hown1, hb1⟩; rw [Int.toNat_natCast] at hown1; obtain ⟨a3, c3, rfl, hc3, hc3'⟩ := owns_form hown1
       have hbel0 := hb0.out.trans (Below.mono e0 hb0.out.size)
       have hbel1 := hbel0.trans (hb1.mono hbel0.size)
       have hown1' := owns_mono hown1 hbel0.size
       have hB1 := (hk0.out.below e0).below hb1))
  have hstab := stabKD w.heap.size key
  have hk : HoldT (KD w.heap.size key) w x1.drew := ⟨hB1.drew, hbel1.drew⟩
  have e2 := Ext.drew x1
  have k2 := e2.k
  try change Code.wp _ _ _ (Act.mk _ _) _
  haveI hne_ : Nonempty (InC (KD w.heap.size key)) := ⟨⟨_, (hk).1⟩⟩
  refine wp_region_tr (C := fun w_ => ∃ e_ : InC (KD w.heap.size key), w_ = e_.u) (.step [0, 1, 2, 4] (.alt 3 (.step [] (.alt 5 (.step [] (.alt 6 (.step [] (.alt 7 (.step [] (.alt 8 (.fin []) .nil)) .nil)) (.alt 7 (.step [] (.alt 6 (.step [] (.alt 8 (.fin []) .nil)) .nil)) .nil))) (.alt 7 (.step [] (.alt 5 (.step [] (.alt 6 (.step [] (.alt 8 (.fin []) .nil)) .nil)) .nil)) .nil))) (.alt 7 (.step [] (.alt 3 (.step [] (.alt 5 (.step [] (.alt 6 (.step [] (.alt 8 (.fin []) .nil)) .nil)) .nil)) .nil)) .nil))) (by kernel_rfl) (by kernel_rfl) (fun _ _ _ _ hd_ h_ => ⟨hd_.symm.trans h_.1, h_.2⟩) ⟨⟨World.drew _, (hk).1⟩, rfl⟩ ?_
  have hk_ := hk
  refine wpTr_step ?_
  simp only [pickOps, List.flatMap_cons, List.flatMap_nil, List.drop_succ_cons, List.drop_zero, List.take_succ_cons, List.take_zero, List.cons_append, List.nil_append, List.append_nil]
  iterate 4 (go_big_quiet_step (exact rfl))
  refine wpQuiet_nil ?_
  refine wpTr_alt ?_ ?_
  focus
    simp only [pickOps, List.flatMap_cons, List.flatMap_nil, List.drop_succ_cons, List.drop_zero, List.take_succ_cons, List.take_zero, List.cons_append, List.nil_append, List.append_nil]
    go_wp2_with (first
    | (refine wpList_allocB rfl _ rfl _ run_allocKey ?_; intro x3 B3 hh hB3 e3; have k3 := e3.k; have hlt3 : w.heap.size < B3 := Nat.lt_of_lt_of_le (Blk.lt hk_.has) hB3; have hk3 := HoldT.step hstab hk_ e3)
    | (at_builtin; refine appB (W := w) rfl _ _ rfl _ ([116] ++ put64 bs.length) rfl (owns_below hown1' (show Ext x1 _ from (by first | with_reducible exact Ext.refl _ | solve_by_elim (maxDepth := 8) [Ext.tr]))) _ bs rfl (hs.below hk_.up (by decide)) (by rw [List.length_append, length_put64]; simp only [List.length_cons, List.length_nil]; omega) hk_.up ?_; intro v4 x4 hown4 hg4 hb4
       have k4 := KeepK.app (owns_below hown1' (show Ext x1 _ from (by first | with_reducible exact Ext.refl _ | solve_by_elim (maxDepth := 8) [Ext.tr]))) hg4
       clear hg4
       have hk4 : HoldT (KD w.heap.size key) w x4 := ⟨k4 _ _ hk_.has, hb4⟩)
    | (at_builtin; refine appB (W := w) rfl _ _ rfl v4 (([116] ++ put64 bs.length) ++ bs) rfl (owns_below hown4 (show Ext x4 _ from (by first | with_reducible exact Ext.refl _ | solve_by_elim (maxDepth := 8) [Ext.tr]))) _ b rfl (hv.below hk_.up (by decide)) (by rw [List.length_append, List.length_append, length_put64]; simp only [List.length_cons, List.length_nil]; omega) hk_.up ?_; intro v5 x5 hown5 hg5 hb5
       have k5 := KeepK.app (owns_below hown4 (show Ext x4 _ from (by first | with_reducible exact Ext.refl _ | solve_by_elim (maxDepth := 8) [Ext.tr]))) hg5
       clear hg5
       have hk5 : HoldT (KD w.heap.size key) w x5 := ⟨k5 _ _ hk_.has, hb5⟩)
    | (go_at_call 65; refine (MacOf_any _ _ _ key (([116] ++ put64 bs.length) ++ bs ++ b) (seesB_key hk_.has HK.out) ((sees_of_owns hown5).below (show Ext x5 _ from (by first | with_reducible exact Ext.refl _ | solve_by_elim (maxDepth := 8) [Ext.tr])) (by decide)) (by rw [HK.out]; omega) (by rw [List.length_append, List.length_append, List.length_append, length_put64]; simp only [List.length_cons, List.length_nil]; omega)).mono ?_; rintro e x6 ⟨rfl, hb6⟩; rw [HS.out]; have e6 : Ext _ x6 := hb6; have k6 := e6.k; have hk6 := HoldT.step hstab hk_ e6)
    | (refine wpList_store_row rfl 23 _ _ rfl B3 (keyA S) _ _ rfl rfl ((show KeepK x3 _ from (by first | with_reducible exact KeepK.refl _ | solve_by_elim (maxDepth := 8) [KeepK.tr])) _ _ hh) (by rw [keyA_size, keyA_size, HSL.out]; rfl) (by rw [keyA_size, HSL.out]; exact info_key) (keyA_one _) ?_; intro x7 hg7 hs7 hR7
       have hk7 : HoldT (KD w.heap.size key) w x7 := ⟨Blk.grownBy hk_.has hg7 (some_ne (by omega)), hk_.up.grown hg7 hk_.up.size (fun k hk => by cases hk; omega)⟩))
    refine phPost_hold (by first | with_reducible assumption | exact HoldT.alloc hstab (by with_reducible assumption) _ | exact HoldT.alloc hstab (HoldT.alloc hstab (by with_reducible assumption) _) _) ?_
    intro hk_
    refine wpTr_step ?_
    simp only [pickOps, List.flatMap_nil]
    refine wpQuiet_nil ?_
    refine wpTr_alt ?_ ?_
    focus
      simp only [pickOps, List.flatMap_cons, List.flatMap_nil, List.drop_succ_cons, List.drop_zero, List.take_succ_cons, List.take_zero, List.cons_append, List.nil_append, List.append_nil]
      go_wp2_with (first
    | (refine wpList_allocB rfl _ rfl _ run_allocKey ?_; intro x3 B3 hh hB3 e3; have k3 := e3.k; have hlt3 : w.heap.size < B3 := Nat.lt_of_lt_of_le (Blk.lt hk_.has) hB3; have hk3 := HoldT.step hstab hk_ e3)
    | (at_builtin; refine appB (W := w) rfl _ _ rfl _ ([116] ++ put64 bs.length) rfl (owns_below hown1' (show Ext x1 _ from (by first | with_reducible exact Ext.refl _ | solve_by_elim (maxDepth := 8) [Ext.tr]))) _ bs rfl (hs.below hk_.up (by decide)) (by rw [List.length_append, length_put64]; simp only [List.length_cons, List.length_nil]; omega) hk_.up ?_; intro v4 x4 hown4 hg4 hb4
       have k4 := KeepK.app (owns_below hown1' (show Ext x1 _ from (by first | with_reducible exact Ext.refl _ | solve_by_elim (maxDepth := 8) [Ext.tr]))) hg4
       clear hg4
       have hk4 : HoldT (KD w.heap.size key) w x4 := ⟨k4 _ _ hk_.has, hb4⟩)
    | (at_builtin; refine appB (W := w) rfl _ _ rfl v4 (([116] ++ put64 bs.length) ++ bs) rfl (owns_below hown4 (show Ext x4 _ from (by first | with_reducible exact Ext.refl _ | solve_by_elim (maxDepth := 8) [Ext.tr]))) _ b rfl (hv.below hk_.up (by decide)) (by rw [List.length_append, List.length_append, length_put64]; simp only [List.length_cons, List.length_nil]; omega) hk_.up ?_; intro v5 x5 hown5 hg5 hb5
       have k5 := KeepK.app (owns_below hown4 (show Ext x4 _ from (by first | with_reducible exact Ext.refl _ | solve_by_elim (maxDepth := 8) [Ext.tr]))) hg5
       clear hg5
       have hk5 : HoldT (KD w.heap.size key) w x5 := ⟨k5 _ _ hk_.has, hb5⟩)
    | (go_at_call 65; refine (MacOf_any _ _ _ key (([116] ++ put64 bs.length) ++ bs ++ b) (seesB_key hk_.has HK.out) ((sees_of_owns hown5).below (show Ext x5 _ from (by first | with_reducible exact Ext.refl _ | solve_by_elim (maxDepth := 8) [Ext.tr])) (by decide)) (by rw [HK.out]; omega) (by rw [List.length_append, List.length_append, List.length_append, length_put64]; simp only [List.length_cons, List.length_nil]; omega)).mono ?_; rintro e x6 ⟨rfl, hb6⟩; rw [HS.out]; have e6 : Ext _ x6 := hb6; have k6 := e6.k; have hk6 := HoldT.step hstab hk_ e6)
    | (refine wpList_store_row rfl 23 _ _ rfl B3 (keyA S) _ _ rfl rfl ((show KeepK x3 _ from (by first | with_reducible exact KeepK.refl _ | solve_by_elim (maxDepth := 8) [KeepK.tr])) _ _ hh) (by rw [keyA_size, keyA_size, HSL.out]; rfl) (by rw [keyA_size, HSL.out]; exact info_key) (keyA_one _) ?_; intro x7 hg7 hs7 hR7
       have hk7 : HoldT (KD w.heap.size key) w x7 := ⟨Blk.grownBy hk_.has hg7 (some_ne (by omega)), hk_.up.grown hg7 hk_.up.size (fun k hk => by cases hk; omega)⟩))
      refine phPost_hold (by first | with_reducible assumption | exact HoldT.alloc hstab (by with_reducible assumption) _ | exact HoldT.alloc hstab (HoldT.alloc hstab (by with_reducible assumption) _) _) ?_
      intro hk_
      refine wpTr_step ?_
      simp only [pickOps, List.flatMap_nil]
      refine wpQuiet_nil ?_
      refine wpTr_alt ?_ ?_
      focus
        simp only [pickOps, List.flatMap_cons, List.flatMap_nil, List.drop_succ_cons, List.drop_zero, List.take_succ_cons, List.take_zero, List.cons_append, List.nil_append, List.append_nil]
        go_wp2_with (first
    | (refine wpList_allocB rfl _ rfl _ run_allocKey ?_; intro x3 B3 hh hB3 e3; have k3 := e3.k; have hlt3 : w.heap.size < B3 := Nat.lt_of_lt_of_le (Blk.lt hk_.has) hB3; have hk3 := HoldT.step hstab hk_ e3)
    | (at_builtin; refine appB (W := w) rfl _ _ rfl _ ([116] ++ put64 bs.length) rfl (owns_below hown1' (show Ext x1 _ from (by first | with_reducible exact Ext.refl _ | solve_by_elim (maxDepth := 8) [Ext.tr]))) _ bs rfl (hs.below hk_.up (by decide)) (by rw [List.length_append, length_put64]; simp only [List.length_cons, List.length_nil]; omega) hk_.up ?_; intro v4 x4 hown4 hg4 hb4
       have k4 := KeepK.app (owns_below hown1' (show Ext x1 _ from (by first | with_reducible exact Ext.refl _ | solve_by_elim (maxDepth := 8) [Ext.tr]))) hg4
       clear hg4
       have hk4 : HoldT (KD w.heap.size key) w x4 := ⟨k4 _ _ hk_.has, hb4⟩)
    | (at_builtin; refine appB (W := w) rfl _ _ rfl v4 (([116] ++ put64 bs.length) ++ bs) rfl (owns_below hown4 (show Ext x4 _ from (by first | with_reducible exact Ext.refl _ | solve_by_elim (maxDepth := 8) [Ext.tr]))) _ b rfl (hv.below hk_.up (by decide)) (by rw [List.length_append, List.length_append, length_put64]; simp only [List.length_cons, List.length_nil]; omega) hk_.up ?_; intro v5 x5 hown5 hg5 hb5
       have k5 := KeepK.app (owns_below hown4 (show Ext x4 _ from (by first | with_reducible exact Ext.refl _ | solve_by_elim (maxDepth := 8) [Ext.tr]))) hg5
       clear hg5
       have hk5 : HoldT (KD w.heap.size key) w x5 := ⟨k5 _ _ hk_.has, hb5⟩)
    | (go_at_call 65; refine (MacOf_any _ _ _ key (([116] ++ put64 bs.length) ++ bs ++ b) (seesB_key hk_.has HK.out) ((sees_of_owns hown5).below (show Ext x5 _ from (by first | with_reducible exact Ext.refl _ | solve_by_elim (maxDepth := 8) [Ext.tr])) (by decide)) (by rw [HK.out]; omega) (by rw [List.length_append, List.length_append, List.length_append, length_put64]; simp only [List.length_cons, List.length_nil]; omega)).mono ?_; rintro e x6 ⟨rfl, hb6⟩; rw [HS.out]; have e6 : Ext _ x6 := hb6; have k6 := e6.k; have hk6 := HoldT.step hstab hk_ e6)
    | (refine wpList_store_row rfl 23 _ _ rfl B3 (keyA S) _ _ rfl rfl ((show KeepK x3 _ from (by first | with_reducible exact KeepK.refl _ | solve_by_elim (maxDepth := 8) [KeepK.tr])) _ _ hh) (by rw [keyA_size, keyA_size, HSL.out]; rfl) (by rw [keyA_size, HSL.out]; exact info_key) (keyA_one _) ?_; intro x7 hg7 hs7 hR7
       have hk7 : HoldT (KD w.heap.size key) w x7 := ⟨Blk.grownBy hk_.has hg7 (some_ne (by omega)), hk_.up.grown hg7 hk_.up.size (fun k hk => by cases hk; omega)⟩))
        refine phPost_hold (by first | with_reducible assumption | exact HoldT.alloc hstab (by with_reducible assumption) _ | exact HoldT.alloc hstab (HoldT.alloc hstab (by with_reducible assumption) _) _) ?_
        intro hk_
        refine wpTr_step ?_
        simp only [pickOps, List.flatMap_nil]
        refine wpQuiet_nil ?_
        refine wpTr_one ?_
        simp only [pickOps, List.flatMap_cons, List.flatMap_nil, List.drop_succ_cons, List.drop_zero, List.take_succ_cons, List.take_zero, List.cons_append, List.nil_append, List.append_nil]
        go_wp2_with (first
    | (refine wpList_allocB rfl _ rfl _ run_allocKey ?_; intro x3 B3 hh hB3 e3; have k3 := e3.k; have hlt3 : w.heap.size < B3 := Nat.lt_of_lt_of_le (Blk.lt hk_.has) hB3; have hk3 := HoldT.step hstab hk_ e3)
    | (at_builtin; refine appB (W := w) rfl _ _ rfl _ ([116] ++ put64 bs.length) rfl (owns_below hown1' (show Ext x1 _ from (by first | with_reducible exact Ext.refl _ | solve_by_elim (maxDepth := 8) [Ext.tr]))) _ bs rfl (hs.below hk_.up (by decide)) (by rw [List.length_append, length_put64]; simp only [List.length_cons, List.length_nil]; omega) hk_.up ?_; intro v4 x4 hown4 hg4 hb4
       have k4 := KeepK.app (owns_below hown1' (show Ext x1 _ from (by first | with_reducible exact Ext.refl _ | solve_by_elim (maxDepth := 8) [Ext.tr]))) hg4
       clear hg4
       have hk4 : HoldT (KD w.heap.size key) w x4 := ⟨k4 _ _ hk_.has, hb4⟩)
    | (at_builtin; refine appB (W := w) rfl _ _ rfl v4 (([116] ++ put64 bs.length) ++ bs) rfl (owns_below hown4 (show Ext x4 _ from (by first | with_reducible exact Ext.refl _ | solve_by_elim (maxDepth := 8) [Ext.tr]))) _ b rfl (hv.below hk_.up (by decide)) (by rw [List.length_append, List.length_append, length_put64]; simp only [List.length_cons, List.length_nil]; omega) hk_.up ?_; intro v5 x5 hown5 hg5 hb5
       have k5 := KeepK.app (owns_below hown4 (show Ext x4 _ from (by first | with_reducible exact Ext.refl _ | solve_by_elim (maxDepth := 8) [Ext.tr]))) hg5
       clear hg5
       have hk5 : HoldT (KD w.heap.size key) w x5 := ⟨k5 _ _ hk_.has, hb5⟩)
    | (go_at_call 65; refine (MacOf_any _ _ _ key (([116] ++ put64 bs.length) ++ bs ++ b) (seesB_key hk_.has HK.out) ((sees_of_owns hown5).below (show Ext x5 _ from (by first | with_reducible exact Ext.refl _ | solve_by_elim (maxDepth := 8) [Ext.tr])) (by decide)) (by rw [HK.out]; omega) (by rw [List.length_append, List.length_append, List.length_append, length_put64]; simp only [List.length_cons, List.length_nil]; omega)).mono ?_; rintro e x6 ⟨rfl, hb6⟩; rw [HS.out]; have e6 : Ext _ x6 := hb6; have k6 := e6.k; have hk6 := HoldT.step hstab hk_ e6)
    | (refine wpList_store_row rfl 23 _ _ rfl B3 (keyA S) _ _ rfl rfl ((show KeepK x3 _ from (by first | with_reducible exact KeepK.refl _ | solve_by_elim (maxDepth := 8) [KeepK.tr])) _ _ hh) (by rw [keyA_size, keyA_size, HSL.out]; rfl) (by rw [keyA_size, HSL.out]; exact info_key) (keyA_one _) ?_; intro x7 hg7 hs7 hR7
       have hk7 : HoldT (KD w.heap.size key) w x7 := ⟨Blk.grownBy hk_.has hg7 (some_ne (by omega)), hk_.up.grown hg7 hk_.up.size (fun k hk => by cases hk; omega)⟩))
        refine phPost_hold (by first | with_reducible assumption | exact HoldT.alloc hstab (by with_reducible assumption) _ | exact HoldT.alloc hstab (HoldT.alloc hstab (by with_reducible assumption) _) _) ?_
        intro hk_
        refine wpTr_step ?_
        simp only [pickOps, List.flatMap_nil]
        refine wpQuiet_nil ?_
        refine wpTr_one ?_
        simp only [pickOps, List.flatMap_cons, List.flatMap_nil, List.drop_succ_cons, List.drop_zero, List.take_succ_cons, List.take_zero, List.cons_append, List.nil_append, List.append_nil]
        go_wp2_with (first
    | (refine wpList_allocB rfl _ rfl _ run_allocKey ?_; intro x3 B3 hh hB3 e3; have k3 := e3.k; have hlt3 : w.heap.size < B3 := Nat.lt_of_lt_of_le (Blk.lt hk_.has) hB3; have hk3 := HoldT.step hstab hk_ e3)
    | (at_builtin; refine appB (W := w) rfl _ _ rfl _ ([116] ++ put64 bs.length) rfl (owns_below hown1' (show Ext x1 _ from (by first | with_reducible exact Ext.refl _ | solve_by_elim (maxDepth := 8) [Ext.tr]))) _ bs rfl (hs.below hk_.up (by decide)) (by rw [List.length_append, length_put64]; simp only [List.length_cons, List.length_nil]; omega) hk_.up ?_; intro v4 x4 hown4 hg4 hb4
       have k4 := KeepK.app (owns_below hown1' (show Ext x1 _ from (by first | with_reducible exact Ext.refl _ | solve_by_elim (maxDepth := 8) [Ext.tr]))) hg4
       clear hg4
       have hk4 : HoldT (KD w.heap.size key) w x4 := ⟨k4 _ _ hk_.has, hb4⟩)
    | (at_builtin; refine appB (W := w) rfl _ _ rfl v4 (([116] ++ put64 bs.length) ++ bs) rfl (owns_below hown4 (show Ext x4 _ from (by first | with_reducible exact Ext.refl _ | solve_by_elim (maxDepth := 8) [Ext.tr]))) _ b rfl (hv.below hk_.up (by decide)) (by rw [List.length_append, List.length_append, length_put64]; simp only [List.length_cons, List.length_nil]; omega) hk_.up ?_; intro v5 x5 hown5 hg5 hb5
       have k5 := KeepK.app (owns_below hown4 (show Ext x4 _ from (by first | with_reducible exact Ext.refl _ | solve_by_elim (maxDepth := 8) [Ext.tr]))) hg5
       clear hg5
       have hk5 : HoldT (KD w.heap.size key) w x5 := ⟨k5 _ _ hk_.has, hb5⟩)
    | (go_at_call 65; refine (MacOf_any _ _ _ key (([116] ++ put64 bs.length) ++ bs ++ b) (seesB_key hk_.has HK.out) ((sees_of_owns hown5).below (show Ext x5 _ from (by first | with_reducible exact Ext.refl _ | solve_by_elim (maxDepth := 8) [Ext.tr])) (by decide)) (by rw [HK.out]; omega) (by rw [List.length_append, List.length_append, List.length_append, length_put64]; simp only [List.length_cons, List.length_nil]; omega)).mono ?_; rintro e x6 ⟨rfl, hb6⟩; rw [HS.out]; have e6 : Ext _ x6 := hb6; have k6 := e6.k; have hk6 := HoldT.step hstab hk_ e6)
    | (refine wpList_store_row rfl 23 _ _ rfl B3 (keyA S) _ _ rfl rfl ((show KeepK x3 _ from (by first | with_reducible exact KeepK.refl _ | solve_by_elim (maxDepth := 8) [KeepK.tr])) _ _ hh) (by rw [keyA_size, keyA_size, HSL.out]; rfl) (by rw [keyA_size, HSL.out]; exact info_key) (keyA_one _) ?_; intro x7 hg7 hs7 hR7
       have hk7 : HoldT (KD w.heap.size key) w x7 := ⟨Blk.grownBy hk_.has hg7 (some_ne (by omega)), hk_.up.grown hg7 hk_.up.size (fun k hk => by cases hk; omega)⟩))
        refine phPost_hold (by first | with_reducible assumption | exact HoldT.alloc hstab (by with_reducible assumption) _ | exact HoldT.alloc hstab (HoldT.alloc hstab (by with_reducible assumption) _) _) ?_
        intro hk_
        refine wpTr_fin ?_
        simp only [pickOps, List.flatMap_nil]
        refine wpQuiet_nil ?_
        go_wp2_with fail
        go_ret
        exact ⟨_, rfl, (by rw [HTG.out]; exact sees_take (seesB_key hR7 HSL.out) 16 (by rw [HSL.out]; decide) (by rw [List.length_take, HSL.out]; rfl)), (fun k hk => by cases hk; exact Nat.le_of_lt hlt3), hk_.up⟩
      refine wpTr_one ?_
      simp only [pickOps, List.flatMap_cons, List.flatMap_nil, List.drop_succ_cons, List.drop_zero, List.take_succ_cons, List.take_zero, List.cons_append, List.nil_append, List.append_nil]
      go_wp2_with (first
    | (refine wpList_allocB rfl _ rfl _ run_allocKey ?_; intro x3 B3 hh hB3 e3; have k3 := e3.k; have hlt3 : w.heap.size < B3 := Nat.lt_of_lt_of_le (Blk.lt hk_.has) hB3; have hk3 := HoldT.step hstab hk_ e3)
    | (at_builtin; refine appB (W := w) rfl _ _ rfl _ ([116] ++ put64 bs.length) rfl (owns_below hown1' (show Ext x1 _ from (by first | with_reducible exact Ext.refl _ | solve_by_elim (maxDepth := 8) [Ext.tr]))) _ bs rfl (hs.below hk_.up (by decide)) (by rw [List.length_append, length_put64]; simp only [List.length_cons, List.length_nil]; omega) hk_.up ?_; intro v4 x4 hown4 hg4 hb4
       have k4 := KeepK.app (owns_below hown1' (show Ext x1 _ from (by first | with_reducible exact Ext.refl _ | solve_by_elim (maxDepth := 8) [Ext.tr]))) hg4
       clear hg4
       have hk4 : HoldT (KD w.heap.size key) w x4 := ⟨k4 _ _ hk_.has, hb4⟩)
    | (at_builtin; refine appB (W := w) rfl _ _ rfl v4 (([116] ++ put64 bs.length) ++ bs) rfl (owns_below hown4 (show Ext x4 _ from (by first | with_reducible exact Ext.refl _ | solve_by_elim (maxDepth := 8) [Ext.tr]))) _ b rfl (hv.below hk_.up (by decide)) (by rw [List.length_append, List.length_append, length_put64]; simp only [List.length_cons, List.length_nil]; omega) hk_.up ?_; intro v5 x5 hown5 hg5 hb5
       have k5 := KeepK.app (owns_below hown4 (show Ext x4 _ from (by first | with_reducible exact Ext.refl _ | solve_by_elim (maxDepth := 8) [Ext.tr]))) hg5
       clear hg5
       have hk5 : HoldT (KD w.heap.size key) w x5 := ⟨k5 _ _ hk_.has, hb5⟩)
    | (go_at_call 65; refine (MacOf_any _ _ _ key (([116] ++ put64 bs.length) ++ bs ++ b) (seesB_key hk_.has HK.out) ((sees_of_owns hown5).below (show Ext x5 _ from (by first | with_reducible exact Ext.refl _ | solve_by_elim (maxDepth := 8) [Ext.tr])) (by decide)) (by rw [HK.out]; omega) (by rw [List.length_append, List.length_append, List.length_append, length_put64]; simp only [List.length_cons, List.length_nil]; omega)).mono ?_; rintro e x6 ⟨rfl, hb6⟩; rw [HS.out]; have e6 : Ext _ x6 := hb6; have k6 := e6.k; have hk6 := HoldT.step hstab hk_ e6)
    | (refine wpList_store_row rfl 23 _ _ rfl B3 (keyA S) _ _ rfl rfl ((show KeepK x3 _ from (by first | with_reducible exact KeepK.refl _ | solve_by_elim (maxDepth := 8) [KeepK.tr])) _ _ hh) (by rw [keyA_size, keyA_size, HSL.out]; rfl) (by rw [keyA_size, HSL.out]; exact info_key) (keyA_one _) ?_; intro x7 hg7 hs7 hR7
       have hk7 : HoldT (KD w.heap.size key) w x7 := ⟨Blk.grownBy hk_.has hg7 (some_ne (by omega)), hk_.up.grown hg7 hk_.up.size (fun k hk => by cases hk; omega)⟩))
      refine phPost_hold (by first | with_reducible assumption | exact HoldT.alloc hstab (by with_reducible assumption) _ | exact HoldT.alloc hstab (HoldT.alloc hstab (by with_reducible assumption) _) _) ?_
      intro hk_
      refine wpTr_step ?_
      simp only [pickOps, List.flatMap_nil]
      refine wpQuiet_nil ?_
      refine wpTr_one ?_
      simp only [pickOps, List.flatMap_cons, List.flatMap_nil, List.drop_succ_cons, List.drop_zero, List.take_succ_cons, List.take_zero, List.cons_append, List.nil_append, List.append_nil]
      go_wp2_with (first
    | (refine wpList_allocB rfl _ rfl _ run_allocKey ?_; intro x3 B3 hh hB3 e3; have k3 := e3.k; have hlt3 : w.heap.size < B3 := Nat.lt_of_lt_of_le (Blk.lt hk_.has) hB3; have hk3 := HoldT.step hstab hk_ e3)
    | (at_builtin; refine appB (W := w) rfl _ _ rfl _ ([116] ++ put64 bs.length) rfl (owns_below hown1' (show Ext x1 _ from (by first | with_reducible exact Ext.refl _ | solve_by_elim (maxDepth := 8) [Ext.tr]))) _ bs rfl (hs.below hk_.up (by decide)) (by rw [List.length_append, length_put64]; simp only [List.length_cons, List.length_nil]; omega) hk_.up ?_; intro v4 x4 hown4 hg4 hb4
       have k4 := KeepK.app (owns_below hown1' (show Ext x1 _ from (by first | with_reducible exact Ext.refl _ | solve_by_elim (maxDepth := 8) [Ext.tr]))) hg4
       clear hg4
       have hk4 : HoldT (KD w.heap.size key) w x4 := ⟨k4 _ _ hk_.has, hb4⟩)
    | (at_builtin; refine appB (W := w) rfl _ _ rfl v4 (([116] ++ put64 bs.length) ++ bs) rfl (owns_below hown4 (show Ext x4 _ from (by first | with_reducible exact Ext.refl _ | solve_by_elim (maxDepth := 8) [Ext.tr]))) _ b rfl (hv.below hk_.up (by decide)) (by rw [List.length_append, List.length_append, length_put64]; simp only [List.length_cons, List.length_nil]; omega) hk_.up ?_; intro v5 x5 hown5 hg5 hb5
       have k5 := KeepK.app (owns_below hown4 (show Ext x4 _ from (by first | with_reducible exact Ext.refl _ | solve_by_elim (maxDepth := 8) [Ext.tr]))) hg5
       clear hg5
       have hk5 : HoldT (KD w.heap.size key) w x5 := ⟨k5 _ _ hk_.has, hb5⟩)
    | (go_at_call 65; refine (MacOf_any _ _ _ key (([116] ++ put64 bs.length) ++ bs ++ b) (seesB_key hk_.has HK.out) ((sees_of_owns hown5).below (show Ext x5 _ from (by first | with_reducible exact Ext.refl _ | solve_by_elim (maxDepth := 8) [Ext.tr])) (by decide)) (by rw [HK.out]; omega) (by rw [List.length_append, List.length_append, List.length_append, length_put64]; simp only [List.length_cons, List.length_nil]; omega)).mono ?_; rintro e x6 ⟨rfl, hb6⟩; rw [HS.out]; have e6 : Ext _ x6 := hb6; have k6 := e6.k; have hk6 := HoldT.step hstab hk_ e6)
    | (refine wpList_store_row rfl 23 _ _ rfl B3 (keyA S) _ _ rfl rfl ((show KeepK x3 _ from (by first | with_reducible exact KeepK.refl _ | solve_by_elim (maxDepth := 8) [KeepK.tr])) _ _ hh) (by rw [keyA_size, keyA_size, HSL.out]; rfl) (by rw [keyA_size, HSL.out]; exact info_key) (keyA_one _) ?_; intro x7 hg7 hs7 hR7
       have hk7 : HoldT (KD w.heap.size key) w x7 := ⟨Blk.grownBy hk_.has hg7 (some_ne (by omega)), hk_.up.grown hg7 hk_.up.size (fun k hk => by cases hk; omega)⟩))
      refine phPost_hold (by first | with_reducible assumption | exact HoldT.alloc hstab (by with_reducible assumption) _ | exact HoldT.alloc hstab (HoldT.alloc hstab (by with_reducible assumption) _) _) ?_
      intro hk_
      refine wpTr_step ?_
      simp only [pickOps, List.flatMap_nil]
      refine wpQuiet_nil ?_
      refine wpTr_one ?_
      simp only [pickOps, List.flatMap_cons, List.flatMap_nil, List.drop_succ_cons, List.drop_zero, List.take_succ_cons, List.take_zero, List.cons_append, List.nil_append, List.append_nil]
      go_wp2_with (first
    | (refine wpList_allocB rfl _ rfl _ run_allocKey ?_; intro x3 B3 hh hB3 e3; have k3 := e3.k; have hlt3 : w.heap.size < B3 := Nat.lt_of_lt_of_le (Blk.lt hk_.has) hB3; have hk3 := HoldT.step hstab hk_ e3)
    | (at_builtin; refine appB (W := w) rfl _ _ rfl _ ([116] ++ put64 bs.length) rfl (owns_below hown1' (show Ext x1 _ from (by first | with_reducible exact Ext.refl _ | solve_by_elim (maxDepth := 8) [Ext.tr]))) _ bs rfl (hs.below hk_.up (by decide)) (by rw [List.length_append, length_put64]; simp only [List.length_cons, List.length_nil]; omega) hk_.up ?_; intro v4 x4 hown4 hg4 hb4
       have k4 := KeepK.app (owns_below hown1' (show Ext x1 _ from (by first | with_reducible exact Ext.refl _ | solve_by_elim (maxDepth := 8) [Ext.tr]))) hg4
       clear hg4
       have hk4 : HoldT (KD w.heap.size key) w x4 := ⟨k4 _ _ hk_.has, hb4⟩)
    | (at_builtin; refine appB (W := w) rfl _ _ rfl v4 (([116] ++ put64 bs.length) ++ bs) rfl (owns_below hown4 (show Ext x4 _ from (by first | with_reducible exact Ext.refl _ | solve_by_elim (maxDepth := 8) [Ext.tr]))) _ b rfl (hv.below hk_.up (by decide)) (by rw [List.length_append, List.length_append, length_put64]; simp only [List.length_cons, List.length_nil]; omega) hk_.up ?_; intro v5 x5 hown5 hg5 hb5
       have k5 := KeepK.app (owns_below hown4 (show Ext x4 _ from (by first | with_reducible exact Ext.refl _ | solve_by_elim (maxDepth := 8) [Ext.tr]))) hg5
       clear hg5
       have hk5 : HoldT (KD w.heap.size key) w x5 := ⟨k5 _ _ hk_.has, hb5⟩)
    | (go_at_call 65; refine (MacOf_any _ _ _ key (([116] ++ put64 bs.length) ++ bs ++ b) (seesB_key hk_.has HK.out) ((sees_of_owns hown5).below (show Ext x5 _ from (by first | with_reducible exact Ext.refl _ | solve_by_elim (maxDepth := 8) [Ext.tr])) (by decide)) (by rw [HK.out]; omega) (by rw [List.length_append, List.length_append, List.length_append, length_put64]; simp only [List.length_cons, List.length_nil]; omega)).mono ?_; rintro e x6 ⟨rfl, hb6⟩; rw [HS.out]; have e6 : Ext _ x6 := hb6; have k6 := e6.k; have hk6 := HoldT.step hstab hk_ e6)
    | (refine wpList_store_row rfl 23 _ _ rfl B3 (keyA S) _ _ rfl rfl ((show KeepK x3 _ from (by first | with_reducible exact KeepK.refl _ | solve_by_elim (maxDepth := 8) [KeepK.tr])) _ _ hh) (by rw [keyA_size, keyA_size, HSL.out]; rfl) (by rw [keyA_size, HSL.out]; exact info_key) (keyA_one _) ?_; intro x7 hg7 hs7 hR7
       have hk7 : HoldT (KD w.heap.size key) w x7 := ⟨Blk.grownBy hk_.has hg7 (some_ne (by omega)), hk_.up.grown hg7 hk_.up.size (fun k hk => by cases hk; omega)⟩))
      refine phPost_hold (by first | with_reducible assumption | exact HoldT.alloc hstab (by with_reducible assumption) _ | exact HoldT.alloc hstab (HoldT.alloc hstab (by with_reducible assumption) _) _) ?_
      intro hk_
      refine wpTr_fin ?_
      simp only [pickOps, List.flatMap_nil]
      refine wpQuiet_nil ?_
      go_wp2_with fail
      go_ret
      exact ⟨_, rfl, (by rw [HTG.out]; exact sees_take (seesB_key hR7 HSL.out) 16 (by rw [HSL.out]; decide) (by rw [List.length_take, HSL.out]; rfl)), (fun k hk => by cases hk; exact Nat.le_of_lt hlt3), hk_.up⟩
    refine wpTr_one ?_
    simp only [pickOps, List.flatMap_cons, List.flatMap_nil, List.drop_succ_cons, List.drop_zero, List.take_succ_cons, List.take_zero, List.cons_append, List.nil_append, List.append_nil]
    go_wp2_with (first
    | (refine wpList_allocB rfl _ rfl _ run_allocKey ?_; intro x3 B3 hh hB3 e3; have k3 := e3.k; have hlt3 : w.heap.size < B3 := Nat.lt_of_lt_of_le (Blk.lt hk_.has) hB3; have hk3 := HoldT.step hstab hk_ e3)
    | (at_builtin; refine appB (W := w) rfl _ _ rfl _ ([116] ++ put64 bs.length) rfl (owns_below hown1' (show Ext x1 _ from (by first | with_reducible exact Ext.refl _ | solve_by_elim (maxDepth := 8) [Ext.tr]))) _ bs rfl (hs.below hk_.up (by decide)) (by rw [List.length_append, length_put64]; simp only [List.length_cons, List.length_nil]; omega) hk_.up ?_; intro v4 x4 hown4 hg4 hb4
       have k4 := KeepK.app (owns_below hown1' (show Ext x1 _ from (by first | with_reducible exact Ext.refl _ | solve_by_elim (maxDepth := 8) [Ext.tr]))) hg4
       clear hg4
       have hk4 : HoldT (KD w.heap.size key) w x4 := ⟨k4 _ _ hk_.has, hb4⟩)
    | (at_builtin; refine appB (W := w) rfl _ _ rfl v4 (([116] ++ put64 bs.length) ++ bs) rfl (owns_below hown4 (show Ext x4 _ from (by first | with_reducible exact Ext.refl _ | solve_by_elim (maxDepth := 8) [Ext.tr]))) _ b rfl (hv.below hk_.up (by decide)) (by rw [List.length_append, List.length_append, length_put64]; simp only [List.length_cons, List.length_nil]; omega) hk_.up ?_; intro v5 x5 hown5 hg5 hb5
       have k5 := KeepK.app (owns_below hown4 (show Ext x4 _ from (by first | with_reducible exact Ext.refl _ | solve_by_elim (maxDepth := 8) [Ext.tr]))) hg5
       clear hg5
       have hk5 : HoldT (KD w.heap.size key) w x5 := ⟨k5 _ _ hk_.has, hb5⟩)
    | (go_at_call 65; refine (MacOf_any _ _ _ key (([116] ++ put64 bs.length) ++ bs ++ b) (seesB_key hk_.has HK.out) ((sees_of_owns hown5).below (show Ext x5 _ from (by first | with_reducible exact Ext.refl _ | solve_by_elim (maxDepth := 8) [Ext.tr])) (by decide)) (by rw [HK.out]; omega) (by rw [List.length_append, List.length_append, List.length_append, length_put64]; simp only [List.length_cons, List.length_nil]; omega)).mono ?_; rintro e x6 ⟨rfl, hb6⟩; rw [HS.out]; have e6 : Ext _ x6 := hb6; have k6 := e6.k; have hk6 := HoldT.step hstab hk_ e6)
    | (refine wpList_store_row rfl 23 _ _ rfl B3 (keyA S) _ _ rfl rfl ((show KeepK x3 _ from (by first | with_reducible exact KeepK.refl _ | solve_by_elim (maxDepth := 8) [KeepK.tr])) _ _ hh) (by rw [keyA_size, keyA_size, HSL.out]; rfl) (by rw [keyA_size, HSL.out]; exact info_key) (keyA_one _) ?_; intro x7 hg7 hs7 hR7
       have hk7 : HoldT (KD w.heap.size key) w x7 := ⟨Blk.grownBy hk_.has hg7 (some_ne (by omega)), hk_.up.grown hg7 hk_.up.size (fun k hk => by cases hk; omega)⟩))
    refine phPost_hold (by first | with_reducible assumption | exact HoldT.alloc hstab (by with_reducible assumption) _ | exact HoldT.alloc hstab (HoldT.alloc hstab (by with_reducible assumption) _) _) ?_
    intro hk_
    refine wpTr_step ?_
    simp only [pickOps, List.flatMap_nil]
    refine wpQuiet_nil ?_
    refine wpTr_one ?_
    simp only [pickOps, List.flatMap_cons, List.flatMap_nil, List.drop_succ_cons, List.drop_zero, List.take_succ_cons, List.take_zero, List.cons_append, List.nil_append, List.append_nil]
    go_wp2_with (first
    | (refine wpList_allocB rfl _ rfl _ run_allocKey ?_; intro x3 B3 hh hB3 e3; have k3 := e3.k; have hlt3 : w.heap.size < B3 := Nat.lt_of_lt_of_le (Blk.lt hk_.has) hB3; have hk3 := HoldT.step hstab hk_ e3)
    | (at_builtin; refine appB (W := w) rfl _ _ rfl _ ([116] ++ put64 bs.length) rfl (owns_below hown1' (show Ext x1 _ from (by first | with_reducible exact Ext.refl _ | solve_by_elim (maxDepth := 8) [Ext.tr]))) _ bs rfl (hs.below hk_.up (by decide)) (by rw [List.length_append, length_put64]; simp only [List.length_cons, List.length_nil]; omega) hk_.up ?_; intro v4 x4 hown4 hg4 hb4
       have k4 := KeepK.app (owns_below hown1' (show Ext x1 _ from (by first | with_reducible exact Ext.refl _ | solve_by_elim (maxDepth := 8) [Ext.tr]))) hg4
       clear hg4
       have hk4 : HoldT (KD w.heap.size key) w x4 := ⟨k4 _ _ hk_.has, hb4⟩)
    | (at_builtin; refine appB (W := w) rfl _ _ rfl v4 (([116] ++ put64 bs.length) ++ bs) rfl (owns_below hown4 (show Ext x4 _ from (by first | with_reducible exact Ext.refl _ | solve_by_elim (maxDepth := 8) [Ext.tr]))) _ b rfl (hv.below hk_.up (by decide)) (by rw [List.length_append, List.length_append, length_put64]; simp only [List.length_cons, List.length_nil]; omega) hk_.up ?_; intro v5 x5 hown5 hg5 hb5
       have k5 := KeepK.app (owns_below hown4 (show Ext x4 _ from (by first | with_reducible exact Ext.refl _ | solve_by_elim (maxDepth := 8) [Ext.tr]))) hg5
       clear hg5
       have hk5 : HoldT (KD w.heap.size key) w x5 := ⟨k5 _ _ hk_.has, hb5⟩)
    | (go_at_call 65; refine (MacOf_any _ _ _ key (([116] ++ put64 bs.length) ++ bs ++ b) (seesB_key hk_.has HK.out) ((sees_of_owns hown5).below (show Ext x5 _ from (by first | with_reducible exact Ext.refl _ | solve_by_elim (maxDepth := 8) [Ext.tr])) (by decide)) (by rw [HK.out]; omega) (by rw [List.length_append, List.length_append, List.length_append, length_put64]; simp only [List.length_cons, List.length_nil]; omega)).mono ?_; rintro e x6 ⟨rfl, hb6⟩; rw [HS.out]; have e6 : Ext _ x6 := hb6; have k6 := e6.k; have hk6 := HoldT.step hstab hk_ e6)
    | (refine wpList_store_row rfl 23 _ _ rfl B3 (keyA S) _ _ rfl rfl ((show KeepK x3 _ from (by first | with_reducible exact KeepK.refl _ | solve_by_elim (maxDepth := 8) [KeepK.tr])) _ _ hh) (by rw [keyA_size, keyA_size, HSL.out]; rfl) (by rw [keyA_size, HSL.out]; exact info_key) (keyA_one _) ?_; intro x7 hg7 hs7 hR7
       have hk7 : HoldT (KD w.heap.size key) w x7 := ⟨Blk.grownBy hk_.has hg7 (some_ne (by omega)), hk_.up.grown hg7 hk_.up.size (fun k hk => by cases hk; omega)⟩))
    refine phPost_hold (by first | with_reducible assumption | exact HoldT.alloc hstab (by with_reducible assumption) _ | exact HoldT.alloc hstab (HoldT.alloc hstab (by with_reducible assumption) _) _) ?_
    intro hk_
    refine wpTr_step ?_
    simp only [pickOps, List.flatMap_nil]
    refine wpQuiet_nil ?_
    refine wpTr_one ?_
    simp only [pickOps, List.flatMap_cons, List.flatMap_nil, List.drop_succ_cons, List.drop_zero, List.take_succ_cons, List.take_zero, List.cons_append, List.nil_append, List.append_nil]
    go_wp2_with (first
    | (refine wpList_allocB rfl _ rfl _ run_allocKey ?_; intro x3 B3 hh hB3 e3; have k3 := e3.k; have hlt3 : w.heap.size < B3 := Nat.lt_of_lt_of_le (Blk.lt hk_.has) hB3; have hk3 := HoldT.step hstab hk_ e3)
    | (at_builtin; refine appB (W := w) rfl _ _ rfl _ ([116] ++ put64 bs.length) rfl (owns_below hown1' (show Ext x1 _ from (by first | with_reducible exact Ext.refl _ | solve_by_elim (maxDepth := 8) [Ext.tr]))) _ bs rfl (hs.below hk_.up (by decide)) (by rw [List.length_append, length_put64]; simp only [List.length_cons, List.length_nil]; omega) hk_.up ?_; intro v4 x4 hown4 hg4 hb4
       have k4 := KeepK.app (owns_below hown1' (show Ext x1 _ from (by first | with_reducible exact Ext.refl _ | solve_by_elim (maxDepth := 8) [Ext.tr]))) hg4
       clear hg4
       have hk4 : HoldT (KD w.heap.size key) w x4 := ⟨k4 _ _ hk_.has, hb4⟩)
    | (at_builtin; refine appB (W := w) rfl _ _ rfl v4 (([116] ++ put64 bs.length) ++ bs) rfl (owns_below hown4 (show Ext x4 _ from (by first | with_reducible exact Ext.refl _ | solve_by_elim (maxDepth := 8) [Ext.tr]))) _ b rfl (hv.below hk_.up (by decide)) (by rw [List.length_append, List.length_append, length_put64]; simp only [List.length_cons, List.length_nil]; omega) hk_.up ?_; intro v5 x5 hown5 hg5 hb5
       have k5 := KeepK.app (owns_below hown4 (show Ext x4 _ from (by first | with_reducible exact Ext.refl _ | solve_by_elim (maxDepth := 8) [Ext.tr]))) hg5
       clear hg5
       have hk5 : HoldT (KD w.heap.size key) w x5 := ⟨k5 _ _ hk_.has, hb5⟩)
    | (go_at_call 65; refine (MacOf_any _ _ _ key (([116] ++ put64 bs.length) ++ bs ++ b) (seesB_key hk_.has HK.out) ((sees_of_owns hown5).below (show Ext x5 _ from (by first | with_reducible exact Ext.refl _ | solve_by_elim (maxDepth := 8) [Ext.tr])) (by decide)) (by rw [HK.out]; omega) (by rw [List.length_append, List.length_append, List.length_append, length_put64]; simp only [List.length_cons, List.length_nil]; omega)).mono ?_; rintro e x6 ⟨rfl, hb6⟩; rw [HS.out]; have e6 : Ext _ x6 := hb6; have k6 := e6.k; have hk6 := HoldT.step hstab hk_ e6)
    | (refine wpList_store_row rfl 23 _ _ rfl B3 (keyA S) _ _ rfl rfl ((show KeepK x3 _ from (by first | with_reducible exact KeepK.refl _ | solve_by_elim (maxDepth := 8) [KeepK.tr])) _ _ hh) (by rw [keyA_size, keyA_size, HSL.out]; rfl) (by rw [keyA_size, HSL.out]; exact info_key) (keyA_one _) ?_; intro x7 hg7 hs7 hR7
       have hk7 : HoldT (KD w.heap.size key) w x7 := ⟨Blk.grownBy hk_.has hg7 (some_ne (by omega)), hk_.up.grown hg7 hk_.up.size (fun k hk => by cases hk; omega)⟩))
    refine phPost_hold (by first | with_reducible assumption | exact HoldT.alloc hstab (by with_reducible assumption) _ | exact HoldT.alloc hstab (HoldT.alloc hstab (by with_reducible assumption) _) _) ?_
    intro hk_
    refine wpTr_step ?_
    simp only [pickOps, List.flatMap_nil]
    refine wpQuiet_nil ?_
    refine wpTr_one ?_
    simp only [pickOps, List.flatMap_cons, List.flatMap_nil, List.drop_succ_cons, List.drop_zero, List.take_succ_cons, List.take_zero, List.cons_append, List.nil_append, List.append_nil]
    go_wp2_with (first
    | (refine wpList_allocB rfl _ rfl _ run_allocKey ?_; intro x3 B3 hh hB3 e3; have k3 := e3.k; have hlt3 : w.heap.size < B3 := Nat.lt_of_lt_of_le (Blk.lt hk_.has) hB3; have hk3 := HoldT.step hstab hk_ e3)
    | (at_builtin; refine appB (W := w) rfl _ _ rfl _ ([116] ++ put64 bs.length) rfl (owns_below hown1' (show Ext x1 _ from (by first | with_reducible exact Ext.refl _ | solve_by_elim (maxDepth := 8) [Ext.tr]))) _ bs rfl (hs.below hk_.up (by decide)) (by rw [List.length_append, length_put64]; simp only [List.length_cons, List.length_nil]; omega) hk_.up ?_; intro v4 x4 hown4 hg4 hb4
       have k4 := KeepK.app (owns_below hown1' (show Ext x1 _ from (by first | with_reducible exact Ext.refl _ | solve_by_elim (maxDepth := 8) [Ext.tr]))) hg4
       clear hg4
       have hk4 : HoldT (KD w.heap.size key) w x4 := ⟨k4 _ _ hk_.has, hb4⟩)
    | (at_builtin; refine appB (W := w) rfl _ _ rfl v4 (([116] ++ put64 bs.length) ++ bs) rfl (owns_below hown4 (show Ext x4 _ from (by first | with_reducible exact Ext.refl _ | solve_by_elim (maxDepth := 8) [Ext.tr]))) _ b rfl (hv.below hk_.up (by decide)) (by rw [List.length_append, List.length_append, length_put64]; simp only [List.length_cons, List.length_nil]; omega) hk_.up ?_; intro v5 x5 hown5 hg5 hb5
       have k5 := KeepK.app (owns_below hown4 (show Ext x4 _ from (by first | with_reducible exact Ext.refl _ | solve_by_elim (maxDepth := 8) [Ext.tr]))) hg5
       clear hg5
       have hk5 : HoldT (KD w.heap.size key) w x5 := ⟨k5 _ _ hk_.has, hb5⟩)
    | (go_at_call 65; refine (MacOf_any _ _ _ key (([116] ++ put64 bs.length) ++ bs ++ b) (seesB_key hk_.has HK.out) ((sees_of_owns hown5).below (show Ext x5 _ from (by first | with_reducible exact Ext.refl _ | solve_by_elim (maxDepth := 8) [Ext.tr])) (by decide)) (by rw [HK.out]; omega) (by rw [List.length_append, List.length_append, List.length_append, length_put64]; simp only [List.length_cons, List.length_nil]; omega)).mono ?_; rintro e x6 ⟨rfl, hb6⟩; rw [HS.out]; have e6 : Ext _ x6 := hb6; have k6 := e6.k; have hk6 := HoldT.step hstab hk_ e6)
    | (refine wpList_store_row rfl 23 _ _ rfl B3 (keyA S) _ _ rfl rfl ((show KeepK x3 _ from (by first | with_reducible exact KeepK.refl _ | solve_by_elim (maxDepth := 8) [KeepK.tr])) _ _ hh) (by rw [keyA_size, keyA_size, HSL.out]; rfl) (by rw [keyA_size, HSL.out]; exact info_key) (keyA_one _) ?_; intro x7 hg7 hs7 hR7
       have hk7 : HoldT (KD w.heap.size key) w x7 := ⟨Blk.grownBy hk_.has hg7 (some_ne (by omega)), hk_.up.grown hg7 hk_.up.size (fun k hk => by cases hk; omega)⟩))
    refine phPost_hold (by first | with_reducible assumption | exact HoldT.alloc hstab (by with_reducible assumption) _ | exact HoldT.alloc hstab (HoldT.alloc hstab (by with_reducible assumption) _) _) ?_
    intro hk_
    refine wpTr_fin ?_
    simp only [pickOps, List.flatMap_nil]
    refine wpQuiet_nil ?_
    go_wp2_with fail
    go_ret
    exact ⟨_, rfl, (by rw [HTG.out]; exact sees_take (seesB_key hR7 HSL.out) 16 (by rw [HSL.out]; decide) (by rw [List.length_take, HSL.out]; rfl)), (fun k hk => by cases hk; exact Nat.le_of_lt hlt3), hk_.up⟩
  refine wpTr_one ?_
  simp only [pickOps, List.flatMap_cons, List.flatMap_nil, List.drop_succ_cons, List.drop_zero, List.take_succ_cons, List.take_zero, List.cons_append, List.nil_append, List.append_nil]
  go_wp2_with (first
    | (refine wpList_allocB rfl _ rfl _ run_allocKey ?_; intro x3 B3 hh hB3 e3; have k3 := e3.k; have hlt3 : w.heap.size < B3 := Nat.lt_of_lt_of_le (Blk.lt hk_.has) hB3; have hk3 := HoldT.step hstab hk_ e3)
    | (at_builtin; refine appB (W := w) rfl _ _ rfl _ ([116] ++ put64 bs.length) rfl (owns_below hown1' (show Ext x1 _ from (by first | with_reducible exact Ext.refl _ | solve_by_elim (maxDepth := 8) [Ext.tr]))) _ bs rfl (hs.below hk_.up (by decide)) (by rw [List.length_append, length_put64]; simp only [List.length_cons, List.length_nil]; omega) hk_.up ?_; intro v4 x4 hown4 hg4 hb4
       have k4 := KeepK.app (owns_below hown1' (show Ext x1 _ from (by first | with_reducible exact Ext.refl _ | solve_by_elim (maxDepth := 8) [Ext.tr]))) hg4
       clear hg4
       have hk4 : HoldT (KD w.heap.size key) w x4 := ⟨k4 _ _ hk_.has, hb4⟩)
    | (at_builtin; refine appB (W := w) rfl _ _ rfl v4 (([116] ++ put64 bs.length) ++ bs) rfl (owns_below hown4 (show Ext x4 _ from (by first | with_reducible exact Ext.refl _ | solve_by_elim (maxDepth := 8) [Ext.tr]))) _ b rfl (hv.below hk_.up (by decide)) (by rw [List.length_append, List.length_append, length_put64]; simp only [List.length_cons, List.length_nil]; omega) hk_.up ?_; intro v5 x5 hown5 hg5 hb5
       have k5 := KeepK.app (owns_below hown4 (show Ext x4 _ from (by first | with_reducible exact Ext.refl _ | solve_by_elim (maxDepth := 8) [Ext.tr]))) hg5
       clear hg5
       have hk5 : HoldT (KD w.heap.size key) w x5 := ⟨k5 _ _ hk_.has, hb5⟩)
    | (go_at_call 65; refine (MacOf_any _ _ _ key (([116] ++ put64 bs.length) ++ bs ++ b) (seesB_key hk_.has HK.out) ((sees_of_owns hown5).below (show Ext x5 _ from (by first | with_reducible exact Ext.refl _ | solve_by_elim (maxDepth := 8) [Ext.tr])) (by decide)) (by rw [HK.out]; omega) (by rw [List.length_append, List.length_append, List.length_append, length_put64]; simp only [List.length_cons, List.length_nil]; omega)).mono ?_; rintro e x6 ⟨rfl, hb6⟩; rw [HS.out]; have e6 : Ext _ x6 := hb6; have k6 := e6.k; have hk6 := HoldT.step hstab hk_ e6)
    | (refine wpList_store_row rfl 23 _ _ rfl B3 (keyA S) _ _ rfl rfl ((show KeepK x3 _ from (by first | with_reducible exact KeepK.refl _ | solve_by_elim (maxDepth := 8) [KeepK.tr])) _ _ hh) (by rw [keyA_size, keyA_size, HSL.out]; rfl) (by rw [keyA_size, HSL.out]; exact info_key) (keyA_one _) ?_; intro x7 hg7 hs7 hR7
       have hk7 : HoldT (KD w.heap.size key) w x7 := ⟨Blk.grownBy hk_.has hg7 (some_ne (by omega)), hk_.up.grown hg7 hk_.up.size (fun k hk => by cases hk; omega)⟩))
  refine phPost_hold (by first | with_reducible assumption | exact HoldT.alloc hstab (by with_reducible assumption) _ | exact HoldT.alloc hstab (HoldT.alloc hstab (by with_reducible assumption) _) _) ?_
  intro hk_
  refine wpTr_step ?_
  simp only [pickOps, List.flatMap_nil]
  refine wpQuiet_nil ?_
  refine wpTr_one ?_
  simp only [pickOps, List.flatMap_cons, List.flatMap_nil, List.drop_succ_cons, List.drop_zero, List.take_succ_cons, List.take_zero, List.cons_append, List.nil_append, List.append_nil]
  go_wp2_with (first
    | (refine wpList_allocB rfl _ rfl _ run_allocKey ?_; intro x3 B3 hh hB3 e3; have k3 := e3.k; have hlt3 : w.heap.size < B3 := Nat.lt_of_lt_of_le (Blk.lt hk_.has) hB3; have hk3 := HoldT.step hstab hk_ e3)
    | (at_builtin; refine appB (W := w) rfl _ _ rfl _ ([116] ++ put64 bs.length) rfl (owns_below hown1' (show Ext x1 _ from (by first | with_reducible exact Ext.refl _ | solve_by_elim (maxDepth := 8) [Ext.tr]))) _ bs rfl (hs.below hk_.up (by decide)) (by rw [List.length_append, length_put64]; simp only [List.length_cons, List.length_nil]; omega) hk_.up ?_; intro v4 x4 hown4 hg4 hb4
       have k4 := KeepK.app (owns_below hown1' (show Ext x1 _ from (by first | with_reducible exact Ext.refl _ | solve_by_elim (maxDepth := 8) [Ext.tr]))) hg4
       clear hg4
       have hk4 : HoldT (KD w.heap.size key) w x4 := ⟨k4 _ _ hk_.has, hb4⟩)
    | (at_builtin; refine appB (W := w) rfl _ _ rfl v4 (([116] ++ put64 bs.length) ++ bs) rfl (owns_below hown4 (show Ext x4 _ from (by first | with_reducible exact Ext.refl _ | solve_by_elim (maxDepth := 8) [Ext.tr]))) _ b rfl (hv.below hk_.up (by decide)) (by rw [List.length_append, List.length_append, length_put64]; simp only [List.length_cons, List.length_nil]; omega) hk_.up ?_; intro v5 x5 hown5 hg5 hb5
       have k5 := KeepK.app (owns_below hown4 (show Ext x4 _ from (by first | with_reducible exact Ext.refl _ | solve_by_elim (maxDepth := 8) [Ext.tr]))) hg5
       clear hg5
       have hk5 : HoldT (KD w.heap.size key) w x5 := ⟨k5 _ _ hk_.has, hb5⟩)
    | (go_at_call 65; refine (MacOf_any _ _ _ key (([116] ++ put64 bs.length) ++ bs ++ b) (seesB_key hk_.has HK.out) ((sees_of_owns hown5).below (show Ext x5 _ from (by first | with_reducible exact Ext.refl _ | solve_by_elim (maxDepth := 8) [Ext.tr])) (by decide)) (by rw [HK.out]; omega) (by rw [List.length_append, List.length_append, List.length_append, length_put64]; simp only [List.length_cons, List.length_nil]; omega)).mono ?_; rintro e x6 ⟨rfl, hb6⟩; rw [HS.out]; have e6 : Ext _ x6 := hb6; have k6 := e6.k; have hk6 := HoldT.step hstab hk_ e6)
    | (refine wpList_store_row rfl 23 _ _ rfl B3 (keyA S) _ _ rfl rfl ((show KeepK x3 _ from (by first | with_reducible exact KeepK.refl _ | solve_by_elim (maxDepth := 8) [KeepK.tr])) _ _ hh) (by rw [keyA_size, keyA_size, HSL.out]; rfl) (by rw [keyA_size, HSL.out]; exact info_key) (keyA_one _) ?_; intro x7 hg7 hs7 hR7
       have hk7 : HoldT (KD w.heap.size key) w x7 := ⟨Blk.grownBy hk_.has hg7 (some_ne (by omega)), hk_.up.grown hg7 hk_.up.size (fun k hk => by cases hk; omega)⟩))
  refine phPost_hold (by first | with_reducible assumption | exact HoldT.alloc hstab (by with_reducible assumption) _ | exact HoldT.alloc hstab (HoldT.alloc hstab (by with_reducible assumption) _) _) ?_
  intro hk_
  refine wpTr_step ?_
  simp only [pickOps, List.flatMap_nil]
  refine wpQuiet_nil ?_
  refine wpTr_one ?_
  simp only [pickOps, List.flatMap_cons, List.flatMap_nil, List.drop_succ_cons, List.drop_zero, List.take_succ_cons, List.take_zero, List.cons_append, List.nil_append, List.append_nil]
  go_wp2_with (first
    | (refine wpList_allocB rfl _ rfl _ run_allocKey ?_; intro x3 B3 hh hB3 e3; have k3 := e3.k; have hlt3 : w.heap.size < B3 := Nat.lt_of_lt_of_le (Blk.lt hk_.has) hB3; have hk3 := HoldT.step hstab hk_ e3)
    | (at_builtin; refine appB (W := w) rfl _ _ rfl _ ([116] ++ put64 bs.length) rfl (owns_below hown1' (show Ext x1 _ from (by first | with_reducible exact Ext.refl _ | solve_by_elim (maxDepth := 8) [Ext.tr]))) _ bs rfl (hs.below hk_.up (by decide)) (by rw [List.length_append, length_put64]; simp only [List.length_cons, List.length_nil]; omega) hk_.up ?_; intro v4 x4 hown4 hg4 hb4
       have k4 := KeepK.app (owns_below hown1' (show Ext x1 _ from (by first | with_reducible exact Ext.refl _ | solve_by_elim (maxDepth := 8) [Ext.tr]))) hg4
       clear hg4
       have hk4 : HoldT (KD w.heap.size key) w x4 := ⟨k4 _ _ hk_.has, hb4⟩)
    | (at_builtin; refine appB (W := w) rfl _ _ rfl v4 (([116] ++ put64 bs.length) ++ bs) rfl (owns_below hown4 (show Ext x4 _ from (by first | with_reducible exact Ext.refl _ | solve_by_elim (maxDepth := 8) [Ext.tr]))) _ b rfl (hv.below hk_.up (by decide)) (by rw [List.length_append, List.length_append, length_put64]; simp only [List.length_cons, List.length_nil]; omega) hk_.up ?_; intro v5 x5 hown5 hg5 hb5
       have k5 := KeepK.app (owns_below hown4 (show Ext x4 _ from (by first | with_reducible exact Ext.refl _ | solve_by_elim (maxDepth := 8) [Ext.tr]))) hg5
       clear hg5
       have hk5 : HoldT (KD w.heap.size key) w x5 := ⟨k5 _ _ hk_.has, hb5⟩)
    | (go_at_call 65; refine (MacOf_any _ _ _ key (([116] ++ put64 bs.length) ++ bs ++ b) (seesB_key hk_.has HK.out) ((sees_of_owns hown5).below (show Ext x5 _ from (by first | with_reducible exact Ext.refl _ | solve_by_elim (maxDepth := 8) [Ext.tr])) (by decide)) (by rw [HK.out]; omega) (by rw [List.length_append, List.length_append, List.length_append, length_put64]; simp only [List.length_cons, List.length_nil]; omega)).mono ?_; rintro e x6 ⟨rfl, hb6⟩; rw [HS.out]; have e6 : Ext _ x6 := hb6; have k6 := e6.k; have hk6 := HoldT.step hstab hk_ e6)
    | (refine wpList_store_row rfl 23 _ _ rfl B3 (keyA S) _ _ rfl rfl ((show KeepK x3 _ from (by first | with_reducible exact KeepK.refl _ | solve_by_elim (maxDepth := 8) [KeepK.tr])) _ _ hh) (by rw [keyA_size, keyA_size, HSL.out]; rfl) (by rw [keyA_size, HSL.out]; exact info_key) (keyA_one _) ?_; intro x7 hg7 hs7 hR7
       have hk7 : HoldT (KD w.heap.size key) w x7 := ⟨Blk.grownBy hk_.has hg7 (some_ne (by omega)), hk_.up.grown hg7 hk_.up.size (fun k hk => by cases hk; omega)⟩))
  refine phPost_hold (by first | with_reducible assumption | exact HoldT.alloc hstab (by with_reducible assumption) _ | exact HoldT.alloc hstab (HoldT.alloc hstab (by with_reducible assumption) _) _) ?_
  intro hk_
  refine wpTr_step ?_
  simp only [pickOps, List.flatMap_nil]
  refine wpQuiet_nil ?_
  refine wpTr_one ?_
  simp only [pickOps, List.flatMap_cons, List.flatMap_nil, List.drop_succ_cons, List.drop_zero, List.take_succ_cons, List.take_zero, List.cons_append, List.nil_append, List.append_nil]
  go_wp2_with (first
    | (refine wpList_allocB rfl _ rfl _ run_allocKey ?_; intro x3 B3 hh hB3 e3; have k3 := e3.k; have hlt3 : w.heap.size < B3 := Nat.lt_of_lt_of_le (Blk.lt hk_.has) hB3; have hk3 := HoldT.step hstab hk_ e3)
    | (at_builtin; refine appB (W := w) rfl _ _ rfl _ ([116] ++ put64 bs.length) rfl (owns_below hown1' (show Ext x1 _ from (by first | with_reducible exact Ext.refl _ | solve_by_elim (maxDepth := 8) [Ext.tr]))) _ bs rfl (hs.below hk_.up (by decide)) (by rw [List.length_append, length_put64]; simp only [List.length_cons, List.length_nil]; omega) hk_.up ?_; intro v4 x4 hown4 hg4 hb4
       have k4 := KeepK.app (owns_below hown1' (show Ext x1 _ from (by first | with_reducible exact Ext.refl _ | solve_by_elim (maxDepth := 8) [Ext.tr]))) hg4
       clear hg4
       have hk4 : HoldT (KD w.heap.size key) w x4 := ⟨k4 _ _ hk_.has, hb4⟩)
    | (at_builtin; refine appB (W := w) rfl _ _ rfl v4 (([116] ++ put64 bs.length) ++ bs) rfl (owns_below hown4 (show Ext x4 _ from (by first | with_reducible exact Ext.refl _ | solve_by_elim (maxDepth := 8) [Ext.tr]))) _ b rfl (hv.below hk_.up (by decide)) (by rw [List.length_append, List.length_append, length_put64]; simp only [List.length_cons, List.length_nil]; omega) hk_.up ?_; intro v5 x5 hown5 hg5 hb5
       have k5 := KeepK.app (owns_below hown4 (show Ext x4 _ from (by first | with_reducible exact Ext.refl _ | solve_by_elim (maxDepth := 8) [Ext.tr]))) hg5
       clear hg5
       have hk5 : HoldT (KD w.heap.size key) w x5 := ⟨k5 _ _ hk_.has, hb5⟩)
    | (go_at_call 65; refine (MacOf_any _ _ _ key (([116] ++ put64 bs.length) ++ bs ++ b) (seesB_key hk_.has HK.out) ((sees_of_owns hown5).below (show Ext x5 _ from (by first | with_reducible exact Ext.refl _ | solve_by_elim (maxDepth := 8) [Ext.tr])) (by decide)) (by rw [HK.out]; omega) (by rw [List.length_append, List.length_append, List.length_append, length_put64]; simp only [List.length_cons, List.length_nil]; omega)).mono ?_; rintro e x6 ⟨rfl, hb6⟩; rw [HS.out]; have e6 : Ext _ x6 := hb6; have k6 := e6.k; have hk6 := HoldT.step hstab hk_ e6)
    | (refine wpList_store_row rfl 23 _ _ rfl B3 (keyA S) _ _ rfl rfl ((show KeepK x3 _ from (by first | with_reducible exact KeepK.refl _ | solve_by_elim (maxDepth := 8) [KeepK.tr])) _ _ hh) (by rw [keyA_size, keyA_size, HSL.out]; rfl) (by rw [keyA_size, HSL.out]; exact info_key) (keyA_one _) ?_; intro x7 hg7 hs7 hR7
       have hk7 : HoldT (KD w.heap.size key) w x7 := ⟨Blk.grownBy hk_.has hg7 (some_ne (by omega)), hk_.up.grown hg7 hk_.up.size (fun k hk => by cases hk; omega)⟩))
  refine phPost_hold (by first | with_reducible assumption | exact HoldT.alloc hstab (by with_reducible assumption) _ | exact HoldT.alloc hstab (HoldT.alloc hstab (by with_reducible assumption) _) _) ?_
  intro hk_
  refine wpTr_step ?_
  simp only [pickOps, List.flatMap_nil]
  refine wpQuiet_nil ?_
  refine wpTr_one ?_
  simp only [pickOps, List.flatMap_cons, List.flatMap_nil, List.drop_succ_cons, List.drop_zero, List.take_succ_cons, List.take_zero, List.cons_append, List.nil_append, List.append_nil]
  go_wp2_with (first
    | (refine wpList_allocB rfl _ rfl _ run_allocKey ?_; intro x3 B3 hh hB3 e3; have k3 := e3.k; have hlt3 : w.heap.size < B3 := Nat.lt_of_lt_of_le (Blk.lt hk_.has) hB3; have hk3 := HoldT.step hstab hk_ e3)
    | (at_builtin; refine appB (W := w) rfl _ _ rfl _ ([116] ++ put64 bs.length) rfl (owns_below hown1' (show Ext x1 _ from (by first | with_reducible exact Ext.refl _ | solve_by_elim (maxDepth := 8) [Ext.tr]))) _ bs rfl (hs.below hk_.up (by decide)) (by rw [List.length_append, length_put64]; simp only [List.length_cons, List.length_nil]; omega) hk_.up ?_; intro v4 x4 hown4 hg4 hb4
       have k4 := KeepK.app (owns_below hown1' (show Ext x1 _ from (by first | with_reducible exact Ext.refl _ | solve_by_elim (maxDepth := 8) [Ext.tr]))) hg4
       clear hg4
       have hk4 : HoldT (KD w.heap.size key) w x4 := ⟨k4 _ _ hk_.has, hb4⟩)
    | (at_builtin; refine appB (W := w) rfl _ _ rfl v4 (([116] ++ put64 bs.length) ++ bs) rfl (owns_below hown4 (show Ext x4 _ from (by first | with_reducible exact Ext.refl _ | solve_by_elim (maxDepth := 8) [Ext.tr]))) _ b rfl (hv.below hk_.up (by decide)) (by rw [List.length_append, List.length_append, length_put64]; simp only [List.length_cons, List.length_nil]; omega) hk_.up ?_; intro v5 x5 hown5 hg5 hb5
       have k5 := KeepK.app (owns_below hown4 (show Ext x4 _ from (by first | with_reducible exact Ext.refl _ | solve_by_elim (maxDepth := 8) [Ext.tr]))) hg5
       clear hg5
       have hk5 : HoldT (KD w.heap.size key) w x5 := ⟨k5 _ _ hk_.has, hb5⟩)
    | (go_at_call 65; refine (MacOf_any _ _ _ key (([116] ++ put64 bs.length) ++ bs ++ b) (seesB_key hk_.has HK.out) ((sees_of_owns hown5).below (show Ext x5 _ from (by first | with_reducible exact Ext.refl _ | solve_by_elim (maxDepth := 8) [Ext.tr])) (by decide)) (by rw [HK.out]; omega) (by rw [List.length_append, List.length_append, List.length_append, length_put64]; simp only [List.length_cons, List.length_nil]; omega)).mono ?_; rintro e x6 ⟨rfl, hb6⟩; rw [HS.out]; have e6 : Ext _ x6 := hb6; have k6 := e6.k; have hk6 := HoldT.step hstab hk_ e6)
    | (refine wpList_store_row rfl 23 _ _ rfl B3 (keyA S) _ _ rfl rfl ((show KeepK x3 _ from (by first | with_reducible exact KeepK.refl _ | solve_by_elim (maxDepth := 8) [KeepK.tr])) _ _ hh) (by rw [keyA_size, keyA_size, HSL.out]; rfl) (by rw [keyA_size, HSL.out]; exact info_key) (keyA_one _) ?_; intro x7 hg7 hs7 hR7
       have hk7 : HoldT (KD w.heap.size key) w x7 := ⟨Blk.grownBy hk_.has hg7 (some_ne (by omega)), hk_.up.grown hg7 hk_.up.size (fun k hk => by cases hk; omega)⟩))
  refine phPost_hold (by first | with_reducible assumption | exact HoldT.alloc hstab (by with_reducible assumption) _ | exact HoldT.alloc hstab (HoldT.alloc hstab (by with_reducible assumption) _) _) ?_
  intro hk_
  refine wpTr_fin ?_
  simp only [pickOps, List.flatMap_nil]
  refine wpQuiet_nil ?_
  go_wp2_with fail
  go_ret
  exact ⟨_, rfl, (by rw [HTG.out]; exact sees_take (seesB_key hR7 HSL.out) 16 (by rw [HSL.out]; decide) (by rw [List.length_take, HSL.out]; rfl)), (fun k hk => by cases hk; exact Nat.le_of_lt hlt3), hk_.up⟩

set_option maxRecDepth 100000 in
set_option maxHeartbeats 2000000 in
theorem tag_any (key bs b : List UInt8) (vs v : Value) (w : World) (hk : key.length = 32) (hs : SeesB w vs bs) (hv : SeesB w v b) (hl1 : bs.length ≤ 20000000000000) (hl : b.length ≤ 20000000000000) :
    Calls Try.prog 109 #[.agg (keyA key), vs, v] w (RetB (tagL key bs b) w) := by
  have HK := Lib.hid hk; clear hk
  obtain ⟨a0, c0, rfl, hac0, hc0⟩ := sees_form hv
  obtain ⟨a1, c1, rfl, hac1, hc1⟩ := sees_form hs
  obtain ⟨S, hS⟩ : ∃ S, mac key (([116] ++ put64 bs.length) ++ bs ++ b) = S := ⟨_, rfl⟩
  have hSL : S.length = 32 := by rw [← hS]; exact length_mac _ _
  have HTG := Lib.hid (show tagL key bs b = S.take 16 by rw [← hS]; rfl)
  have HS := Lib.hid hS; have HSL := Lib.hid hSL
  clear hS hSL
  have hk0 := Lib.hid (show KD w.heap.size key (w.alloc (.cells (keyA key) 23)) from Blk.new _ _ _)
  have hb0 := Lib.hid (show Below w.heap.size w (w.alloc (.cells (keyA key) 23)) by go_grown)
  go_enter Try.func109, Try.ntmps109
  go_wp2_with (first
    | (refine wpList_lit1 rfl _ rfl 116 rfl ?_; intro x0 B0 hlit hB0 e0)
    | (go_at_call 71; refine (Put64r_any _ _ [116] _ hlit (by omega) (by omega) (by decide)).mono ?_; rintro e x1 ⟨v1, rfl, hown1, hb1⟩; rw [Int.toNat_natCast] at hown1; obtain ⟨a3, c3, rfl, hc3, hc3'⟩ := owns_form hown1
       have hbel0 := hb0.out.trans (Below.mono e0 hb0.out.size)
       have hbel1 := hbel0.trans (hb1.mono hbel0.size)
       have hown1' := owns_mono hown1 hbel0.size
       have hB1 := (hk0.out.below e0).below hb1)
    | (at_builtin; refine appB (W := w) rfl _ _ rfl _ ([116] ++ put64 bs.length) rfl hown1' _ bs rfl (hs.below hbel1 (by decide)) (by rw [List.length_append, length_put64]; simp only [List.length_cons, List.length_nil]; omega) hbel1 ?_; intro v4 x4 hown4 hg4 hb4
       have k4 := KeepK.app hown1' hg4
       have hB4 := k4 _ _ hB1
       clear hg4))
  have hstab := stabKD w.heap.size key
  have hk : HoldT (KD w.heap.size key) w x4.drew := ⟨hB4.drew, hb4.drew⟩
  have e2 := Ext.drew x4
  have k2 := e2.k
  try change Code.wp _ _ _ (Act.mk _ _) _
  haveI hne_ : Nonempty (InC (KD w.heap.size key)) := ⟨⟨_, (hk).1⟩⟩
  refine wp_region_tr (C := fun w_ => ∃ e_ : InC (KD w.heap.size key), w_ = e_.u) (.step [0, 1, 2] (.alt 3 (.step [] (.alt 4 (.step [] (.alt 5 (.step [] (.alt 6 (.fin []) .nil)) .nil)) (.alt 5 (.step [] (.alt 4 (.step [] (.alt 6 (.fin []) .nil)) .nil)) .nil))) (.alt 5 (.step [] (.alt 3 (.step [] (.alt 4 (.step [] (.alt 6 (.fin []) .nil)) .nil)) .nil)) .nil))) (by kernel_rfl) (by kernel_rfl) (fun _ _ _ _ hd_ h_ => ⟨hd_.symm.trans h_.1, h_.2⟩) ⟨⟨World.drew _, (hk).1⟩, rfl⟩ ?_
  have hk_ := hk
  refine wpTr_step ?_
  simp only [pickOps, List.flatMap_cons, List.flatMap_nil, List.drop_succ_cons, List.drop_zero, List.take_succ_cons, List.take_zero, List.cons_append, List.nil_append, List.append_nil]
  iterate 3 (go_big_quiet_step (exact rfl))
  refine wpQuiet_nil ?_
  refine wpTr_alt ?_ ?_
  focus
    simp only [pickOps, List.flatMap_cons, List.flatMap_nil, List.drop_succ_cons, List.drop_zero, List.take_succ_cons, List.take_zero, List.cons_append, List.nil_append, List.append_nil]
    go_wp2_with (first
    | (refine wpList_allocB rfl _ rfl _ run_allocKey ?_; intro x3 B3 hh hB3 e3; have k3 := e3.k; have hlt3 : w.heap.size < B3 := Nat.lt_of_lt_of_le (Blk.lt hk_.has) hB3; have hk3 := HoldT.step hstab hk_ e3)
    | (at_builtin; refine appB (W := w) rfl _ _ rfl v4 (([116] ++ put64 bs.length) ++ bs) rfl (owns_below hown4 (show Ext x4 _ from (by first | with_reducible exact Ext.refl _ | solve_by_elim (maxDepth := 8) [Ext.tr]))) _ b rfl (hv.below hk_.up (by decide)) (by rw [List.length_append, List.length_append, length_put64]; simp only [List.length_cons, List.length_nil]; omega) hk_.up ?_; intro v5 x5 hown5 hg5 hb5
       have k5 := KeepK.app (owns_below hown4 (show Ext x4 _ from (by first | with_reducible exact Ext.refl _ | solve_by_elim (maxDepth := 8) [Ext.tr]))) hg5
       clear hg5
       have hk5 : HoldT (KD w.heap.size key) w x5 := ⟨k5 _ _ hk_.has, hb5⟩)
    | (go_at_call 70; refine (Macr_any _ _ _ key (([116] ++ put64 bs.length) ++ bs ++ b) (seesB_key hk_.has HK.out) ((sees_of_owns hown5).below (show Ext x5 _ from (by first | with_reducible exact Ext.refl _ | solve_by_elim (maxDepth := 8) [Ext.tr])) (by decide)) (by rw [HK.out]; omega) (by rw [List.length_append, List.length_append, List.length_append, length_put64]; simp only [List.length_cons, List.length_nil]; omega)).mono ?_; rintro e x6 ⟨rfl, hb6⟩; rw [HS.out]; have e6 : Ext _ x6 := hb6; have k6 := e6.k; have hk6 := HoldT.step hstab hk_ e6)
    | (refine wpList_store_row rfl 23 _ _ rfl B3 (keyA S) _ _ rfl rfl ((show KeepK x3 _ from (by first | with_reducible exact KeepK.refl _ | solve_by_elim (maxDepth := 8) [KeepK.tr])) _ _ hh) (by rw [keyA_size, keyA_size, HSL.out]; rfl) (by rw [keyA_size, HSL.out]; exact info_key) (keyA_one _) ?_; intro x7 hg7 hs7 hR7
       have hk7 : HoldT (KD w.heap.size key) w x7 := ⟨Blk.grownBy hk_.has hg7 (some_ne (by omega)), hk_.up.grown hg7 hk_.up.size (fun k hk => by cases hk; omega)⟩))
    refine phPost_hold (by first | with_reducible assumption | exact HoldT.alloc hstab (by with_reducible assumption) _ | exact HoldT.alloc hstab (HoldT.alloc hstab (by with_reducible assumption) _) _) ?_
    intro hk_
    refine wpTr_step ?_
    simp only [pickOps, List.flatMap_nil]
    refine wpQuiet_nil ?_
    refine wpTr_alt ?_ ?_
    focus
      simp only [pickOps, List.flatMap_cons, List.flatMap_nil, List.drop_succ_cons, List.drop_zero, List.take_succ_cons, List.take_zero, List.cons_append, List.nil_append, List.append_nil]
      go_wp2_with (first
    | (refine wpList_allocB rfl _ rfl _ run_allocKey ?_; intro x3 B3 hh hB3 e3; have k3 := e3.k; have hlt3 : w.heap.size < B3 := Nat.lt_of_lt_of_le (Blk.lt hk_.has) hB3; have hk3 := HoldT.step hstab hk_ e3)
    | (at_builtin; refine appB (W := w) rfl _ _ rfl v4 (([116] ++ put64 bs.length) ++ bs) rfl (owns_below hown4 (show Ext x4 _ from (by first | with_reducible exact Ext.refl _ | solve_by_elim (maxDepth := 8) [Ext.tr]))) _ b rfl (hv.below hk_.up (by decide)) (by rw [List.length_append, List.length_append, length_put64]; simp only [List.length_cons, List.length_nil]; omega) hk_.up ?_; intro v5 x5 hown5 hg5 hb5
       have k5 := KeepK.app (owns_below hown4 (show Ext x4 _ from (by first | with_reducible exact Ext.refl _ | solve_by_elim (maxDepth := 8) [Ext.tr]))) hg5
       clear hg5
       have hk5 : HoldT (KD w.heap.size key) w x5 := ⟨k5 _ _ hk_.has, hb5⟩)
    | (go_at_call 70; refine (Macr_any _ _ _ key (([116] ++ put64 bs.length) ++ bs ++ b) (seesB_key hk_.has HK.out) ((sees_of_owns hown5).below (show Ext x5 _ from (by first | with_reducible exact Ext.refl _ | solve_by_elim (maxDepth := 8) [Ext.tr])) (by decide)) (by rw [HK.out]; omega) (by rw [List.length_append, List.length_append, List.length_append, length_put64]; simp only [List.length_cons, List.length_nil]; omega)).mono ?_; rintro e x6 ⟨rfl, hb6⟩; rw [HS.out]; have e6 : Ext _ x6 := hb6; have k6 := e6.k; have hk6 := HoldT.step hstab hk_ e6)
    | (refine wpList_store_row rfl 23 _ _ rfl B3 (keyA S) _ _ rfl rfl ((show KeepK x3 _ from (by first | with_reducible exact KeepK.refl _ | solve_by_elim (maxDepth := 8) [KeepK.tr])) _ _ hh) (by rw [keyA_size, keyA_size, HSL.out]; rfl) (by rw [keyA_size, HSL.out]; exact info_key) (keyA_one _) ?_; intro x7 hg7 hs7 hR7
       have hk7 : HoldT (KD w.heap.size key) w x7 := ⟨Blk.grownBy hk_.has hg7 (some_ne (by omega)), hk_.up.grown hg7 hk_.up.size (fun k hk => by cases hk; omega)⟩))
      refine phPost_hold (by first | with_reducible assumption | exact HoldT.alloc hstab (by with_reducible assumption) _ | exact HoldT.alloc hstab (HoldT.alloc hstab (by with_reducible assumption) _) _) ?_
      intro hk_
      refine wpTr_step ?_
      simp only [pickOps, List.flatMap_nil]
      refine wpQuiet_nil ?_
      refine wpTr_one ?_
      simp only [pickOps, List.flatMap_cons, List.flatMap_nil, List.drop_succ_cons, List.drop_zero, List.take_succ_cons, List.take_zero, List.cons_append, List.nil_append, List.append_nil]
      go_wp2_with (first
    | (refine wpList_allocB rfl _ rfl _ run_allocKey ?_; intro x3 B3 hh hB3 e3; have k3 := e3.k; have hlt3 : w.heap.size < B3 := Nat.lt_of_lt_of_le (Blk.lt hk_.has) hB3; have hk3 := HoldT.step hstab hk_ e3)
    | (at_builtin; refine appB (W := w) rfl _ _ rfl v4 (([116] ++ put64 bs.length) ++ bs) rfl (owns_below hown4 (show Ext x4 _ from (by first | with_reducible exact Ext.refl _ | solve_by_elim (maxDepth := 8) [Ext.tr]))) _ b rfl (hv.below hk_.up (by decide)) (by rw [List.length_append, List.length_append, length_put64]; simp only [List.length_cons, List.length_nil]; omega) hk_.up ?_; intro v5 x5 hown5 hg5 hb5
       have k5 := KeepK.app (owns_below hown4 (show Ext x4 _ from (by first | with_reducible exact Ext.refl _ | solve_by_elim (maxDepth := 8) [Ext.tr]))) hg5
       clear hg5
       have hk5 : HoldT (KD w.heap.size key) w x5 := ⟨k5 _ _ hk_.has, hb5⟩)
    | (go_at_call 70; refine (Macr_any _ _ _ key (([116] ++ put64 bs.length) ++ bs ++ b) (seesB_key hk_.has HK.out) ((sees_of_owns hown5).below (show Ext x5 _ from (by first | with_reducible exact Ext.refl _ | solve_by_elim (maxDepth := 8) [Ext.tr])) (by decide)) (by rw [HK.out]; omega) (by rw [List.length_append, List.length_append, List.length_append, length_put64]; simp only [List.length_cons, List.length_nil]; omega)).mono ?_; rintro e x6 ⟨rfl, hb6⟩; rw [HS.out]; have e6 : Ext _ x6 := hb6; have k6 := e6.k; have hk6 := HoldT.step hstab hk_ e6)
    | (refine wpList_store_row rfl 23 _ _ rfl B3 (keyA S) _ _ rfl rfl ((show KeepK x3 _ from (by first | with_reducible exact KeepK.refl _ | solve_by_elim (maxDepth := 8) [KeepK.tr])) _ _ hh) (by rw [keyA_size, keyA_size, HSL.out]; rfl) (by rw [keyA_size, HSL.out]; exact info_key) (keyA_one _) ?_; intro x7 hg7 hs7 hR7
       have hk7 : HoldT (KD w.heap.size key) w x7 := ⟨Blk.grownBy hk_.has hg7 (some_ne (by omega)), hk_.up.grown hg7 hk_.up.size (fun k hk => by cases hk; omega)⟩))
      refine phPost_hold (by first | with_reducible assumption | exact HoldT.alloc hstab (by with_reducible assumption) _ | exact HoldT.alloc hstab (HoldT.alloc hstab (by with_reducible assumption) _) _) ?_
      intro hk_
      refine wpTr_step ?_
      simp only [pickOps, List.flatMap_nil]
      refine wpQuiet_nil ?_
      refine wpTr_one ?_
      simp only [pickOps, List.flatMap_cons, List.flatMap_nil, List.drop_succ_cons, List.drop_zero, List.take_succ_cons, List.take_zero, List.cons_append, List.nil_append, List.append_nil]
      go_wp2_with (first
    | (refine wpList_allocB rfl _ rfl _ run_allocKey ?_; intro x3 B3 hh hB3 e3; have k3 := e3.k; have hlt3 : w.heap.size < B3 := Nat.lt_of_lt_of_le (Blk.lt hk_.has) hB3; have hk3 := HoldT.step hstab hk_ e3)
    | (at_builtin; refine appB (W := w) rfl _ _ rfl v4 (([116] ++ put64 bs.length) ++ bs) rfl (owns_below hown4 (show Ext x4 _ from (by first | with_reducible exact Ext.refl _ | solve_by_elim (maxDepth := 8) [Ext.tr]))) _ b rfl (hv.below hk_.up (by decide)) (by rw [List.length_append, List.length_append, length_put64]; simp only [List.length_cons, List.length_nil]; omega) hk_.up ?_; intro v5 x5 hown5 hg5 hb5
       have k5 := KeepK.app (owns_below hown4 (show Ext x4 _ from (by first | with_reducible exact Ext.refl _ | solve_by_elim (maxDepth := 8) [Ext.tr]))) hg5
       clear hg5
       have hk5 : HoldT (KD w.heap.size key) w x5 := ⟨k5 _ _ hk_.has, hb5⟩)
    | (go_at_call 70; refine (Macr_any _ _ _ key (([116] ++ put64 bs.length) ++ bs ++ b) (seesB_key hk_.has HK.out) ((sees_of_owns hown5).below (show Ext x5 _ from (by first | with_reducible exact Ext.refl _ | solve_by_elim (maxDepth := 8) [Ext.tr])) (by decide)) (by rw [HK.out]; omega) (by rw [List.length_append, List.length_append, List.length_append, length_put64]; simp only [List.length_cons, List.length_nil]; omega)).mono ?_; rintro e x6 ⟨rfl, hb6⟩; rw [HS.out]; have e6 : Ext _ x6 := hb6; have k6 := e6.k; have hk6 := HoldT.step hstab hk_ e6)
    | (refine wpList_store_row rfl 23 _ _ rfl B3 (keyA S) _ _ rfl rfl ((show KeepK x3 _ from (by first | with_reducible exact KeepK.refl _ | solve_by_elim (maxDepth := 8) [KeepK.tr])) _ _ hh) (by rw [keyA_size, keyA_size, HSL.out]; rfl) (by rw [keyA_size, HSL.out]; exact info_key) (keyA_one _) ?_; intro x7 hg7 hs7 hR7
       have hk7 : HoldT (KD w.heap.size key) w x7 := ⟨Blk.grownBy hk_.has hg7 (some_ne (by omega)), hk_.up.grown hg7 hk_.up.size (fun k hk => by cases hk; omega)⟩))
      refine phPost_hold (by first | with_reducible assumption | exact HoldT.alloc hstab (by with_reducible assumption) _ | exact HoldT.alloc hstab (HoldT.alloc hstab (by with_reducible assumption) _) _) ?_
      intro hk_
      refine wpTr_fin ?_
      simp only [pickOps, List.flatMap_nil]
      refine wpQuiet_nil ?_
      have h16 := sees_take (seesB_key hR7 HSL.out) 16 (by rw [HSL.out]; decide) (by rw [List.length_take, HSL.out]; rfl)
      rw [← HTG.out] at h16
      go_wp2_with (at_builtin; refine appB (W := w) rfl _ _ rfl (.slice none 0 0) [] rfl (ownB_nil _ _) _ (tagL key bs b) rfl h16 (by rw [length_tagL, List.length_nil]; omega) hk_.up ?_; intro v8 w8 hown8 hgr8 hb8; clear hgr8; rw [List.nil_append] at hown8; obtain ⟨a8, c8, rfl, hc8, hc8'⟩ := owns_form hown8)
      go_ret
      exact RetB.mk hown8 hb8
    refine wpTr_one ?_
    simp only [pickOps, List.flatMap_cons, List.flatMap_nil, List.drop_succ_cons, List.drop_zero, List.take_succ_cons, List.take_zero, List.cons_append, List.nil_append, List.append_nil]
    go_wp2_with (first
    | (refine wpList_allocB rfl _ rfl _ run_allocKey ?_; intro x3 B3 hh hB3 e3; have k3 := e3.k; have hlt3 : w.heap.size < B3 := Nat.lt_of_lt_of_le (Blk.lt hk_.has) hB3; have hk3 := HoldT.step hstab hk_ e3)
    | (at_builtin; refine appB (W := w) rfl _ _ rfl v4 (([116] ++ put64 bs.length) ++ bs) rfl (owns_below hown4 (show Ext x4 _ from (by first | with_reducible exact Ext.refl _ | solve_by_elim (maxDepth := 8) [Ext.tr]))) _ b rfl (hv.below hk_.up (by decide)) (by rw [List.length_append, List.length_append, length_put64]; simp only [List.length_cons, List.length_nil]; omega) hk_.up ?_; intro v5 x5 hown5 hg5 hb5
       have k5 := KeepK.app (owns_below hown4 (show Ext x4 _ from (by first | with_reducible exact Ext.refl _ | solve_by_elim (maxDepth := 8) [Ext.tr]))) hg5
       clear hg5
       have hk5 : HoldT (KD w.heap.size key) w x5 := ⟨k5 _ _ hk_.has, hb5⟩)
    | (go_at_call 70; refine (Macr_any _ _ _ key (([116] ++ put64 bs.length) ++ bs ++ b) (seesB_key hk_.has HK.out) ((sees_of_owns hown5).below (show Ext x5 _ from (by first | with_reducible exact Ext.refl _ | solve_by_elim (maxDepth := 8) [Ext.tr])) (by decide)) (by rw [HK.out]; omega) (by rw [List.length_append, List.length_append, List.length_append, length_put64]; simp only [List.length_cons, List.length_nil]; omega)).mono ?_; rintro e x6 ⟨rfl, hb6⟩; rw [HS.out]; have e6 : Ext _ x6 := hb6; have k6 := e6.k; have hk6 := HoldT.step hstab hk_ e6)
    | (refine wpList_store_row rfl 23 _ _ rfl B3 (keyA S) _ _ rfl rfl ((show KeepK x3 _ from (by first | with_reducible exact KeepK.refl _ | solve_by_elim (maxDepth := 8) [KeepK.tr])) _ _ hh) (by rw [keyA_size, keyA_size, HSL.out]; rfl) (by rw [keyA_size, HSL.out]; exact info_key) (keyA_one _) ?_; intro x7 hg7 hs7 hR7
       have hk7 : HoldT (KD w.heap.size key) w x7 := ⟨Blk.grownBy hk_.has hg7 (some_ne (by omega)), hk_.up.grown hg7 hk_.up.size (fun k hk => by cases hk; omega)⟩))
    refine phPost_hold (by first | with_reducible assumption | exact HoldT.alloc hstab (by with_reducible assumption) _ | exact HoldT.alloc hstab (HoldT.alloc hstab (by with_reducible assumption) _) _) ?_
    intro hk_
    refine wpTr_step ?_
    simp only [pickOps, List.flatMap_nil]
    refine wpQuiet_nil ?_
    refine wpTr_one ?_
    simp only [pickOps, List.flatMap_cons, List.flatMap_nil, List.drop_succ_cons, List.drop_zero, List.take_succ_cons, List.take_zero, List.cons_append, List.nil_append, List.append_nil]
    go_wp2_with (first
    | (refine wpList_allocB rfl _ rfl _ run_allocKey ?_; intro x3 B3 hh hB3 e3; have k3 := e3.k; have hlt3 : w.heap.size < B3 := Nat.lt_of_lt_of_le (Blk.lt hk_.has) hB3; have hk3 := HoldT.step hstab hk_ e3)
    | (at_builtin; refine appB (W := w) rfl _ _ rfl v4 (([116] ++ put64 bs.length) ++ bs) rfl (owns_below hown4 (show Ext x4 _ from (by first | with_reducible exact Ext.refl _ | solve_by_elim (maxDepth := 8) [Ext.tr]))) _ b rfl (hv.below hk_.up (by decide)) (by rw [List.length_append, List.length_append, length_put64]; simp only [List.length_cons, List.length_nil]; omega) hk_.up ?_; intro v5 x5 hown5 hg5 hb5
       have k5 := KeepK.app (owns_below hown4 (show Ext x4 _ from (by first | with_reducible exact Ext.refl _ | solve_by_elim (maxDepth := 8) [Ext.tr]))) hg5
       clear hg5
       have hk5 : HoldT (KD w.heap.size key) w x5 := ⟨k5 _ _ hk_.has, hb5⟩)
    | (go_at_call 70; refine (Macr_any _ _ _ key (([116] ++ put64 bs.length) ++ bs ++ b) (seesB_key hk_.has HK.out) ((sees_of_owns hown5).below (show Ext x5 _ from (by first | with_reducible exact Ext.refl _ | solve_by_elim (maxDepth := 8) [Ext.tr])) (by decide)) (by rw [HK.out]; omega) (by rw [List.length_append, List.length_append, List.length_append, length_put64]; simp only [List.length_cons, List.length_nil]; omega)).mono ?_; rintro e x6 ⟨rfl, hb6⟩; rw [HS.out]; have e6 : Ext _ x6 := hb6; have k6 := e6.k; have hk6 := HoldT.step hstab hk_ e6)
    | (refine wpList_store_row rfl 23 _ _ rfl B3 (keyA S) _ _ rfl rfl ((show KeepK x3 _ from (by first | with_reducible exact KeepK.refl _ | solve_by_elim (maxDepth := 8) [KeepK.tr])) _ _ hh) (by rw [keyA_size, keyA_size, HSL.out]; rfl) (by rw [keyA_size, HSL.out]; exact info_key) (keyA_one _) ?_; intro x7 hg7 hs7 hR7
       have hk7 : HoldT (KD w.heap.size key) w x7 := ⟨Blk.grownBy hk_.has hg7 (some_ne (by omega)), hk_.up.grown hg7 hk_.up.size (fun k hk => by cases hk; omega)⟩))
    refine phPost_hold (by first | with_reducible assumption | exact HoldT.alloc hstab (by with_reducible assumption) _ | exact HoldT.alloc hstab (HoldT.alloc hstab (by with_reducible assumption) _) _) ?_
    intro hk_
    refine wpTr_step ?_
    simp only [pickOps, List.flatMap_nil]
    refine wpQuiet_nil ?_
    refine wpTr_one ?_
    simp only [pickOps, List.flatMap_cons, List.flatMap_nil, List.drop_succ_cons, List.drop_zero, List.take_succ_cons, List.take_zero, List.cons_append, List.nil_append, List.append_nil]
    go_wp2_with (first
    | (refine wpList_allocB rfl _ rfl _ run_allocKey ?_; intro x3 B3 hh hB3 e3; have k3 := e3.k; have hlt3 : w.heap.size < B3 := Nat.lt_of_lt_of_le (Blk.lt hk_.has) hB3; have hk3 := HoldT.step hstab hk_ e3)
    | (at_builtin; refine appB (W := w) rfl _ _ rfl v4 (([116] ++ put64 bs.length) ++ bs) rfl (owns_below hown4 (show Ext x4 _ from (by first | with_reducible exact Ext.refl _ | solve_by_elim (maxDepth := 8) [Ext.tr]))) _ b rfl (hv.below hk_.up (by decide)) (by rw [List.length_append, List.length_append, length_put64]; simp only [List.length_cons, List.length_nil]; omega) hk_.up ?_; intro v5 x5 hown5 hg5 hb5
       have k5 := KeepK.app (owns_below hown4 (show Ext x4 _ from (by first | with_reducible exact Ext.refl _ | solve_by_elim (maxDepth := 8) [Ext.tr]))) hg5
       clear hg5
       have hk5 : HoldT (KD w.heap.size key) w x5 := ⟨k5 _ _ hk_.has, hb5⟩)
    | (go_at_call 70; refine (Macr_any _ _ _ key (([116] ++ put64 bs.length) ++ bs ++ b) (seesB_key hk_.has HK.out) ((sees_of_owns hown5).below (show Ext x5 _ from (by first | with_reducible exact Ext.refl _ | solve_by_elim (maxDepth := 8) [Ext.tr])) (by decide)) (by rw [HK.out]; omega) (by rw [List.length_append, List.length_append, List.length_append, length_put64]; simp only [List.length_cons, List.length_nil]; omega)).mono ?_; rintro e x6 ⟨rfl, hb6⟩; rw [HS.out]; have e6 : Ext _ x6 := hb6; have k6 := e6.k; have hk6 := HoldT.step hstab hk_ e6)
    | (refine wpList_store_row rfl 23 _ _ rfl B3 (keyA S) _ _ rfl rfl ((show KeepK x3 _ from (by first | with_reducible exact KeepK.refl _ | solve_by_elim (maxDepth := 8) [KeepK.tr])) _ _ hh) (by rw [keyA_size, keyA_size, HSL.out]; rfl) (by rw [keyA_size, HSL.out]; exact info_key) (keyA_one _) ?_; intro x7 hg7 hs7 hR7
       have hk7 : HoldT (KD w.heap.size key) w x7 := ⟨Blk.grownBy hk_.has hg7 (some_ne (by omega)), hk_.up.grown hg7 hk_.up.size (fun k hk => by cases hk; omega)⟩))
    refine phPost_hold (by first | with_reducible assumption | exact HoldT.alloc hstab (by with_reducible assumption) _ | exact HoldT.alloc hstab (HoldT.alloc hstab (by with_reducible assumption) _) _) ?_
    intro hk_
    refine wpTr_fin ?_
    simp only [pickOps, List.flatMap_nil]
    refine wpQuiet_nil ?_
    have h16 := sees_take (seesB_key hR7 HSL.out) 16 (by rw [HSL.out]; decide) (by rw [List.length_take, HSL.out]; rfl)
    rw [← HTG.out] at h16
    go_wp2_with (at_builtin; refine appB (W := w) rfl _ _ rfl (.slice none 0 0) [] rfl (ownB_nil _ _) _ (tagL key bs b) rfl h16 (by rw [length_tagL, List.length_nil]; omega) hk_.up ?_; intro v8 w8 hown8 hgr8 hb8; clear hgr8; rw [List.nil_append] at hown8; obtain ⟨a8, c8, rfl, hc8, hc8'⟩ := owns_form hown8)
    go_ret
    exact RetB.mk hown8 hb8
  refine wpTr_one ?_
  simp only [pickOps, List.flatMap_cons, List.flatMap_nil, List.drop_succ_cons, List.drop_zero, List.take_succ_cons, List.take_zero, List.cons_append, List.nil_append, List.append_nil]
  go_wp2_with (first
    | (refine wpList_allocB rfl _ rfl _ run_allocKey ?_; intro x3 B3 hh hB3 e3; have k3 := e3.k; have hlt3 : w.heap.size < B3 := Nat.lt_of_lt_of_le (Blk.lt hk_.has) hB3; have hk3 := HoldT.step hstab hk_ e3)
    | (at_builtin; refine appB (W := w) rfl _ _ rfl v4 (([116] ++ put64 bs.length) ++ bs) rfl (owns_below hown4 (show Ext x4 _ from (by first | with_reducible exact Ext.refl _ | solve_by_elim (maxDepth := 8) [Ext.tr]))) _ b rfl (hv.below hk_.up (by decide)) (by rw [List.length_append, List.length_append, length_put64]; simp only [List.length_cons, List.length_nil]; omega) hk_.up ?_; intro v5 x5 hown5 hg5 hb5
       have k5 := KeepK.app (owns_below hown4 (show Ext x4 _ from (by first | with_reducible exact Ext.refl _ | solve_by_elim (maxDepth := 8) [Ext.tr]))) hg5
       clear hg5
       have hk5 : HoldT (KD w.heap.size key) w x5 := ⟨k5 _ _ hk_.has, hb5⟩)
    | (go_at_call 70; refine (Macr_any _ _ _ key (([116] ++ put64 bs.length) ++ bs ++ b) (seesB_key hk_.has HK.out) ((sees_of_owns hown5).below (show Ext x5 _ from (by first | with_reducible exact Ext.refl _ | solve_by_elim (maxDepth := 8) [Ext.tr])) (by decide)) (by rw [HK.out]; omega) (by rw [List.length_append, List.length_append, List.length_append, length_put64]; simp only [List.length_cons, List.length_nil]; omega)).mono ?_; rintro e x6 ⟨rfl, hb6⟩; rw [HS.out]; have e6 : Ext _ x6 := hb6; have k6 := e6.k; have hk6 := HoldT.step hstab hk_ e6)
    | (refine wpList_store_row rfl 23 _ _ rfl B3 (keyA S) _ _ rfl rfl ((show KeepK x3 _ from (by first | with_reducible exact KeepK.refl _ | solve_by_elim (maxDepth := 8) [KeepK.tr])) _ _ hh) (by rw [keyA_size, keyA_size, HSL.out]; rfl) (by rw [keyA_size, HSL.out]; exact info_key) (keyA_one _) ?_; intro x7 hg7 hs7 hR7
       have hk7 : HoldT (KD w.heap.size key) w x7 := ⟨Blk.grownBy hk_.has hg7 (some_ne (by omega)), hk_.up.grown hg7 hk_.up.size (fun k hk => by cases hk; omega)⟩))
  refine phPost_hold (by first | with_reducible assumption | exact HoldT.alloc hstab (by with_reducible assumption) _ | exact HoldT.alloc hstab (HoldT.alloc hstab (by with_reducible assumption) _) _) ?_
  intro hk_
  refine wpTr_step ?_
  simp only [pickOps, List.flatMap_nil]
  refine wpQuiet_nil ?_
  refine wpTr_one ?_
  simp only [pickOps, List.flatMap_cons, List.flatMap_nil, List.drop_succ_cons, List.drop_zero, List.take_succ_cons, List.take_zero, List.cons_append, List.nil_append, List.append_nil]
  go_wp2_with (first
    | (refine wpList_allocB rfl _ rfl _ run_allocKey ?_; intro x3 B3 hh hB3 e3; have k3 := e3.k; have hlt3 : w.heap.size < B3 := Nat.lt_of_lt_of_le (Blk.lt hk_.has) hB3; have hk3 := HoldT.step hstab hk_ e3)
    | (at_builtin; refine appB (W := w) rfl _ _ rfl v4 (([116] ++ put64 bs.length) ++ bs) rfl (owns_below hown4 (show Ext x4 _ from (by first | with_reducible exact Ext.refl _ | solve_by_elim (maxDepth := 8) [Ext.tr]))) _ b rfl (hv.below hk_.up (by decide)) (by rw [List.length_append, List.length_append, length_put64]; simp only [List.length_cons, List.length_nil]; omega) hk_.up ?_; intro v5 x5 hown5 hg5 hb5
       have k5 := KeepK.app (owns_below hown4 (show Ext x4 _ from (by first | with_reducible exact Ext.refl _ | solve_by_elim (maxDepth := 8) [Ext.tr]))) hg5
       clear hg5
       have hk5 : HoldT (KD w.heap.size key) w x5 := ⟨k5 _ _ hk_.has, hb5⟩)
    | (go_at_call 70; refine (Macr_any _ _ _ key (([116] ++ put64 bs.length) ++ bs ++ b) (seesB_key hk_.has HK.out) ((sees_of_owns hown5).below (show Ext x5 _ from (by first | with_reducible exact Ext.refl _ | solve_by_elim (maxDepth := 8) [Ext.tr])) (by decide)) (by rw [HK.out]; omega) (by rw [List.length_append, List.length_append, List.length_append, length_put64]; simp only [List.length_cons, List.length_nil]; omega)).mono ?_; rintro e x6 ⟨rfl, hb6⟩; rw [HS.out]; have e6 : Ext _ x6 := hb6; have k6 := e6.k; have hk6 := HoldT.step hstab hk_ e6)
    | (refine wpList_store_row rfl 23 _ _ rfl B3 (keyA S) _ _ rfl rfl ((show KeepK x3 _ from (by first | with_reducible exact KeepK.refl _ | solve_by_elim (maxDepth := 8) [KeepK.tr])) _ _ hh) (by rw [keyA_size, keyA_size, HSL.out]; rfl) (by rw [keyA_size, HSL.out]; exact info_key) (keyA_one _) ?_; intro x7 hg7 hs7 hR7
       have hk7 : HoldT (KD w.heap.size key) w x7 := ⟨Blk.grownBy hk_.has hg7 (some_ne (by omega)), hk_.up.grown hg7 hk_.up.size (fun k hk => by cases hk; omega)⟩))
  refine phPost_hold (by first | with_reducible assumption | exact HoldT.alloc hstab (by with_reducible assumption) _ | exact HoldT.alloc hstab (HoldT.alloc hstab (by with_reducible assumption) _) _) ?_
  intro hk_
  refine wpTr_step ?_
  simp only [pickOps, List.flatMap_nil]
  refine wpQuiet_nil ?_
  refine wpTr_one ?_
  simp only [pickOps, List.flatMap_cons, List.flatMap_nil, List.drop_succ_cons, List.drop_zero, List.take_succ_cons, List.take_zero, List.cons_append, List.nil_append, List.append_nil]
  go_wp2_with (first
    | (refine wpList_allocB rfl _ rfl _ run_allocKey ?_; intro x3 B3 hh hB3 e3; have k3 := e3.k; have hlt3 : w.heap.size < B3 := Nat.lt_of_lt_of_le (Blk.lt hk_.has) hB3; have hk3 := HoldT.step hstab hk_ e3)
    | (at_builtin; refine appB (W := w) rfl _ _ rfl v4 (([116] ++ put64 bs.length) ++ bs) rfl (owns_below hown4 (show Ext x4 _ from (by first | with_reducible exact Ext.refl _ | solve_by_elim (maxDepth := 8) [Ext.tr]))) _ b rfl (hv.below hk_.up (by decide)) (by rw [List.length_append, List.length_append, length_put64]; simp only [List.length_cons, List.length_nil]; omega) hk_.up ?_; intro v5 x5 hown5 hg5 hb5
       have k5 := KeepK.app (owns_below hown4 (show Ext x4 _ from (by first | with_reducible exact Ext.refl _ | solve_by_elim (maxDepth := 8) [Ext.tr]))) hg5
       clear hg5
       have hk5 : HoldT (KD w.heap.size key) w x5 := ⟨k5 _ _ hk_.has, hb5⟩)
    | (go_at_call 70; refine (Macr_any _ _ _ key (([116] ++ put64 bs.length) ++ bs ++ b) (seesB_key hk_.has HK.out) ((sees_of_owns hown5).below (show Ext x5 _ from (by first | with_reducible exact Ext.refl _ | solve_by_elim (maxDepth := 8) [Ext.tr])) (by decide)) (by rw [HK.out]; omega) (by rw [List.length_append, List.length_append, List.length_append, length_put64]; simp only [List.length_cons, List.length_nil]; omega)).mono ?_; rintro e x6 ⟨rfl, hb6⟩; rw [HS.out]; have e6 : Ext _ x6 := hb6; have k6 := e6.k; have hk6 := HoldT.step hstab hk_ e6)
    | (refine wpList_store_row rfl 23 _ _ rfl B3 (keyA S) _ _ rfl rfl ((show KeepK x3 _ from (by first | with_reducible exact KeepK.refl _ | solve_by_elim (maxDepth := 8) [KeepK.tr])) _ _ hh) (by rw [keyA_size, keyA_size, HSL.out]; rfl) (by rw [keyA_size, HSL.out]; exact info_key) (keyA_one _) ?_; intro x7 hg7 hs7 hR7
       have hk7 : HoldT (KD w.heap.size key) w x7 := ⟨Blk.grownBy hk_.has hg7 (some_ne (by omega)), hk_.up.grown hg7 hk_.up.size (fun k hk => by cases hk; omega)⟩))
  refine phPost_hold (by first | with_reducible assumption | exact HoldT.alloc hstab (by with_reducible assumption) _ | exact HoldT.alloc hstab (HoldT.alloc hstab (by with_reducible assumption) _) _) ?_
  intro hk_
  refine wpTr_step ?_
  simp only [pickOps, List.flatMap_nil]
  refine wpQuiet_nil ?_
  refine wpTr_one ?_
  simp only [pickOps, List.flatMap_cons, List.flatMap_nil, List.drop_succ_cons, List.drop_zero, List.take_succ_cons, List.take_zero, List.cons_append, List.nil_append, List.append_nil]
  go_wp2_with (first
    | (refine wpList_allocB rfl _ rfl _ run_allocKey ?_; intro x3 B3 hh hB3 e3; have k3 := e3.k; have hlt3 : w.heap.size < B3 := Nat.lt_of_lt_of_le (Blk.lt hk_.has) hB3; have hk3 := HoldT.step hstab hk_ e3)
    | (at_builtin; refine appB (W := w) rfl _ _ rfl v4 (([116] ++ put64 bs.length) ++ bs) rfl (owns_below hown4 (show Ext x4 _ from (by first | with_reducible exact Ext.refl _ | solve_by_elim (maxDepth := 8) [Ext.tr]))) _ b rfl (hv.below hk_.up (by decide)) (by rw [List.length_append, List.length_append, length_put64]; simp only [List.length_cons, List.length_nil]; omega) hk_.up ?_; intro v5 x5 hown5 hg5 hb5
       have k5 := KeepK.app (owns_below hown4 (show Ext x4 _ from (by first | with_reducible exact Ext.refl _ | solve_by_elim (maxDepth := 8) [Ext.tr]))) hg5
       clear hg5
       have hk5 : HoldT (KD w.heap.size key) w x5 := ⟨k5 _ _ hk_.has, hb5⟩)
    | (go_at_call 70; refine (Macr_any _ _ _ key (([116] ++ put64 bs.length) ++ bs ++ b) (seesB_key hk_.has HK.out) ((sees_of_owns hown5).below (show Ext x5 _ from (by first | with_reducible exact Ext.refl _ | solve_by_elim (maxDepth := 8) [Ext.tr])) (by decide)) (by rw [HK.out]; omega) (by rw [List.length_append, List.length_append, List.length_append, length_put64]; simp only [List.length_cons, List.length_nil]; omega)).mono ?_; rintro e x6 ⟨rfl, hb6⟩; rw [HS.out]; have e6 : Ext _ x6 := hb6; have k6 := e6.k; have hk6 := HoldT.step hstab hk_ e6)
    | (refine wpList_store_row rfl 23 _ _ rfl B3 (keyA S) _ _ rfl rfl ((show KeepK x3 _ from (by first | with_reducible exact KeepK.refl _ | solve_by_elim (maxDepth := 8) [KeepK.tr])) _ _ hh) (by rw [keyA_size, keyA_size, HSL.out]; rfl) (by rw [keyA_size, HSL.out]; exact info_key) (keyA_one _) ?_; intro x7 hg7 hs7 hR7
       have hk7 : HoldT (KD w.heap.size key) w x7 := ⟨Blk.grownBy hk_.has hg7 (some_ne (by omega)), hk_.up.grown hg7 hk_.up.size (fun k hk => by cases hk; omega)⟩))
  refine phPost_hold (by first | with_reducible assumption | exact HoldT.alloc hstab (by with_reducible assumption) _ | exact HoldT.alloc hstab (HoldT.alloc hstab (by with_reducible assumption) _) _) ?_
  intro hk_
  refine wpTr_fin ?_
  simp only [pickOps, List.flatMap_nil]
  refine wpQuiet_nil ?_
  have h16 := sees_take (seesB_key hR7 HSL.out) 16 (by rw [HSL.out]; decide) (by rw [List.length_take, HSL.out]; rfl)
  rw [← HTG.out] at h16
  go_wp2_with (at_builtin; refine appB (W := w) rfl _ _ rfl (.slice none 0 0) [] rfl (ownB_nil _ _) _ (tagL key bs b) rfl h16 (by rw [length_tagL, List.length_nil]; omega) hk_.up ?_; intro v8 w8 hown8 hgr8 hb8; clear hgr8; rw [List.nil_append] at hown8; obtain ⟨a8, c8, rfl, hc8, hc8'⟩ := owns_form hown8)
  go_ret
  exact RetB.mk hown8 hb8
end Go.Proofs.Yteialfdhbfbkgaa
