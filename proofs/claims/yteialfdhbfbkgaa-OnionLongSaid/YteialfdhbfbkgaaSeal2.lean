/-
  Bytes turned: the program.
-/
import Derived.Test.YteialfdhbfbkgaaSeal1
namespace Go.Proofs.Yteialfdhbfbkgaa
set_option linter.unusedVariables false
set_option linter.unusedSimpArgs false
open Go Go.RowKit

abbrev KB (B : Nat) (key : List UInt8) (u : World) : Prop := Blk u B (keyA key) 23
theorem stabKB (B : Nat) (key : List UInt8) : Stab (KB B key) := Stab.blk _ _ _
def TurnRel (w : World) (key b : List UInt8) (v i : Value) (wr : World) : Prop :=
  ∃ A j : Nat, i = .int .i64 A ∧ Hid (A = 32 * j) ∧ A ≤ b.length + 31 ∧ wr.ownsRow (w.heap.size + 1) 5 1 v b.length ((turnTo key b A).map BV) ∧ KB w.heap.size key wr ∧ Below w.heap.size w wr
def TurnRel2 (x : World) (B g c A M : Nat) (key b : List UInt8) (i : Value) (wr : World) : Prop :=
  ∃ n : Nat, A ≤ n ∧ n ≤ M ∧ i = .int .i64 n ∧ wr.ownsRow B 5 1 (.slice (some ⟨g, 0, none⟩) b.length c) b.length ((turnTo key b n).map BV) ∧ x.grownBy wr (some g)

set_option maxRecDepth 100000 in
set_option maxHeartbeats 2000000 in
theorem turned_any (key b : List UInt8) (v : Value) (w : World) (hk : key.length = 32) (hv : SeesB w v b) (hl : b.length ≤ 70368744170000) :
    Calls Try.prog 105 #[.agg (keyA key), v] w (RetB (turnL key b) w) := by
  have HK := Lib.hid hk; clear hk
  obtain ⟨a0, c0, rfl, hac0, hc0⟩ := sees_form hv
  have hk0 := Lib.hid (show KB w.heap.size key (w.alloc (.cells (keyA key) 23)) from Blk.new _ _ _)
  have hb0 := Lib.hid (show Below w.heap.size w (w.alloc (.cells (keyA key) 23)) by go_grown)
  go_enter Try.func105, Try.ntmps105
  go_wp2_with (at_builtin; refine appB (W := w.alloc (.cells (keyA key) 23)) rfl _ _ rfl (.slice none 0 0) [] rfl (ownB_nil _ _) _ b rfl (hv.below hb0.out (by decide)) (by simp only [List.length_nil]; omega) (Below.refl _ _) ?_; intro v1 w1 hown1 hgr1 hb1; clear hgr1; rw [List.nil_append] at hown1; obtain ⟨a1, c1, rfl, hc1, hc1'⟩ := owns_form hown1)
  have hst := Lib.hid (show TurnRel w key b (.slice a1 b.length c1) (.int .i64 0) w1 from ⟨0, 0, rfl, Lib.hid rfl, by omega, by rw [turnTo_zero]; exact owns_mono hown1 (by simp only [World.size_alloc]; exact Nat.le_refl _), hk0.out.below hb1, hb0.out.trans (hb1.mono hb0.out.size)⟩)
  clear hown1 hb1
  go_loopw [6, 7, 8] (fun i _ _ wr => TurnRel w key b (.slice a1 b.length c1) i wr) (fun i _ _ _ => b.length + 40 - (intOf i).toNat)
  case atStart => exact hst.out
  case round =>
    clear hst
    obtain ⟨A, j, rfl, HA, hA, hown, hB, hbel⟩ := hrel
    by_cases hlt : A < b.length
    · rcases hown.2 with ⟨h', h0⟩ | ⟨g, cap, cur, h', hg, _, hgc, hgm, _, _⟩
      · omega
      obtain ⟨rfl, rfl⟩ : a1 = some ⟨g, 0, none⟩ ∧ c1 = cap := by simpa using h'
      clear h'
      go_wp2_with fail
      have hstab := stabKB w.heap.size key
      have hk : HoldT (KB w.heap.size key) wr wr.drew := ⟨hB.drew, Below.drew (Below.refl _ _)⟩
      have hA32 : ((A : Int) / 32).toNat = A / 32 := by omega
      obtain ⟨S, hS⟩ : ∃ S, mac key ([115] ++ put64 (A / 32)) = S := ⟨_, rfl⟩
      have hSL : S.length = 32 := by rw [← hS]; exact length_mac _ _
      have HS := Lib.hid hS; have HSL := Lib.hid hSL
      clear hS hSL
      have hown0 := owns_below hown (Below.drew (Below.refl _ _) : Below wr.heap.size wr wr.drew)
      have hwlt : w.heap.size < wr.heap.size := hB.lt
      have e0 := Ext.drew wr
      have hgl : g < wr.heap.size := (hown.lt g rfl).2
      try change Code.wp _ _ _ (Act.mk _ _) _
      haveI hne_ : Nonempty (InC (KB w.heap.size key)) := ⟨⟨_, (hk).1⟩⟩
      refine wp_region_tr (C := fun w_ => ∃ e_ : InC (KB w.heap.size key), w_ = e_.u) (.step [0, 2, 3, 4] (.alt 1 (.step [] (.alt 5 (.step [] (.alt 6 (.step [] (.alt 7 (.step [] (.alt 8 (.fin []) .nil)) .nil)) (.alt 7 (.step [] (.alt 6 (.step [] (.alt 8 (.fin []) .nil)) .nil)) .nil))) (.alt 7 (.step [] (.alt 5 (.step [] (.alt 6 (.step [] (.alt 8 (.fin []) .nil)) .nil)) .nil)) .nil))) (.alt 7 (.step [] (.alt 1 (.step [] (.alt 5 (.step [] (.alt 6 (.step [] (.alt 8 (.fin []) .nil)) .nil)) .nil)) .nil)) .nil))) (by kernel_rfl) (by kernel_rfl) (fun _ _ _ _ hd_ h_ => ⟨hd_.symm.trans h_.1, h_.2⟩) ⟨⟨World.drew _, (hk).1⟩, rfl⟩ ?_
      have hk_ := hk
      refine wpTr_step ?_
      simp only [pickOps, List.flatMap_cons, List.flatMap_nil, List.drop_succ_cons, List.drop_zero, List.take_succ_cons, List.take_zero, List.cons_append, List.nil_append, List.append_nil]
      iterate 4 (go_big_quiet_step (exact rfl))
      refine wpQuiet_nil ?_
      refine wpTr_alt ?_ ?_
      focus
        simp only [pickOps, List.flatMap_cons, List.flatMap_nil, List.drop_succ_cons, List.drop_zero, List.take_succ_cons, List.take_zero, List.cons_append, List.nil_append, List.append_nil]
        go_wp2_with (first
        | (refine wpList_lit1 rfl _ rfl 115 rfl ?_; intro x1 B1 hlit hB1 e1; have hk1 := HoldT.step hstab (by with_reducible assumption) e1)
        | (refine wpList_allocB rfl _ rfl _ run_allocKey ?_; intro x2 B2 hh hB2 e2; have hlt2 : wr.heap.size ≤ B2 := Nat.le_trans (show Ext wr _ from (by first | with_reducible exact Ext.refl _ | solve_by_elim (maxDepth := 8) [Ext.tr])).size hB2; have hk2 := HoldT.step hstab (by with_reducible assumption) e2)
        | (go_at_call 66; refine (Put64_any _ _ [115] _ (hlit.below (show Ext x1 _ from (by first | with_reducible exact Ext.refl _ | solve_by_elim (maxDepth := 8) [Ext.tr])) (by decide)) (by omega) (by omega) (by decide)).mono ?_; rintro e x3 ⟨v3, rfl, hown3, hb3⟩; rw [hA32] at hown3; obtain ⟨a3, c3, rfl, hc3, hc3'⟩ := owns_form hown3; have e3 : Ext _ x3 := hb3; have hk3 := HoldT.step hstab (by with_reducible assumption) e3)
        | (go_at_call 65; refine (MacOf_any _ _ _ key ([115] ++ put64 (A / 32)) (seesB_key (show HoldT (KB w.heap.size key) wr _ from by with_reducible assumption).has HK.out) ((sees_of_owns hown3).below (show Ext x3 _ from (by first | with_reducible exact Ext.refl _ | solve_by_elim (maxDepth := 8) [Ext.tr])) (by decide)) (by rw [HK.out]; omega) (by rw [List.length_append, length_put64]; decide)).mono ?_; rintro e x4 ⟨rfl, hb4⟩; rw [HS.out]; have e4 : Ext _ x4 := hb4; have hk4 := HoldT.step hstab (by with_reducible assumption) e4)
        | (refine wpList_store_row rfl 23 _ _ rfl B2 (keyA S) _ _ rfl rfl (hh.below (show Ext x2 _ from (by first | with_reducible exact Ext.refl _ | solve_by_elim (maxDepth := 8) [Ext.tr]))) (by rw [keyA_size, keyA_size, HSL.out]; rfl) (by rw [keyA_size, HSL.out]; exact info_key) (keyA_one _) ?_; intro x5 hg7 hs7 hR7
           have hk5 : HoldT (KB w.heap.size key) wr x5 := ⟨Blk.grownBy (show HoldT (KB w.heap.size key) wr _ from by with_reducible assumption).has hg7 (some_ne (by omega)), (show HoldT (KB w.heap.size key) wr _ from by with_reducible assumption).up.grown hg7 (show HoldT (KB w.heap.size key) wr _ from by with_reducible assumption).up.size (fun k hk => by cases hk; omega)⟩))
        refine phPost_hold (by first | with_reducible assumption | exact HoldT.alloc hstab (by with_reducible assumption) _ | exact HoldT.alloc hstab (HoldT.alloc hstab (by with_reducible assumption) _) _) ?_
        intro hk_
        refine wpTr_step ?_
        simp only [pickOps, List.flatMap_nil]
        refine wpQuiet_nil ?_
        refine wpTr_alt ?_ ?_
        focus
          simp only [pickOps, List.flatMap_cons, List.flatMap_nil, List.drop_succ_cons, List.drop_zero, List.take_succ_cons, List.take_zero, List.cons_append, List.nil_append, List.append_nil]
          go_wp2_with (first
        | (refine wpList_lit1 rfl _ rfl 115 rfl ?_; intro x1 B1 hlit hB1 e1; have hk1 := HoldT.step hstab (by with_reducible assumption) e1)
        | (refine wpList_allocB rfl _ rfl _ run_allocKey ?_; intro x2 B2 hh hB2 e2; have hlt2 : wr.heap.size ≤ B2 := Nat.le_trans (show Ext wr _ from (by first | with_reducible exact Ext.refl _ | solve_by_elim (maxDepth := 8) [Ext.tr])).size hB2; have hk2 := HoldT.step hstab (by with_reducible assumption) e2)
        | (go_at_call 66; refine (Put64_any _ _ [115] _ (hlit.below (show Ext x1 _ from (by first | with_reducible exact Ext.refl _ | solve_by_elim (maxDepth := 8) [Ext.tr])) (by decide)) (by omega) (by omega) (by decide)).mono ?_; rintro e x3 ⟨v3, rfl, hown3, hb3⟩; rw [hA32] at hown3; obtain ⟨a3, c3, rfl, hc3, hc3'⟩ := owns_form hown3; have e3 : Ext _ x3 := hb3; have hk3 := HoldT.step hstab (by with_reducible assumption) e3)
        | (go_at_call 65; refine (MacOf_any _ _ _ key ([115] ++ put64 (A / 32)) (seesB_key (show HoldT (KB w.heap.size key) wr _ from by with_reducible assumption).has HK.out) ((sees_of_owns hown3).below (show Ext x3 _ from (by first | with_reducible exact Ext.refl _ | solve_by_elim (maxDepth := 8) [Ext.tr])) (by decide)) (by rw [HK.out]; omega) (by rw [List.length_append, length_put64]; decide)).mono ?_; rintro e x4 ⟨rfl, hb4⟩; rw [HS.out]; have e4 : Ext _ x4 := hb4; have hk4 := HoldT.step hstab (by with_reducible assumption) e4)
        | (refine wpList_store_row rfl 23 _ _ rfl B2 (keyA S) _ _ rfl rfl (hh.below (show Ext x2 _ from (by first | with_reducible exact Ext.refl _ | solve_by_elim (maxDepth := 8) [Ext.tr]))) (by rw [keyA_size, keyA_size, HSL.out]; rfl) (by rw [keyA_size, HSL.out]; exact info_key) (keyA_one _) ?_; intro x5 hg7 hs7 hR7
           have hk5 : HoldT (KB w.heap.size key) wr x5 := ⟨Blk.grownBy (show HoldT (KB w.heap.size key) wr _ from by with_reducible assumption).has hg7 (some_ne (by omega)), (show HoldT (KB w.heap.size key) wr _ from by with_reducible assumption).up.grown hg7 (show HoldT (KB w.heap.size key) wr _ from by with_reducible assumption).up.size (fun k hk => by cases hk; omega)⟩))
          refine phPost_hold (by first | with_reducible assumption | exact HoldT.alloc hstab (by with_reducible assumption) _ | exact HoldT.alloc hstab (HoldT.alloc hstab (by with_reducible assumption) _) _) ?_
          intro hk_
          refine wpTr_step ?_
          simp only [pickOps, List.flatMap_nil]
          refine wpQuiet_nil ?_
          refine wpTr_alt ?_ ?_
          focus
            simp only [pickOps, List.flatMap_cons, List.flatMap_nil, List.drop_succ_cons, List.drop_zero, List.take_succ_cons, List.take_zero, List.cons_append, List.nil_append, List.append_nil]
            go_wp2_with (first
        | (refine wpList_lit1 rfl _ rfl 115 rfl ?_; intro x1 B1 hlit hB1 e1; have hk1 := HoldT.step hstab (by with_reducible assumption) e1)
        | (refine wpList_allocB rfl _ rfl _ run_allocKey ?_; intro x2 B2 hh hB2 e2; have hlt2 : wr.heap.size ≤ B2 := Nat.le_trans (show Ext wr _ from (by first | with_reducible exact Ext.refl _ | solve_by_elim (maxDepth := 8) [Ext.tr])).size hB2; have hk2 := HoldT.step hstab (by with_reducible assumption) e2)
        | (go_at_call 66; refine (Put64_any _ _ [115] _ (hlit.below (show Ext x1 _ from (by first | with_reducible exact Ext.refl _ | solve_by_elim (maxDepth := 8) [Ext.tr])) (by decide)) (by omega) (by omega) (by decide)).mono ?_; rintro e x3 ⟨v3, rfl, hown3, hb3⟩; rw [hA32] at hown3; obtain ⟨a3, c3, rfl, hc3, hc3'⟩ := owns_form hown3; have e3 : Ext _ x3 := hb3; have hk3 := HoldT.step hstab (by with_reducible assumption) e3)
        | (go_at_call 65; refine (MacOf_any _ _ _ key ([115] ++ put64 (A / 32)) (seesB_key (show HoldT (KB w.heap.size key) wr _ from by with_reducible assumption).has HK.out) ((sees_of_owns hown3).below (show Ext x3 _ from (by first | with_reducible exact Ext.refl _ | solve_by_elim (maxDepth := 8) [Ext.tr])) (by decide)) (by rw [HK.out]; omega) (by rw [List.length_append, length_put64]; decide)).mono ?_; rintro e x4 ⟨rfl, hb4⟩; rw [HS.out]; have e4 : Ext _ x4 := hb4; have hk4 := HoldT.step hstab (by with_reducible assumption) e4)
        | (refine wpList_store_row rfl 23 _ _ rfl B2 (keyA S) _ _ rfl rfl (hh.below (show Ext x2 _ from (by first | with_reducible exact Ext.refl _ | solve_by_elim (maxDepth := 8) [Ext.tr]))) (by rw [keyA_size, keyA_size, HSL.out]; rfl) (by rw [keyA_size, HSL.out]; exact info_key) (keyA_one _) ?_; intro x5 hg7 hs7 hR7
           have hk5 : HoldT (KB w.heap.size key) wr x5 := ⟨Blk.grownBy (show HoldT (KB w.heap.size key) wr _ from by with_reducible assumption).has hg7 (some_ne (by omega)), (show HoldT (KB w.heap.size key) wr _ from by with_reducible assumption).up.grown hg7 (show HoldT (KB w.heap.size key) wr _ from by with_reducible assumption).up.size (fun k hk => by cases hk; omega)⟩))
            refine phPost_hold (by first | with_reducible assumption | exact HoldT.alloc hstab (by with_reducible assumption) _ | exact HoldT.alloc hstab (HoldT.alloc hstab (by with_reducible assumption) _) _) ?_
            intro hk_
            refine wpTr_step ?_
            simp only [pickOps, List.flatMap_nil]
            refine wpQuiet_nil ?_
            refine wpTr_one ?_
            simp only [pickOps, List.flatMap_cons, List.flatMap_nil, List.drop_succ_cons, List.drop_zero, List.take_succ_cons, List.take_zero, List.cons_append, List.nil_append, List.append_nil]
            go_wp2_with (first
        | (refine wpList_lit1 rfl _ rfl 115 rfl ?_; intro x1 B1 hlit hB1 e1; have hk1 := HoldT.step hstab (by with_reducible assumption) e1)
        | (refine wpList_allocB rfl _ rfl _ run_allocKey ?_; intro x2 B2 hh hB2 e2; have hlt2 : wr.heap.size ≤ B2 := Nat.le_trans (show Ext wr _ from (by first | with_reducible exact Ext.refl _ | solve_by_elim (maxDepth := 8) [Ext.tr])).size hB2; have hk2 := HoldT.step hstab (by with_reducible assumption) e2)
        | (go_at_call 66; refine (Put64_any _ _ [115] _ (hlit.below (show Ext x1 _ from (by first | with_reducible exact Ext.refl _ | solve_by_elim (maxDepth := 8) [Ext.tr])) (by decide)) (by omega) (by omega) (by decide)).mono ?_; rintro e x3 ⟨v3, rfl, hown3, hb3⟩; rw [hA32] at hown3; obtain ⟨a3, c3, rfl, hc3, hc3'⟩ := owns_form hown3; have e3 : Ext _ x3 := hb3; have hk3 := HoldT.step hstab (by with_reducible assumption) e3)
        | (go_at_call 65; refine (MacOf_any _ _ _ key ([115] ++ put64 (A / 32)) (seesB_key (show HoldT (KB w.heap.size key) wr _ from by with_reducible assumption).has HK.out) ((sees_of_owns hown3).below (show Ext x3 _ from (by first | with_reducible exact Ext.refl _ | solve_by_elim (maxDepth := 8) [Ext.tr])) (by decide)) (by rw [HK.out]; omega) (by rw [List.length_append, length_put64]; decide)).mono ?_; rintro e x4 ⟨rfl, hb4⟩; rw [HS.out]; have e4 : Ext _ x4 := hb4; have hk4 := HoldT.step hstab (by with_reducible assumption) e4)
        | (refine wpList_store_row rfl 23 _ _ rfl B2 (keyA S) _ _ rfl rfl (hh.below (show Ext x2 _ from (by first | with_reducible exact Ext.refl _ | solve_by_elim (maxDepth := 8) [Ext.tr]))) (by rw [keyA_size, keyA_size, HSL.out]; rfl) (by rw [keyA_size, HSL.out]; exact info_key) (keyA_one _) ?_; intro x5 hg7 hs7 hR7
           have hk5 : HoldT (KB w.heap.size key) wr x5 := ⟨Blk.grownBy (show HoldT (KB w.heap.size key) wr _ from by with_reducible assumption).has hg7 (some_ne (by omega)), (show HoldT (KB w.heap.size key) wr _ from by with_reducible assumption).up.grown hg7 (show HoldT (KB w.heap.size key) wr _ from by with_reducible assumption).up.size (fun k hk => by cases hk; omega)⟩))
            refine phPost_hold (by first | with_reducible assumption | exact HoldT.alloc hstab (by with_reducible assumption) _ | exact HoldT.alloc hstab (HoldT.alloc hstab (by with_reducible assumption) _) _) ?_
            intro hk_
            refine wpTr_step ?_
            simp only [pickOps, List.flatMap_nil]
            refine wpQuiet_nil ?_
            refine wpTr_one ?_
            simp only [pickOps, List.flatMap_cons, List.flatMap_nil, List.drop_succ_cons, List.drop_zero, List.take_succ_cons, List.take_zero, List.cons_append, List.nil_append, List.append_nil]
            go_wp2_with (first
        | (refine wpList_lit1 rfl _ rfl 115 rfl ?_; intro x1 B1 hlit hB1 e1; have hk1 := HoldT.step hstab (by with_reducible assumption) e1)
        | (refine wpList_allocB rfl _ rfl _ run_allocKey ?_; intro x2 B2 hh hB2 e2; have hlt2 : wr.heap.size ≤ B2 := Nat.le_trans (show Ext wr _ from (by first | with_reducible exact Ext.refl _ | solve_by_elim (maxDepth := 8) [Ext.tr])).size hB2; have hk2 := HoldT.step hstab (by with_reducible assumption) e2)
        | (go_at_call 66; refine (Put64_any _ _ [115] _ (hlit.below (show Ext x1 _ from (by first | with_reducible exact Ext.refl _ | solve_by_elim (maxDepth := 8) [Ext.tr])) (by decide)) (by omega) (by omega) (by decide)).mono ?_; rintro e x3 ⟨v3, rfl, hown3, hb3⟩; rw [hA32] at hown3; obtain ⟨a3, c3, rfl, hc3, hc3'⟩ := owns_form hown3; have e3 : Ext _ x3 := hb3; have hk3 := HoldT.step hstab (by with_reducible assumption) e3)
        | (go_at_call 65; refine (MacOf_any _ _ _ key ([115] ++ put64 (A / 32)) (seesB_key (show HoldT (KB w.heap.size key) wr _ from by with_reducible assumption).has HK.out) ((sees_of_owns hown3).below (show Ext x3 _ from (by first | with_reducible exact Ext.refl _ | solve_by_elim (maxDepth := 8) [Ext.tr])) (by decide)) (by rw [HK.out]; omega) (by rw [List.length_append, length_put64]; decide)).mono ?_; rintro e x4 ⟨rfl, hb4⟩; rw [HS.out]; have e4 : Ext _ x4 := hb4; have hk4 := HoldT.step hstab (by with_reducible assumption) e4)
        | (refine wpList_store_row rfl 23 _ _ rfl B2 (keyA S) _ _ rfl rfl (hh.below (show Ext x2 _ from (by first | with_reducible exact Ext.refl _ | solve_by_elim (maxDepth := 8) [Ext.tr]))) (by rw [keyA_size, keyA_size, HSL.out]; rfl) (by rw [keyA_size, HSL.out]; exact info_key) (keyA_one _) ?_; intro x5 hg7 hs7 hR7
           have hk5 : HoldT (KB w.heap.size key) wr x5 := ⟨Blk.grownBy (show HoldT (KB w.heap.size key) wr _ from by with_reducible assumption).has hg7 (some_ne (by omega)), (show HoldT (KB w.heap.size key) wr _ from by with_reducible assumption).up.grown hg7 (show HoldT (KB w.heap.size key) wr _ from by with_reducible assumption).up.size (fun k hk => by cases hk; omega)⟩))
            refine phPost_hold (by first | with_reducible assumption | exact HoldT.alloc hstab (by with_reducible assumption) _ | exact HoldT.alloc hstab (HoldT.alloc hstab (by with_reducible assumption) _) _) ?_
            intro hk_
            refine wpTr_fin ?_
            simp only [pickOps, List.flatMap_nil]
            refine wpQuiet_nil ?_
            go_wp2_with fail
            rcases Nat.lt_or_ge b.length (A + 32) with hM | hM
            · have hM' := hM
              have hownx := owns_below hown hk5.up
              have hupx := hk5.up
              have hBx := hk5.has
              have hgx : x5.heap.size = x5.heap.size := rfl
              have hnS : Hid (∀ n, A ≤ n → n < A + 32 → strm key n = S.getD (n - A) 0) := Lib.hid (fun n h1 h2 => by
                have := HA.out
                unfold strm; rw [← HS.out, show n / 32 = A / 32 from by omega, show n % 32 = n - A from by omega])
              go_loopw [8] (fun i wr' => TurnRel2 x5 (w.heap.size + 1) g c1 A (b.length) key b i wr') (fun i _ => b.length + 40 - (intOf i).toNat)
              case atStart => exact ⟨A, Nat.le_refl _, by omega, rfl, hownx, grownBy_refl _ _⟩
              case round =>
                clear hownx
                obtain ⟨n, hAn, hnM, rfl, hown2, hg2⟩ := hrel
                by_cases hn : n < b.length
                · have hnb : n < b.length := by omega
                  obtain ⟨hc1x, hf1⟩ := own_cell hown2 n (b.getD n 0) (by rw [turnTo_get _ _ _ _ hnb, if_neg (by omega)])
                  have hcs : wr.cell? ⟨B2, n - A, none⟩ = some (BV (strm key n)) := by
                    rw [(hR7.grownBy hg2 (some_ne (by omega))).cell, hnS.out n hAn (by omega), keyA, List.getElem?_toArray, List.getElem?_map, List.getD_eq_getElem?_getD, List.getElem?_eq_getElem (by rw [HSL.out]; omega)]; rfl
                  have HT := Lib.hid (turnTo_set key b n)
                  generalize b.getD n 0 = p1 at *
                  generalize strm key n = q1 at *
                  have hx := xor_u8 p1 q1
                  go_wp2_with fail
                  refine wp_region_quiet_tail 11 (by kernel_rfl) (by kernel_rfl) ?_
                  simp only [List.take_succ_cons, List.take_zero, List.drop_succ_cons, List.drop_zero]
                  iterate 11 (go_big_quiet_step (fail))
                  refine wpQuiet_nil ?_
                  intro nr
                  go_wp2_with fail
                  go_roundw
                  case rel =>
                    refine ⟨n + 1, by omega, by omega, by go_num, ?_, grownBy_drewN (grownBy_set hg2 _ _) nr⟩
                    rw [← HT.out]
                    exact own_set hown2 n (p1 ^^^ q1)
                  case measure => simp [intOf]; omega
                · obtain rfl : n = b.length := by omega
                  have hbz : Below w.heap.size w wr := Below.grown (hbel.trans (hupx.mono hbel.size)) hg2 (Nat.le_trans hbel.size hupx.size) (fun k hk => by cases hk; omega)
                  have hBz := Blk.grownBy hBx hg2 (some_ne (by omega))
                  have hT : turnTo key b (b.length) = turnTo key b (A + 32) := by first | rfl | (rw [turnTo_ge key b b.length (Nat.le_refl _), turnTo_ge key b (A + 32) (by omega)])
                  rw [hT] at hown2
                  go_wp2_with fail
                  exact ⟨⟨A + 32, j + 1, by go_num, Lib.hid (by have := HA.out; omega), by omega, hown2, hBz, hbz⟩, by simp [intOf]; omega⟩
            · have hM' := hM
              have hownx := owns_below hown hk5.up
              have hupx := hk5.up
              have hBx := hk5.has
              have hgx : x5.heap.size = x5.heap.size := rfl
              have hnS : Hid (∀ n, A ≤ n → n < A + 32 → strm key n = S.getD (n - A) 0) := Lib.hid (fun n h1 h2 => by
                have := HA.out
                unfold strm; rw [← HS.out, show n / 32 = A / 32 from by omega, show n % 32 = n - A from by omega])
              go_loopw [8] (fun i wr' => TurnRel2 x5 (w.heap.size + 1) g c1 A (A + 32) key b i wr') (fun i _ => b.length + 40 - (intOf i).toNat)
              case atStart => exact ⟨A, Nat.le_refl _, by omega, rfl, hownx, grownBy_refl _ _⟩
              case round =>
                clear hownx
                obtain ⟨n, hAn, hnM, rfl, hown2, hg2⟩ := hrel
                by_cases hn : n < A + 32
                · have hnb : n < b.length := by omega
                  obtain ⟨hc1x, hf1⟩ := own_cell hown2 n (b.getD n 0) (by rw [turnTo_get _ _ _ _ hnb, if_neg (by omega)])
                  have hcs : wr.cell? ⟨B2, n - A, none⟩ = some (BV (strm key n)) := by
                    rw [(hR7.grownBy hg2 (some_ne (by omega))).cell, hnS.out n hAn (by omega), keyA, List.getElem?_toArray, List.getElem?_map, List.getD_eq_getElem?_getD, List.getElem?_eq_getElem (by rw [HSL.out]; omega)]; rfl
                  have HT := Lib.hid (turnTo_set key b n)
                  generalize b.getD n 0 = p1 at *
                  generalize strm key n = q1 at *
                  have hx := xor_u8 p1 q1
                  go_wp2_with fail
                  refine wp_region_quiet_tail 11 (by kernel_rfl) (by kernel_rfl) ?_
                  simp only [List.take_succ_cons, List.take_zero, List.drop_succ_cons, List.drop_zero]
                  iterate 11 (go_big_quiet_step (fail))
                  refine wpQuiet_nil ?_
                  intro nr
                  go_wp2_with fail
                  go_roundw
                  case rel =>
                    refine ⟨n + 1, by omega, by omega, by go_num, ?_, grownBy_drewN (grownBy_set hg2 _ _) nr⟩
                    rw [← HT.out]
                    exact own_set hown2 n (p1 ^^^ q1)
                  case measure => simp [intOf]; omega
                · obtain rfl : n = A + 32 := by omega
                  have hbz : Below w.heap.size w wr := Below.grown (hbel.trans (hupx.mono hbel.size)) hg2 (Nat.le_trans hbel.size hupx.size) (fun k hk => by cases hk; omega)
                  have hBz := Blk.grownBy hBx hg2 (some_ne (by omega))
                  have hT : turnTo key b (A + 32) = turnTo key b (A + 32) := by first | rfl | (rw [turnTo_ge key b b.length (Nat.le_refl _), turnTo_ge key b (A + 32) (by omega)])
                  rw [hT] at hown2
                  go_wp2_with fail
                  exact ⟨⟨A + 32, j + 1, by go_num, Lib.hid (by have := HA.out; omega), by omega, hown2, hBz, hbz⟩, by simp [intOf]; omega⟩
          refine wpTr_one ?_
          simp only [pickOps, List.flatMap_cons, List.flatMap_nil, List.drop_succ_cons, List.drop_zero, List.take_succ_cons, List.take_zero, List.cons_append, List.nil_append, List.append_nil]
          go_wp2_with (first
        | (refine wpList_lit1 rfl _ rfl 115 rfl ?_; intro x1 B1 hlit hB1 e1; have hk1 := HoldT.step hstab (by with_reducible assumption) e1)
        | (refine wpList_allocB rfl _ rfl _ run_allocKey ?_; intro x2 B2 hh hB2 e2; have hlt2 : wr.heap.size ≤ B2 := Nat.le_trans (show Ext wr _ from (by first | with_reducible exact Ext.refl _ | solve_by_elim (maxDepth := 8) [Ext.tr])).size hB2; have hk2 := HoldT.step hstab (by with_reducible assumption) e2)
        | (go_at_call 66; refine (Put64_any _ _ [115] _ (hlit.below (show Ext x1 _ from (by first | with_reducible exact Ext.refl _ | solve_by_elim (maxDepth := 8) [Ext.tr])) (by decide)) (by omega) (by omega) (by decide)).mono ?_; rintro e x3 ⟨v3, rfl, hown3, hb3⟩; rw [hA32] at hown3; obtain ⟨a3, c3, rfl, hc3, hc3'⟩ := owns_form hown3; have e3 : Ext _ x3 := hb3; have hk3 := HoldT.step hstab (by with_reducible assumption) e3)
        | (go_at_call 65; refine (MacOf_any _ _ _ key ([115] ++ put64 (A / 32)) (seesB_key (show HoldT (KB w.heap.size key) wr _ from by with_reducible assumption).has HK.out) ((sees_of_owns hown3).below (show Ext x3 _ from (by first | with_reducible exact Ext.refl _ | solve_by_elim (maxDepth := 8) [Ext.tr])) (by decide)) (by rw [HK.out]; omega) (by rw [List.length_append, length_put64]; decide)).mono ?_; rintro e x4 ⟨rfl, hb4⟩; rw [HS.out]; have e4 : Ext _ x4 := hb4; have hk4 := HoldT.step hstab (by with_reducible assumption) e4)
        | (refine wpList_store_row rfl 23 _ _ rfl B2 (keyA S) _ _ rfl rfl (hh.below (show Ext x2 _ from (by first | with_reducible exact Ext.refl _ | solve_by_elim (maxDepth := 8) [Ext.tr]))) (by rw [keyA_size, keyA_size, HSL.out]; rfl) (by rw [keyA_size, HSL.out]; exact info_key) (keyA_one _) ?_; intro x5 hg7 hs7 hR7
           have hk5 : HoldT (KB w.heap.size key) wr x5 := ⟨Blk.grownBy (show HoldT (KB w.heap.size key) wr _ from by with_reducible assumption).has hg7 (some_ne (by omega)), (show HoldT (KB w.heap.size key) wr _ from by with_reducible assumption).up.grown hg7 (show HoldT (KB w.heap.size key) wr _ from by with_reducible assumption).up.size (fun k hk => by cases hk; omega)⟩))
          refine phPost_hold (by first | with_reducible assumption | exact HoldT.alloc hstab (by with_reducible assumption) _ | exact HoldT.alloc hstab (HoldT.alloc hstab (by with_reducible assumption) _) _) ?_
          intro hk_
          refine wpTr_step ?_
          simp only [pickOps, List.flatMap_nil]
          refine wpQuiet_nil ?_
          refine wpTr_one ?_
          simp only [pickOps, List.flatMap_cons, List.flatMap_nil, List.drop_succ_cons, List.drop_zero, List.take_succ_cons, List.take_zero, List.cons_append, List.nil_append, List.append_nil]
          go_wp2_with (first
        | (refine wpList_lit1 rfl _ rfl 115 rfl ?_; intro x1 B1 hlit hB1 e1; have hk1 := HoldT.step hstab (by with_reducible assumption) e1)
        | (refine wpList_allocB rfl _ rfl _ run_allocKey ?_; intro x2 B2 hh hB2 e2; have hlt2 : wr.heap.size ≤ B2 := Nat.le_trans (show Ext wr _ from (by first | with_reducible exact Ext.refl _ | solve_by_elim (maxDepth := 8) [Ext.tr])).size hB2; have hk2 := HoldT.step hstab (by with_reducible assumption) e2)
        | (go_at_call 66; refine (Put64_any _ _ [115] _ (hlit.below (show Ext x1 _ from (by first | with_reducible exact Ext.refl _ | solve_by_elim (maxDepth := 8) [Ext.tr])) (by decide)) (by omega) (by omega) (by decide)).mono ?_; rintro e x3 ⟨v3, rfl, hown3, hb3⟩; rw [hA32] at hown3; obtain ⟨a3, c3, rfl, hc3, hc3'⟩ := owns_form hown3; have e3 : Ext _ x3 := hb3; have hk3 := HoldT.step hstab (by with_reducible assumption) e3)
        | (go_at_call 65; refine (MacOf_any _ _ _ key ([115] ++ put64 (A / 32)) (seesB_key (show HoldT (KB w.heap.size key) wr _ from by with_reducible assumption).has HK.out) ((sees_of_owns hown3).below (show Ext x3 _ from (by first | with_reducible exact Ext.refl _ | solve_by_elim (maxDepth := 8) [Ext.tr])) (by decide)) (by rw [HK.out]; omega) (by rw [List.length_append, length_put64]; decide)).mono ?_; rintro e x4 ⟨rfl, hb4⟩; rw [HS.out]; have e4 : Ext _ x4 := hb4; have hk4 := HoldT.step hstab (by with_reducible assumption) e4)
        | (refine wpList_store_row rfl 23 _ _ rfl B2 (keyA S) _ _ rfl rfl (hh.below (show Ext x2 _ from (by first | with_reducible exact Ext.refl _ | solve_by_elim (maxDepth := 8) [Ext.tr]))) (by rw [keyA_size, keyA_size, HSL.out]; rfl) (by rw [keyA_size, HSL.out]; exact info_key) (keyA_one _) ?_; intro x5 hg7 hs7 hR7
           have hk5 : HoldT (KB w.heap.size key) wr x5 := ⟨Blk.grownBy (show HoldT (KB w.heap.size key) wr _ from by with_reducible assumption).has hg7 (some_ne (by omega)), (show HoldT (KB w.heap.size key) wr _ from by with_reducible assumption).up.grown hg7 (show HoldT (KB w.heap.size key) wr _ from by with_reducible assumption).up.size (fun k hk => by cases hk; omega)⟩))
          refine phPost_hold (by first | with_reducible assumption | exact HoldT.alloc hstab (by with_reducible assumption) _ | exact HoldT.alloc hstab (HoldT.alloc hstab (by with_reducible assumption) _) _) ?_
          intro hk_
          refine wpTr_step ?_
          simp only [pickOps, List.flatMap_nil]
          refine wpQuiet_nil ?_
          refine wpTr_one ?_
          simp only [pickOps, List.flatMap_cons, List.flatMap_nil, List.drop_succ_cons, List.drop_zero, List.take_succ_cons, List.take_zero, List.cons_append, List.nil_append, List.append_nil]
          go_wp2_with (first
        | (refine wpList_lit1 rfl _ rfl 115 rfl ?_; intro x1 B1 hlit hB1 e1; have hk1 := HoldT.step hstab (by with_reducible assumption) e1)
        | (refine wpList_allocB rfl _ rfl _ run_allocKey ?_; intro x2 B2 hh hB2 e2; have hlt2 : wr.heap.size ≤ B2 := Nat.le_trans (show Ext wr _ from (by first | with_reducible exact Ext.refl _ | solve_by_elim (maxDepth := 8) [Ext.tr])).size hB2; have hk2 := HoldT.step hstab (by with_reducible assumption) e2)
        | (go_at_call 66; refine (Put64_any _ _ [115] _ (hlit.below (show Ext x1 _ from (by first | with_reducible exact Ext.refl _ | solve_by_elim (maxDepth := 8) [Ext.tr])) (by decide)) (by omega) (by omega) (by decide)).mono ?_; rintro e x3 ⟨v3, rfl, hown3, hb3⟩; rw [hA32] at hown3; obtain ⟨a3, c3, rfl, hc3, hc3'⟩ := owns_form hown3; have e3 : Ext _ x3 := hb3; have hk3 := HoldT.step hstab (by with_reducible assumption) e3)
        | (go_at_call 65; refine (MacOf_any _ _ _ key ([115] ++ put64 (A / 32)) (seesB_key (show HoldT (KB w.heap.size key) wr _ from by with_reducible assumption).has HK.out) ((sees_of_owns hown3).below (show Ext x3 _ from (by first | with_reducible exact Ext.refl _ | solve_by_elim (maxDepth := 8) [Ext.tr])) (by decide)) (by rw [HK.out]; omega) (by rw [List.length_append, length_put64]; decide)).mono ?_; rintro e x4 ⟨rfl, hb4⟩; rw [HS.out]; have e4 : Ext _ x4 := hb4; have hk4 := HoldT.step hstab (by with_reducible assumption) e4)
        | (refine wpList_store_row rfl 23 _ _ rfl B2 (keyA S) _ _ rfl rfl (hh.below (show Ext x2 _ from (by first | with_reducible exact Ext.refl _ | solve_by_elim (maxDepth := 8) [Ext.tr]))) (by rw [keyA_size, keyA_size, HSL.out]; rfl) (by rw [keyA_size, HSL.out]; exact info_key) (keyA_one _) ?_; intro x5 hg7 hs7 hR7
           have hk5 : HoldT (KB w.heap.size key) wr x5 := ⟨Blk.grownBy (show HoldT (KB w.heap.size key) wr _ from by with_reducible assumption).has hg7 (some_ne (by omega)), (show HoldT (KB w.heap.size key) wr _ from by with_reducible assumption).up.grown hg7 (show HoldT (KB w.heap.size key) wr _ from by with_reducible assumption).up.size (fun k hk => by cases hk; omega)⟩))
          refine phPost_hold (by first | with_reducible assumption | exact HoldT.alloc hstab (by with_reducible assumption) _ | exact HoldT.alloc hstab (HoldT.alloc hstab (by with_reducible assumption) _) _) ?_
          intro hk_
          refine wpTr_fin ?_
          simp only [pickOps, List.flatMap_nil]
          refine wpQuiet_nil ?_
          go_wp2_with fail
          rcases Nat.lt_or_ge b.length (A + 32) with hM | hM
          · have hM' := hM
            have hownx := owns_below hown hk5.up
            have hupx := hk5.up
            have hBx := hk5.has
            have hgx : x5.heap.size = x5.heap.size := rfl
            have hnS : Hid (∀ n, A ≤ n → n < A + 32 → strm key n = S.getD (n - A) 0) := Lib.hid (fun n h1 h2 => by
              have := HA.out
              unfold strm; rw [← HS.out, show n / 32 = A / 32 from by omega, show n % 32 = n - A from by omega])
            go_loopw [8] (fun i wr' => TurnRel2 x5 (w.heap.size + 1) g c1 A (b.length) key b i wr') (fun i _ => b.length + 40 - (intOf i).toNat)
            case atStart => exact ⟨A, Nat.le_refl _, by omega, rfl, hownx, grownBy_refl _ _⟩
            case round =>
              clear hownx
              obtain ⟨n, hAn, hnM, rfl, hown2, hg2⟩ := hrel
              by_cases hn : n < b.length
              · have hnb : n < b.length := by omega
                obtain ⟨hc1x, hf1⟩ := own_cell hown2 n (b.getD n 0) (by rw [turnTo_get _ _ _ _ hnb, if_neg (by omega)])
                have hcs : wr.cell? ⟨B2, n - A, none⟩ = some (BV (strm key n)) := by
                  rw [(hR7.grownBy hg2 (some_ne (by omega))).cell, hnS.out n hAn (by omega), keyA, List.getElem?_toArray, List.getElem?_map, List.getD_eq_getElem?_getD, List.getElem?_eq_getElem (by rw [HSL.out]; omega)]; rfl
                have HT := Lib.hid (turnTo_set key b n)
                generalize b.getD n 0 = p1 at *
                generalize strm key n = q1 at *
                have hx := xor_u8 p1 q1
                go_wp2_with fail
                refine wp_region_quiet_tail 11 (by kernel_rfl) (by kernel_rfl) ?_
                simp only [List.take_succ_cons, List.take_zero, List.drop_succ_cons, List.drop_zero]
                iterate 11 (go_big_quiet_step (fail))
                refine wpQuiet_nil ?_
                intro nr
                go_wp2_with fail
                go_roundw
                case rel =>
                  refine ⟨n + 1, by omega, by omega, by go_num, ?_, grownBy_drewN (grownBy_set hg2 _ _) nr⟩
                  rw [← HT.out]
                  exact own_set hown2 n (p1 ^^^ q1)
                case measure => simp [intOf]; omega
              · obtain rfl : n = b.length := by omega
                have hbz : Below w.heap.size w wr := Below.grown (hbel.trans (hupx.mono hbel.size)) hg2 (Nat.le_trans hbel.size hupx.size) (fun k hk => by cases hk; omega)
                have hBz := Blk.grownBy hBx hg2 (some_ne (by omega))
                have hT : turnTo key b (b.length) = turnTo key b (A + 32) := by first | rfl | (rw [turnTo_ge key b b.length (Nat.le_refl _), turnTo_ge key b (A + 32) (by omega)])
                rw [hT] at hown2
                go_wp2_with fail
                exact ⟨⟨A + 32, j + 1, by go_num, Lib.hid (by have := HA.out; omega), by omega, hown2, hBz, hbz⟩, by simp [intOf]; omega⟩
          · have hM' := hM
            have hownx := owns_below hown hk5.up
            have hupx := hk5.up
            have hBx := hk5.has
            have hgx : x5.heap.size = x5.heap.size := rfl
            have hnS : Hid (∀ n, A ≤ n → n < A + 32 → strm key n = S.getD (n - A) 0) := Lib.hid (fun n h1 h2 => by
              have := HA.out
              unfold strm; rw [← HS.out, show n / 32 = A / 32 from by omega, show n % 32 = n - A from by omega])
            go_loopw [8] (fun i wr' => TurnRel2 x5 (w.heap.size + 1) g c1 A (A + 32) key b i wr') (fun i _ => b.length + 40 - (intOf i).toNat)
            case atStart => exact ⟨A, Nat.le_refl _, by omega, rfl, hownx, grownBy_refl _ _⟩
            case round =>
              clear hownx
              obtain ⟨n, hAn, hnM, rfl, hown2, hg2⟩ := hrel
              by_cases hn : n < A + 32
              · have hnb : n < b.length := by omega
                obtain ⟨hc1x, hf1⟩ := own_cell hown2 n (b.getD n 0) (by rw [turnTo_get _ _ _ _ hnb, if_neg (by omega)])
                have hcs : wr.cell? ⟨B2, n - A, none⟩ = some (BV (strm key n)) := by
                  rw [(hR7.grownBy hg2 (some_ne (by omega))).cell, hnS.out n hAn (by omega), keyA, List.getElem?_toArray, List.getElem?_map, List.getD_eq_getElem?_getD, List.getElem?_eq_getElem (by rw [HSL.out]; omega)]; rfl
                have HT := Lib.hid (turnTo_set key b n)
                generalize b.getD n 0 = p1 at *
                generalize strm key n = q1 at *
                have hx := xor_u8 p1 q1
                go_wp2_with fail
                refine wp_region_quiet_tail 11 (by kernel_rfl) (by kernel_rfl) ?_
                simp only [List.take_succ_cons, List.take_zero, List.drop_succ_cons, List.drop_zero]
                iterate 11 (go_big_quiet_step (fail))
                refine wpQuiet_nil ?_
                intro nr
                go_wp2_with fail
                go_roundw
                case rel =>
                  refine ⟨n + 1, by omega, by omega, by go_num, ?_, grownBy_drewN (grownBy_set hg2 _ _) nr⟩
                  rw [← HT.out]
                  exact own_set hown2 n (p1 ^^^ q1)
                case measure => simp [intOf]; omega
              · obtain rfl : n = A + 32 := by omega
                have hbz : Below w.heap.size w wr := Below.grown (hbel.trans (hupx.mono hbel.size)) hg2 (Nat.le_trans hbel.size hupx.size) (fun k hk => by cases hk; omega)
                have hBz := Blk.grownBy hBx hg2 (some_ne (by omega))
                have hT : turnTo key b (A + 32) = turnTo key b (A + 32) := by first | rfl | (rw [turnTo_ge key b b.length (Nat.le_refl _), turnTo_ge key b (A + 32) (by omega)])
                rw [hT] at hown2
                go_wp2_with fail
                exact ⟨⟨A + 32, j + 1, by go_num, Lib.hid (by have := HA.out; omega), by omega, hown2, hBz, hbz⟩, by simp [intOf]; omega⟩
        refine wpTr_one ?_
        simp only [pickOps, List.flatMap_cons, List.flatMap_nil, List.drop_succ_cons, List.drop_zero, List.take_succ_cons, List.take_zero, List.cons_append, List.nil_append, List.append_nil]
        go_wp2_with (first
        | (refine wpList_lit1 rfl _ rfl 115 rfl ?_; intro x1 B1 hlit hB1 e1; have hk1 := HoldT.step hstab (by with_reducible assumption) e1)
        | (refine wpList_allocB rfl _ rfl _ run_allocKey ?_; intro x2 B2 hh hB2 e2; have hlt2 : wr.heap.size ≤ B2 := Nat.le_trans (show Ext wr _ from (by first | with_reducible exact Ext.refl _ | solve_by_elim (maxDepth := 8) [Ext.tr])).size hB2; have hk2 := HoldT.step hstab (by with_reducible assumption) e2)
        | (go_at_call 66; refine (Put64_any _ _ [115] _ (hlit.below (show Ext x1 _ from (by first | with_reducible exact Ext.refl _ | solve_by_elim (maxDepth := 8) [Ext.tr])) (by decide)) (by omega) (by omega) (by decide)).mono ?_; rintro e x3 ⟨v3, rfl, hown3, hb3⟩; rw [hA32] at hown3; obtain ⟨a3, c3, rfl, hc3, hc3'⟩ := owns_form hown3; have e3 : Ext _ x3 := hb3; have hk3 := HoldT.step hstab (by with_reducible assumption) e3)
        | (go_at_call 65; refine (MacOf_any _ _ _ key ([115] ++ put64 (A / 32)) (seesB_key (show HoldT (KB w.heap.size key) wr _ from by with_reducible assumption).has HK.out) ((sees_of_owns hown3).below (show Ext x3 _ from (by first | with_reducible exact Ext.refl _ | solve_by_elim (maxDepth := 8) [Ext.tr])) (by decide)) (by rw [HK.out]; omega) (by rw [List.length_append, length_put64]; decide)).mono ?_; rintro e x4 ⟨rfl, hb4⟩; rw [HS.out]; have e4 : Ext _ x4 := hb4; have hk4 := HoldT.step hstab (by with_reducible assumption) e4)
        | (refine wpList_store_row rfl 23 _ _ rfl B2 (keyA S) _ _ rfl rfl (hh.below (show Ext x2 _ from (by first | with_reducible exact Ext.refl _ | solve_by_elim (maxDepth := 8) [Ext.tr]))) (by rw [keyA_size, keyA_size, HSL.out]; rfl) (by rw [keyA_size, HSL.out]; exact info_key) (keyA_one _) ?_; intro x5 hg7 hs7 hR7
           have hk5 : HoldT (KB w.heap.size key) wr x5 := ⟨Blk.grownBy (show HoldT (KB w.heap.size key) wr _ from by with_reducible assumption).has hg7 (some_ne (by omega)), (show HoldT (KB w.heap.size key) wr _ from by with_reducible assumption).up.grown hg7 (show HoldT (KB w.heap.size key) wr _ from by with_reducible assumption).up.size (fun k hk => by cases hk; omega)⟩))
        refine phPost_hold (by first | with_reducible assumption | exact HoldT.alloc hstab (by with_reducible assumption) _ | exact HoldT.alloc hstab (HoldT.alloc hstab (by with_reducible assumption) _) _) ?_
        intro hk_
        refine wpTr_step ?_
        simp only [pickOps, List.flatMap_nil]
        refine wpQuiet_nil ?_
        refine wpTr_one ?_
        simp only [pickOps, List.flatMap_cons, List.flatMap_nil, List.drop_succ_cons, List.drop_zero, List.take_succ_cons, List.take_zero, List.cons_append, List.nil_append, List.append_nil]
        go_wp2_with (first
        | (refine wpList_lit1 rfl _ rfl 115 rfl ?_; intro x1 B1 hlit hB1 e1; have hk1 := HoldT.step hstab (by with_reducible assumption) e1)
        | (refine wpList_allocB rfl _ rfl _ run_allocKey ?_; intro x2 B2 hh hB2 e2; have hlt2 : wr.heap.size ≤ B2 := Nat.le_trans (show Ext wr _ from (by first | with_reducible exact Ext.refl _ | solve_by_elim (maxDepth := 8) [Ext.tr])).size hB2; have hk2 := HoldT.step hstab (by with_reducible assumption) e2)
        | (go_at_call 66; refine (Put64_any _ _ [115] _ (hlit.below (show Ext x1 _ from (by first | with_reducible exact Ext.refl _ | solve_by_elim (maxDepth := 8) [Ext.tr])) (by decide)) (by omega) (by omega) (by decide)).mono ?_; rintro e x3 ⟨v3, rfl, hown3, hb3⟩; rw [hA32] at hown3; obtain ⟨a3, c3, rfl, hc3, hc3'⟩ := owns_form hown3; have e3 : Ext _ x3 := hb3; have hk3 := HoldT.step hstab (by with_reducible assumption) e3)
        | (go_at_call 65; refine (MacOf_any _ _ _ key ([115] ++ put64 (A / 32)) (seesB_key (show HoldT (KB w.heap.size key) wr _ from by with_reducible assumption).has HK.out) ((sees_of_owns hown3).below (show Ext x3 _ from (by first | with_reducible exact Ext.refl _ | solve_by_elim (maxDepth := 8) [Ext.tr])) (by decide)) (by rw [HK.out]; omega) (by rw [List.length_append, length_put64]; decide)).mono ?_; rintro e x4 ⟨rfl, hb4⟩; rw [HS.out]; have e4 : Ext _ x4 := hb4; have hk4 := HoldT.step hstab (by with_reducible assumption) e4)
        | (refine wpList_store_row rfl 23 _ _ rfl B2 (keyA S) _ _ rfl rfl (hh.below (show Ext x2 _ from (by first | with_reducible exact Ext.refl _ | solve_by_elim (maxDepth := 8) [Ext.tr]))) (by rw [keyA_size, keyA_size, HSL.out]; rfl) (by rw [keyA_size, HSL.out]; exact info_key) (keyA_one _) ?_; intro x5 hg7 hs7 hR7
           have hk5 : HoldT (KB w.heap.size key) wr x5 := ⟨Blk.grownBy (show HoldT (KB w.heap.size key) wr _ from by with_reducible assumption).has hg7 (some_ne (by omega)), (show HoldT (KB w.heap.size key) wr _ from by with_reducible assumption).up.grown hg7 (show HoldT (KB w.heap.size key) wr _ from by with_reducible assumption).up.size (fun k hk => by cases hk; omega)⟩))
        refine phPost_hold (by first | with_reducible assumption | exact HoldT.alloc hstab (by with_reducible assumption) _ | exact HoldT.alloc hstab (HoldT.alloc hstab (by with_reducible assumption) _) _) ?_
        intro hk_
        refine wpTr_step ?_
        simp only [pickOps, List.flatMap_nil]
        refine wpQuiet_nil ?_
        refine wpTr_one ?_
        simp only [pickOps, List.flatMap_cons, List.flatMap_nil, List.drop_succ_cons, List.drop_zero, List.take_succ_cons, List.take_zero, List.cons_append, List.nil_append, List.append_nil]
        go_wp2_with (first
        | (refine wpList_lit1 rfl _ rfl 115 rfl ?_; intro x1 B1 hlit hB1 e1; have hk1 := HoldT.step hstab (by with_reducible assumption) e1)
        | (refine wpList_allocB rfl _ rfl _ run_allocKey ?_; intro x2 B2 hh hB2 e2; have hlt2 : wr.heap.size ≤ B2 := Nat.le_trans (show Ext wr _ from (by first | with_reducible exact Ext.refl _ | solve_by_elim (maxDepth := 8) [Ext.tr])).size hB2; have hk2 := HoldT.step hstab (by with_reducible assumption) e2)
        | (go_at_call 66; refine (Put64_any _ _ [115] _ (hlit.below (show Ext x1 _ from (by first | with_reducible exact Ext.refl _ | solve_by_elim (maxDepth := 8) [Ext.tr])) (by decide)) (by omega) (by omega) (by decide)).mono ?_; rintro e x3 ⟨v3, rfl, hown3, hb3⟩; rw [hA32] at hown3; obtain ⟨a3, c3, rfl, hc3, hc3'⟩ := owns_form hown3; have e3 : Ext _ x3 := hb3; have hk3 := HoldT.step hstab (by with_reducible assumption) e3)
        | (go_at_call 65; refine (MacOf_any _ _ _ key ([115] ++ put64 (A / 32)) (seesB_key (show HoldT (KB w.heap.size key) wr _ from by with_reducible assumption).has HK.out) ((sees_of_owns hown3).below (show Ext x3 _ from (by first | with_reducible exact Ext.refl _ | solve_by_elim (maxDepth := 8) [Ext.tr])) (by decide)) (by rw [HK.out]; omega) (by rw [List.length_append, length_put64]; decide)).mono ?_; rintro e x4 ⟨rfl, hb4⟩; rw [HS.out]; have e4 : Ext _ x4 := hb4; have hk4 := HoldT.step hstab (by with_reducible assumption) e4)
        | (refine wpList_store_row rfl 23 _ _ rfl B2 (keyA S) _ _ rfl rfl (hh.below (show Ext x2 _ from (by first | with_reducible exact Ext.refl _ | solve_by_elim (maxDepth := 8) [Ext.tr]))) (by rw [keyA_size, keyA_size, HSL.out]; rfl) (by rw [keyA_size, HSL.out]; exact info_key) (keyA_one _) ?_; intro x5 hg7 hs7 hR7
           have hk5 : HoldT (KB w.heap.size key) wr x5 := ⟨Blk.grownBy (show HoldT (KB w.heap.size key) wr _ from by with_reducible assumption).has hg7 (some_ne (by omega)), (show HoldT (KB w.heap.size key) wr _ from by with_reducible assumption).up.grown hg7 (show HoldT (KB w.heap.size key) wr _ from by with_reducible assumption).up.size (fun k hk => by cases hk; omega)⟩))
        refine phPost_hold (by first | with_reducible assumption | exact HoldT.alloc hstab (by with_reducible assumption) _ | exact HoldT.alloc hstab (HoldT.alloc hstab (by with_reducible assumption) _) _) ?_
        intro hk_
        refine wpTr_step ?_
        simp only [pickOps, List.flatMap_nil]
        refine wpQuiet_nil ?_
        refine wpTr_one ?_
        simp only [pickOps, List.flatMap_cons, List.flatMap_nil, List.drop_succ_cons, List.drop_zero, List.take_succ_cons, List.take_zero, List.cons_append, List.nil_append, List.append_nil]
        go_wp2_with (first
        | (refine wpList_lit1 rfl _ rfl 115 rfl ?_; intro x1 B1 hlit hB1 e1; have hk1 := HoldT.step hstab (by with_reducible assumption) e1)
        | (refine wpList_allocB rfl _ rfl _ run_allocKey ?_; intro x2 B2 hh hB2 e2; have hlt2 : wr.heap.size ≤ B2 := Nat.le_trans (show Ext wr _ from (by first | with_reducible exact Ext.refl _ | solve_by_elim (maxDepth := 8) [Ext.tr])).size hB2; have hk2 := HoldT.step hstab (by with_reducible assumption) e2)
        | (go_at_call 66; refine (Put64_any _ _ [115] _ (hlit.below (show Ext x1 _ from (by first | with_reducible exact Ext.refl _ | solve_by_elim (maxDepth := 8) [Ext.tr])) (by decide)) (by omega) (by omega) (by decide)).mono ?_; rintro e x3 ⟨v3, rfl, hown3, hb3⟩; rw [hA32] at hown3; obtain ⟨a3, c3, rfl, hc3, hc3'⟩ := owns_form hown3; have e3 : Ext _ x3 := hb3; have hk3 := HoldT.step hstab (by with_reducible assumption) e3)
        | (go_at_call 65; refine (MacOf_any _ _ _ key ([115] ++ put64 (A / 32)) (seesB_key (show HoldT (KB w.heap.size key) wr _ from by with_reducible assumption).has HK.out) ((sees_of_owns hown3).below (show Ext x3 _ from (by first | with_reducible exact Ext.refl _ | solve_by_elim (maxDepth := 8) [Ext.tr])) (by decide)) (by rw [HK.out]; omega) (by rw [List.length_append, length_put64]; decide)).mono ?_; rintro e x4 ⟨rfl, hb4⟩; rw [HS.out]; have e4 : Ext _ x4 := hb4; have hk4 := HoldT.step hstab (by with_reducible assumption) e4)
        | (refine wpList_store_row rfl 23 _ _ rfl B2 (keyA S) _ _ rfl rfl (hh.below (show Ext x2 _ from (by first | with_reducible exact Ext.refl _ | solve_by_elim (maxDepth := 8) [Ext.tr]))) (by rw [keyA_size, keyA_size, HSL.out]; rfl) (by rw [keyA_size, HSL.out]; exact info_key) (keyA_one _) ?_; intro x5 hg7 hs7 hR7
           have hk5 : HoldT (KB w.heap.size key) wr x5 := ⟨Blk.grownBy (show HoldT (KB w.heap.size key) wr _ from by with_reducible assumption).has hg7 (some_ne (by omega)), (show HoldT (KB w.heap.size key) wr _ from by with_reducible assumption).up.grown hg7 (show HoldT (KB w.heap.size key) wr _ from by with_reducible assumption).up.size (fun k hk => by cases hk; omega)⟩))
        refine phPost_hold (by first | with_reducible assumption | exact HoldT.alloc hstab (by with_reducible assumption) _ | exact HoldT.alloc hstab (HoldT.alloc hstab (by with_reducible assumption) _) _) ?_
        intro hk_
        refine wpTr_fin ?_
        simp only [pickOps, List.flatMap_nil]
        refine wpQuiet_nil ?_
        go_wp2_with fail
        rcases Nat.lt_or_ge b.length (A + 32) with hM | hM
        · have hM' := hM
          have hownx := owns_below hown hk5.up
          have hupx := hk5.up
          have hBx := hk5.has
          have hgx : x5.heap.size = x5.heap.size := rfl
          have hnS : Hid (∀ n, A ≤ n → n < A + 32 → strm key n = S.getD (n - A) 0) := Lib.hid (fun n h1 h2 => by
            have := HA.out
            unfold strm; rw [← HS.out, show n / 32 = A / 32 from by omega, show n % 32 = n - A from by omega])
          go_loopw [8] (fun i wr' => TurnRel2 x5 (w.heap.size + 1) g c1 A (b.length) key b i wr') (fun i _ => b.length + 40 - (intOf i).toNat)
          case atStart => exact ⟨A, Nat.le_refl _, by omega, rfl, hownx, grownBy_refl _ _⟩
          case round =>
            clear hownx
            obtain ⟨n, hAn, hnM, rfl, hown2, hg2⟩ := hrel
            by_cases hn : n < b.length
            · have hnb : n < b.length := by omega
              obtain ⟨hc1x, hf1⟩ := own_cell hown2 n (b.getD n 0) (by rw [turnTo_get _ _ _ _ hnb, if_neg (by omega)])
              have hcs : wr.cell? ⟨B2, n - A, none⟩ = some (BV (strm key n)) := by
                rw [(hR7.grownBy hg2 (some_ne (by omega))).cell, hnS.out n hAn (by omega), keyA, List.getElem?_toArray, List.getElem?_map, List.getD_eq_getElem?_getD, List.getElem?_eq_getElem (by rw [HSL.out]; omega)]; rfl
              have HT := Lib.hid (turnTo_set key b n)
              generalize b.getD n 0 = p1 at *
              generalize strm key n = q1 at *
              have hx := xor_u8 p1 q1
              go_wp2_with fail
              refine wp_region_quiet_tail 11 (by kernel_rfl) (by kernel_rfl) ?_
              simp only [List.take_succ_cons, List.take_zero, List.drop_succ_cons, List.drop_zero]
              iterate 11 (go_big_quiet_step (fail))
              refine wpQuiet_nil ?_
              intro nr
              go_wp2_with fail
              go_roundw
              case rel =>
                refine ⟨n + 1, by omega, by omega, by go_num, ?_, grownBy_drewN (grownBy_set hg2 _ _) nr⟩
                rw [← HT.out]
                exact own_set hown2 n (p1 ^^^ q1)
              case measure => simp [intOf]; omega
            · obtain rfl : n = b.length := by omega
              have hbz : Below w.heap.size w wr := Below.grown (hbel.trans (hupx.mono hbel.size)) hg2 (Nat.le_trans hbel.size hupx.size) (fun k hk => by cases hk; omega)
              have hBz := Blk.grownBy hBx hg2 (some_ne (by omega))
              have hT : turnTo key b (b.length) = turnTo key b (A + 32) := by first | rfl | (rw [turnTo_ge key b b.length (Nat.le_refl _), turnTo_ge key b (A + 32) (by omega)])
              rw [hT] at hown2
              go_wp2_with fail
              exact ⟨⟨A + 32, j + 1, by go_num, Lib.hid (by have := HA.out; omega), by omega, hown2, hBz, hbz⟩, by simp [intOf]; omega⟩
        · have hM' := hM
          have hownx := owns_below hown hk5.up
          have hupx := hk5.up
          have hBx := hk5.has
          have hgx : x5.heap.size = x5.heap.size := rfl
          have hnS : Hid (∀ n, A ≤ n → n < A + 32 → strm key n = S.getD (n - A) 0) := Lib.hid (fun n h1 h2 => by
            have := HA.out
            unfold strm; rw [← HS.out, show n / 32 = A / 32 from by omega, show n % 32 = n - A from by omega])
          go_loopw [8] (fun i wr' => TurnRel2 x5 (w.heap.size + 1) g c1 A (A + 32) key b i wr') (fun i _ => b.length + 40 - (intOf i).toNat)
          case atStart => exact ⟨A, Nat.le_refl _, by omega, rfl, hownx, grownBy_refl _ _⟩
          case round =>
            clear hownx
            obtain ⟨n, hAn, hnM, rfl, hown2, hg2⟩ := hrel
            by_cases hn : n < A + 32
            · have hnb : n < b.length := by omega
              obtain ⟨hc1x, hf1⟩ := own_cell hown2 n (b.getD n 0) (by rw [turnTo_get _ _ _ _ hnb, if_neg (by omega)])
              have hcs : wr.cell? ⟨B2, n - A, none⟩ = some (BV (strm key n)) := by
                rw [(hR7.grownBy hg2 (some_ne (by omega))).cell, hnS.out n hAn (by omega), keyA, List.getElem?_toArray, List.getElem?_map, List.getD_eq_getElem?_getD, List.getElem?_eq_getElem (by rw [HSL.out]; omega)]; rfl
              have HT := Lib.hid (turnTo_set key b n)
              generalize b.getD n 0 = p1 at *
              generalize strm key n = q1 at *
              have hx := xor_u8 p1 q1
              go_wp2_with fail
              refine wp_region_quiet_tail 11 (by kernel_rfl) (by kernel_rfl) ?_
              simp only [List.take_succ_cons, List.take_zero, List.drop_succ_cons, List.drop_zero]
              iterate 11 (go_big_quiet_step (fail))
              refine wpQuiet_nil ?_
              intro nr
              go_wp2_with fail
              go_roundw
              case rel =>
                refine ⟨n + 1, by omega, by omega, by go_num, ?_, grownBy_drewN (grownBy_set hg2 _ _) nr⟩
                rw [← HT.out]
                exact own_set hown2 n (p1 ^^^ q1)
              case measure => simp [intOf]; omega
            · obtain rfl : n = A + 32 := by omega
              have hbz : Below w.heap.size w wr := Below.grown (hbel.trans (hupx.mono hbel.size)) hg2 (Nat.le_trans hbel.size hupx.size) (fun k hk => by cases hk; omega)
              have hBz := Blk.grownBy hBx hg2 (some_ne (by omega))
              have hT : turnTo key b (A + 32) = turnTo key b (A + 32) := by first | rfl | (rw [turnTo_ge key b b.length (Nat.le_refl _), turnTo_ge key b (A + 32) (by omega)])
              rw [hT] at hown2
              go_wp2_with fail
              exact ⟨⟨A + 32, j + 1, by go_num, Lib.hid (by have := HA.out; omega), by omega, hown2, hBz, hbz⟩, by simp [intOf]; omega⟩
      refine wpTr_one ?_
      simp only [pickOps, List.flatMap_cons, List.flatMap_nil, List.drop_succ_cons, List.drop_zero, List.take_succ_cons, List.take_zero, List.cons_append, List.nil_append, List.append_nil]
      go_wp2_with (first
        | (refine wpList_lit1 rfl _ rfl 115 rfl ?_; intro x1 B1 hlit hB1 e1; have hk1 := HoldT.step hstab (by with_reducible assumption) e1)
        | (refine wpList_allocB rfl _ rfl _ run_allocKey ?_; intro x2 B2 hh hB2 e2; have hlt2 : wr.heap.size ≤ B2 := Nat.le_trans (show Ext wr _ from (by first | with_reducible exact Ext.refl _ | solve_by_elim (maxDepth := 8) [Ext.tr])).size hB2; have hk2 := HoldT.step hstab (by with_reducible assumption) e2)
        | (go_at_call 66; refine (Put64_any _ _ [115] _ (hlit.below (show Ext x1 _ from (by first | with_reducible exact Ext.refl _ | solve_by_elim (maxDepth := 8) [Ext.tr])) (by decide)) (by omega) (by omega) (by decide)).mono ?_; rintro e x3 ⟨v3, rfl, hown3, hb3⟩; rw [hA32] at hown3; obtain ⟨a3, c3, rfl, hc3, hc3'⟩ := owns_form hown3; have e3 : Ext _ x3 := hb3; have hk3 := HoldT.step hstab (by with_reducible assumption) e3)
        | (go_at_call 65; refine (MacOf_any _ _ _ key ([115] ++ put64 (A / 32)) (seesB_key (show HoldT (KB w.heap.size key) wr _ from by with_reducible assumption).has HK.out) ((sees_of_owns hown3).below (show Ext x3 _ from (by first | with_reducible exact Ext.refl _ | solve_by_elim (maxDepth := 8) [Ext.tr])) (by decide)) (by rw [HK.out]; omega) (by rw [List.length_append, length_put64]; decide)).mono ?_; rintro e x4 ⟨rfl, hb4⟩; rw [HS.out]; have e4 : Ext _ x4 := hb4; have hk4 := HoldT.step hstab (by with_reducible assumption) e4)
        | (refine wpList_store_row rfl 23 _ _ rfl B2 (keyA S) _ _ rfl rfl (hh.below (show Ext x2 _ from (by first | with_reducible exact Ext.refl _ | solve_by_elim (maxDepth := 8) [Ext.tr]))) (by rw [keyA_size, keyA_size, HSL.out]; rfl) (by rw [keyA_size, HSL.out]; exact info_key) (keyA_one _) ?_; intro x5 hg7 hs7 hR7
           have hk5 : HoldT (KB w.heap.size key) wr x5 := ⟨Blk.grownBy (show HoldT (KB w.heap.size key) wr _ from by with_reducible assumption).has hg7 (some_ne (by omega)), (show HoldT (KB w.heap.size key) wr _ from by with_reducible assumption).up.grown hg7 (show HoldT (KB w.heap.size key) wr _ from by with_reducible assumption).up.size (fun k hk => by cases hk; omega)⟩))
      refine phPost_hold (by first | with_reducible assumption | exact HoldT.alloc hstab (by with_reducible assumption) _ | exact HoldT.alloc hstab (HoldT.alloc hstab (by with_reducible assumption) _) _) ?_
      intro hk_
      refine wpTr_step ?_
      simp only [pickOps, List.flatMap_nil]
      refine wpQuiet_nil ?_
      refine wpTr_one ?_
      simp only [pickOps, List.flatMap_cons, List.flatMap_nil, List.drop_succ_cons, List.drop_zero, List.take_succ_cons, List.take_zero, List.cons_append, List.nil_append, List.append_nil]
      go_wp2_with (first
        | (refine wpList_lit1 rfl _ rfl 115 rfl ?_; intro x1 B1 hlit hB1 e1; have hk1 := HoldT.step hstab (by with_reducible assumption) e1)
        | (refine wpList_allocB rfl _ rfl _ run_allocKey ?_; intro x2 B2 hh hB2 e2; have hlt2 : wr.heap.size ≤ B2 := Nat.le_trans (show Ext wr _ from (by first | with_reducible exact Ext.refl _ | solve_by_elim (maxDepth := 8) [Ext.tr])).size hB2; have hk2 := HoldT.step hstab (by with_reducible assumption) e2)
        | (go_at_call 66; refine (Put64_any _ _ [115] _ (hlit.below (show Ext x1 _ from (by first | with_reducible exact Ext.refl _ | solve_by_elim (maxDepth := 8) [Ext.tr])) (by decide)) (by omega) (by omega) (by decide)).mono ?_; rintro e x3 ⟨v3, rfl, hown3, hb3⟩; rw [hA32] at hown3; obtain ⟨a3, c3, rfl, hc3, hc3'⟩ := owns_form hown3; have e3 : Ext _ x3 := hb3; have hk3 := HoldT.step hstab (by with_reducible assumption) e3)
        | (go_at_call 65; refine (MacOf_any _ _ _ key ([115] ++ put64 (A / 32)) (seesB_key (show HoldT (KB w.heap.size key) wr _ from by with_reducible assumption).has HK.out) ((sees_of_owns hown3).below (show Ext x3 _ from (by first | with_reducible exact Ext.refl _ | solve_by_elim (maxDepth := 8) [Ext.tr])) (by decide)) (by rw [HK.out]; omega) (by rw [List.length_append, length_put64]; decide)).mono ?_; rintro e x4 ⟨rfl, hb4⟩; rw [HS.out]; have e4 : Ext _ x4 := hb4; have hk4 := HoldT.step hstab (by with_reducible assumption) e4)
        | (refine wpList_store_row rfl 23 _ _ rfl B2 (keyA S) _ _ rfl rfl (hh.below (show Ext x2 _ from (by first | with_reducible exact Ext.refl _ | solve_by_elim (maxDepth := 8) [Ext.tr]))) (by rw [keyA_size, keyA_size, HSL.out]; rfl) (by rw [keyA_size, HSL.out]; exact info_key) (keyA_one _) ?_; intro x5 hg7 hs7 hR7
           have hk5 : HoldT (KB w.heap.size key) wr x5 := ⟨Blk.grownBy (show HoldT (KB w.heap.size key) wr _ from by with_reducible assumption).has hg7 (some_ne (by omega)), (show HoldT (KB w.heap.size key) wr _ from by with_reducible assumption).up.grown hg7 (show HoldT (KB w.heap.size key) wr _ from by with_reducible assumption).up.size (fun k hk => by cases hk; omega)⟩))
      refine phPost_hold (by first | with_reducible assumption | exact HoldT.alloc hstab (by with_reducible assumption) _ | exact HoldT.alloc hstab (HoldT.alloc hstab (by with_reducible assumption) _) _) ?_
      intro hk_
      refine wpTr_step ?_
      simp only [pickOps, List.flatMap_nil]
      refine wpQuiet_nil ?_
      refine wpTr_one ?_
      simp only [pickOps, List.flatMap_cons, List.flatMap_nil, List.drop_succ_cons, List.drop_zero, List.take_succ_cons, List.take_zero, List.cons_append, List.nil_append, List.append_nil]
      go_wp2_with (first
        | (refine wpList_lit1 rfl _ rfl 115 rfl ?_; intro x1 B1 hlit hB1 e1; have hk1 := HoldT.step hstab (by with_reducible assumption) e1)
        | (refine wpList_allocB rfl _ rfl _ run_allocKey ?_; intro x2 B2 hh hB2 e2; have hlt2 : wr.heap.size ≤ B2 := Nat.le_trans (show Ext wr _ from (by first | with_reducible exact Ext.refl _ | solve_by_elim (maxDepth := 8) [Ext.tr])).size hB2; have hk2 := HoldT.step hstab (by with_reducible assumption) e2)
        | (go_at_call 66; refine (Put64_any _ _ [115] _ (hlit.below (show Ext x1 _ from (by first | with_reducible exact Ext.refl _ | solve_by_elim (maxDepth := 8) [Ext.tr])) (by decide)) (by omega) (by omega) (by decide)).mono ?_; rintro e x3 ⟨v3, rfl, hown3, hb3⟩; rw [hA32] at hown3; obtain ⟨a3, c3, rfl, hc3, hc3'⟩ := owns_form hown3; have e3 : Ext _ x3 := hb3; have hk3 := HoldT.step hstab (by with_reducible assumption) e3)
        | (go_at_call 65; refine (MacOf_any _ _ _ key ([115] ++ put64 (A / 32)) (seesB_key (show HoldT (KB w.heap.size key) wr _ from by with_reducible assumption).has HK.out) ((sees_of_owns hown3).below (show Ext x3 _ from (by first | with_reducible exact Ext.refl _ | solve_by_elim (maxDepth := 8) [Ext.tr])) (by decide)) (by rw [HK.out]; omega) (by rw [List.length_append, length_put64]; decide)).mono ?_; rintro e x4 ⟨rfl, hb4⟩; rw [HS.out]; have e4 : Ext _ x4 := hb4; have hk4 := HoldT.step hstab (by with_reducible assumption) e4)
        | (refine wpList_store_row rfl 23 _ _ rfl B2 (keyA S) _ _ rfl rfl (hh.below (show Ext x2 _ from (by first | with_reducible exact Ext.refl _ | solve_by_elim (maxDepth := 8) [Ext.tr]))) (by rw [keyA_size, keyA_size, HSL.out]; rfl) (by rw [keyA_size, HSL.out]; exact info_key) (keyA_one _) ?_; intro x5 hg7 hs7 hR7
           have hk5 : HoldT (KB w.heap.size key) wr x5 := ⟨Blk.grownBy (show HoldT (KB w.heap.size key) wr _ from by with_reducible assumption).has hg7 (some_ne (by omega)), (show HoldT (KB w.heap.size key) wr _ from by with_reducible assumption).up.grown hg7 (show HoldT (KB w.heap.size key) wr _ from by with_reducible assumption).up.size (fun k hk => by cases hk; omega)⟩))
      refine phPost_hold (by first | with_reducible assumption | exact HoldT.alloc hstab (by with_reducible assumption) _ | exact HoldT.alloc hstab (HoldT.alloc hstab (by with_reducible assumption) _) _) ?_
      intro hk_
      refine wpTr_step ?_
      simp only [pickOps, List.flatMap_nil]
      refine wpQuiet_nil ?_
      refine wpTr_one ?_
      simp only [pickOps, List.flatMap_cons, List.flatMap_nil, List.drop_succ_cons, List.drop_zero, List.take_succ_cons, List.take_zero, List.cons_append, List.nil_append, List.append_nil]
      go_wp2_with (first
        | (refine wpList_lit1 rfl _ rfl 115 rfl ?_; intro x1 B1 hlit hB1 e1; have hk1 := HoldT.step hstab (by with_reducible assumption) e1)
        | (refine wpList_allocB rfl _ rfl _ run_allocKey ?_; intro x2 B2 hh hB2 e2; have hlt2 : wr.heap.size ≤ B2 := Nat.le_trans (show Ext wr _ from (by first | with_reducible exact Ext.refl _ | solve_by_elim (maxDepth := 8) [Ext.tr])).size hB2; have hk2 := HoldT.step hstab (by with_reducible assumption) e2)
        | (go_at_call 66; refine (Put64_any _ _ [115] _ (hlit.below (show Ext x1 _ from (by first | with_reducible exact Ext.refl _ | solve_by_elim (maxDepth := 8) [Ext.tr])) (by decide)) (by omega) (by omega) (by decide)).mono ?_; rintro e x3 ⟨v3, rfl, hown3, hb3⟩; rw [hA32] at hown3; obtain ⟨a3, c3, rfl, hc3, hc3'⟩ := owns_form hown3; have e3 : Ext _ x3 := hb3; have hk3 := HoldT.step hstab (by with_reducible assumption) e3)
        | (go_at_call 65; refine (MacOf_any _ _ _ key ([115] ++ put64 (A / 32)) (seesB_key (show HoldT (KB w.heap.size key) wr _ from by with_reducible assumption).has HK.out) ((sees_of_owns hown3).below (show Ext x3 _ from (by first | with_reducible exact Ext.refl _ | solve_by_elim (maxDepth := 8) [Ext.tr])) (by decide)) (by rw [HK.out]; omega) (by rw [List.length_append, length_put64]; decide)).mono ?_; rintro e x4 ⟨rfl, hb4⟩; rw [HS.out]; have e4 : Ext _ x4 := hb4; have hk4 := HoldT.step hstab (by with_reducible assumption) e4)
        | (refine wpList_store_row rfl 23 _ _ rfl B2 (keyA S) _ _ rfl rfl (hh.below (show Ext x2 _ from (by first | with_reducible exact Ext.refl _ | solve_by_elim (maxDepth := 8) [Ext.tr]))) (by rw [keyA_size, keyA_size, HSL.out]; rfl) (by rw [keyA_size, HSL.out]; exact info_key) (keyA_one _) ?_; intro x5 hg7 hs7 hR7
           have hk5 : HoldT (KB w.heap.size key) wr x5 := ⟨Blk.grownBy (show HoldT (KB w.heap.size key) wr _ from by with_reducible assumption).has hg7 (some_ne (by omega)), (show HoldT (KB w.heap.size key) wr _ from by with_reducible assumption).up.grown hg7 (show HoldT (KB w.heap.size key) wr _ from by with_reducible assumption).up.size (fun k hk => by cases hk; omega)⟩))
      refine phPost_hold (by first | with_reducible assumption | exact HoldT.alloc hstab (by with_reducible assumption) _ | exact HoldT.alloc hstab (HoldT.alloc hstab (by with_reducible assumption) _) _) ?_
      intro hk_
      refine wpTr_step ?_
      simp only [pickOps, List.flatMap_nil]
      refine wpQuiet_nil ?_
      refine wpTr_one ?_
      simp only [pickOps, List.flatMap_cons, List.flatMap_nil, List.drop_succ_cons, List.drop_zero, List.take_succ_cons, List.take_zero, List.cons_append, List.nil_append, List.append_nil]
      go_wp2_with (first
        | (refine wpList_lit1 rfl _ rfl 115 rfl ?_; intro x1 B1 hlit hB1 e1; have hk1 := HoldT.step hstab (by with_reducible assumption) e1)
        | (refine wpList_allocB rfl _ rfl _ run_allocKey ?_; intro x2 B2 hh hB2 e2; have hlt2 : wr.heap.size ≤ B2 := Nat.le_trans (show Ext wr _ from (by first | with_reducible exact Ext.refl _ | solve_by_elim (maxDepth := 8) [Ext.tr])).size hB2; have hk2 := HoldT.step hstab (by with_reducible assumption) e2)
        | (go_at_call 66; refine (Put64_any _ _ [115] _ (hlit.below (show Ext x1 _ from (by first | with_reducible exact Ext.refl _ | solve_by_elim (maxDepth := 8) [Ext.tr])) (by decide)) (by omega) (by omega) (by decide)).mono ?_; rintro e x3 ⟨v3, rfl, hown3, hb3⟩; rw [hA32] at hown3; obtain ⟨a3, c3, rfl, hc3, hc3'⟩ := owns_form hown3; have e3 : Ext _ x3 := hb3; have hk3 := HoldT.step hstab (by with_reducible assumption) e3)
        | (go_at_call 65; refine (MacOf_any _ _ _ key ([115] ++ put64 (A / 32)) (seesB_key (show HoldT (KB w.heap.size key) wr _ from by with_reducible assumption).has HK.out) ((sees_of_owns hown3).below (show Ext x3 _ from (by first | with_reducible exact Ext.refl _ | solve_by_elim (maxDepth := 8) [Ext.tr])) (by decide)) (by rw [HK.out]; omega) (by rw [List.length_append, length_put64]; decide)).mono ?_; rintro e x4 ⟨rfl, hb4⟩; rw [HS.out]; have e4 : Ext _ x4 := hb4; have hk4 := HoldT.step hstab (by with_reducible assumption) e4)
        | (refine wpList_store_row rfl 23 _ _ rfl B2 (keyA S) _ _ rfl rfl (hh.below (show Ext x2 _ from (by first | with_reducible exact Ext.refl _ | solve_by_elim (maxDepth := 8) [Ext.tr]))) (by rw [keyA_size, keyA_size, HSL.out]; rfl) (by rw [keyA_size, HSL.out]; exact info_key) (keyA_one _) ?_; intro x5 hg7 hs7 hR7
           have hk5 : HoldT (KB w.heap.size key) wr x5 := ⟨Blk.grownBy (show HoldT (KB w.heap.size key) wr _ from by with_reducible assumption).has hg7 (some_ne (by omega)), (show HoldT (KB w.heap.size key) wr _ from by with_reducible assumption).up.grown hg7 (show HoldT (KB w.heap.size key) wr _ from by with_reducible assumption).up.size (fun k hk => by cases hk; omega)⟩))
      refine phPost_hold (by first | with_reducible assumption | exact HoldT.alloc hstab (by with_reducible assumption) _ | exact HoldT.alloc hstab (HoldT.alloc hstab (by with_reducible assumption) _) _) ?_
      intro hk_
      refine wpTr_fin ?_
      simp only [pickOps, List.flatMap_nil]
      refine wpQuiet_nil ?_
      go_wp2_with fail
      rcases Nat.lt_or_ge b.length (A + 32) with hM | hM
      · have hM' := hM
        have hownx := owns_below hown hk5.up
        have hupx := hk5.up
        have hBx := hk5.has
        have hgx : x5.heap.size = x5.heap.size := rfl
        have hnS : Hid (∀ n, A ≤ n → n < A + 32 → strm key n = S.getD (n - A) 0) := Lib.hid (fun n h1 h2 => by
          have := HA.out
          unfold strm; rw [← HS.out, show n / 32 = A / 32 from by omega, show n % 32 = n - A from by omega])
        go_loopw [8] (fun i wr' => TurnRel2 x5 (w.heap.size + 1) g c1 A (b.length) key b i wr') (fun i _ => b.length + 40 - (intOf i).toNat)
        case atStart => exact ⟨A, Nat.le_refl _, by omega, rfl, hownx, grownBy_refl _ _⟩
        case round =>
          clear hownx
          obtain ⟨n, hAn, hnM, rfl, hown2, hg2⟩ := hrel
          by_cases hn : n < b.length
          · have hnb : n < b.length := by omega
            obtain ⟨hc1x, hf1⟩ := own_cell hown2 n (b.getD n 0) (by rw [turnTo_get _ _ _ _ hnb, if_neg (by omega)])
            have hcs : wr.cell? ⟨B2, n - A, none⟩ = some (BV (strm key n)) := by
              rw [(hR7.grownBy hg2 (some_ne (by omega))).cell, hnS.out n hAn (by omega), keyA, List.getElem?_toArray, List.getElem?_map, List.getD_eq_getElem?_getD, List.getElem?_eq_getElem (by rw [HSL.out]; omega)]; rfl
            have HT := Lib.hid (turnTo_set key b n)
            generalize b.getD n 0 = p1 at *
            generalize strm key n = q1 at *
            have hx := xor_u8 p1 q1
            go_wp2_with fail
            refine wp_region_quiet_tail 11 (by kernel_rfl) (by kernel_rfl) ?_
            simp only [List.take_succ_cons, List.take_zero, List.drop_succ_cons, List.drop_zero]
            iterate 11 (go_big_quiet_step (fail))
            refine wpQuiet_nil ?_
            intro nr
            go_wp2_with fail
            go_roundw
            case rel =>
              refine ⟨n + 1, by omega, by omega, by go_num, ?_, grownBy_drewN (grownBy_set hg2 _ _) nr⟩
              rw [← HT.out]
              exact own_set hown2 n (p1 ^^^ q1)
            case measure => simp [intOf]; omega
          · obtain rfl : n = b.length := by omega
            have hbz : Below w.heap.size w wr := Below.grown (hbel.trans (hupx.mono hbel.size)) hg2 (Nat.le_trans hbel.size hupx.size) (fun k hk => by cases hk; omega)
            have hBz := Blk.grownBy hBx hg2 (some_ne (by omega))
            have hT : turnTo key b (b.length) = turnTo key b (A + 32) := by first | rfl | (rw [turnTo_ge key b b.length (Nat.le_refl _), turnTo_ge key b (A + 32) (by omega)])
            rw [hT] at hown2
            go_wp2_with fail
            exact ⟨⟨A + 32, j + 1, by go_num, Lib.hid (by have := HA.out; omega), by omega, hown2, hBz, hbz⟩, by simp [intOf]; omega⟩
      · have hM' := hM
        have hownx := owns_below hown hk5.up
        have hupx := hk5.up
        have hBx := hk5.has
        have hgx : x5.heap.size = x5.heap.size := rfl
        have hnS : Hid (∀ n, A ≤ n → n < A + 32 → strm key n = S.getD (n - A) 0) := Lib.hid (fun n h1 h2 => by
          have := HA.out
          unfold strm; rw [← HS.out, show n / 32 = A / 32 from by omega, show n % 32 = n - A from by omega])
        go_loopw [8] (fun i wr' => TurnRel2 x5 (w.heap.size + 1) g c1 A (A + 32) key b i wr') (fun i _ => b.length + 40 - (intOf i).toNat)
        case atStart => exact ⟨A, Nat.le_refl _, by omega, rfl, hownx, grownBy_refl _ _⟩
        case round =>
          clear hownx
          obtain ⟨n, hAn, hnM, rfl, hown2, hg2⟩ := hrel
          by_cases hn : n < A + 32
          · have hnb : n < b.length := by omega
            obtain ⟨hc1x, hf1⟩ := own_cell hown2 n (b.getD n 0) (by rw [turnTo_get _ _ _ _ hnb, if_neg (by omega)])
            have hcs : wr.cell? ⟨B2, n - A, none⟩ = some (BV (strm key n)) := by
              rw [(hR7.grownBy hg2 (some_ne (by omega))).cell, hnS.out n hAn (by omega), keyA, List.getElem?_toArray, List.getElem?_map, List.getD_eq_getElem?_getD, List.getElem?_eq_getElem (by rw [HSL.out]; omega)]; rfl
            have HT := Lib.hid (turnTo_set key b n)
            generalize b.getD n 0 = p1 at *
            generalize strm key n = q1 at *
            have hx := xor_u8 p1 q1
            go_wp2_with fail
            refine wp_region_quiet_tail 11 (by kernel_rfl) (by kernel_rfl) ?_
            simp only [List.take_succ_cons, List.take_zero, List.drop_succ_cons, List.drop_zero]
            iterate 11 (go_big_quiet_step (fail))
            refine wpQuiet_nil ?_
            intro nr
            go_wp2_with fail
            go_roundw
            case rel =>
              refine ⟨n + 1, by omega, by omega, by go_num, ?_, grownBy_drewN (grownBy_set hg2 _ _) nr⟩
              rw [← HT.out]
              exact own_set hown2 n (p1 ^^^ q1)
            case measure => simp [intOf]; omega
          · obtain rfl : n = A + 32 := by omega
            have hbz : Below w.heap.size w wr := Below.grown (hbel.trans (hupx.mono hbel.size)) hg2 (Nat.le_trans hbel.size hupx.size) (fun k hk => by cases hk; omega)
            have hBz := Blk.grownBy hBx hg2 (some_ne (by omega))
            have hT : turnTo key b (A + 32) = turnTo key b (A + 32) := by first | rfl | (rw [turnTo_ge key b b.length (Nat.le_refl _), turnTo_ge key b (A + 32) (by omega)])
            rw [hT] at hown2
            go_wp2_with fail
            exact ⟨⟨A + 32, j + 1, by go_num, Lib.hid (by have := HA.out; omega), by omega, hown2, hBz, hbz⟩, by simp [intOf]; omega⟩
    · have hTT := turnTo_ge key b A (by omega)
      rw [hTT] at hown
      clear hTT
      go_wp2_with fail
      go_ret
      have hown' : OwnB wr w.heap.size (.slice a1 b.length c1) (turnL key b) := by unfold OwnB; rw [length_turnL]; exact owns_mono hown (by omega)
      exact RetB.mk hown' hbel
end Go.Proofs.Yteialfdhbfbkgaa
