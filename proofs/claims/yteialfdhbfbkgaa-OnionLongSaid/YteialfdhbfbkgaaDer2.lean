/-
  Expand to 32 bytes: both programs.
-/
import Derived.Test.YteialfdhbfbkgaaDer1
import Derived.Test.YteialfdhbfbkgaaArm
namespace Go.Proofs.Yteialfdhbfbkgaa
set_option linter.unusedVariables false
set_option linter.unusedSimpArgs false
open Go Go.RowKit

theorem sees_recap {w : World} {g n c c' : Nat} {l : List UInt8} {k : Nat} (h : SeesB w (.slice (some ⟨g, 0, none⟩) n c) l) (hl : l.length = k) (hc : k ≤ c') (hm : c' ≤ 9223372036854775807) : SeesB w (.slice (some ⟨g, 0, none⟩) k c') l := by
  subst hl
  obtain ⟨h1, a, c0, he, _, _, _, hb⟩ := h
  injection he with e1 _ _
  subst e1
  exact ⟨h1, _, c', rfl, hc, by unfold maxLen; omega, (fun h => nomatch h), hb⟩
set_option maxRecDepth 100000 in
set_option maxHeartbeats 2000000 in
theorem Expand_any (key : List UInt8) (info : ByteArray) (w : World) (hk : key.length = 32) (hi : info.size ≤ 1000) :
    Calls Try.prog 122 #[.agg (keyA key), .string info, .int .i64 32] w (RetS (exp32 key info.data.toList) w) := by
  have HK := Lib.hid hk; clear hk
  have hil : info.data.toList.length = info.size := Array.length_toList
  have hE := length_exp32 key info.data.toList
  have HE := Lib.hid (show exp32 key info.data.toList = mac key (info.data.toList ++ [1]) from rfl)
  generalize exp32 key info.data.toList = E at *
  generalize hI : info.data.toList = I at *
  have HI := Lib.hid hI; clear hI
  have HIL := Lib.hid hil; clear hil
  have HEL := Lib.hid hE; clear hE
  have hst := Lib.hid (show ExpRel w key E (.slice none 0 0) (.slice none 0 0) (.int .i64 1) (w.alloc (.cells (keyA key) 23)) from Or.inl ⟨rfl, ownB_nil _ _, Sees.nil _ _, Blk.new _ _ _, by go_grown⟩)
  go_enter Try.func122, Try.ntmps122
  go_wp2_with fail
  go_loopw [7, 8, 9, 10, 11] (fun out last i _ _ wr => ExpRel w key E out last i wr) (fun out _ _ _ _ _ => 40 - lenV out)
  case atStart => exact hst.out
  case round =>
    clear hst
    rcases hrel with ⟨rfl, hout, hlast, hB, hbel⟩ | ⟨rfl, hout, hbel⟩
    · obtain ⟨a1, c1, rfl, hc1, hc1'⟩ := owns_form hout
      obtain ⟨a2, c2, rfl, hc2, hc2'⟩ := sees_form hlast
      have hcv1 : IntKind.u8.wrap 1 = 1 := by decide
      go_wp2_with (first
        | (at_builtin; refine appS (W := wr) rfl _ _ rfl _ [] rfl hown3 info rfl (by rw [List.length_nil]; omega) hb3 ?_; intro v4 w4 hown4 hgr4 hb4; clear hgr4; rw [List.nil_append, HI.out] at hown4)
        | (at_builtin; refine appB (W := wr) rfl _ _ rfl _ I rfl (hown4.alloc _) _ [1] rfl (seesB_one _ 1 _) (by rw [HIL.out]; simp only [List.length_cons, List.length_nil]; omega) (hb4.alloc hb4.size _) ?_; intro v5 w5 hown5 hgr5 hb5; clear hgr5)
        | (go_at_call 65; refine (MacOf_any _ _ _ key (I ++ [1]) (seesB_key (hB.below hb5) HK.out) (sees_of_owns hown5) (by rw [HK.out]; omega) (by rw [List.length_append, HIL.out, List.length_cons, List.length_nil]; omega)).mono ?_; rintro e w6 ⟨rfl, hb6⟩; rw [← HE.out]; have hb6' := hb5.trans (hb6.mono hb5.size))
        | (refine wpList_store_row rfl 23 _ _ rfl w6.heap.size (keyA E) _ _ rfl rfl (Blk.new _ _ _) (by rw [keyA_size, HEL.out]; rfl) (by rw [keyA_size, HEL.out]; exact info_key) (keyA_one _) ?_; intro w7 hg7 hs7 hR7
           have hsee := seesB_key hR7 HEL.out
           have hb7 : Below wr.heap.size wr w7 := (hb6'.alloc hb6'.size _).grown hg7 (by simp only [World.size_alloc]; exact Nat.le_succ_of_le hb6'.size) (fun k hk => by cases hk; exact hb6'.size)
           have hbel7 := hbel.trans (hb7.mono hbel.size)
           have hout7 := owns_below hout hb7
           clear hg7 hs7 hR7)
        | (at_builtin; refine appB (W := w) rfl _ _ rfl _ [] rfl hout7 _ E rfl hsee (by rw [HEL.out, List.length_nil]; omega) hbel7 ?_; intro v8 w8 hown8 hgr8 hb8; clear hgr8; rw [List.nil_append] at hown8)
        | (at_builtin; refine appB (W := wr) rfl _ _ rfl (.slice none 0 0) [] rfl (ownB_nil _ _) _ [] rfl hlast (by rw [List.length_nil]; omega) (Below.refl _ _) ?_; intro v3 w3 hown3 hgr3 hb3; clear hgr3; rw [List.nil_append] at hown3))
      obtain ⟨a8, c8, rfl, _, _⟩ := owns_form hown8
      exact ⟨Or.inr ⟨rfl, hown8, hb8⟩, by show 40 - E.length < 40 - 0; rw [HEL.out]; decide⟩
    · have hsees := sees_of_owns hout
      rcases hout.2 with ⟨_, h0⟩ | ⟨g, cap, cur, rfl, hg, hh, hn, hm, hs, hx⟩
      · rw [HEL.out] at h0; cases h0
      have hret := Lib.hid (sees_recap hsees HEL.out (Nat.le_refl 32) (by decide))
      clear hsees hout hh hx hs
      rw [HEL.out] at hn ⊢
      have hcap : cap ≤ 9223372036854775807 := by unfold maxLen at hm; omega
      have hsl := fun W => run_sliceB_to3 (some ⟨g, 0, none⟩) 32 cap 32 hn W
      simp only [Nat.reduceEqDiff, if_false, Option.map_some, addr_add, Nat.add_zero] at hsl
      go_wp2_with fail
      go_ret
      exact ⟨_, rfl, hret.out, fun k hk => by cases hk; exact hg, hbel⟩

def ExpRelr (w : World) (key E : List UInt8) (out last i : Value) (wr : World) : Prop :=
  (i = .int .i64 1 ∧ OwnB wr w.heap.size out [] ∧ SeesB wr last [] ∧ Blk wr w.heap.size (keyA key) 23 ∧ Below w.heap.size w wr) ∨
  (i = .int .i64 2 ∧ SeesB wr out E ∧ Below w.heap.size w wr)
set_option maxRecDepth 100000 in
set_option maxHeartbeats 2000000 in
theorem Expandr_any (key : List UInt8) (info : ByteArray) (w : World) (hk : key.length = 32) (hi : info.size ≤ 1000) :
    Calls Try.prog 123 #[.agg (keyA key), .string info, .int .i64 32] w (RetS (exp32 key info.data.toList) w) := by
  have HK := Lib.hid hk; clear hk
  have hil : info.data.toList.length = info.size := Array.length_toList
  have hE := length_exp32 key info.data.toList
  have HE := Lib.hid (show exp32 key info.data.toList = mac key (info.data.toList ++ [1]) from rfl)
  generalize exp32 key info.data.toList = E at *
  generalize hI : info.data.toList = I at *
  have HI := Lib.hid hI; clear hI
  have HIL := Lib.hid hil; clear hil
  have HEL := Lib.hid hE; clear hE
  have hst := Lib.hid (show ExpRelr w key E (.slice none 0 0) (.slice none 0 0) (.int .i64 1) (w.alloc (.cells (keyA key) 23)) from Or.inl ⟨rfl, ownB_nil _ _, Sees.nil _ _, Blk.new _ _ _, by go_grown⟩)
  go_enter Try.func123, Try.ntmps123
  go_wp2_with fail
  go_loopw [7, 8, 9, 10, 11] (fun out last i _ _ wr => ExpRelr w key E out last i wr) (fun out _ _ _ _ _ => 40 - lenV out)
  case atStart => exact hst.out
  case round =>
    clear hst
    rcases hrel with ⟨rfl, hout, hlast, hB, hbel⟩ | ⟨rfl, hout, hbel⟩
    · obtain ⟨a1, c1, rfl, hc1, hc1'⟩ := owns_form hout
      obtain ⟨a2, c2, rfl, hc2, hc2'⟩ := sees_form hlast
      have hcv1 : IntKind.u8.wrap 1 = 1 := by decide
      have hand1 : bits .and .i64 1 255 = 1 := by decide
      go_wp2_with (first
        | (at_builtin; refine appS (W := wr) rfl _ _ rfl _ [] rfl hown3 info rfl (by rw [List.length_nil]; omega) hb3 ?_; intro v4 w4 hown4 hgr4 hb4; clear hgr4; rw [List.nil_append, HI.out] at hown4; have hB4 := (hB.below hb4).drew)
        | (at_builtin; refine appB (W := wr) rfl _ _ rfl (.slice none 0 0) [] rfl (ownB_nil _ _) _ [] rfl hlast (by rw [List.length_nil]; omega) (Below.refl _ _) ?_; intro v3 w3 hown3 hgr3 hb3; clear hgr3; rw [List.nil_append] at hown3))
      have hstab := Stab.blk w.heap.size (keyA key) 23
      have hk : HoldT (fun u => Blk u w.heap.size (keyA key) 23) wr w4.drew := ⟨hB4, hb4.drew⟩
      have e0 := Ext.drew w4
      have g0 := e0.g v4.ownBlock
      have hvlt : ∀ k, v4.ownBlock = some k → k < w4.heap.size := fun k hk => (hown4.lt k hk).2
      try change Code.wp _ _ _ (Act.mk _ _) _
      haveI hne_ : Nonempty (InC (fun u => Blk u w.heap.size (keyA key) 23)) := ⟨⟨_, (hk).1⟩⟩
      refine wp_region_tr (C := fun w_ => ∃ e_ : InC (fun u => Blk u w.heap.size (keyA key) 23), w_ = e_.u) (.step [0, 1, 2, 3, 4] (.alt 5 (.step [] (.alt 6 (.step [] (.alt 7 (.step [] (.alt 8 (.step [] (.alt 9 (.fin []) .nil)) .nil)) (.alt 8 (.step [] (.alt 7 (.step [] (.alt 9 (.fin []) .nil)) .nil)) .nil))) (.alt 8 (.step [] (.alt 6 (.step [] (.alt 7 (.step [] (.alt 9 (.fin []) .nil)) .nil)) .nil)) .nil))) (.alt 8 (.step [] (.alt 5 (.step [] (.alt 6 (.step [] (.alt 7 (.step [] (.alt 9 (.fin []) .nil)) .nil)) .nil)) .nil)) .nil))) (by kernel_rfl) (by kernel_rfl) (fun _ _ _ _ hd_ h_ => ⟨hd_.symm.trans h_.1, h_.2⟩) ⟨⟨World.drew _, (hk).1⟩, rfl⟩ ?_
      have hk_ := hk
      refine wpTr_step ?_
      simp only [pickOps, List.flatMap_cons, List.flatMap_nil, List.drop_succ_cons, List.drop_zero, List.take_succ_cons, List.take_zero, List.cons_append, List.nil_append, List.append_nil]
      iterate 5 (go_big_quiet_step (exact rfl))
      refine wpQuiet_nil ?_
      refine wpTr_alt ?_ ?_
      focus
        simp only [pickOps, List.flatMap_cons, List.flatMap_nil, List.drop_succ_cons, List.drop_zero, List.take_succ_cons, List.take_zero, List.cons_append, List.nil_append, List.append_nil]
        go_wp2_with (first
        | (refine wpList_lit1 rfl _ rfl 1 rfl ?_; intro x1 B1 hlit hB1 e1; have g1 := e1.g v4.ownBlock; have hk1 := HoldT.step hstab (by with_reducible assumption) e1)
        | (refine wpList_allocB rfl _ rfl _ run_allocKey ?_; intro x2 B2 hh hB2 e2; have g2 := e2.g v4.ownBlock; have hlt2 : w4.heap.size ≤ B2 := Nat.le_trans (show ExtG v4.ownBlock w4 _ from (by first | with_reducible exact ExtG.refl _ _ | solve_by_elim (maxDepth := 8) [ExtG.tr])).size hB2; have hk2 := HoldT.step hstab (by with_reducible assumption) e2)
        | (at_builtin; refine appB (W := wr) rfl _ _ rfl v4 I rfl (owns_below hown4 (show Ext w4 _ from (by first | with_reducible exact Ext.refl _ | solve_by_elim (maxDepth := 8) [Ext.tr]))) _ [1] rfl (hlit.below (show Ext x1 _ from (by first | with_reducible exact Ext.refl _ | solve_by_elim (maxDepth := 8) [Ext.tr])) (by decide)) (by rw [HIL.out]; simp only [List.length_cons, List.length_nil]; omega) (show HoldT (fun u => Blk u w.heap.size (keyA key) 23) wr _ from by with_reducible assumption).up ?_; intro v5 x3 hown5 hg3 hb3
           have g3 : ExtG v4.ownBlock _ _ := hg3
           clear hg3
           have hk3 : HoldT (fun u => Blk u w.heap.size (keyA key) 23) wr x3 := ⟨hB.below hb3, hb3⟩)
        | (go_at_call 70; refine (Macr_any _ _ _ key (I ++ [1]) (seesB_key (show HoldT (fun u => Blk u w.heap.size (keyA key) 23) wr _ from by with_reducible assumption).has HK.out) ((sees_of_owns hown5).below (show Ext x3 _ from (by first | with_reducible exact Ext.refl _ | solve_by_elim (maxDepth := 8) [Ext.tr])) (by decide)) (by rw [HK.out]; omega) (by rw [List.length_append, HIL.out, List.length_cons, List.length_nil]; omega)).mono ?_; rintro e x4 ⟨rfl, hb6⟩; rw [← HE.out]
           have e4 : Ext _ x4 := hb6
           have g4 := e4.g v4.ownBlock
           have hk4 := HoldT.step hstab (by with_reducible assumption) e4)
        | (refine wpList_store_row rfl 23 _ _ rfl B2 (keyA E) _ _ rfl rfl (hh.grownBy (show ExtG v4.ownBlock x2 _ from (by first | with_reducible exact ExtG.refl _ _ | solve_by_elim (maxDepth := 8) [ExtG.tr])) (fun h => by have := hvlt B2 h.symm; omega)) (by rw [keyA_size, keyA_size, HEL.out]; rfl) (by rw [keyA_size, HEL.out]; exact info_key) (keyA_one _) ?_; intro x5 hg7 hs7 hR7
           have hk5 : HoldT (fun u => Blk u w.heap.size (keyA key) 23) wr x5 := ⟨Blk.grownBy (show HoldT (fun u => Blk u w.heap.size (keyA key) 23) wr _ from by with_reducible assumption).has hg7 (some_ne (by have := hB.lt; have := hb4.size; omega)), (show HoldT (fun u => Blk u w.heap.size (keyA key) 23) wr _ from by with_reducible assumption).up.grown hg7 (show HoldT (fun u => Blk u w.heap.size (keyA key) 23) wr _ from by with_reducible assumption).up.size (fun k hk => by cases hk; have := hb4.size; omega)⟩))
        refine phPost_hold (by first | with_reducible assumption | exact HoldT.alloc hstab (by with_reducible assumption) _ | exact HoldT.alloc hstab (HoldT.alloc hstab (by with_reducible assumption) _) _) ?_
        intro hk_
        refine wpTr_step ?_
        simp only [pickOps, List.flatMap_nil]
        refine wpQuiet_nil ?_
        refine wpTr_alt ?_ ?_
        focus
          simp only [pickOps, List.flatMap_cons, List.flatMap_nil, List.drop_succ_cons, List.drop_zero, List.take_succ_cons, List.take_zero, List.cons_append, List.nil_append, List.append_nil]
          go_wp2_with (first
        | (refine wpList_lit1 rfl _ rfl 1 rfl ?_; intro x1 B1 hlit hB1 e1; have g1 := e1.g v4.ownBlock; have hk1 := HoldT.step hstab (by with_reducible assumption) e1)
        | (refine wpList_allocB rfl _ rfl _ run_allocKey ?_; intro x2 B2 hh hB2 e2; have g2 := e2.g v4.ownBlock; have hlt2 : w4.heap.size ≤ B2 := Nat.le_trans (show ExtG v4.ownBlock w4 _ from (by first | with_reducible exact ExtG.refl _ _ | solve_by_elim (maxDepth := 8) [ExtG.tr])).size hB2; have hk2 := HoldT.step hstab (by with_reducible assumption) e2)
        | (at_builtin; refine appB (W := wr) rfl _ _ rfl v4 I rfl (owns_below hown4 (show Ext w4 _ from (by first | with_reducible exact Ext.refl _ | solve_by_elim (maxDepth := 8) [Ext.tr]))) _ [1] rfl (hlit.below (show Ext x1 _ from (by first | with_reducible exact Ext.refl _ | solve_by_elim (maxDepth := 8) [Ext.tr])) (by decide)) (by rw [HIL.out]; simp only [List.length_cons, List.length_nil]; omega) (show HoldT (fun u => Blk u w.heap.size (keyA key) 23) wr _ from by with_reducible assumption).up ?_; intro v5 x3 hown5 hg3 hb3
           have g3 : ExtG v4.ownBlock _ _ := hg3
           clear hg3
           have hk3 : HoldT (fun u => Blk u w.heap.size (keyA key) 23) wr x3 := ⟨hB.below hb3, hb3⟩)
        | (go_at_call 70; refine (Macr_any _ _ _ key (I ++ [1]) (seesB_key (show HoldT (fun u => Blk u w.heap.size (keyA key) 23) wr _ from by with_reducible assumption).has HK.out) ((sees_of_owns hown5).below (show Ext x3 _ from (by first | with_reducible exact Ext.refl _ | solve_by_elim (maxDepth := 8) [Ext.tr])) (by decide)) (by rw [HK.out]; omega) (by rw [List.length_append, HIL.out, List.length_cons, List.length_nil]; omega)).mono ?_; rintro e x4 ⟨rfl, hb6⟩; rw [← HE.out]
           have e4 : Ext _ x4 := hb6
           have g4 := e4.g v4.ownBlock
           have hk4 := HoldT.step hstab (by with_reducible assumption) e4)
        | (refine wpList_store_row rfl 23 _ _ rfl B2 (keyA E) _ _ rfl rfl (hh.grownBy (show ExtG v4.ownBlock x2 _ from (by first | with_reducible exact ExtG.refl _ _ | solve_by_elim (maxDepth := 8) [ExtG.tr])) (fun h => by have := hvlt B2 h.symm; omega)) (by rw [keyA_size, keyA_size, HEL.out]; rfl) (by rw [keyA_size, HEL.out]; exact info_key) (keyA_one _) ?_; intro x5 hg7 hs7 hR7
           have hk5 : HoldT (fun u => Blk u w.heap.size (keyA key) 23) wr x5 := ⟨Blk.grownBy (show HoldT (fun u => Blk u w.heap.size (keyA key) 23) wr _ from by with_reducible assumption).has hg7 (some_ne (by have := hB.lt; have := hb4.size; omega)), (show HoldT (fun u => Blk u w.heap.size (keyA key) 23) wr _ from by with_reducible assumption).up.grown hg7 (show HoldT (fun u => Blk u w.heap.size (keyA key) 23) wr _ from by with_reducible assumption).up.size (fun k hk => by cases hk; have := hb4.size; omega)⟩))
          refine phPost_hold (by first | with_reducible assumption | exact HoldT.alloc hstab (by with_reducible assumption) _ | exact HoldT.alloc hstab (HoldT.alloc hstab (by with_reducible assumption) _) _) ?_
          intro hk_
          refine wpTr_step ?_
          simp only [pickOps, List.flatMap_nil]
          refine wpQuiet_nil ?_
          refine wpTr_alt ?_ ?_
          focus
            simp only [pickOps, List.flatMap_cons, List.flatMap_nil, List.drop_succ_cons, List.drop_zero, List.take_succ_cons, List.take_zero, List.cons_append, List.nil_append, List.append_nil]
            go_wp2_with (first
        | (refine wpList_lit1 rfl _ rfl 1 rfl ?_; intro x1 B1 hlit hB1 e1; have g1 := e1.g v4.ownBlock; have hk1 := HoldT.step hstab (by with_reducible assumption) e1)
        | (refine wpList_allocB rfl _ rfl _ run_allocKey ?_; intro x2 B2 hh hB2 e2; have g2 := e2.g v4.ownBlock; have hlt2 : w4.heap.size ≤ B2 := Nat.le_trans (show ExtG v4.ownBlock w4 _ from (by first | with_reducible exact ExtG.refl _ _ | solve_by_elim (maxDepth := 8) [ExtG.tr])).size hB2; have hk2 := HoldT.step hstab (by with_reducible assumption) e2)
        | (at_builtin; refine appB (W := wr) rfl _ _ rfl v4 I rfl (owns_below hown4 (show Ext w4 _ from (by first | with_reducible exact Ext.refl _ | solve_by_elim (maxDepth := 8) [Ext.tr]))) _ [1] rfl (hlit.below (show Ext x1 _ from (by first | with_reducible exact Ext.refl _ | solve_by_elim (maxDepth := 8) [Ext.tr])) (by decide)) (by rw [HIL.out]; simp only [List.length_cons, List.length_nil]; omega) (show HoldT (fun u => Blk u w.heap.size (keyA key) 23) wr _ from by with_reducible assumption).up ?_; intro v5 x3 hown5 hg3 hb3
           have g3 : ExtG v4.ownBlock _ _ := hg3
           clear hg3
           have hk3 : HoldT (fun u => Blk u w.heap.size (keyA key) 23) wr x3 := ⟨hB.below hb3, hb3⟩)
        | (go_at_call 70; refine (Macr_any _ _ _ key (I ++ [1]) (seesB_key (show HoldT (fun u => Blk u w.heap.size (keyA key) 23) wr _ from by with_reducible assumption).has HK.out) ((sees_of_owns hown5).below (show Ext x3 _ from (by first | with_reducible exact Ext.refl _ | solve_by_elim (maxDepth := 8) [Ext.tr])) (by decide)) (by rw [HK.out]; omega) (by rw [List.length_append, HIL.out, List.length_cons, List.length_nil]; omega)).mono ?_; rintro e x4 ⟨rfl, hb6⟩; rw [← HE.out]
           have e4 : Ext _ x4 := hb6
           have g4 := e4.g v4.ownBlock
           have hk4 := HoldT.step hstab (by with_reducible assumption) e4)
        | (refine wpList_store_row rfl 23 _ _ rfl B2 (keyA E) _ _ rfl rfl (hh.grownBy (show ExtG v4.ownBlock x2 _ from (by first | with_reducible exact ExtG.refl _ _ | solve_by_elim (maxDepth := 8) [ExtG.tr])) (fun h => by have := hvlt B2 h.symm; omega)) (by rw [keyA_size, keyA_size, HEL.out]; rfl) (by rw [keyA_size, HEL.out]; exact info_key) (keyA_one _) ?_; intro x5 hg7 hs7 hR7
           have hk5 : HoldT (fun u => Blk u w.heap.size (keyA key) 23) wr x5 := ⟨Blk.grownBy (show HoldT (fun u => Blk u w.heap.size (keyA key) 23) wr _ from by with_reducible assumption).has hg7 (some_ne (by have := hB.lt; have := hb4.size; omega)), (show HoldT (fun u => Blk u w.heap.size (keyA key) 23) wr _ from by with_reducible assumption).up.grown hg7 (show HoldT (fun u => Blk u w.heap.size (keyA key) 23) wr _ from by with_reducible assumption).up.size (fun k hk => by cases hk; have := hb4.size; omega)⟩))
            refine phPost_hold (by first | with_reducible assumption | exact HoldT.alloc hstab (by with_reducible assumption) _ | exact HoldT.alloc hstab (HoldT.alloc hstab (by with_reducible assumption) _) _) ?_
            intro hk_
            refine wpTr_step ?_
            simp only [pickOps, List.flatMap_nil]
            refine wpQuiet_nil ?_
            refine wpTr_one ?_
            simp only [pickOps, List.flatMap_cons, List.flatMap_nil, List.drop_succ_cons, List.drop_zero, List.take_succ_cons, List.take_zero, List.cons_append, List.nil_append, List.append_nil]
            go_wp2_with (first
        | (refine wpList_lit1 rfl _ rfl 1 rfl ?_; intro x1 B1 hlit hB1 e1; have g1 := e1.g v4.ownBlock; have hk1 := HoldT.step hstab (by with_reducible assumption) e1)
        | (refine wpList_allocB rfl _ rfl _ run_allocKey ?_; intro x2 B2 hh hB2 e2; have g2 := e2.g v4.ownBlock; have hlt2 : w4.heap.size ≤ B2 := Nat.le_trans (show ExtG v4.ownBlock w4 _ from (by first | with_reducible exact ExtG.refl _ _ | solve_by_elim (maxDepth := 8) [ExtG.tr])).size hB2; have hk2 := HoldT.step hstab (by with_reducible assumption) e2)
        | (at_builtin; refine appB (W := wr) rfl _ _ rfl v4 I rfl (owns_below hown4 (show Ext w4 _ from (by first | with_reducible exact Ext.refl _ | solve_by_elim (maxDepth := 8) [Ext.tr]))) _ [1] rfl (hlit.below (show Ext x1 _ from (by first | with_reducible exact Ext.refl _ | solve_by_elim (maxDepth := 8) [Ext.tr])) (by decide)) (by rw [HIL.out]; simp only [List.length_cons, List.length_nil]; omega) (show HoldT (fun u => Blk u w.heap.size (keyA key) 23) wr _ from by with_reducible assumption).up ?_; intro v5 x3 hown5 hg3 hb3
           have g3 : ExtG v4.ownBlock _ _ := hg3
           clear hg3
           have hk3 : HoldT (fun u => Blk u w.heap.size (keyA key) 23) wr x3 := ⟨hB.below hb3, hb3⟩)
        | (go_at_call 70; refine (Macr_any _ _ _ key (I ++ [1]) (seesB_key (show HoldT (fun u => Blk u w.heap.size (keyA key) 23) wr _ from by with_reducible assumption).has HK.out) ((sees_of_owns hown5).below (show Ext x3 _ from (by first | with_reducible exact Ext.refl _ | solve_by_elim (maxDepth := 8) [Ext.tr])) (by decide)) (by rw [HK.out]; omega) (by rw [List.length_append, HIL.out, List.length_cons, List.length_nil]; omega)).mono ?_; rintro e x4 ⟨rfl, hb6⟩; rw [← HE.out]
           have e4 : Ext _ x4 := hb6
           have g4 := e4.g v4.ownBlock
           have hk4 := HoldT.step hstab (by with_reducible assumption) e4)
        | (refine wpList_store_row rfl 23 _ _ rfl B2 (keyA E) _ _ rfl rfl (hh.grownBy (show ExtG v4.ownBlock x2 _ from (by first | with_reducible exact ExtG.refl _ _ | solve_by_elim (maxDepth := 8) [ExtG.tr])) (fun h => by have := hvlt B2 h.symm; omega)) (by rw [keyA_size, keyA_size, HEL.out]; rfl) (by rw [keyA_size, HEL.out]; exact info_key) (keyA_one _) ?_; intro x5 hg7 hs7 hR7
           have hk5 : HoldT (fun u => Blk u w.heap.size (keyA key) 23) wr x5 := ⟨Blk.grownBy (show HoldT (fun u => Blk u w.heap.size (keyA key) 23) wr _ from by with_reducible assumption).has hg7 (some_ne (by have := hB.lt; have := hb4.size; omega)), (show HoldT (fun u => Blk u w.heap.size (keyA key) 23) wr _ from by with_reducible assumption).up.grown hg7 (show HoldT (fun u => Blk u w.heap.size (keyA key) 23) wr _ from by with_reducible assumption).up.size (fun k hk => by cases hk; have := hb4.size; omega)⟩))
            refine phPost_hold (by first | with_reducible assumption | exact HoldT.alloc hstab (by with_reducible assumption) _ | exact HoldT.alloc hstab (HoldT.alloc hstab (by with_reducible assumption) _) _) ?_
            intro hk_
            refine wpTr_step ?_
            simp only [pickOps, List.flatMap_nil]
            refine wpQuiet_nil ?_
            refine wpTr_one ?_
            simp only [pickOps, List.flatMap_cons, List.flatMap_nil, List.drop_succ_cons, List.drop_zero, List.take_succ_cons, List.take_zero, List.cons_append, List.nil_append, List.append_nil]
            go_wp2_with (first
        | (refine wpList_lit1 rfl _ rfl 1 rfl ?_; intro x1 B1 hlit hB1 e1; have g1 := e1.g v4.ownBlock; have hk1 := HoldT.step hstab (by with_reducible assumption) e1)
        | (refine wpList_allocB rfl _ rfl _ run_allocKey ?_; intro x2 B2 hh hB2 e2; have g2 := e2.g v4.ownBlock; have hlt2 : w4.heap.size ≤ B2 := Nat.le_trans (show ExtG v4.ownBlock w4 _ from (by first | with_reducible exact ExtG.refl _ _ | solve_by_elim (maxDepth := 8) [ExtG.tr])).size hB2; have hk2 := HoldT.step hstab (by with_reducible assumption) e2)
        | (at_builtin; refine appB (W := wr) rfl _ _ rfl v4 I rfl (owns_below hown4 (show Ext w4 _ from (by first | with_reducible exact Ext.refl _ | solve_by_elim (maxDepth := 8) [Ext.tr]))) _ [1] rfl (hlit.below (show Ext x1 _ from (by first | with_reducible exact Ext.refl _ | solve_by_elim (maxDepth := 8) [Ext.tr])) (by decide)) (by rw [HIL.out]; simp only [List.length_cons, List.length_nil]; omega) (show HoldT (fun u => Blk u w.heap.size (keyA key) 23) wr _ from by with_reducible assumption).up ?_; intro v5 x3 hown5 hg3 hb3
           have g3 : ExtG v4.ownBlock _ _ := hg3
           clear hg3
           have hk3 : HoldT (fun u => Blk u w.heap.size (keyA key) 23) wr x3 := ⟨hB.below hb3, hb3⟩)
        | (go_at_call 70; refine (Macr_any _ _ _ key (I ++ [1]) (seesB_key (show HoldT (fun u => Blk u w.heap.size (keyA key) 23) wr _ from by with_reducible assumption).has HK.out) ((sees_of_owns hown5).below (show Ext x3 _ from (by first | with_reducible exact Ext.refl _ | solve_by_elim (maxDepth := 8) [Ext.tr])) (by decide)) (by rw [HK.out]; omega) (by rw [List.length_append, HIL.out, List.length_cons, List.length_nil]; omega)).mono ?_; rintro e x4 ⟨rfl, hb6⟩; rw [← HE.out]
           have e4 : Ext _ x4 := hb6
           have g4 := e4.g v4.ownBlock
           have hk4 := HoldT.step hstab (by with_reducible assumption) e4)
        | (refine wpList_store_row rfl 23 _ _ rfl B2 (keyA E) _ _ rfl rfl (hh.grownBy (show ExtG v4.ownBlock x2 _ from (by first | with_reducible exact ExtG.refl _ _ | solve_by_elim (maxDepth := 8) [ExtG.tr])) (fun h => by have := hvlt B2 h.symm; omega)) (by rw [keyA_size, keyA_size, HEL.out]; rfl) (by rw [keyA_size, HEL.out]; exact info_key) (keyA_one _) ?_; intro x5 hg7 hs7 hR7
           have hk5 : HoldT (fun u => Blk u w.heap.size (keyA key) 23) wr x5 := ⟨Blk.grownBy (show HoldT (fun u => Blk u w.heap.size (keyA key) 23) wr _ from by with_reducible assumption).has hg7 (some_ne (by have := hB.lt; have := hb4.size; omega)), (show HoldT (fun u => Blk u w.heap.size (keyA key) 23) wr _ from by with_reducible assumption).up.grown hg7 (show HoldT (fun u => Blk u w.heap.size (keyA key) 23) wr _ from by with_reducible assumption).up.size (fun k hk => by cases hk; have := hb4.size; omega)⟩))
            refine phPost_hold (by first | with_reducible assumption | exact HoldT.alloc hstab (by with_reducible assumption) _ | exact HoldT.alloc hstab (HoldT.alloc hstab (by with_reducible assumption) _) _) ?_
            intro hk_
            refine wpTr_fin ?_
            simp only [pickOps, List.flatMap_nil]
            refine wpQuiet_nil ?_
            go_wp2_with (first
                      | (at_builtin; refine appB (W := x5) rfl _ _ rfl (.slice none 0 0) [] rfl (ownB_nil _ _) _ E rfl (seesB_key hR7 HEL.out) (by rw [HEL.out, List.length_nil]; omega) (Below.refl _ _) ?_; intro v8 w8 hown8 hgr8 hb8; clear hgr8; rw [List.nil_append] at hown8; obtain ⟨a8, c8, rfl, hc8, hc8'⟩ := owns_form hown8; have hup8 := hk5.up.trans (hb8.mono hk5.up.size))
                      | (at_builtin; refine appB (W := w) rfl _ _ rfl _ [] rfl (owns_below hout hup8) _ E rfl (sees_of_owns hown8) (by rw [HEL.out, List.length_nil]; omega) (hbel.trans (hup8.mono hbel.size)) ?_; intro v9 w9 hown9 hgr9 hb9; clear hgr9; rw [List.nil_append] at hown9; obtain ⟨a9, c9, rfl, hc9, hc9'⟩ := owns_form hown9))
            exact ⟨Or.inr ⟨rfl, sees_of_owns hown9, hb9⟩, by show 40 - E.length < 40 - 0; rw [HEL.out]; decide⟩
          refine wpTr_one ?_
          simp only [pickOps, List.flatMap_cons, List.flatMap_nil, List.drop_succ_cons, List.drop_zero, List.take_succ_cons, List.take_zero, List.cons_append, List.nil_append, List.append_nil]
          go_wp2_with (first
        | (refine wpList_lit1 rfl _ rfl 1 rfl ?_; intro x1 B1 hlit hB1 e1; have g1 := e1.g v4.ownBlock; have hk1 := HoldT.step hstab (by with_reducible assumption) e1)
        | (refine wpList_allocB rfl _ rfl _ run_allocKey ?_; intro x2 B2 hh hB2 e2; have g2 := e2.g v4.ownBlock; have hlt2 : w4.heap.size ≤ B2 := Nat.le_trans (show ExtG v4.ownBlock w4 _ from (by first | with_reducible exact ExtG.refl _ _ | solve_by_elim (maxDepth := 8) [ExtG.tr])).size hB2; have hk2 := HoldT.step hstab (by with_reducible assumption) e2)
        | (at_builtin; refine appB (W := wr) rfl _ _ rfl v4 I rfl (owns_below hown4 (show Ext w4 _ from (by first | with_reducible exact Ext.refl _ | solve_by_elim (maxDepth := 8) [Ext.tr]))) _ [1] rfl (hlit.below (show Ext x1 _ from (by first | with_reducible exact Ext.refl _ | solve_by_elim (maxDepth := 8) [Ext.tr])) (by decide)) (by rw [HIL.out]; simp only [List.length_cons, List.length_nil]; omega) (show HoldT (fun u => Blk u w.heap.size (keyA key) 23) wr _ from by with_reducible assumption).up ?_; intro v5 x3 hown5 hg3 hb3
           have g3 : ExtG v4.ownBlock _ _ := hg3
           clear hg3
           have hk3 : HoldT (fun u => Blk u w.heap.size (keyA key) 23) wr x3 := ⟨hB.below hb3, hb3⟩)
        | (go_at_call 70; refine (Macr_any _ _ _ key (I ++ [1]) (seesB_key (show HoldT (fun u => Blk u w.heap.size (keyA key) 23) wr _ from by with_reducible assumption).has HK.out) ((sees_of_owns hown5).below (show Ext x3 _ from (by first | with_reducible exact Ext.refl _ | solve_by_elim (maxDepth := 8) [Ext.tr])) (by decide)) (by rw [HK.out]; omega) (by rw [List.length_append, HIL.out, List.length_cons, List.length_nil]; omega)).mono ?_; rintro e x4 ⟨rfl, hb6⟩; rw [← HE.out]
           have e4 : Ext _ x4 := hb6
           have g4 := e4.g v4.ownBlock
           have hk4 := HoldT.step hstab (by with_reducible assumption) e4)
        | (refine wpList_store_row rfl 23 _ _ rfl B2 (keyA E) _ _ rfl rfl (hh.grownBy (show ExtG v4.ownBlock x2 _ from (by first | with_reducible exact ExtG.refl _ _ | solve_by_elim (maxDepth := 8) [ExtG.tr])) (fun h => by have := hvlt B2 h.symm; omega)) (by rw [keyA_size, keyA_size, HEL.out]; rfl) (by rw [keyA_size, HEL.out]; exact info_key) (keyA_one _) ?_; intro x5 hg7 hs7 hR7
           have hk5 : HoldT (fun u => Blk u w.heap.size (keyA key) 23) wr x5 := ⟨Blk.grownBy (show HoldT (fun u => Blk u w.heap.size (keyA key) 23) wr _ from by with_reducible assumption).has hg7 (some_ne (by have := hB.lt; have := hb4.size; omega)), (show HoldT (fun u => Blk u w.heap.size (keyA key) 23) wr _ from by with_reducible assumption).up.grown hg7 (show HoldT (fun u => Blk u w.heap.size (keyA key) 23) wr _ from by with_reducible assumption).up.size (fun k hk => by cases hk; have := hb4.size; omega)⟩))
          refine phPost_hold (by first | with_reducible assumption | exact HoldT.alloc hstab (by with_reducible assumption) _ | exact HoldT.alloc hstab (HoldT.alloc hstab (by with_reducible assumption) _) _) ?_
          intro hk_
          refine wpTr_step ?_
          simp only [pickOps, List.flatMap_nil]
          refine wpQuiet_nil ?_
          refine wpTr_one ?_
          simp only [pickOps, List.flatMap_cons, List.flatMap_nil, List.drop_succ_cons, List.drop_zero, List.take_succ_cons, List.take_zero, List.cons_append, List.nil_append, List.append_nil]
          go_wp2_with (first
        | (refine wpList_lit1 rfl _ rfl 1 rfl ?_; intro x1 B1 hlit hB1 e1; have g1 := e1.g v4.ownBlock; have hk1 := HoldT.step hstab (by with_reducible assumption) e1)
        | (refine wpList_allocB rfl _ rfl _ run_allocKey ?_; intro x2 B2 hh hB2 e2; have g2 := e2.g v4.ownBlock; have hlt2 : w4.heap.size ≤ B2 := Nat.le_trans (show ExtG v4.ownBlock w4 _ from (by first | with_reducible exact ExtG.refl _ _ | solve_by_elim (maxDepth := 8) [ExtG.tr])).size hB2; have hk2 := HoldT.step hstab (by with_reducible assumption) e2)
        | (at_builtin; refine appB (W := wr) rfl _ _ rfl v4 I rfl (owns_below hown4 (show Ext w4 _ from (by first | with_reducible exact Ext.refl _ | solve_by_elim (maxDepth := 8) [Ext.tr]))) _ [1] rfl (hlit.below (show Ext x1 _ from (by first | with_reducible exact Ext.refl _ | solve_by_elim (maxDepth := 8) [Ext.tr])) (by decide)) (by rw [HIL.out]; simp only [List.length_cons, List.length_nil]; omega) (show HoldT (fun u => Blk u w.heap.size (keyA key) 23) wr _ from by with_reducible assumption).up ?_; intro v5 x3 hown5 hg3 hb3
           have g3 : ExtG v4.ownBlock _ _ := hg3
           clear hg3
           have hk3 : HoldT (fun u => Blk u w.heap.size (keyA key) 23) wr x3 := ⟨hB.below hb3, hb3⟩)
        | (go_at_call 70; refine (Macr_any _ _ _ key (I ++ [1]) (seesB_key (show HoldT (fun u => Blk u w.heap.size (keyA key) 23) wr _ from by with_reducible assumption).has HK.out) ((sees_of_owns hown5).below (show Ext x3 _ from (by first | with_reducible exact Ext.refl _ | solve_by_elim (maxDepth := 8) [Ext.tr])) (by decide)) (by rw [HK.out]; omega) (by rw [List.length_append, HIL.out, List.length_cons, List.length_nil]; omega)).mono ?_; rintro e x4 ⟨rfl, hb6⟩; rw [← HE.out]
           have e4 : Ext _ x4 := hb6
           have g4 := e4.g v4.ownBlock
           have hk4 := HoldT.step hstab (by with_reducible assumption) e4)
        | (refine wpList_store_row rfl 23 _ _ rfl B2 (keyA E) _ _ rfl rfl (hh.grownBy (show ExtG v4.ownBlock x2 _ from (by first | with_reducible exact ExtG.refl _ _ | solve_by_elim (maxDepth := 8) [ExtG.tr])) (fun h => by have := hvlt B2 h.symm; omega)) (by rw [keyA_size, keyA_size, HEL.out]; rfl) (by rw [keyA_size, HEL.out]; exact info_key) (keyA_one _) ?_; intro x5 hg7 hs7 hR7
           have hk5 : HoldT (fun u => Blk u w.heap.size (keyA key) 23) wr x5 := ⟨Blk.grownBy (show HoldT (fun u => Blk u w.heap.size (keyA key) 23) wr _ from by with_reducible assumption).has hg7 (some_ne (by have := hB.lt; have := hb4.size; omega)), (show HoldT (fun u => Blk u w.heap.size (keyA key) 23) wr _ from by with_reducible assumption).up.grown hg7 (show HoldT (fun u => Blk u w.heap.size (keyA key) 23) wr _ from by with_reducible assumption).up.size (fun k hk => by cases hk; have := hb4.size; omega)⟩))
          refine phPost_hold (by first | with_reducible assumption | exact HoldT.alloc hstab (by with_reducible assumption) _ | exact HoldT.alloc hstab (HoldT.alloc hstab (by with_reducible assumption) _) _) ?_
          intro hk_
          refine wpTr_step ?_
          simp only [pickOps, List.flatMap_nil]
          refine wpQuiet_nil ?_
          refine wpTr_one ?_
          simp only [pickOps, List.flatMap_cons, List.flatMap_nil, List.drop_succ_cons, List.drop_zero, List.take_succ_cons, List.take_zero, List.cons_append, List.nil_append, List.append_nil]
          go_wp2_with (first
        | (refine wpList_lit1 rfl _ rfl 1 rfl ?_; intro x1 B1 hlit hB1 e1; have g1 := e1.g v4.ownBlock; have hk1 := HoldT.step hstab (by with_reducible assumption) e1)
        | (refine wpList_allocB rfl _ rfl _ run_allocKey ?_; intro x2 B2 hh hB2 e2; have g2 := e2.g v4.ownBlock; have hlt2 : w4.heap.size ≤ B2 := Nat.le_trans (show ExtG v4.ownBlock w4 _ from (by first | with_reducible exact ExtG.refl _ _ | solve_by_elim (maxDepth := 8) [ExtG.tr])).size hB2; have hk2 := HoldT.step hstab (by with_reducible assumption) e2)
        | (at_builtin; refine appB (W := wr) rfl _ _ rfl v4 I rfl (owns_below hown4 (show Ext w4 _ from (by first | with_reducible exact Ext.refl _ | solve_by_elim (maxDepth := 8) [Ext.tr]))) _ [1] rfl (hlit.below (show Ext x1 _ from (by first | with_reducible exact Ext.refl _ | solve_by_elim (maxDepth := 8) [Ext.tr])) (by decide)) (by rw [HIL.out]; simp only [List.length_cons, List.length_nil]; omega) (show HoldT (fun u => Blk u w.heap.size (keyA key) 23) wr _ from by with_reducible assumption).up ?_; intro v5 x3 hown5 hg3 hb3
           have g3 : ExtG v4.ownBlock _ _ := hg3
           clear hg3
           have hk3 : HoldT (fun u => Blk u w.heap.size (keyA key) 23) wr x3 := ⟨hB.below hb3, hb3⟩)
        | (go_at_call 70; refine (Macr_any _ _ _ key (I ++ [1]) (seesB_key (show HoldT (fun u => Blk u w.heap.size (keyA key) 23) wr _ from by with_reducible assumption).has HK.out) ((sees_of_owns hown5).below (show Ext x3 _ from (by first | with_reducible exact Ext.refl _ | solve_by_elim (maxDepth := 8) [Ext.tr])) (by decide)) (by rw [HK.out]; omega) (by rw [List.length_append, HIL.out, List.length_cons, List.length_nil]; omega)).mono ?_; rintro e x4 ⟨rfl, hb6⟩; rw [← HE.out]
           have e4 : Ext _ x4 := hb6
           have g4 := e4.g v4.ownBlock
           have hk4 := HoldT.step hstab (by with_reducible assumption) e4)
        | (refine wpList_store_row rfl 23 _ _ rfl B2 (keyA E) _ _ rfl rfl (hh.grownBy (show ExtG v4.ownBlock x2 _ from (by first | with_reducible exact ExtG.refl _ _ | solve_by_elim (maxDepth := 8) [ExtG.tr])) (fun h => by have := hvlt B2 h.symm; omega)) (by rw [keyA_size, keyA_size, HEL.out]; rfl) (by rw [keyA_size, HEL.out]; exact info_key) (keyA_one _) ?_; intro x5 hg7 hs7 hR7
           have hk5 : HoldT (fun u => Blk u w.heap.size (keyA key) 23) wr x5 := ⟨Blk.grownBy (show HoldT (fun u => Blk u w.heap.size (keyA key) 23) wr _ from by with_reducible assumption).has hg7 (some_ne (by have := hB.lt; have := hb4.size; omega)), (show HoldT (fun u => Blk u w.heap.size (keyA key) 23) wr _ from by with_reducible assumption).up.grown hg7 (show HoldT (fun u => Blk u w.heap.size (keyA key) 23) wr _ from by with_reducible assumption).up.size (fun k hk => by cases hk; have := hb4.size; omega)⟩))
          refine phPost_hold (by first | with_reducible assumption | exact HoldT.alloc hstab (by with_reducible assumption) _ | exact HoldT.alloc hstab (HoldT.alloc hstab (by with_reducible assumption) _) _) ?_
          intro hk_
          refine wpTr_fin ?_
          simp only [pickOps, List.flatMap_nil]
          refine wpQuiet_nil ?_
          go_wp2_with (first
                    | (at_builtin; refine appB (W := x5) rfl _ _ rfl (.slice none 0 0) [] rfl (ownB_nil _ _) _ E rfl (seesB_key hR7 HEL.out) (by rw [HEL.out, List.length_nil]; omega) (Below.refl _ _) ?_; intro v8 w8 hown8 hgr8 hb8; clear hgr8; rw [List.nil_append] at hown8; obtain ⟨a8, c8, rfl, hc8, hc8'⟩ := owns_form hown8; have hup8 := hk5.up.trans (hb8.mono hk5.up.size))
                    | (at_builtin; refine appB (W := w) rfl _ _ rfl _ [] rfl (owns_below hout hup8) _ E rfl (sees_of_owns hown8) (by rw [HEL.out, List.length_nil]; omega) (hbel.trans (hup8.mono hbel.size)) ?_; intro v9 w9 hown9 hgr9 hb9; clear hgr9; rw [List.nil_append] at hown9; obtain ⟨a9, c9, rfl, hc9, hc9'⟩ := owns_form hown9))
          exact ⟨Or.inr ⟨rfl, sees_of_owns hown9, hb9⟩, by show 40 - E.length < 40 - 0; rw [HEL.out]; decide⟩
        refine wpTr_one ?_
        simp only [pickOps, List.flatMap_cons, List.flatMap_nil, List.drop_succ_cons, List.drop_zero, List.take_succ_cons, List.take_zero, List.cons_append, List.nil_append, List.append_nil]
        go_wp2_with (first
        | (refine wpList_lit1 rfl _ rfl 1 rfl ?_; intro x1 B1 hlit hB1 e1; have g1 := e1.g v4.ownBlock; have hk1 := HoldT.step hstab (by with_reducible assumption) e1)
        | (refine wpList_allocB rfl _ rfl _ run_allocKey ?_; intro x2 B2 hh hB2 e2; have g2 := e2.g v4.ownBlock; have hlt2 : w4.heap.size ≤ B2 := Nat.le_trans (show ExtG v4.ownBlock w4 _ from (by first | with_reducible exact ExtG.refl _ _ | solve_by_elim (maxDepth := 8) [ExtG.tr])).size hB2; have hk2 := HoldT.step hstab (by with_reducible assumption) e2)
        | (at_builtin; refine appB (W := wr) rfl _ _ rfl v4 I rfl (owns_below hown4 (show Ext w4 _ from (by first | with_reducible exact Ext.refl _ | solve_by_elim (maxDepth := 8) [Ext.tr]))) _ [1] rfl (hlit.below (show Ext x1 _ from (by first | with_reducible exact Ext.refl _ | solve_by_elim (maxDepth := 8) [Ext.tr])) (by decide)) (by rw [HIL.out]; simp only [List.length_cons, List.length_nil]; omega) (show HoldT (fun u => Blk u w.heap.size (keyA key) 23) wr _ from by with_reducible assumption).up ?_; intro v5 x3 hown5 hg3 hb3
           have g3 : ExtG v4.ownBlock _ _ := hg3
           clear hg3
           have hk3 : HoldT (fun u => Blk u w.heap.size (keyA key) 23) wr x3 := ⟨hB.below hb3, hb3⟩)
        | (go_at_call 70; refine (Macr_any _ _ _ key (I ++ [1]) (seesB_key (show HoldT (fun u => Blk u w.heap.size (keyA key) 23) wr _ from by with_reducible assumption).has HK.out) ((sees_of_owns hown5).below (show Ext x3 _ from (by first | with_reducible exact Ext.refl _ | solve_by_elim (maxDepth := 8) [Ext.tr])) (by decide)) (by rw [HK.out]; omega) (by rw [List.length_append, HIL.out, List.length_cons, List.length_nil]; omega)).mono ?_; rintro e x4 ⟨rfl, hb6⟩; rw [← HE.out]
           have e4 : Ext _ x4 := hb6
           have g4 := e4.g v4.ownBlock
           have hk4 := HoldT.step hstab (by with_reducible assumption) e4)
        | (refine wpList_store_row rfl 23 _ _ rfl B2 (keyA E) _ _ rfl rfl (hh.grownBy (show ExtG v4.ownBlock x2 _ from (by first | with_reducible exact ExtG.refl _ _ | solve_by_elim (maxDepth := 8) [ExtG.tr])) (fun h => by have := hvlt B2 h.symm; omega)) (by rw [keyA_size, keyA_size, HEL.out]; rfl) (by rw [keyA_size, HEL.out]; exact info_key) (keyA_one _) ?_; intro x5 hg7 hs7 hR7
           have hk5 : HoldT (fun u => Blk u w.heap.size (keyA key) 23) wr x5 := ⟨Blk.grownBy (show HoldT (fun u => Blk u w.heap.size (keyA key) 23) wr _ from by with_reducible assumption).has hg7 (some_ne (by have := hB.lt; have := hb4.size; omega)), (show HoldT (fun u => Blk u w.heap.size (keyA key) 23) wr _ from by with_reducible assumption).up.grown hg7 (show HoldT (fun u => Blk u w.heap.size (keyA key) 23) wr _ from by with_reducible assumption).up.size (fun k hk => by cases hk; have := hb4.size; omega)⟩))
        refine phPost_hold (by first | with_reducible assumption | exact HoldT.alloc hstab (by with_reducible assumption) _ | exact HoldT.alloc hstab (HoldT.alloc hstab (by with_reducible assumption) _) _) ?_
        intro hk_
        refine wpTr_step ?_
        simp only [pickOps, List.flatMap_nil]
        refine wpQuiet_nil ?_
        refine wpTr_one ?_
        simp only [pickOps, List.flatMap_cons, List.flatMap_nil, List.drop_succ_cons, List.drop_zero, List.take_succ_cons, List.take_zero, List.cons_append, List.nil_append, List.append_nil]
        go_wp2_with (first
        | (refine wpList_lit1 rfl _ rfl 1 rfl ?_; intro x1 B1 hlit hB1 e1; have g1 := e1.g v4.ownBlock; have hk1 := HoldT.step hstab (by with_reducible assumption) e1)
        | (refine wpList_allocB rfl _ rfl _ run_allocKey ?_; intro x2 B2 hh hB2 e2; have g2 := e2.g v4.ownBlock; have hlt2 : w4.heap.size ≤ B2 := Nat.le_trans (show ExtG v4.ownBlock w4 _ from (by first | with_reducible exact ExtG.refl _ _ | solve_by_elim (maxDepth := 8) [ExtG.tr])).size hB2; have hk2 := HoldT.step hstab (by with_reducible assumption) e2)
        | (at_builtin; refine appB (W := wr) rfl _ _ rfl v4 I rfl (owns_below hown4 (show Ext w4 _ from (by first | with_reducible exact Ext.refl _ | solve_by_elim (maxDepth := 8) [Ext.tr]))) _ [1] rfl (hlit.below (show Ext x1 _ from (by first | with_reducible exact Ext.refl _ | solve_by_elim (maxDepth := 8) [Ext.tr])) (by decide)) (by rw [HIL.out]; simp only [List.length_cons, List.length_nil]; omega) (show HoldT (fun u => Blk u w.heap.size (keyA key) 23) wr _ from by with_reducible assumption).up ?_; intro v5 x3 hown5 hg3 hb3
           have g3 : ExtG v4.ownBlock _ _ := hg3
           clear hg3
           have hk3 : HoldT (fun u => Blk u w.heap.size (keyA key) 23) wr x3 := ⟨hB.below hb3, hb3⟩)
        | (go_at_call 70; refine (Macr_any _ _ _ key (I ++ [1]) (seesB_key (show HoldT (fun u => Blk u w.heap.size (keyA key) 23) wr _ from by with_reducible assumption).has HK.out) ((sees_of_owns hown5).below (show Ext x3 _ from (by first | with_reducible exact Ext.refl _ | solve_by_elim (maxDepth := 8) [Ext.tr])) (by decide)) (by rw [HK.out]; omega) (by rw [List.length_append, HIL.out, List.length_cons, List.length_nil]; omega)).mono ?_; rintro e x4 ⟨rfl, hb6⟩; rw [← HE.out]
           have e4 : Ext _ x4 := hb6
           have g4 := e4.g v4.ownBlock
           have hk4 := HoldT.step hstab (by with_reducible assumption) e4)
        | (refine wpList_store_row rfl 23 _ _ rfl B2 (keyA E) _ _ rfl rfl (hh.grownBy (show ExtG v4.ownBlock x2 _ from (by first | with_reducible exact ExtG.refl _ _ | solve_by_elim (maxDepth := 8) [ExtG.tr])) (fun h => by have := hvlt B2 h.symm; omega)) (by rw [keyA_size, keyA_size, HEL.out]; rfl) (by rw [keyA_size, HEL.out]; exact info_key) (keyA_one _) ?_; intro x5 hg7 hs7 hR7
           have hk5 : HoldT (fun u => Blk u w.heap.size (keyA key) 23) wr x5 := ⟨Blk.grownBy (show HoldT (fun u => Blk u w.heap.size (keyA key) 23) wr _ from by with_reducible assumption).has hg7 (some_ne (by have := hB.lt; have := hb4.size; omega)), (show HoldT (fun u => Blk u w.heap.size (keyA key) 23) wr _ from by with_reducible assumption).up.grown hg7 (show HoldT (fun u => Blk u w.heap.size (keyA key) 23) wr _ from by with_reducible assumption).up.size (fun k hk => by cases hk; have := hb4.size; omega)⟩))
        refine phPost_hold (by first | with_reducible assumption | exact HoldT.alloc hstab (by with_reducible assumption) _ | exact HoldT.alloc hstab (HoldT.alloc hstab (by with_reducible assumption) _) _) ?_
        intro hk_
        refine wpTr_step ?_
        simp only [pickOps, List.flatMap_nil]
        refine wpQuiet_nil ?_
        refine wpTr_one ?_
        simp only [pickOps, List.flatMap_cons, List.flatMap_nil, List.drop_succ_cons, List.drop_zero, List.take_succ_cons, List.take_zero, List.cons_append, List.nil_append, List.append_nil]
        go_wp2_with (first
        | (refine wpList_lit1 rfl _ rfl 1 rfl ?_; intro x1 B1 hlit hB1 e1; have g1 := e1.g v4.ownBlock; have hk1 := HoldT.step hstab (by with_reducible assumption) e1)
        | (refine wpList_allocB rfl _ rfl _ run_allocKey ?_; intro x2 B2 hh hB2 e2; have g2 := e2.g v4.ownBlock; have hlt2 : w4.heap.size ≤ B2 := Nat.le_trans (show ExtG v4.ownBlock w4 _ from (by first | with_reducible exact ExtG.refl _ _ | solve_by_elim (maxDepth := 8) [ExtG.tr])).size hB2; have hk2 := HoldT.step hstab (by with_reducible assumption) e2)
        | (at_builtin; refine appB (W := wr) rfl _ _ rfl v4 I rfl (owns_below hown4 (show Ext w4 _ from (by first | with_reducible exact Ext.refl _ | solve_by_elim (maxDepth := 8) [Ext.tr]))) _ [1] rfl (hlit.below (show Ext x1 _ from (by first | with_reducible exact Ext.refl _ | solve_by_elim (maxDepth := 8) [Ext.tr])) (by decide)) (by rw [HIL.out]; simp only [List.length_cons, List.length_nil]; omega) (show HoldT (fun u => Blk u w.heap.size (keyA key) 23) wr _ from by with_reducible assumption).up ?_; intro v5 x3 hown5 hg3 hb3
           have g3 : ExtG v4.ownBlock _ _ := hg3
           clear hg3
           have hk3 : HoldT (fun u => Blk u w.heap.size (keyA key) 23) wr x3 := ⟨hB.below hb3, hb3⟩)
        | (go_at_call 70; refine (Macr_any _ _ _ key (I ++ [1]) (seesB_key (show HoldT (fun u => Blk u w.heap.size (keyA key) 23) wr _ from by with_reducible assumption).has HK.out) ((sees_of_owns hown5).below (show Ext x3 _ from (by first | with_reducible exact Ext.refl _ | solve_by_elim (maxDepth := 8) [Ext.tr])) (by decide)) (by rw [HK.out]; omega) (by rw [List.length_append, HIL.out, List.length_cons, List.length_nil]; omega)).mono ?_; rintro e x4 ⟨rfl, hb6⟩; rw [← HE.out]
           have e4 : Ext _ x4 := hb6
           have g4 := e4.g v4.ownBlock
           have hk4 := HoldT.step hstab (by with_reducible assumption) e4)
        | (refine wpList_store_row rfl 23 _ _ rfl B2 (keyA E) _ _ rfl rfl (hh.grownBy (show ExtG v4.ownBlock x2 _ from (by first | with_reducible exact ExtG.refl _ _ | solve_by_elim (maxDepth := 8) [ExtG.tr])) (fun h => by have := hvlt B2 h.symm; omega)) (by rw [keyA_size, keyA_size, HEL.out]; rfl) (by rw [keyA_size, HEL.out]; exact info_key) (keyA_one _) ?_; intro x5 hg7 hs7 hR7
           have hk5 : HoldT (fun u => Blk u w.heap.size (keyA key) 23) wr x5 := ⟨Blk.grownBy (show HoldT (fun u => Blk u w.heap.size (keyA key) 23) wr _ from by with_reducible assumption).has hg7 (some_ne (by have := hB.lt; have := hb4.size; omega)), (show HoldT (fun u => Blk u w.heap.size (keyA key) 23) wr _ from by with_reducible assumption).up.grown hg7 (show HoldT (fun u => Blk u w.heap.size (keyA key) 23) wr _ from by with_reducible assumption).up.size (fun k hk => by cases hk; have := hb4.size; omega)⟩))
        refine phPost_hold (by first | with_reducible assumption | exact HoldT.alloc hstab (by with_reducible assumption) _ | exact HoldT.alloc hstab (HoldT.alloc hstab (by with_reducible assumption) _) _) ?_
        intro hk_
        refine wpTr_step ?_
        simp only [pickOps, List.flatMap_nil]
        refine wpQuiet_nil ?_
        refine wpTr_one ?_
        simp only [pickOps, List.flatMap_cons, List.flatMap_nil, List.drop_succ_cons, List.drop_zero, List.take_succ_cons, List.take_zero, List.cons_append, List.nil_append, List.append_nil]
        go_wp2_with (first
        | (refine wpList_lit1 rfl _ rfl 1 rfl ?_; intro x1 B1 hlit hB1 e1; have g1 := e1.g v4.ownBlock; have hk1 := HoldT.step hstab (by with_reducible assumption) e1)
        | (refine wpList_allocB rfl _ rfl _ run_allocKey ?_; intro x2 B2 hh hB2 e2; have g2 := e2.g v4.ownBlock; have hlt2 : w4.heap.size ≤ B2 := Nat.le_trans (show ExtG v4.ownBlock w4 _ from (by first | with_reducible exact ExtG.refl _ _ | solve_by_elim (maxDepth := 8) [ExtG.tr])).size hB2; have hk2 := HoldT.step hstab (by with_reducible assumption) e2)
        | (at_builtin; refine appB (W := wr) rfl _ _ rfl v4 I rfl (owns_below hown4 (show Ext w4 _ from (by first | with_reducible exact Ext.refl _ | solve_by_elim (maxDepth := 8) [Ext.tr]))) _ [1] rfl (hlit.below (show Ext x1 _ from (by first | with_reducible exact Ext.refl _ | solve_by_elim (maxDepth := 8) [Ext.tr])) (by decide)) (by rw [HIL.out]; simp only [List.length_cons, List.length_nil]; omega) (show HoldT (fun u => Blk u w.heap.size (keyA key) 23) wr _ from by with_reducible assumption).up ?_; intro v5 x3 hown5 hg3 hb3
           have g3 : ExtG v4.ownBlock _ _ := hg3
           clear hg3
           have hk3 : HoldT (fun u => Blk u w.heap.size (keyA key) 23) wr x3 := ⟨hB.below hb3, hb3⟩)
        | (go_at_call 70; refine (Macr_any _ _ _ key (I ++ [1]) (seesB_key (show HoldT (fun u => Blk u w.heap.size (keyA key) 23) wr _ from by with_reducible assumption).has HK.out) ((sees_of_owns hown5).below (show Ext x3 _ from (by first | with_reducible exact Ext.refl _ | solve_by_elim (maxDepth := 8) [Ext.tr])) (by decide)) (by rw [HK.out]; omega) (by rw [List.length_append, HIL.out, List.length_cons, List.length_nil]; omega)).mono ?_; rintro e x4 ⟨rfl, hb6⟩; rw [← HE.out]
           have e4 : Ext _ x4 := hb6
           have g4 := e4.g v4.ownBlock
           have hk4 := HoldT.step hstab (by with_reducible assumption) e4)
        | (refine wpList_store_row rfl 23 _ _ rfl B2 (keyA E) _ _ rfl rfl (hh.grownBy (show ExtG v4.ownBlock x2 _ from (by first | with_reducible exact ExtG.refl _ _ | solve_by_elim (maxDepth := 8) [ExtG.tr])) (fun h => by have := hvlt B2 h.symm; omega)) (by rw [keyA_size, keyA_size, HEL.out]; rfl) (by rw [keyA_size, HEL.out]; exact info_key) (keyA_one _) ?_; intro x5 hg7 hs7 hR7
           have hk5 : HoldT (fun u => Blk u w.heap.size (keyA key) 23) wr x5 := ⟨Blk.grownBy (show HoldT (fun u => Blk u w.heap.size (keyA key) 23) wr _ from by with_reducible assumption).has hg7 (some_ne (by have := hB.lt; have := hb4.size; omega)), (show HoldT (fun u => Blk u w.heap.size (keyA key) 23) wr _ from by with_reducible assumption).up.grown hg7 (show HoldT (fun u => Blk u w.heap.size (keyA key) 23) wr _ from by with_reducible assumption).up.size (fun k hk => by cases hk; have := hb4.size; omega)⟩))
        refine phPost_hold (by first | with_reducible assumption | exact HoldT.alloc hstab (by with_reducible assumption) _ | exact HoldT.alloc hstab (HoldT.alloc hstab (by with_reducible assumption) _) _) ?_
        intro hk_
        refine wpTr_fin ?_
        simp only [pickOps, List.flatMap_nil]
        refine wpQuiet_nil ?_
        go_wp2_with (first
                  | (at_builtin; refine appB (W := x5) rfl _ _ rfl (.slice none 0 0) [] rfl (ownB_nil _ _) _ E rfl (seesB_key hR7 HEL.out) (by rw [HEL.out, List.length_nil]; omega) (Below.refl _ _) ?_; intro v8 w8 hown8 hgr8 hb8; clear hgr8; rw [List.nil_append] at hown8; obtain ⟨a8, c8, rfl, hc8, hc8'⟩ := owns_form hown8; have hup8 := hk5.up.trans (hb8.mono hk5.up.size))
                  | (at_builtin; refine appB (W := w) rfl _ _ rfl _ [] rfl (owns_below hout hup8) _ E rfl (sees_of_owns hown8) (by rw [HEL.out, List.length_nil]; omega) (hbel.trans (hup8.mono hbel.size)) ?_; intro v9 w9 hown9 hgr9 hb9; clear hgr9; rw [List.nil_append] at hown9; obtain ⟨a9, c9, rfl, hc9, hc9'⟩ := owns_form hown9))
        exact ⟨Or.inr ⟨rfl, sees_of_owns hown9, hb9⟩, by show 40 - E.length < 40 - 0; rw [HEL.out]; decide⟩
      refine wpTr_one ?_
      simp only [pickOps, List.flatMap_cons, List.flatMap_nil, List.drop_succ_cons, List.drop_zero, List.take_succ_cons, List.take_zero, List.cons_append, List.nil_append, List.append_nil]
      go_wp2_with (first
        | (refine wpList_lit1 rfl _ rfl 1 rfl ?_; intro x1 B1 hlit hB1 e1; have g1 := e1.g v4.ownBlock; have hk1 := HoldT.step hstab (by with_reducible assumption) e1)
        | (refine wpList_allocB rfl _ rfl _ run_allocKey ?_; intro x2 B2 hh hB2 e2; have g2 := e2.g v4.ownBlock; have hlt2 : w4.heap.size ≤ B2 := Nat.le_trans (show ExtG v4.ownBlock w4 _ from (by first | with_reducible exact ExtG.refl _ _ | solve_by_elim (maxDepth := 8) [ExtG.tr])).size hB2; have hk2 := HoldT.step hstab (by with_reducible assumption) e2)
        | (at_builtin; refine appB (W := wr) rfl _ _ rfl v4 I rfl (owns_below hown4 (show Ext w4 _ from (by first | with_reducible exact Ext.refl _ | solve_by_elim (maxDepth := 8) [Ext.tr]))) _ [1] rfl (hlit.below (show Ext x1 _ from (by first | with_reducible exact Ext.refl _ | solve_by_elim (maxDepth := 8) [Ext.tr])) (by decide)) (by rw [HIL.out]; simp only [List.length_cons, List.length_nil]; omega) (show HoldT (fun u => Blk u w.heap.size (keyA key) 23) wr _ from by with_reducible assumption).up ?_; intro v5 x3 hown5 hg3 hb3
           have g3 : ExtG v4.ownBlock _ _ := hg3
           clear hg3
           have hk3 : HoldT (fun u => Blk u w.heap.size (keyA key) 23) wr x3 := ⟨hB.below hb3, hb3⟩)
        | (go_at_call 70; refine (Macr_any _ _ _ key (I ++ [1]) (seesB_key (show HoldT (fun u => Blk u w.heap.size (keyA key) 23) wr _ from by with_reducible assumption).has HK.out) ((sees_of_owns hown5).below (show Ext x3 _ from (by first | with_reducible exact Ext.refl _ | solve_by_elim (maxDepth := 8) [Ext.tr])) (by decide)) (by rw [HK.out]; omega) (by rw [List.length_append, HIL.out, List.length_cons, List.length_nil]; omega)).mono ?_; rintro e x4 ⟨rfl, hb6⟩; rw [← HE.out]
           have e4 : Ext _ x4 := hb6
           have g4 := e4.g v4.ownBlock
           have hk4 := HoldT.step hstab (by with_reducible assumption) e4)
        | (refine wpList_store_row rfl 23 _ _ rfl B2 (keyA E) _ _ rfl rfl (hh.grownBy (show ExtG v4.ownBlock x2 _ from (by first | with_reducible exact ExtG.refl _ _ | solve_by_elim (maxDepth := 8) [ExtG.tr])) (fun h => by have := hvlt B2 h.symm; omega)) (by rw [keyA_size, keyA_size, HEL.out]; rfl) (by rw [keyA_size, HEL.out]; exact info_key) (keyA_one _) ?_; intro x5 hg7 hs7 hR7
           have hk5 : HoldT (fun u => Blk u w.heap.size (keyA key) 23) wr x5 := ⟨Blk.grownBy (show HoldT (fun u => Blk u w.heap.size (keyA key) 23) wr _ from by with_reducible assumption).has hg7 (some_ne (by have := hB.lt; have := hb4.size; omega)), (show HoldT (fun u => Blk u w.heap.size (keyA key) 23) wr _ from by with_reducible assumption).up.grown hg7 (show HoldT (fun u => Blk u w.heap.size (keyA key) 23) wr _ from by with_reducible assumption).up.size (fun k hk => by cases hk; have := hb4.size; omega)⟩))
      refine phPost_hold (by first | with_reducible assumption | exact HoldT.alloc hstab (by with_reducible assumption) _ | exact HoldT.alloc hstab (HoldT.alloc hstab (by with_reducible assumption) _) _) ?_
      intro hk_
      refine wpTr_step ?_
      simp only [pickOps, List.flatMap_nil]
      refine wpQuiet_nil ?_
      refine wpTr_one ?_
      simp only [pickOps, List.flatMap_cons, List.flatMap_nil, List.drop_succ_cons, List.drop_zero, List.take_succ_cons, List.take_zero, List.cons_append, List.nil_append, List.append_nil]
      go_wp2_with (first
        | (refine wpList_lit1 rfl _ rfl 1 rfl ?_; intro x1 B1 hlit hB1 e1; have g1 := e1.g v4.ownBlock; have hk1 := HoldT.step hstab (by with_reducible assumption) e1)
        | (refine wpList_allocB rfl _ rfl _ run_allocKey ?_; intro x2 B2 hh hB2 e2; have g2 := e2.g v4.ownBlock; have hlt2 : w4.heap.size ≤ B2 := Nat.le_trans (show ExtG v4.ownBlock w4 _ from (by first | with_reducible exact ExtG.refl _ _ | solve_by_elim (maxDepth := 8) [ExtG.tr])).size hB2; have hk2 := HoldT.step hstab (by with_reducible assumption) e2)
        | (at_builtin; refine appB (W := wr) rfl _ _ rfl v4 I rfl (owns_below hown4 (show Ext w4 _ from (by first | with_reducible exact Ext.refl _ | solve_by_elim (maxDepth := 8) [Ext.tr]))) _ [1] rfl (hlit.below (show Ext x1 _ from (by first | with_reducible exact Ext.refl _ | solve_by_elim (maxDepth := 8) [Ext.tr])) (by decide)) (by rw [HIL.out]; simp only [List.length_cons, List.length_nil]; omega) (show HoldT (fun u => Blk u w.heap.size (keyA key) 23) wr _ from by with_reducible assumption).up ?_; intro v5 x3 hown5 hg3 hb3
           have g3 : ExtG v4.ownBlock _ _ := hg3
           clear hg3
           have hk3 : HoldT (fun u => Blk u w.heap.size (keyA key) 23) wr x3 := ⟨hB.below hb3, hb3⟩)
        | (go_at_call 70; refine (Macr_any _ _ _ key (I ++ [1]) (seesB_key (show HoldT (fun u => Blk u w.heap.size (keyA key) 23) wr _ from by with_reducible assumption).has HK.out) ((sees_of_owns hown5).below (show Ext x3 _ from (by first | with_reducible exact Ext.refl _ | solve_by_elim (maxDepth := 8) [Ext.tr])) (by decide)) (by rw [HK.out]; omega) (by rw [List.length_append, HIL.out, List.length_cons, List.length_nil]; omega)).mono ?_; rintro e x4 ⟨rfl, hb6⟩; rw [← HE.out]
           have e4 : Ext _ x4 := hb6
           have g4 := e4.g v4.ownBlock
           have hk4 := HoldT.step hstab (by with_reducible assumption) e4)
        | (refine wpList_store_row rfl 23 _ _ rfl B2 (keyA E) _ _ rfl rfl (hh.grownBy (show ExtG v4.ownBlock x2 _ from (by first | with_reducible exact ExtG.refl _ _ | solve_by_elim (maxDepth := 8) [ExtG.tr])) (fun h => by have := hvlt B2 h.symm; omega)) (by rw [keyA_size, keyA_size, HEL.out]; rfl) (by rw [keyA_size, HEL.out]; exact info_key) (keyA_one _) ?_; intro x5 hg7 hs7 hR7
           have hk5 : HoldT (fun u => Blk u w.heap.size (keyA key) 23) wr x5 := ⟨Blk.grownBy (show HoldT (fun u => Blk u w.heap.size (keyA key) 23) wr _ from by with_reducible assumption).has hg7 (some_ne (by have := hB.lt; have := hb4.size; omega)), (show HoldT (fun u => Blk u w.heap.size (keyA key) 23) wr _ from by with_reducible assumption).up.grown hg7 (show HoldT (fun u => Blk u w.heap.size (keyA key) 23) wr _ from by with_reducible assumption).up.size (fun k hk => by cases hk; have := hb4.size; omega)⟩))
      refine phPost_hold (by first | with_reducible assumption | exact HoldT.alloc hstab (by with_reducible assumption) _ | exact HoldT.alloc hstab (HoldT.alloc hstab (by with_reducible assumption) _) _) ?_
      intro hk_
      refine wpTr_step ?_
      simp only [pickOps, List.flatMap_nil]
      refine wpQuiet_nil ?_
      refine wpTr_one ?_
      simp only [pickOps, List.flatMap_cons, List.flatMap_nil, List.drop_succ_cons, List.drop_zero, List.take_succ_cons, List.take_zero, List.cons_append, List.nil_append, List.append_nil]
      go_wp2_with (first
        | (refine wpList_lit1 rfl _ rfl 1 rfl ?_; intro x1 B1 hlit hB1 e1; have g1 := e1.g v4.ownBlock; have hk1 := HoldT.step hstab (by with_reducible assumption) e1)
        | (refine wpList_allocB rfl _ rfl _ run_allocKey ?_; intro x2 B2 hh hB2 e2; have g2 := e2.g v4.ownBlock; have hlt2 : w4.heap.size ≤ B2 := Nat.le_trans (show ExtG v4.ownBlock w4 _ from (by first | with_reducible exact ExtG.refl _ _ | solve_by_elim (maxDepth := 8) [ExtG.tr])).size hB2; have hk2 := HoldT.step hstab (by with_reducible assumption) e2)
        | (at_builtin; refine appB (W := wr) rfl _ _ rfl v4 I rfl (owns_below hown4 (show Ext w4 _ from (by first | with_reducible exact Ext.refl _ | solve_by_elim (maxDepth := 8) [Ext.tr]))) _ [1] rfl (hlit.below (show Ext x1 _ from (by first | with_reducible exact Ext.refl _ | solve_by_elim (maxDepth := 8) [Ext.tr])) (by decide)) (by rw [HIL.out]; simp only [List.length_cons, List.length_nil]; omega) (show HoldT (fun u => Blk u w.heap.size (keyA key) 23) wr _ from by with_reducible assumption).up ?_; intro v5 x3 hown5 hg3 hb3
           have g3 : ExtG v4.ownBlock _ _ := hg3
           clear hg3
           have hk3 : HoldT (fun u => Blk u w.heap.size (keyA key) 23) wr x3 := ⟨hB.below hb3, hb3⟩)
        | (go_at_call 70; refine (Macr_any _ _ _ key (I ++ [1]) (seesB_key (show HoldT (fun u => Blk u w.heap.size (keyA key) 23) wr _ from by with_reducible assumption).has HK.out) ((sees_of_owns hown5).below (show Ext x3 _ from (by first | with_reducible exact Ext.refl _ | solve_by_elim (maxDepth := 8) [Ext.tr])) (by decide)) (by rw [HK.out]; omega) (by rw [List.length_append, HIL.out, List.length_cons, List.length_nil]; omega)).mono ?_; rintro e x4 ⟨rfl, hb6⟩; rw [← HE.out]
           have e4 : Ext _ x4 := hb6
           have g4 := e4.g v4.ownBlock
           have hk4 := HoldT.step hstab (by with_reducible assumption) e4)
        | (refine wpList_store_row rfl 23 _ _ rfl B2 (keyA E) _ _ rfl rfl (hh.grownBy (show ExtG v4.ownBlock x2 _ from (by first | with_reducible exact ExtG.refl _ _ | solve_by_elim (maxDepth := 8) [ExtG.tr])) (fun h => by have := hvlt B2 h.symm; omega)) (by rw [keyA_size, keyA_size, HEL.out]; rfl) (by rw [keyA_size, HEL.out]; exact info_key) (keyA_one _) ?_; intro x5 hg7 hs7 hR7
           have hk5 : HoldT (fun u => Blk u w.heap.size (keyA key) 23) wr x5 := ⟨Blk.grownBy (show HoldT (fun u => Blk u w.heap.size (keyA key) 23) wr _ from by with_reducible assumption).has hg7 (some_ne (by have := hB.lt; have := hb4.size; omega)), (show HoldT (fun u => Blk u w.heap.size (keyA key) 23) wr _ from by with_reducible assumption).up.grown hg7 (show HoldT (fun u => Blk u w.heap.size (keyA key) 23) wr _ from by with_reducible assumption).up.size (fun k hk => by cases hk; have := hb4.size; omega)⟩))
      refine phPost_hold (by first | with_reducible assumption | exact HoldT.alloc hstab (by with_reducible assumption) _ | exact HoldT.alloc hstab (HoldT.alloc hstab (by with_reducible assumption) _) _) ?_
      intro hk_
      refine wpTr_step ?_
      simp only [pickOps, List.flatMap_nil]
      refine wpQuiet_nil ?_
      refine wpTr_one ?_
      simp only [pickOps, List.flatMap_cons, List.flatMap_nil, List.drop_succ_cons, List.drop_zero, List.take_succ_cons, List.take_zero, List.cons_append, List.nil_append, List.append_nil]
      go_wp2_with (first
        | (refine wpList_lit1 rfl _ rfl 1 rfl ?_; intro x1 B1 hlit hB1 e1; have g1 := e1.g v4.ownBlock; have hk1 := HoldT.step hstab (by with_reducible assumption) e1)
        | (refine wpList_allocB rfl _ rfl _ run_allocKey ?_; intro x2 B2 hh hB2 e2; have g2 := e2.g v4.ownBlock; have hlt2 : w4.heap.size ≤ B2 := Nat.le_trans (show ExtG v4.ownBlock w4 _ from (by first | with_reducible exact ExtG.refl _ _ | solve_by_elim (maxDepth := 8) [ExtG.tr])).size hB2; have hk2 := HoldT.step hstab (by with_reducible assumption) e2)
        | (at_builtin; refine appB (W := wr) rfl _ _ rfl v4 I rfl (owns_below hown4 (show Ext w4 _ from (by first | with_reducible exact Ext.refl _ | solve_by_elim (maxDepth := 8) [Ext.tr]))) _ [1] rfl (hlit.below (show Ext x1 _ from (by first | with_reducible exact Ext.refl _ | solve_by_elim (maxDepth := 8) [Ext.tr])) (by decide)) (by rw [HIL.out]; simp only [List.length_cons, List.length_nil]; omega) (show HoldT (fun u => Blk u w.heap.size (keyA key) 23) wr _ from by with_reducible assumption).up ?_; intro v5 x3 hown5 hg3 hb3
           have g3 : ExtG v4.ownBlock _ _ := hg3
           clear hg3
           have hk3 : HoldT (fun u => Blk u w.heap.size (keyA key) 23) wr x3 := ⟨hB.below hb3, hb3⟩)
        | (go_at_call 70; refine (Macr_any _ _ _ key (I ++ [1]) (seesB_key (show HoldT (fun u => Blk u w.heap.size (keyA key) 23) wr _ from by with_reducible assumption).has HK.out) ((sees_of_owns hown5).below (show Ext x3 _ from (by first | with_reducible exact Ext.refl _ | solve_by_elim (maxDepth := 8) [Ext.tr])) (by decide)) (by rw [HK.out]; omega) (by rw [List.length_append, HIL.out, List.length_cons, List.length_nil]; omega)).mono ?_; rintro e x4 ⟨rfl, hb6⟩; rw [← HE.out]
           have e4 : Ext _ x4 := hb6
           have g4 := e4.g v4.ownBlock
           have hk4 := HoldT.step hstab (by with_reducible assumption) e4)
        | (refine wpList_store_row rfl 23 _ _ rfl B2 (keyA E) _ _ rfl rfl (hh.grownBy (show ExtG v4.ownBlock x2 _ from (by first | with_reducible exact ExtG.refl _ _ | solve_by_elim (maxDepth := 8) [ExtG.tr])) (fun h => by have := hvlt B2 h.symm; omega)) (by rw [keyA_size, keyA_size, HEL.out]; rfl) (by rw [keyA_size, HEL.out]; exact info_key) (keyA_one _) ?_; intro x5 hg7 hs7 hR7
           have hk5 : HoldT (fun u => Blk u w.heap.size (keyA key) 23) wr x5 := ⟨Blk.grownBy (show HoldT (fun u => Blk u w.heap.size (keyA key) 23) wr _ from by with_reducible assumption).has hg7 (some_ne (by have := hB.lt; have := hb4.size; omega)), (show HoldT (fun u => Blk u w.heap.size (keyA key) 23) wr _ from by with_reducible assumption).up.grown hg7 (show HoldT (fun u => Blk u w.heap.size (keyA key) 23) wr _ from by with_reducible assumption).up.size (fun k hk => by cases hk; have := hb4.size; omega)⟩))
      refine phPost_hold (by first | with_reducible assumption | exact HoldT.alloc hstab (by with_reducible assumption) _ | exact HoldT.alloc hstab (HoldT.alloc hstab (by with_reducible assumption) _) _) ?_
      intro hk_
      refine wpTr_step ?_
      simp only [pickOps, List.flatMap_nil]
      refine wpQuiet_nil ?_
      refine wpTr_one ?_
      simp only [pickOps, List.flatMap_cons, List.flatMap_nil, List.drop_succ_cons, List.drop_zero, List.take_succ_cons, List.take_zero, List.cons_append, List.nil_append, List.append_nil]
      go_wp2_with (first
        | (refine wpList_lit1 rfl _ rfl 1 rfl ?_; intro x1 B1 hlit hB1 e1; have g1 := e1.g v4.ownBlock; have hk1 := HoldT.step hstab (by with_reducible assumption) e1)
        | (refine wpList_allocB rfl _ rfl _ run_allocKey ?_; intro x2 B2 hh hB2 e2; have g2 := e2.g v4.ownBlock; have hlt2 : w4.heap.size ≤ B2 := Nat.le_trans (show ExtG v4.ownBlock w4 _ from (by first | with_reducible exact ExtG.refl _ _ | solve_by_elim (maxDepth := 8) [ExtG.tr])).size hB2; have hk2 := HoldT.step hstab (by with_reducible assumption) e2)
        | (at_builtin; refine appB (W := wr) rfl _ _ rfl v4 I rfl (owns_below hown4 (show Ext w4 _ from (by first | with_reducible exact Ext.refl _ | solve_by_elim (maxDepth := 8) [Ext.tr]))) _ [1] rfl (hlit.below (show Ext x1 _ from (by first | with_reducible exact Ext.refl _ | solve_by_elim (maxDepth := 8) [Ext.tr])) (by decide)) (by rw [HIL.out]; simp only [List.length_cons, List.length_nil]; omega) (show HoldT (fun u => Blk u w.heap.size (keyA key) 23) wr _ from by with_reducible assumption).up ?_; intro v5 x3 hown5 hg3 hb3
           have g3 : ExtG v4.ownBlock _ _ := hg3
           clear hg3
           have hk3 : HoldT (fun u => Blk u w.heap.size (keyA key) 23) wr x3 := ⟨hB.below hb3, hb3⟩)
        | (go_at_call 70; refine (Macr_any _ _ _ key (I ++ [1]) (seesB_key (show HoldT (fun u => Blk u w.heap.size (keyA key) 23) wr _ from by with_reducible assumption).has HK.out) ((sees_of_owns hown5).below (show Ext x3 _ from (by first | with_reducible exact Ext.refl _ | solve_by_elim (maxDepth := 8) [Ext.tr])) (by decide)) (by rw [HK.out]; omega) (by rw [List.length_append, HIL.out, List.length_cons, List.length_nil]; omega)).mono ?_; rintro e x4 ⟨rfl, hb6⟩; rw [← HE.out]
           have e4 : Ext _ x4 := hb6
           have g4 := e4.g v4.ownBlock
           have hk4 := HoldT.step hstab (by with_reducible assumption) e4)
        | (refine wpList_store_row rfl 23 _ _ rfl B2 (keyA E) _ _ rfl rfl (hh.grownBy (show ExtG v4.ownBlock x2 _ from (by first | with_reducible exact ExtG.refl _ _ | solve_by_elim (maxDepth := 8) [ExtG.tr])) (fun h => by have := hvlt B2 h.symm; omega)) (by rw [keyA_size, keyA_size, HEL.out]; rfl) (by rw [keyA_size, HEL.out]; exact info_key) (keyA_one _) ?_; intro x5 hg7 hs7 hR7
           have hk5 : HoldT (fun u => Blk u w.heap.size (keyA key) 23) wr x5 := ⟨Blk.grownBy (show HoldT (fun u => Blk u w.heap.size (keyA key) 23) wr _ from by with_reducible assumption).has hg7 (some_ne (by have := hB.lt; have := hb4.size; omega)), (show HoldT (fun u => Blk u w.heap.size (keyA key) 23) wr _ from by with_reducible assumption).up.grown hg7 (show HoldT (fun u => Blk u w.heap.size (keyA key) 23) wr _ from by with_reducible assumption).up.size (fun k hk => by cases hk; have := hb4.size; omega)⟩))
      refine phPost_hold (by first | with_reducible assumption | exact HoldT.alloc hstab (by with_reducible assumption) _ | exact HoldT.alloc hstab (HoldT.alloc hstab (by with_reducible assumption) _) _) ?_
      intro hk_
      refine wpTr_fin ?_
      simp only [pickOps, List.flatMap_nil]
      refine wpQuiet_nil ?_
      go_wp2_with (first
                | (at_builtin; refine appB (W := x5) rfl _ _ rfl (.slice none 0 0) [] rfl (ownB_nil _ _) _ E rfl (seesB_key hR7 HEL.out) (by rw [HEL.out, List.length_nil]; omega) (Below.refl _ _) ?_; intro v8 w8 hown8 hgr8 hb8; clear hgr8; rw [List.nil_append] at hown8; obtain ⟨a8, c8, rfl, hc8, hc8'⟩ := owns_form hown8; have hup8 := hk5.up.trans (hb8.mono hk5.up.size))
                | (at_builtin; refine appB (W := w) rfl _ _ rfl _ [] rfl (owns_below hout hup8) _ E rfl (sees_of_owns hown8) (by rw [HEL.out, List.length_nil]; omega) (hbel.trans (hup8.mono hbel.size)) ?_; intro v9 w9 hown9 hgr9 hb9; clear hgr9; rw [List.nil_append] at hown9; obtain ⟨a9, c9, rfl, hc9, hc9'⟩ := owns_form hown9))
      exact ⟨Or.inr ⟨rfl, sees_of_owns hown9, hb9⟩, by show 40 - E.length < 40 - 0; rw [HEL.out]; decide⟩
    · obtain ⟨b, o, c, rfl, hc, hc', hr⟩ := seesB_open hout (by rw [HEL.out]; decide)
      rw [HEL.out] at hc
      have hs32 : SeesB wr (.slice (some ⟨b, o, none⟩) 32 c) E := by have := hout; unfold SeesB at this ⊢; rwa [HEL.out] at this ⊢
      have hsl := fun W => run_sliceB_to (some ⟨b, o, none⟩) 32 c 32 hc W
      have hcn : ¬ c = 0 := by omega
      simp only [if_neg hcn, Option.map_some, addr_add, Nat.add_zero] at hsl
      rw [HEL.out]
      clear hr hcn
      go_wp2_with (at_builtin; refine appB (W := wr) rfl _ _ rfl (.slice none 0 0) [] rfl (ownB_nil _ _) _ E rfl hs32 (by rw [HEL.out, List.length_nil]; omega) (Below.refl _ _) ?_; intro v8 w8 hown8 hgr8 hb8; clear hgr8; rw [List.nil_append] at hown8; obtain ⟨a8, c8, rfl, hc8, hc8'⟩ := owns_form hown8)
      go_ret
      exact ⟨_, rfl, sees_of_owns hown8, fun k hk => Nat.le_trans hbel.size (hown8.lt k hk).1, hbel.trans (hb8.mono hbel.size)⟩
end Go.Proofs.Yteialfdhbfbkgaa
