/-
  Open of the reference.
-/
import Derived.Test.YtbgnfioggmkdeaaGreatDoorUtl
namespace Go.Proofs.YtbgnfioggmkdeaaGreatDoor
set_option linter.unusedVariables false
set_option linter.unusedSimpArgs false
open Go Go.RowKit

def OpC (B : Nat) (key : List UInt8) (v : Value) (b : List UInt8) (u : World) : Prop := Blk u B (keyA key) 24 ∧ SeesB u v b
theorem stabOpC (B : Nat) (key : List UInt8) (v : Value) (b : List UInt8) : Stab (OpC B key v b) := Stab.and (Stab.blk _ _ _) (Stab.sees _ _ _ _ (by decide))

set_option maxRecDepth 100000 in
set_option maxHeartbeats 2000000 in
theorem Openr_any (key bs b : List UInt8) (vs v : Value) (w : World) (hk : key.length = 32) (hs : SeesB w vs bs) (hv : SeesB w v b) (hl1 : bs.length ≤ 20000000000000) (hl : b.length ≤ 20000000000000) :
    Calls Tryz.prog 84 #[.agg (keyA key), vs, v] w (RetO (openL key bs b) w) := by
  have HK := Lib.hid hk; clear hk
  obtain ⟨a1, c1, rfl, hac1, hc1⟩ := sees_form hs
  have hk0 := Lib.hid (Blk.new w (keyA key) 24)
  have hb0 := Lib.hid (show Below w.heap.size w (w.alloc (.cells (keyA key) 24)) by go_grown)
  by_cases h16 : b.length < 16
  · obtain ⟨a0, c0, rfl, hac0, hc0⟩ := sees_form hv
    have HO := Lib.hid (show openL key bs b = none by unfold openL; rw [if_pos h16])
    have hd : (b.length : Int) < 16 := by omega
    clear hv hs
    go_enter Tryz.func84, Tryz.ntmps84
    go_wp2_with fail
    go_ret2
    exact ⟨_, by rw [HO.out]; rfl, by rw [HO.out]; exact ownB_nil _ _, hb0.out⟩
  · obtain ⟨g, o, c0, rfl, hac0, hc0, -⟩ := seesB_open hv (by omega)
    obtain ⟨n, hn⟩ : ∃ n, b.length = n + 16 := ⟨b.length - 16, by omega⟩
    have hsT := seesB_take hv n (by omega)
    have hsD := seesB_drop hv n (by omega)
    rw [if_neg (by omega), hn, Nat.add_sub_cancel_left] at hsD
    have HO0 : openL key bs b = if tagL key bs (b.take n) = b.drop n then some (turnL key (b.take n)) else none := by
      unfold openL; rw [if_neg h16, hn, Nat.add_sub_cancel]
    have hTL := length_tagL key bs (b.take n)
    have hDL : (b.drop n).length = 16 := by rw [List.length_drop]; omega
    have htl : (b.take n).length = n := by rw [List.length_take]; omega
    have hPL := length_turnL key (b.take n)
    rw [htl] at hPL
    have hTA := fun (w' : World) (u1 u2 : Value) (h1 : SeesB w' u1 bs) (h2 : SeesB w' u2 (b.take n)) => tag_any key bs (b.take n) u1 u2 w' HK.out h1 h2 hl1 (by omega)
    have hSA := fun (w' : World) (u2 : Value) (h2 : SeesB w' u2 (b.take n)) => stream_any key (b.take n) u2 w' HK.out h2 (by omega)
    have hlen : n + 16 ≤ 20000000000000 := by omega
    have hsB := hv
    rw [hn]
    generalize tagL key bs (b.take n) = T at *
    generalize turnL key (b.take n) = P at *
    generalize b.take n = bt at *
    generalize b.drop n = D at *
    have hsl := fun W => run_sliceB_to (some ⟨g, o, none⟩) (n + 16) c0 n (by omega) W
    rw [if_neg (by omega), Option.map_some, addr_add, Nat.add_zero] at hsl
    have hsr := fun W => run_sliceB_from (some ⟨g, o, none⟩) (n + 16) c0 n (by omega) W
    rw [if_neg (by omega), Option.map_some, addr_add, Nat.add_sub_cancel_left] at hsr
    rw [Option.map_some, addr_add] at hsD
    have HTA := Lib.hid hTA; have HSA := Lib.hid hSA; have HD := Lib.hid hsD; have HT := Lib.hid hsT; have HS := Lib.hid hs; have HPL := Lib.hid hPL; have HN := Lib.hid hn; have HTL := Lib.hid hTL
    clear hTA hSA hsD hsT hs hPL hn hTL hDL htl hsB hv
    have hstab := stabOpC w.heap.size key (.slice (some ⟨g, o + n, none⟩) 16 (c0 - n)) D
    have hk0' := Lib.hid (show HoldT (OpC w.heap.size key (.slice (some ⟨g, o + n, none⟩) 16 (c0 - n)) D) w (w.alloc (.cells (keyA key) 24)).drew from HoldT.drew hstab ⟨⟨hk0.out, HD.out.below hb0.out (by decide)⟩, hb0.out⟩)
    have hS2 : ∀ e : InC (OpC w.heap.size key (.slice (some ⟨g, o + n, none⟩) 16 (c0 - n)) D), (convert 44 9 (.slice (some ⟨g, o + n, none⟩) 16 (c0 - n))).run Tryz.prog e.u = .ok (.string ⟨D.toArray⟩) e.u := fun e => conv_str _ _ _ e.has.2
    by_cases hTD : T = D
    · rw [if_pos hTD] at HO0
      have HO := Lib.hid HO0; clear HO0
      have hne : (T == D) = true := by rw [hTD]; exact beq_self_eq_true _
      clear hTD
      go_enter Tryz.func84, Tryz.ntmps84
      go_wp2_with fail
      have hk := hk0'.out
      try change Code.wp _ _ _ (Act.mk _ _) _
      haveI hne_ : Nonempty (InC (OpC w.heap.size key (.slice (some ⟨g, o + n, none⟩) 16 (c0 - n)) D)) := ⟨⟨_, (hk).1⟩⟩
      refine wp_region_tr (C := fun w_ => ∃ e_ : InC (OpC w.heap.size key (.slice (some ⟨g, o + n, none⟩) 16 (c0 - n)) D), w_ = e_.u) (.step [0, 1, 2, 5, 6, 7, 8, 9, 10] (.alt 3 (.step [] (.alt 4 (.fin [11]) .nil)) .nil)) (by kernel_rfl) (by kernel_rfl) (fun _ _ _ _ hd_ h_ => ⟨hd_.symm.trans h_.1, h_.2⟩) ⟨⟨World.drew _, (hk).1⟩, rfl⟩ ?_
      have hk_ := hk
      repeat' (first
        | ((with_reducible refine wpTr_fin ?_)
           simp only [pickOps, List.flatMap_cons, List.flatMap_nil, List.drop_succ_cons, List.drop_zero, List.take_succ_cons, List.take_zero, List.cons_append, List.nil_append, List.append_nil]
           repeat (first | ((refine wpQuiet_load_row rfl 24 _ rfl w.heap.size rfl _ (keyA key) (0, 0) _ (fun w_ hw_ => by obtain ⟨e_, rfl⟩ := hw_; exact e_.has.1) under_key rfl (by rw [keyA_size, HK.out]; exact info_key) ?_; simp only [Act.put, List.setIfInBounds_toArray, List.set_cons_succ, List.set_cons_zero])) | go_big_quiet_step (exact rfl))
           refine wpQuiet_nil ?_)
        | ((with_reducible refine wpTr_step ?_); simp only [pickOps, List.flatMap_cons, List.flatMap_nil, List.drop_succ_cons, List.drop_zero, List.take_succ_cons, List.take_zero, List.cons_append, List.nil_append, List.append_nil]; repeat (first | ((refine wpQuiet_load_row rfl 24 _ rfl w.heap.size rfl _ (keyA key) (0, 0) _ (fun w_ hw_ => by obtain ⟨e_, rfl⟩ := hw_; exact e_.has.1) under_key rfl (by rw [keyA_size, HK.out]; exact info_key) ?_; simp only [Act.put, List.setIfInBounds_toArray, List.set_cons_succ, List.set_cons_zero])) | go_big_quiet_step (exact rfl))
           refine wpQuiet_nil ?_)
        | (with_reducible refine wpTr_one ?_)
        | (with_reducible refine wpTr_alt ?_ ?_)
        | (simp only [pickOps, List.flatMap_cons, List.flatMap_nil, List.drop_succ_cons, List.drop_zero, List.take_succ_cons, List.take_zero, List.cons_append, List.nil_append, List.append_nil]
           go_wp2_with (first
        | (go_at_call 100; refine (HTA.out _ _ _ (HS.out.below hk_.up (by decide)) (HT.out.below hk_.up (by decide))).mono ?_; rintro e x3 ⟨v3, rfl, hown3, hb3⟩; obtain ⟨a3, c3, rfl, -, -⟩ := owns_form hown3; have hcv3 := conv_str _ _ _ (sees_of_owns hown3); have hk3 := HoldT.step hstab hk_ hb3))
           refine phPost_hold (by first | with_reducible assumption | exact HoldT.alloc hstab (by with_reducible assumption) _ | exact HoldT.alloc hstab (HoldT.alloc hstab (by with_reducible assumption) _) _) ?_
           intro hk_))
      go_wp2_with (first
        | (refine wpList_load_row rfl 24 _ rfl w.heap.size rfl _ _ (0, 0) _ hk_.has.1 under_key rfl (by rw [keyA_size, HK.out]; exact info_key) ?_)
        | (go_at_call 99; refine (HSA.out _ _ (HT.out.below hk_.up (by decide))).mono ?_; rintro e x5 ⟨v5, rfl, hown5, hb5⟩))
      go_ret2
      exact ⟨_, by rw [HO.out]; rfl, by rw [HO.out]; exact owns_mono hown5 hk_.up.size, hk_.up.trans (hb5.mono hk_.up.size)⟩
    · rw [if_neg hTD] at HO0
      have HO := Lib.hid HO0; clear HO0
      have hne : (T == D) = false := by rw [beq_eq_false_iff_ne]; exact hTD
      clear hTD
      go_enter Tryz.func84, Tryz.ntmps84
      go_wp2_with fail
      have hk := hk0'.out
      try change Code.wp _ _ _ (Act.mk _ _) _
      haveI hne_ : Nonempty (InC (OpC w.heap.size key (.slice (some ⟨g, o + n, none⟩) 16 (c0 - n)) D)) := ⟨⟨_, (hk).1⟩⟩
      refine wp_region_tr (C := fun w_ => ∃ e_ : InC (OpC w.heap.size key (.slice (some ⟨g, o + n, none⟩) 16 (c0 - n)) D), w_ = e_.u) (.step [0, 1, 2, 5, 6, 7, 8, 9, 10] (.alt 3 (.step [] (.alt 4 (.fin [11]) .nil)) .nil)) (by kernel_rfl) (by kernel_rfl) (fun _ _ _ _ hd_ h_ => ⟨hd_.symm.trans h_.1, h_.2⟩) ⟨⟨World.drew _, (hk).1⟩, rfl⟩ ?_
      have hk_ := hk
      repeat' (first
        | ((with_reducible refine wpTr_fin ?_)
           simp only [pickOps, List.flatMap_cons, List.flatMap_nil, List.drop_succ_cons, List.drop_zero, List.take_succ_cons, List.take_zero, List.cons_append, List.nil_append, List.append_nil]
           repeat (first | ((refine wpQuiet_load_row rfl 24 _ rfl w.heap.size rfl _ (keyA key) (0, 0) _ (fun w_ hw_ => by obtain ⟨e_, rfl⟩ := hw_; exact e_.has.1) under_key rfl (by rw [keyA_size, HK.out]; exact info_key) ?_; simp only [Act.put, List.setIfInBounds_toArray, List.set_cons_succ, List.set_cons_zero])) | go_big_quiet_step (exact rfl))
           refine wpQuiet_nil ?_)
        | ((with_reducible refine wpTr_step ?_); simp only [pickOps, List.flatMap_cons, List.flatMap_nil, List.drop_succ_cons, List.drop_zero, List.take_succ_cons, List.take_zero, List.cons_append, List.nil_append, List.append_nil]; repeat (first | ((refine wpQuiet_load_row rfl 24 _ rfl w.heap.size rfl _ (keyA key) (0, 0) _ (fun w_ hw_ => by obtain ⟨e_, rfl⟩ := hw_; exact e_.has.1) under_key rfl (by rw [keyA_size, HK.out]; exact info_key) ?_; simp only [Act.put, List.setIfInBounds_toArray, List.set_cons_succ, List.set_cons_zero])) | go_big_quiet_step (exact rfl))
           refine wpQuiet_nil ?_)
        | (with_reducible refine wpTr_one ?_)
        | (with_reducible refine wpTr_alt ?_ ?_)
        | (simp only [pickOps, List.flatMap_cons, List.flatMap_nil, List.drop_succ_cons, List.drop_zero, List.take_succ_cons, List.take_zero, List.cons_append, List.nil_append, List.append_nil]
           go_wp2_with (first
        | (go_at_call 100; refine (HTA.out _ _ _ (HS.out.below hk_.up (by decide)) (HT.out.below hk_.up (by decide))).mono ?_; rintro e x3 ⟨v3, rfl, hown3, hb3⟩; obtain ⟨a3, c3, rfl, -, -⟩ := owns_form hown3; have hcv3 := conv_str _ _ _ (sees_of_owns hown3); have hk3 := HoldT.step hstab hk_ hb3))
           refine phPost_hold (by first | with_reducible assumption | exact HoldT.alloc hstab (by with_reducible assumption) _ | exact HoldT.alloc hstab (HoldT.alloc hstab (by with_reducible assumption) _) _) ?_
           intro hk_))
      go_wp2_with fail
      go_ret2
      exact ⟨_, by rw [HO.out]; rfl, by rw [HO.out]; exact ownB_nil _ _, hk_.up⟩
end Go.Proofs.YtbgnfioggmkdeaaGreatDoor
