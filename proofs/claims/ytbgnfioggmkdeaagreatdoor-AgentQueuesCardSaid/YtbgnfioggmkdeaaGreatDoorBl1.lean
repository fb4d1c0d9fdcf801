/-
  Bytes compared and cloned; Open of the program; entries compared.
-/
import Derived.Test.YtbgnfioggmkdeaaGreatDoorSub
import Derived.Test.YtbgnfioggmkdeaaGreatDoorRop2
namespace Go.Proofs.YtbgnfioggmkdeaaGreatDoor
set_option linter.unusedVariables false
set_option linter.unusedSimpArgs false
open Go Go.RowKit

set_option maxRecDepth 100000 in
theorem BytesEq_any (a b : List UInt8) (va vb : Value) (w : World) (ha : SeesB w va a) (hb : SeesB w vb b) :
    Calls Tryz.prog 134 #[va, vb] w fun e w' => e = .returned (.bool (a == b)) ∧ w = w' := by
  have h1 := conv_str _ _ _ ha
  have h2 := conv_str _ _ _ hb
  clear ha hb
  go_enter Tryz.func134, Tryz.ntmps134
  go_wp2_with fail
  go_ret
  exact ⟨by simp, rfl⟩
theorem openL_short {key bs b : List UInt8} (h : b.length < 16) : openL key bs b = none := by unfold openL; rw [if_pos h]
theorem openL_long {key bs b : List UInt8} {n : Nat} (hn : b.length = n + 16) : openL key bs b = if tagL key bs (b.take n) = b.drop n then some (turnL key (b.take n)) else none := by
  unfold openL; rw [if_neg (by omega), hn, Nat.add_sub_cancel]
set_option maxRecDepth 100000 in
set_option maxHeartbeats 2000000 in
theorem Open_any (key bs b : List UInt8) (vs v : Value) (w : World) (hk : key.length = 32) (hs : SeesB w vs bs) (hv : SeesB w v b) (hl1 : bs.length ≤ 20000000000000) (hl : b.length ≤ 20000000000000) :
    Calls Tryz.prog 85 #[.agg (keyA key), vs, v] w (RetO (openL key bs b) w) := by
  have HK := Lib.hid hk; clear hk
  obtain ⟨a1, c1, rfl, hac1, hc1⟩ := sees_form hs
  have hk0 := Lib.hid (Blk.new w (keyA key) 24)
  have hb0 := Lib.hid (show Below w.heap.size w (w.alloc (.cells (keyA key) 24)) by go_grown)
  have hst : Stab (fun u => Blk u w.heap.size (keyA key) 24) := Stab.blk _ _ _
  have hk : HoldT (fun u => Blk u w.heap.size (keyA key) 24) w (w.alloc (.cells (keyA key) 24)).drew := HoldT.drew hst ⟨hk0.out, hb0.out⟩
  by_cases h16 : b.length < 16
  · obtain ⟨a0, c0, rfl, hac0, hc0⟩ := sees_form hv
    have HO := Lib.hid (openL_short (key := key) (bs := bs) h16)
    have hd : (b.length : Int) - 16 < 0 := by omega
    clear hv hs
    go_enter Tryz.func85, Tryz.ntmps85
    go_wp2_with fail
    try change Code.wp _ _ _ (Act.mk _ _) _
    refine wp_region_runR Ext 15 32 (HoldT (fun u => Blk u w.heap.size (keyA key) 24) _) [[], [(0, 12)], [(1, 13)], [(2, 14)], [(2, 14)], [(2, 14)], [(2, 14)], [(5, 17), (6, 18), (2, 14)], [(3, 15), (4, 16), (7, 19), (2, 14)], [(2, 14)], [(2, 14)], [(9, 21), (10, 22), (2, 14)], [(8, 20), (11, 23), (2, 14)], [(12, 24), (2, 14)], [(2, 14), (13, 25)]] [(0, 12), (1, 13), (2, 14), (3, 15), (4, 16), (5, 17), (6, 18), (7, 19), (8, 20), (9, 21), (10, 22), (11, 23), (12, 24), (13, 25), (14, 26)] (by kernel_rfl) (by kernel_rfl) (by first | rfl | simp) (hk) ?_
    simp only [List.take_succ_cons, List.take_zero, List.drop_succ_cons, List.drop_zero]
    refine sp_op (Ph.eq _) (fun u hu => by
      refine spArg_nil ?_
      go_wp2_with (fail)
      exact ⟨rfl, hu, Ext.refl _, slot_eq rfl⟩) ?_
    refine sp_op (Ph.eq _) (fun u hu => by
      refine spArg_eq 0 rfl rfl ?_
      refine spArg_nil ?_
      simp only [Act.put, List.setIfInBounds_toArray, List.set_cons_succ, List.set_cons_zero]
      go_wp2_with (fail)
      exact ⟨rfl, hu, Ext.refl _, slot_eq rfl⟩) ?_
    refine sp_op (Ph.eq _) (fun u hu => by
      refine spArg_eq 0 rfl rfl ?_
      refine spArg_nil ?_
      simp only [Act.put, List.setIfInBounds_toArray, List.set_cons_succ, List.set_cons_zero]
      go_wp2_with (fail)
      exact ⟨rfl, hu, Ext.refl _, slot_eq rfl⟩) ?_
    refine sp_op (Ph.eq _) (fun u hu => by
      refine spArg_eq 0 rfl rfl ?_
      refine spArg_nil ?_
      simp only [Act.put, List.setIfInBounds_toArray, List.set_cons_succ, List.set_cons_zero]
      go_wp2_with (fail)
      exact ⟨rfl, hu, Ext.refl _, slot_eq rfl⟩) ?_
    refine sp_op (Ph.eq _) (fun u hu => by
      refine spArg_eq 1 rfl rfl ?_
      refine spArg_nil ?_
      simp only [Act.put, List.setIfInBounds_toArray, List.set_cons_succ, List.set_cons_zero]
      go_wp2_with (fail)
      exact ⟨rfl, hu, Ext.refl _, slot_eq rfl⟩) ?_
    refine sp_op (Ph.eq _) (fun u hu => by
      refine spArg_eq 2 rfl rfl ?_
      refine spArg_nil ?_
      simp only [Act.put, List.setIfInBounds_toArray, List.set_cons_succ, List.set_cons_zero]
      go_wp2_with (fail)
      exact ⟨rfl, hu, Ext.refl _, slot_eq rfl⟩) ?_
    refine sp_op (Ph.eq _) (fun u hu => by
      refine spArg_eq 3 rfl rfl ?_
      refine spArg_nil ?_
      simp only [Act.put, List.setIfInBounds_toArray, List.set_cons_succ, List.set_cons_zero]
      go_wp2_with (fail)
      exact ⟨rfl, hu, Ext.refl _, slot_eq rfl⟩) ?_
    refine sp_op (Ph.eq _) (fun u hu => by
      refine spArg_eq 1 rfl rfl ?_
      refine spArg_eq 0 rfl rfl ?_
      refine spArg_eq 4 rfl rfl ?_
      refine spArg_nil ?_
      simp only [Act.put, List.setIfInBounds_toArray, List.set_cons_succ, List.set_cons_zero]
      go_wp2_with (fail)
      exact ⟨rfl, hu, Ext.refl _, slot_eq rfl⟩) ?_
    refine sp_op (Ph.eq _) (fun u hu => by
      refine spArg_eq 4 rfl rfl ?_
      refine spArg_eq 3 rfl rfl ?_
      refine spArg_eq 0 rfl rfl ?_
      refine spArg_eq 5 rfl rfl ?_
      refine spArg_nil ?_
      simp only [Act.put, List.setIfInBounds_toArray, List.set_cons_succ, List.set_cons_zero]
      go_wp2_with (fail)
      exact ⟨rfl, hu, Ext.refl _, slot_eq rfl⟩) ?_
    refine sp_op (Ph.eq _) (fun u hu => by
      refine spArg_eq 6 rfl rfl ?_
      refine spArg_nil ?_
      simp only [Act.put, List.setIfInBounds_toArray, List.set_cons_succ, List.set_cons_zero]
      go_wp2_with (fail)
      exact ⟨rfl, hu, Ext.refl _, slot_eq rfl⟩) ?_
    refine sp_op (Ph.eq _) (fun u hu => by
      refine spArg_eq 7 rfl rfl ?_
      refine spArg_nil ?_
      simp only [Act.put, List.setIfInBounds_toArray, List.set_cons_succ, List.set_cons_zero]
      go_wp2_with (fail)
      exact ⟨rfl, hu, Ext.refl _, slot_eq rfl⟩) ?_
    refine sp_op (Ph.eq _) (fun u hu => by
      refine spArg_eq 1 rfl rfl ?_
      refine spArg_eq 0 rfl rfl ?_
      refine spArg_eq 8 rfl rfl ?_
      refine spArg_nil ?_
      simp only [Act.put, List.setIfInBounds_toArray, List.set_cons_succ, List.set_cons_zero]
      go_wp2_with (fail)
      exact ⟨rfl, hu, Ext.refl _, slot_eq rfl⟩) ?_
    refine sp_op (Ph.eq _) (fun u hu => by
      refine spArg_eq 3 rfl rfl ?_
      refine spArg_eq 0 rfl rfl ?_
      refine spArg_eq 9 rfl rfl ?_
      refine spArg_nil ?_
      simp only [Act.put, List.setIfInBounds_toArray, List.set_cons_succ, List.set_cons_zero]
      go_wp2_with (fail)
      exact ⟨rfl, hu, Ext.refl _, slot_eq rfl⟩) ?_
    refine sp_op (Ph.eq _) (fun u hu => by
      refine spArg_eq 0 rfl rfl ?_
      refine spArg_eq 10 rfl rfl ?_
      refine spArg_nil ?_
      simp only [Act.put, List.setIfInBounds_toArray, List.set_cons_succ, List.set_cons_zero]
      go_wp2_with (fail)
      exact ⟨rfl, hu, Ext.refl _, slot_eq rfl⟩) ?_
    refine sp_op (Ph.eq _) (fun u hu => by
      refine spArg_eq 11 rfl rfl ?_
      refine spArg_eq 0 rfl rfl ?_
      refine spArg_nil ?_
      simp only [Act.put, List.setIfInBounds_toArray, List.set_cons_succ, List.set_cons_zero]
      go_wp2_with (fail)
      exact ⟨rfl, hu, Ext.refl _, slot_eq rfl⟩) ?_
    refine sp_end ?_
    intro u hu
    refine spArg_eq 14 rfl rfl ?_
    refine spArg_eq 13 rfl rfl ?_
    refine spArg_eq 12 rfl rfl ?_
    refine spArg_eq 11 rfl rfl ?_
    refine spArg_eq 10 rfl rfl ?_
    refine spArg_eq 9 rfl rfl ?_
    refine spArg_eq 8 rfl rfl ?_
    refine spArg_eq 7 rfl rfl ?_
    refine spArg_eq 6 rfl rfl ?_
    refine spArg_eq 5 rfl rfl ?_
    refine spArg_eq 4 rfl rfl ?_
    refine spArg_eq 3 rfl rfl ?_
    refine spArg_eq 2 rfl rfl ?_
    refine spArg_eq 1 rfl rfl ?_
    refine spArg_eq 0 rfl rfl ?_
    refine spArg_nil ?_
    simp only [Act.put, List.setIfInBounds_toArray, List.set_cons_succ, List.set_cons_zero]
    go_wp2_with fail
    go_ret2
    exact ⟨_, by rw [HO.out]; rfl, by rw [HO.out]; exact ownB_nil _ _, hu.up⟩
  · obtain ⟨g, o, c0, rfl, hac0, hc0, -⟩ := seesB_open hv (by omega)
    obtain ⟨n, hn⟩ : ∃ n, b.length = n + 16 := ⟨b.length - 16, by omega⟩
    have hsT := seesB_take hv n (by omega)
    have hsD := seesB_drop hv n (by omega)
    rw [if_neg (by omega), hn, Nat.add_sub_cancel_left] at hsD
    have HO0 := openL_long (key := key) (bs := bs) hn
    have htl : (b.take n).length = n := by rw [List.length_take]; omega
    have hTA := fun (w' : World) (u1 u2 : Value) (h1 : SeesB w' u1 bs) (h2 : SeesB w' u2 (b.take n)) => tagged_any key bs (b.take n) u1 u2 w' HK.out h1 h2 hl1 (by omega)
    have hSA := fun (w' : World) (u2 : Value) (h2 : SeesB w' u2 (b.take n)) => turned_any key (b.take n) u2 w' HK.out h2 (by omega)
    have hlen : n + 16 ≤ 20000000000000 := by omega
    have hd0 : decide ((n : Int) < 0) = false := decide_eq_false (by omega)
    rw [hn]
    generalize tagL key bs (b.take n) = T at *
    generalize turnL key (b.take n) = P at *
    generalize b.take n = bt at *
    generalize b.drop n = D at *
    have hsl := fun W => run_sliceB_to (some ⟨g, o, none⟩) (n + 16) c0 n (by omega) W
    rw [if_neg (by omega), Option.map_some, addr_add, Nat.add_zero] at hsl
    have hsr := fun W => run_sliceB_from (some ⟨g, o, none⟩) (n + 16) c0 n (by omega) W
    rw [if_neg (by omega), Option.map_some, addr_add, Nat.add_sub_cancel_left] at hsr
    rw [Option.map_some, addr_add] at hsD
    have HTA := Lib.hid hTA; have HSA := Lib.hid hSA; have HD := Lib.hid hsD; have HT := Lib.hid hsT; have HS := Lib.hid hs
    clear hTA hSA hsD hsT hs hn htl hv
    by_cases hTD : T = D
    · rw [if_pos hTD] at HO0
      have HO := Lib.hid HO0; clear HO0
      have hne : (T == D) = true := by rw [hTD]; exact beq_self_eq_true _
      clear hTD
      go_enter Tryz.func85, Tryz.ntmps85
      go_wp2_with fail
      try change Code.wp _ _ _ (Act.mk _ _) _
      refine wp_region_runR Ext 15 32 (HoldT (fun u => Blk u w.heap.size (keyA key) 24) _) [[], [(0, 12)], [(1, 13)], [(2, 14)], [(2, 14)], [(2, 14)], [(2, 14)], [(5, 17), (6, 18), (2, 14)], [(3, 15), (4, 16), (7, 19), (2, 14)], [(2, 14)], [(2, 14)], [(9, 21), (10, 22), (2, 14)], [(8, 20), (11, 23), (2, 14)], [(12, 24), (2, 14)], [(2, 14), (13, 25)]] [(0, 12), (1, 13), (2, 14), (3, 15), (4, 16), (5, 17), (6, 18), (7, 19), (8, 20), (9, 21), (10, 22), (11, 23), (12, 24), (13, 25), (14, 26)] (by kernel_rfl) (by kernel_rfl) (by first | rfl | simp) (hk) ?_
      simp only [List.take_succ_cons, List.take_zero, List.drop_succ_cons, List.drop_zero]
      refine sp_op (Ph.eq _) (fun u hu => by
        refine spArg_nil ?_
        go_wp2_with (fail)
        exact ⟨rfl, hu, Ext.refl _, slot_eq rfl⟩) ?_
      refine sp_op (Ph.eq _) (fun u hu => by
        refine spArg_eq 0 rfl rfl ?_
        refine spArg_nil ?_
        simp only [Act.put, List.setIfInBounds_toArray, List.set_cons_succ, List.set_cons_zero]
        go_wp2_with (fail)
        exact ⟨rfl, hu, Ext.refl _, slot_eq rfl⟩) ?_
      refine sp_op (Ph.eq _) (fun u hu => by
        refine spArg_eq 0 rfl rfl ?_
        refine spArg_nil ?_
        simp only [Act.put, List.setIfInBounds_toArray, List.set_cons_succ, List.set_cons_zero]
        go_wp2_with (fail)
        exact ⟨rfl, hu, Ext.refl _, slot_eq rfl⟩) ?_
      refine sp_op (Ph.eq (.agg (keyA key))) (fun u hu => by
        refine spArg_eq 0 rfl rfl ?_
        refine spArg_nil ?_
        simp only [Act.put, List.setIfInBounds_toArray, List.set_cons_succ, List.set_cons_zero]
        go_wp2_with ((refine wpList_load_rowG rfl 24 _ rfl w.heap.size rfl _ _ (0, 0) _ hu.has under_key rfl (by rw [keyA_size, HK.out]; exact info_key) ?_))
        exact ⟨rfl, hu, Ext.refl _, slot_eq rfl⟩) ?_
      refine sp_op (Ph.eq _) (fun u hu => by
        refine spArg_eq 1 rfl rfl ?_
        refine spArg_nil ?_
        simp only [Act.put, List.setIfInBounds_toArray, List.set_cons_succ, List.set_cons_zero]
        go_wp2_with (fail)
        exact ⟨rfl, hu, Ext.refl _, slot_eq rfl⟩) ?_
      refine sp_op (Ph.eq _) (fun u hu => by
        refine spArg_eq 2 rfl rfl ?_
        refine spArg_nil ?_
        simp only [Act.put, List.setIfInBounds_toArray, List.set_cons_succ, List.set_cons_zero]
        go_wp2_with (fail)
        exact ⟨rfl, hu, Ext.refl _, slot_eq rfl⟩) ?_
      refine sp_op (Ph.eq _) (fun u hu => by
        refine spArg_eq 3 rfl rfl ?_
        refine spArg_nil ?_
        simp only [Act.put, List.setIfInBounds_toArray, List.set_cons_succ, List.set_cons_zero]
        go_wp2_with (fail)
        exact ⟨rfl, hu, Ext.refl _, slot_eq rfl⟩) ?_
      refine sp_op (Ph.eq _) (fun u hu => by
        refine spArg_eq 1 rfl rfl ?_
        refine spArg_eq 0 rfl rfl ?_
        refine spArg_eq 4 rfl rfl ?_
        refine spArg_nil ?_
        simp only [Act.put, List.setIfInBounds_toArray, List.set_cons_succ, List.set_cons_zero]
        go_wp2_with (fail)
        exact ⟨rfl, hu, Ext.refl _, slot_eq rfl⟩) ?_
      refine sp_op (Ph.seesB T) (fun u hu => by
        refine spArg_eq 4 rfl rfl ?_
        refine spArg_eq 3 rfl rfl ?_
        refine spArg_eq 0 rfl rfl ?_
        refine spArg_eq 5 rfl rfl ?_
        refine spArg_nil ?_
        simp only [Act.put, List.setIfInBounds_toArray, List.set_cons_succ, List.set_cons_zero]
        go_wp2_with ((go_at_call 135; refine (HTA.out _ _ _ (HS.out.below hu.up (by decide)) (HT.out.below hu.up (by decide))).mono ?_; rintro e x3 ⟨v3, rfl, hs3, ho3, hb3⟩))
        exact ⟨rfl, HoldT.step hst hu hb3, hb3, slot_of rfl hs3⟩) ?_
      refine sp_op (Ph.eq _) (fun u hu => by
        refine spArg_eq 6 rfl rfl ?_
        refine spArg_nil ?_
        simp only [Act.put, List.setIfInBounds_toArray, List.set_cons_succ, List.set_cons_zero]
        go_wp2_with (fail)
        exact ⟨rfl, hu, Ext.refl _, slot_eq rfl⟩) ?_
      refine sp_op (Ph.eq _) (fun u hu => by
        refine spArg_eq 7 rfl rfl ?_
        refine spArg_nil ?_
        simp only [Act.put, List.setIfInBounds_toArray, List.set_cons_succ, List.set_cons_zero]
        go_wp2_with (fail)
        exact ⟨rfl, hu, Ext.refl _, slot_eq rfl⟩) ?_
      refine sp_op (Ph.eq _) (fun u hu => by
        refine spArg_eq 1 rfl rfl ?_
        refine spArg_eq 0 rfl rfl ?_
        refine spArg_eq 8 rfl rfl ?_
        refine spArg_nil ?_
        simp only [Act.put, List.setIfInBounds_toArray, List.set_cons_succ, List.set_cons_zero]
        go_wp2_with (fail)
        exact ⟨rfl, hu, Ext.refl _, slot_eq rfl⟩) ?_
      refine sp_op (Ph.eq (.bool _)) (fun u hu => by
        refine spArg_in (φ := Ph.seesB T) 3 rfl rfl ?_; intro v8 h8
        skip
        refine spArg_eq 0 rfl rfl ?_
        refine spArg_eq 9 rfl rfl ?_
        refine spArg_nil ?_
        simp only [Act.put, List.setIfInBounds_toArray, List.set_cons_succ, List.set_cons_zero]
        go_wp2_with ((go_at_call 134; refine (BytesEq_any T D _ _ _ h8 (HD.out.below hu.up (by decide))).mono ?_; rintro e x4 ⟨rfl, rfl⟩))
        exact ⟨rfl, hu, Ext.refl _, slot_eq rfl⟩) ?_
      refine sp_op (Ph.eq _) (fun u hu => by
        refine spArg_eq 0 rfl rfl ?_
        refine spArg_eq 10 rfl rfl ?_
        refine spArg_nil ?_
        simp only [Act.put, List.setIfInBounds_toArray, List.set_cons_succ, List.set_cons_zero]
        go_wp2_with (fail)
        exact ⟨rfl, hu, Ext.refl _, slot_eq rfl⟩) ?_
      refine sp_op (Ph.eq _) (fun u hu => by
        refine spArg_eq 11 rfl rfl ?_
        refine spArg_eq 0 rfl rfl ?_
        refine spArg_nil ?_
        simp only [Act.put, List.setIfInBounds_toArray, List.set_cons_succ, List.set_cons_zero]
        go_wp2_with (fail)
        exact ⟨rfl, hu, Ext.refl _, slot_eq rfl⟩) ?_
      refine sp_end ?_
      intro u hu
      refine spArg_eq 14 rfl rfl ?_
      refine spArg_eq 13 rfl rfl ?_
      refine spArg_eq 12 rfl rfl ?_
      refine spArg_eq 11 rfl rfl ?_
      refine spArg_eq 10 rfl rfl ?_
      refine spArg_eq 9 rfl rfl ?_
      refine spArg_eq 8 rfl rfl ?_
      refine spArg_eq 7 rfl rfl ?_
      refine spArg_in (φ := Ph.seesB T) 6 rfl rfl ?_; intro v8 h8
      skip
      refine spArg_eq 5 rfl rfl ?_
      refine spArg_eq 4 rfl rfl ?_
      refine spArg_eq 3 rfl rfl ?_
      refine spArg_eq 2 rfl rfl ?_
      refine spArg_eq 1 rfl rfl ?_
      refine spArg_eq 0 rfl rfl ?_
      refine spArg_nil ?_
      simp only [Act.put, List.setIfInBounds_toArray, List.set_cons_succ, List.set_cons_zero]
      go_wp2_with fail
      have hk4 : HoldT (fun u => Blk u w.heap.size (keyA key) 24) w u.drew := HoldT.drew hst hu
      try change Code.wp _ _ _ (Act.mk _ _) _
      refine wp_region_runR Ext 7 32 (HoldT (fun u => Blk u w.heap.size (keyA key) 24) _) [[], [], [], [(1, 28), (2, 29)], [(0, 27), (3, 30)], [(4, 31)], []] [(0, 27), (1, 28), (2, 29), (3, 30), (4, 31), (5, 6), (6, 7)] (by kernel_rfl) (by kernel_rfl) (by first | rfl | simp) (hk4) ?_
      simp only [List.take_succ_cons, List.take_zero, List.drop_succ_cons, List.drop_zero]
      refine sp_op (Ph.eq (.agg (keyA key))) (fun u hu => by
        refine spArg_nil ?_
        go_wp2_with ((refine wpList_load_row rfl 24 _ rfl w.heap.size rfl _ _ (0, 0) _ hu.has under_key rfl (by rw [keyA_size, HK.out]; exact info_key) ?_))
        exact ⟨rfl, hu, Ext.refl _, slot_eq rfl⟩) ?_
      refine sp_op (Ph.eq _) (fun u hu => by
        refine spArg_nil ?_
        go_wp2_with (fail)
        exact ⟨rfl, hu, Ext.refl _, slot_eq rfl⟩) ?_
      refine sp_op (Ph.eq _) (fun u hu => by
        refine spArg_nil ?_
        go_wp2_with (fail)
        exact ⟨rfl, hu, Ext.refl _, slot_eq rfl⟩) ?_
      refine sp_op (Ph.eq _) (fun u hu => by
        refine spArg_eq 1 rfl rfl ?_
        refine spArg_eq 0 rfl rfl ?_
        refine spArg_nil ?_
        simp only [Act.put, List.setIfInBounds_toArray, List.set_cons_succ, List.set_cons_zero]
        go_wp2_with (fail)
        exact ⟨rfl, hu, Ext.refl _, slot_eq rfl⟩) ?_
      refine sp_op (Ph.ownB w.heap.size P) (fun u hu => by
        refine spArg_eq 3 rfl rfl ?_
        refine spArg_eq 0 rfl rfl ?_
        refine spArg_nil ?_
        simp only [Act.put, List.setIfInBounds_toArray, List.set_cons_succ, List.set_cons_zero]
        go_wp2_with ((go_at_call 136; refine (HSA.out _ _ (HT.out.below hu.up (by decide))).mono ?_; rintro e x5 ⟨v5, rfl, hown5, hb5⟩))
        exact ⟨rfl, HoldT.step hst hu hb5, hb5, slot_of rfl (owns_mono hown5 hu.up.size)⟩) ?_
      refine sp_op (Ph.ownB w.heap.size P) (fun u hu => by
        refine spArg_in (φ := Ph.ownB w.heap.size P) 0 rfl rfl ?_; intro v4 h4
        skip
        refine spArg_nil ?_
        simp only [Act.put, List.setIfInBounds_toArray, List.set_cons_succ, List.set_cons_zero]
        go_wp2_with (fail)
        exact ⟨rfl, hu, Ext.refl _, slot_of rfl h4⟩) ?_
      refine sp_op (Ph.eq _) (fun u hu => by
        refine spArg_nil ?_
        go_wp2_with (fail)
        exact ⟨rfl, hu, Ext.refl _, slot_eq rfl⟩) ?_
      refine sp_end ?_
      intro u hu
      refine spArg_eq 6 rfl rfl ?_
      refine spArg_eq 5 rfl rfl ?_
      refine spArg_eq 4 rfl rfl ?_
      refine spArg_eq 3 rfl rfl ?_
      refine spArg_in (φ := Ph.ownB w.heap.size P) 2 rfl rfl ?_; intro v4 h4
      skip
      refine spArg_in (φ := Ph.ownB w.heap.size P) 1 rfl rfl ?_; intro v5 h5
      skip
      refine spArg_eq 0 rfl rfl ?_
      refine spArg_nil ?_
      simp only [Act.put, List.setIfInBounds_toArray, List.set_cons_succ, List.set_cons_zero]
      go_wp2_with fail
      go_ret2
      exact ⟨_, by rw [HO.out]; rfl, by rw [HO.out]; exact h5, hu.up⟩
    · rw [if_neg hTD] at HO0
      have HO := Lib.hid HO0; clear HO0
      have hne : (T == D) = false := by rw [beq_eq_false_iff_ne]; exact hTD
      clear hTD
      go_enter Tryz.func85, Tryz.ntmps85
      go_wp2_with fail
      try change Code.wp _ _ _ (Act.mk _ _) _
      refine wp_region_runR Ext 15 32 (HoldT (fun u => Blk u w.heap.size (keyA key) 24) _) [[], [(0, 12)], [(1, 13)], [(2, 14)], [(2, 14)], [(2, 14)], [(2, 14)], [(5, 17), (6, 18), (2, 14)], [(3, 15), (4, 16), (7, 19), (2, 14)], [(2, 14)], [(2, 14)], [(9, 21), (10, 22), (2, 14)], [(8, 20), (11, 23), (2, 14)], [(12, 24), (2, 14)], [(2, 14), (13, 25)]] [(0, 12), (1, 13), (2, 14), (3, 15), (4, 16), (5, 17), (6, 18), (7, 19), (8, 20), (9, 21), (10, 22), (11, 23), (12, 24), (13, 25), (14, 26)] (by kernel_rfl) (by kernel_rfl) (by first | rfl | simp) (hk) ?_
      simp only [List.take_succ_cons, List.take_zero, List.drop_succ_cons, List.drop_zero]
      refine sp_op (Ph.eq _) (fun u hu => by
        refine spArg_nil ?_
        go_wp2_with (fail)
        exact ⟨rfl, hu, Ext.refl _, slot_eq rfl⟩) ?_
      refine sp_op (Ph.eq _) (fun u hu => by
        refine spArg_eq 0 rfl rfl ?_
        refine spArg_nil ?_
        simp only [Act.put, List.setIfInBounds_toArray, List.set_cons_succ, List.set_cons_zero]
        go_wp2_with (fail)
        exact ⟨rfl, hu, Ext.refl _, slot_eq rfl⟩) ?_
      refine sp_op (Ph.eq _) (fun u hu => by
        refine spArg_eq 0 rfl rfl ?_
        refine spArg_nil ?_
        simp only [Act.put, List.setIfInBounds_toArray, List.set_cons_succ, List.set_cons_zero]
        go_wp2_with (fail)
        exact ⟨rfl, hu, Ext.refl _, slot_eq rfl⟩) ?_
      refine sp_op (Ph.eq (.agg (keyA key))) (fun u hu => by
        refine spArg_eq 0 rfl rfl ?_
        refine spArg_nil ?_
        simp only [Act.put, List.setIfInBounds_toArray, List.set_cons_succ, List.set_cons_zero]
        go_wp2_with ((refine wpList_load_rowG rfl 24 _ rfl w.heap.size rfl _ _ (0, 0) _ hu.has under_key rfl (by rw [keyA_size, HK.out]; exact info_key) ?_))
        exact ⟨rfl, hu, Ext.refl _, slot_eq rfl⟩) ?_
      refine sp_op (Ph.eq _) (fun u hu => by
        refine spArg_eq 1 rfl rfl ?_
        refine spArg_nil ?_
        simp only [Act.put, List.setIfInBounds_toArray, List.set_cons_succ, List.set_cons_zero]
        go_wp2_with (fail)
        exact ⟨rfl, hu, Ext.refl _, slot_eq rfl⟩) ?_
      refine sp_op (Ph.eq _) (fun u hu => by
        refine spArg_eq 2 rfl rfl ?_
        refine spArg_nil ?_
        simp only [Act.put, List.setIfInBounds_toArray, List.set_cons_succ, List.set_cons_zero]
        go_wp2_with (fail)
        exact ⟨rfl, hu, Ext.refl _, slot_eq rfl⟩) ?_
      refine sp_op (Ph.eq _) (fun u hu => by
        refine spArg_eq 3 rfl rfl ?_
        refine spArg_nil ?_
        simp only [Act.put, List.setIfInBounds_toArray, List.set_cons_succ, List.set_cons_zero]
        go_wp2_with (fail)
        exact ⟨rfl, hu, Ext.refl _, slot_eq rfl⟩) ?_
      refine sp_op (Ph.eq _) (fun u hu => by
        refine spArg_eq 1 rfl rfl ?_
        refine spArg_eq 0 rfl rfl ?_
        refine spArg_eq 4 rfl rfl ?_
        refine spArg_nil ?_
        simp only [Act.put, List.setIfInBounds_toArray, List.set_cons_succ, List.set_cons_zero]
        go_wp2_with (fail)
        exact ⟨rfl, hu, Ext.refl _, slot_eq rfl⟩) ?_
      refine sp_op (Ph.seesB T) (fun u hu => by
        refine spArg_eq 4 rfl rfl ?_
        refine spArg_eq 3 rfl rfl ?_
        refine spArg_eq 0 rfl rfl ?_
        refine spArg_eq 5 rfl rfl ?_
        refine spArg_nil ?_
        simp only [Act.put, List.setIfInBounds_toArray, List.set_cons_succ, List.set_cons_zero]
        go_wp2_with ((go_at_call 135; refine (HTA.out _ _ _ (HS.out.below hu.up (by decide)) (HT.out.below hu.up (by decide))).mono ?_; rintro e x3 ⟨v3, rfl, hs3, ho3, hb3⟩))
        exact ⟨rfl, HoldT.step hst hu hb3, hb3, slot_of rfl hs3⟩) ?_
      refine sp_op (Ph.eq _) (fun u hu => by
        refine spArg_eq 6 rfl rfl ?_
        refine spArg_nil ?_
        simp only [Act.put, List.setIfInBounds_toArray, List.set_cons_succ, List.set_cons_zero]
        go_wp2_with (fail)
        exact ⟨rfl, hu, Ext.refl _, slot_eq rfl⟩) ?_
      refine sp_op (Ph.eq _) (fun u hu => by
        refine spArg_eq 7 rfl rfl ?_
        refine spArg_nil ?_
        simp only [Act.put, List.setIfInBounds_toArray, List.set_cons_succ, List.set_cons_zero]
        go_wp2_with (fail)
        exact ⟨rfl, hu, Ext.refl _, slot_eq rfl⟩) ?_
      refine sp_op (Ph.eq _) (fun u hu => by
        refine spArg_eq 1 rfl rfl ?_
        refine spArg_eq 0 rfl rfl ?_
        refine spArg_eq 8 rfl rfl ?_
        refine spArg_nil ?_
        simp only [Act.put, List.setIfInBounds_toArray, List.set_cons_succ, List.set_cons_zero]
        go_wp2_with (fail)
        exact ⟨rfl, hu, Ext.refl _, slot_eq rfl⟩) ?_
      refine sp_op (Ph.eq (.bool _)) (fun u hu => by
        refine spArg_in (φ := Ph.seesB T) 3 rfl rfl ?_; intro v8 h8
        skip
        refine spArg_eq 0 rfl rfl ?_
        refine spArg_eq 9 rfl rfl ?_
        refine spArg_nil ?_
        simp only [Act.put, List.setIfInBounds_toArray, List.set_cons_succ, List.set_cons_zero]
        go_wp2_with ((go_at_call 134; refine (BytesEq_any T D _ _ _ h8 (HD.out.below hu.up (by decide))).mono ?_; rintro e x4 ⟨rfl, rfl⟩))
        exact ⟨rfl, hu, Ext.refl _, slot_eq rfl⟩) ?_
      refine sp_op (Ph.eq _) (fun u hu => by
        refine spArg_eq 0 rfl rfl ?_
        refine spArg_eq 10 rfl rfl ?_
        refine spArg_nil ?_
        simp only [Act.put, List.setIfInBounds_toArray, List.set_cons_succ, List.set_cons_zero]
        go_wp2_with (fail)
        exact ⟨rfl, hu, Ext.refl _, slot_eq rfl⟩) ?_
      refine sp_op (Ph.eq _) (fun u hu => by
        refine spArg_eq 11 rfl rfl ?_
        refine spArg_eq 0 rfl rfl ?_
        refine spArg_nil ?_
        simp only [Act.put, List.setIfInBounds_toArray, List.set_cons_succ, List.set_cons_zero]
        go_wp2_with (fail)
        exact ⟨rfl, hu, Ext.refl _, slot_eq rfl⟩) ?_
      refine sp_end ?_
      intro u hu
      refine spArg_eq 14 rfl rfl ?_
      refine spArg_eq 13 rfl rfl ?_
      refine spArg_eq 12 rfl rfl ?_
      refine spArg_eq 11 rfl rfl ?_
      refine spArg_eq 10 rfl rfl ?_
      refine spArg_eq 9 rfl rfl ?_
      refine spArg_eq 8 rfl rfl ?_
      refine spArg_eq 7 rfl rfl ?_
      refine spArg_in (φ := Ph.seesB T) 6 rfl rfl ?_; intro v8 h8
      skip
      refine spArg_eq 5 rfl rfl ?_
      refine spArg_eq 4 rfl rfl ?_
      refine spArg_eq 3 rfl rfl ?_
      refine spArg_eq 2 rfl rfl ?_
      refine spArg_eq 1 rfl rfl ?_
      refine spArg_eq 0 rfl rfl ?_
      refine spArg_nil ?_
      simp only [Act.put, List.setIfInBounds_toArray, List.set_cons_succ, List.set_cons_zero]
      go_wp2_with fail
      go_ret2
      exact ⟨_, by rw [HO.out]; rfl, by rw [HO.out]; exact ownB_nil _ _, hu.up⟩

set_option maxHeartbeats 1000000 in
theorem BesideI_any (n : Int) (w : World) :
    Calls Tryz.prog 192 #[.int .i64 n] w (RetB (besL n) w) := by
  have HB := Lib.hid (show besL n = put64 (u64of n).toNat from rfl)
  obtain ⟨m0, m1⟩ := in64_u64of n
  have hA := fun w' : World => Put64_any w' (.slice none 0 0) [] (u64of n) (Sees.nil _ _) m0 m1 (by simp)
  unfold u64of at hA HB
  have HA := Lib.hid hA; clear hA m0 m1
  go_enter Tryz.func192, Tryz.ntmps192
  go_wp2_with (go_at_call 110; refine (HA.out _).mono ?_; rintro e w1 ⟨v1, rfl, hown1, hb1⟩; rw [List.nil_append] at hown1)
  go_ret
  exact RetB.mk (by rw [HB.out]; exact hown1) hb1
set_option maxRecDepth 100000 in
set_option maxHeartbeats 1000000 in
theorem Same2r_any (e1 e2 : Ent) (v1 v2 : Value) (w : World) (h1 : SeesB w v1 e1.box) (h2 : SeesB w v2 e2.box) :
    Calls Tryz.prog 57 #[.agg #[.int .u64 e1.x, v1], .agg #[.int .u64 e2.x, v2]] w fun e w' => e = .returned (.bool (decide (e1 = e2))) ∧ Below w.heap.size w w' := by
  obtain ⟨x1, b1⟩ := e1
  obtain ⟨x2, b2⟩ := e2
  simp only at h1 h2
  obtain ⟨a1, c1, rfl, -, -⟩ := sees_form h1
  obtain ⟨a2, c2, rfl, -, -⟩ := sees_form h2
  have hb0 : Below w.heap.size w ((w.alloc (.cells #[.int .u64 x1, .slice a1 b1.length c1] 46)).alloc (.cells #[.int .u64 x2, .slice a2 b2.length c2] 46)) := by go_grown
  have hs1 := h1.below hb0 (by decide)
  have hs2 := h2.below hb0 (by decide)
  have hc1 := conv_str _ _ _ hs1
  have hc2 := conv_str _ _ _ hs2
  have HB := Lib.hid hb0; have HS1 := Lib.hid hs1; have HS2 := Lib.hid hs2
  clear hb0 h1 h2 hs1 hs2
  by_cases hx : x1 = x2
  · have hxb : (x1 == x2) = true := by rw [hx]; exact beq_self_eq_true _
    have HD := Lib.hid (show decide ((⟨x1, b1⟩ : Ent) = ⟨x2, b2⟩) = (b1 == b2) by rw [hx]; simp [Bool.beq_eq_decide_eq])
    generalize decide ((⟨x1, b1⟩ : Ent) = ⟨x2, b2⟩) = D at *
    clear hx
    go_enter Tryz.func57, Tryz.ntmps57
    go_wp2_with (fail)
    go_ret
    exact ⟨by rw [HD.out]; simp, HB.out⟩
  · have hxb : (x1 == x2) = false := by rw [beq_eq_false_iff_ne]; exact hx
    have HD := Lib.hid (show decide ((⟨x1, b1⟩ : Ent) = ⟨x2, b2⟩) = false by rw [decide_eq_false_iff_not]; intro h; cases h; exact hx rfl)
    generalize decide ((⟨x1, b1⟩ : Ent) = ⟨x2, b2⟩) = D at *
    clear hx
    go_enter Tryz.func57, Tryz.ntmps57
    go_wp2_with fail
    go_ret
    exact ⟨by rw [HD.out]; rfl, HB.out⟩
end Go.Proofs.YtbgnfioggmkdeaaGreatDoor
