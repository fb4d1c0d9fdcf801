/-
  A hop's entry opened: the reference.
-/
import Derived.Test.YtbgnfioggmkdeaaGreatDoorRop1
namespace Go.Proofs.YtbgnfioggmkdeaaGreatDoor
set_option linter.unusedVariables false
set_option linter.unusedSimpArgs false
open Go Go.RowKit
set_option maxHeartbeats 1000000 in
theorem placeI_any (n : Int) (w : World) :
    Calls Tryz.prog 130 #[.int .i64 n] w (RetB (besL n) w) := by
  have HB := Lib.hid (show besL n = put64 (u64of n).toNat from rfl)
  obtain ⟨m0, m1⟩ := in64_u64of n
  have hA := fun w' : World => Put64r_any w' (.slice none 0 0) [] (u64of n) (Sees.nil _ _) m0 m1 (by simp)
  unfold u64of at hA HB
  have HA := Lib.hid hA; clear hA m0 m1
  go_enter Tryz.func130, Tryz.ntmps130
  go_wp2_with (go_at_call 91; refine (HA.out _).mono ?_; rintro e w1 ⟨v1, rfl, hown1, hb1⟩; rw [List.nil_append] at hown1)
  go_ret
  exact RetB.mk (by rw [HB.out]; exact hown1) hb1
set_option maxRecDepth 100000 in
set_option maxHeartbeats 1000000 in
theorem peeled_any (s at_ : Int) (box : List UInt8) (v : Value) (w : World) (hs : in64 s) (hv : SeesB w v box) (hl : box.length ≤ 20000000000000) :
    Calls Tryz.prog 80 #[.int .u64 s, .int .i64 at_, v] w (RetO (openL (hopK s) (besL at_) box) w) := by
  obtain ⟨a0, c0, rfl, -, -⟩ := sees_form hv
  have HKL := Lib.hid (length_hopK s)
  have HH := Lib.hid (fun w' => HopKeyr_any s w' hs)
  have HBL := Lib.hid (length_besL at_)
  generalize hopK s = K at *
  generalize hbe : besL at_ = be at *
  have HBE := Lib.hid hbe
  have HV := Lib.hid hv
  clear hbe hv
  go_enter Tryz.func80, Tryz.ntmps80
  go_wp2_with (first
    | (go_at_call 129; refine (HH.out _).mono ?_; rintro e x1 ⟨rfl, hb1⟩; have e1 : Ext w x1 := hb1)
    | (go_at_call 130; refine (placeI_any at_ _).mono ?_; rintro e x2 ⟨v2, rfl, hown2, hb2⟩; rw [HBE.out] at hown2; have e2 : Ext w x2 := e1.tr hb2)
    | (go_at_call 84; refine (Openr_any K be box _ _ _ HKL.out (sees_of_owns hown2) (HV.out.below e2 (by decide)) (by rw [HBL.out]; decide) hl).mono ?_; rintro e x3 ⟨v3, rfl, hown3, hb3⟩; have e3 : Ext w x3 := e2.tr hb3))
  go_ret2
  exact ⟨_, rfl, owns_mono hown3 (Below.size e2), e3⟩
set_option maxRecDepth 100000 in
set_option maxHeartbeats 2000000 in
theorem OpenHop_any (bl mi inn at_ x : Int) (box : List UInt8) (v : Value) (w : World) (hbl : in64 bl) (hmi : in64 mi) (hx : in64 x) (hv : SeesB w v box) (hl : box.length ≤ 20000000000000) :
    Calls Tryz.prog 49 #[.agg (SecC bl mi inn), .int .i64 at_, .agg #[.int .u64 x, v]] w (RetOE (openE bl mi at_ x box) w) := by
  obtain ⟨a0, c0, rfl, -, -⟩ := sees_form hv
  obtain ⟨x0, x1⟩ := hx
  have hR0 : Blk (((w.alloc (.cells (SecC bl mi inn) 86)).alloc (.cells #[.int .u64 x, .slice a0 box.length c0] 46)).alloc (.cells #[.int .u64 0, .slice none 0 0] 46)) (w.heap.size + 1 + 1) #[.int .u64 0, .slice none 0 0] 46 := Blk.new3 _ _ _ _ _
  have hE0 := (Blk.new2 w (.cells (SecC bl mi inn) 86) #[.int .u64 x, .slice a0 box.length c0] 46).alloc (.cells #[.int .u64 0, .slice none 0 0] 46)
  have hs0 := ((Blk.new w (SecC bl mi inn) 86).alloc (.cells #[.int .u64 x, .slice a0 box.length c0] 46)).alloc (.cells #[.int .u64 0, .slice none 0 0] 46)
  have hb0 := show Below w.heap.size w (((w.alloc (.cells (SecC bl mi inn) 86)).alloc (.cells #[.int .u64 x, .slice a0 box.length c0] 46)).alloc (.cells #[.int .u64 0, .slice none 0 0] 46)) by go_grown
  have hstab := Stab.and (Stab.blk w.heap.size (SecC bl mi inn) 86) (Stab.and (Stab.blk (w.heap.size + 1) #[.int .u64 x, .slice a0 box.length c0] 46) (Stab.blk (w.heap.size + 1 + 1) #[.int .u64 0, .slice none 0 0] 46))
  have hk0 : HoldT (fun u => Blk u w.heap.size (SecC bl mi inn) 86 ∧ Blk u (w.heap.size + 1) #[.int .u64 x, .slice a0 box.length c0] 46 ∧ Blk u (w.heap.size + 1 + 1) #[.int .u64 0, .slice none 0 0] 46) w (((w.alloc (.cells (SecC bl mi inn) 86)).alloc (.cells #[.int .u64 x, .slice a0 box.length c0] 46)).alloc (.cells #[.int .u64 0, .slice none 0 0] 46)) := ⟨⟨hs0, hE0, hR0⟩, hb0⟩
  have HR0 := Lib.hid hR0; have HK0 := Lib.hid hk0; have HB0 := Lib.hid hb0; have HE0 := Lib.hid hE0
  clear hR0 hE0 hs0 hb0 hk0
  have HV := Lib.hid hv; clear hv
  have HMI := Lib.hid hmi; have HBLI := Lib.hid hbl
  obtain ⟨mi0, mi1⟩ := hmi
  obtain ⟨bl0, bl1⟩ := hbl
  by_cases hok : okP x
  · obtain ⟨p0, p1⟩ := timesP_pos x mi
    have hoe : openE bl mi at_ x box = (openL (hopK (timesP x mi)) (besL at_) box).map (fun b => (timesP x bl, b)) := by unfold openE; rw [if_pos hok]
    have hP := fun (s : Int) (hs : in64 s) (w' : World) (u : Value) (h : SeesB w' u box) => peeled_any s at_ box u w' hs h hl
    generalize hO : openE bl mi at_ x box = O at *
    have HOE := Lib.hid hoe
    have HP := Lib.hid hP; clear hoe hP hO
    have HT1 := Lib.hid (fun w' : World => Timesr_any x mi w' x0 x1 mi0 mi1)
    have HT2 := Lib.hid (fun w' : World => Timesr_any x bl w' x0 x1 bl0 bl1)
    generalize timesP x mi = tm at *
    generalize timesP x bl = tb at *
    have HOK := Lib.hid (decide_eq_true hok); clear hok
    have HP2 := Lib.hid (HP.out tm ⟨p0, by omega⟩); clear HP
    have hc0 : ∀ e : InC (fun u => Blk u w.heap.size (SecC bl mi inn) 86 ∧ Blk u (w.heap.size + 1) #[.int .u64 x, .slice a0 box.length c0] 46 ∧ Blk u (w.heap.size + 1 + 1) #[.int .u64 0, .slice none 0 0] 46), e.u.cell? ⟨w.heap.size + 1, 0, none⟩ = some (.int .u64 x) := fun e => by rw [e.has.2.1.cell]; rfl
    have hc1 : ∀ e : InC (fun u => Blk u w.heap.size (SecC bl mi inn) 86 ∧ Blk u (w.heap.size + 1) #[.int .u64 x, .slice a0 box.length c0] 46 ∧ Blk u (w.heap.size + 1 + 1) #[.int .u64 0, .slice none 0 0] 46), e.u.cell? ⟨w.heap.size + 1, 1, none⟩ = some (.slice a0 box.length c0) := fun e => by rw [e.has.2.1.cell]; rfl
    have hc2 : ∀ e : InC (fun u => Blk u w.heap.size (SecC bl mi inn) 86 ∧ Blk u (w.heap.size + 1) #[.int .u64 x, .slice a0 box.length c0] 46 ∧ Blk u (w.heap.size + 1 + 1) #[.int .u64 0, .slice none 0 0] 46), e.u.cell? ⟨w.heap.size, 1, none⟩ = some (.int .u64 mi) := fun e => by rw [e.has.1.cell]; rfl
    go_enter Tryz.func49, Tryz.ntmps49
    go_wp2_with (go_at_call 18; refine (Rightr_any x _ x0 x1).mono ?_; rintro e w' ⟨rfl, rfl⟩; rw [HOK.out])
    have hk := HoldT.drew hstab HK0.out
    generalize openL (hopK tm) (besL at_) box = op at *
    cases op with
    | none =>
      try change Code.wp _ _ _ (Act.mk _ _) _
      haveI hne_ : Nonempty (InC (fun u => Blk u w.heap.size (SecC bl mi inn) 86 ∧ Blk u (w.heap.size + 1) #[.int .u64 x, .slice a0 box.length c0] 46 ∧ Blk u (w.heap.size + 1 + 1) #[.int .u64 0, .slice none 0 0] 46)) := ⟨⟨_, (hk).1⟩⟩
      refine wp_region_tr (C := fun w_ => ∃ e_ : InC (fun u => Blk u w.heap.size (SecC bl mi inn) 86 ∧ Blk u (w.heap.size + 1) #[.int .u64 x, .slice a0 box.length c0] 46 ∧ Blk u (w.heap.size + 1 + 1) #[.int .u64 0, .slice none 0 0] 46), w_ = e_.u) (.step [0, 1, 2, 3, 5, 6, 7] (.alt 4 (.step [] (.alt 8 (.fin [9, 10, 11, 12, 13]) .nil)) .nil)) (by kernel_rfl) (by kernel_rfl) (fun _ _ _ _ hd_ h_ => ⟨hd_.symm.trans h_.1, h_.2⟩) ⟨⟨World.drew _, (hk).1⟩, rfl⟩ ?_
      have hk_ := hk
      repeat' (first
        | ((with_reducible refine wpTr_fin ?_)
           simp only [pickOps, List.flatMap_cons, List.flatMap_nil, List.drop_succ_cons, List.drop_zero, List.take_succ_cons, List.take_zero, List.cons_append, List.nil_append, List.append_nil]
           repeat (go_big_quiet_step (exact rfl))
           refine wpQuiet_nil ?_)
        | ((with_reducible refine wpTr_step ?_); simp only [pickOps, List.flatMap_cons, List.flatMap_nil, List.drop_succ_cons, List.drop_zero, List.take_succ_cons, List.take_zero, List.cons_append, List.nil_append, List.append_nil]; repeat (go_big_quiet_step (exact rfl))
           refine wpQuiet_nil ?_)
        | (with_reducible refine wpTr_one ?_)
        | (with_reducible refine wpTr_alt ?_ ?_)
        | (simp only [pickOps, List.flatMap_cons, List.flatMap_nil, List.drop_succ_cons, List.drop_zero, List.take_succ_cons, List.take_zero, List.cons_append, List.nil_append, List.append_nil]
           go_wp2_with (first
        | (go_at_call 46; refine (HT1.out _).mono ?_; rintro e w' ⟨rfl, rfl⟩)
        | (go_at_call 80; refine (HP2.out _ _ (HV.out.below hk_.up (by decide))).mono ?_; rintro e x5 ⟨v5, rfl, hown5, hb5⟩; have hk5 := HoldT.step hstab hk_ hb5))
           refine phPost_hold (by first | with_reducible assumption | exact HoldT.alloc hstab (by with_reducible assumption) _ | exact HoldT.alloc hstab (HoldT.alloc hstab (by with_reducible assumption) _) _) ?_
           intro hk_))
      go_wp2_with (refine wpList_store_row rfl 46 _ _ rfl (w.heap.size + 1 + 1) #[.int .u64 0, .slice none 0 0] _ _ rfl rfl hk_.has.2.2 rfl info_entry (by intro v hv; simp at hv; rcases hv with rfl | rfl <;> rfl) ?_; intro x7 hg7 hs7 hR7)
      refine bodyPost_ret (results_row_tmp Tryz.results49 _ _ (w.heap.size + 1 + 1) _ _ _ _ rfl rfl hR7 Tryz.underlying46 rfl info_entry) rfl ?_
      exact ⟨_, by rw [HOE.out]; rfl, by rw [HOE.out]; exact ownB_nil _ _, hk_.up.grown hg7 hk_.up.size (fun k hk => by cases hk; omega)⟩
    | some b =>
      try change Code.wp _ _ _ (Act.mk _ _) _
      haveI hne_ : Nonempty (InC (fun u => Blk u w.heap.size (SecC bl mi inn) 86 ∧ Blk u (w.heap.size + 1) #[.int .u64 x, .slice a0 box.length c0] 46 ∧ Blk u (w.heap.size + 1 + 1) #[.int .u64 0, .slice none 0 0] 46)) := ⟨⟨_, (hk).1⟩⟩
      refine wp_region_tr (C := fun w_ => ∃ e_ : InC (fun u => Blk u w.heap.size (SecC bl mi inn) 86 ∧ Blk u (w.heap.size + 1) #[.int .u64 x, .slice a0 box.length c0] 46 ∧ Blk u (w.heap.size + 1 + 1) #[.int .u64 0, .slice none 0 0] 46), w_ = e_.u) (.step [0, 1, 2, 3, 5, 6, 7] (.alt 4 (.step [] (.alt 8 (.fin [9, 10, 11, 12, 13]) .nil)) .nil)) (by kernel_rfl) (by kernel_rfl) (fun _ _ _ _ hd_ h_ => ⟨hd_.symm.trans h_.1, h_.2⟩) ⟨⟨World.drew _, (hk).1⟩, rfl⟩ ?_
      have hk_ := hk
      repeat' (first
        | ((with_reducible refine wpTr_fin ?_)
           simp only [pickOps, List.flatMap_cons, List.flatMap_nil, List.drop_succ_cons, List.drop_zero, List.take_succ_cons, List.take_zero, List.cons_append, List.nil_append, List.append_nil]
           repeat (go_big_quiet_step (exact rfl))
           refine wpQuiet_nil ?_)
        | ((with_reducible refine wpTr_step ?_); simp only [pickOps, List.flatMap_cons, List.flatMap_nil, List.drop_succ_cons, List.drop_zero, List.take_succ_cons, List.take_zero, List.cons_append, List.nil_append, List.append_nil]; repeat (go_big_quiet_step (exact rfl))
           refine wpQuiet_nil ?_)
        | (with_reducible refine wpTr_one ?_)
        | (with_reducible refine wpTr_alt ?_ ?_)
        | (simp only [pickOps, List.flatMap_cons, List.flatMap_nil, List.drop_succ_cons, List.drop_zero, List.take_succ_cons, List.take_zero, List.cons_append, List.nil_append, List.append_nil]
           go_wp2_with (first
        | (go_at_call 46; refine (HT1.out _).mono ?_; rintro e w' ⟨rfl, rfl⟩)
        | (go_at_call 80; refine (HP2.out _ _ (HV.out.below hk_.up (by decide))).mono ?_; rintro e x5 ⟨v5, rfl, hown5, hb5⟩; have hk5 := HoldT.step hstab hk_ hb5))
           refine phPost_hold (by first | with_reducible assumption | exact HoldT.alloc hstab (by with_reducible assumption) _ | exact HoldT.alloc hstab (HoldT.alloc hstab (by with_reducible assumption) _) _) ?_
           intro hk_))
      simp only [Option.getD_some] at hown5
      obtain ⟨a5, c5, rfl, -, -⟩ := owns_form hown5
      have hd0 : x5.cell? ⟨w.heap.size + 1, 0, none⟩ = some (.int .u64 x) := by rw [hk_.has.2.1.cell]; rfl
      have hd1 : x5.cell? ⟨w.heap.size, 0, none⟩ = some (.int .u64 bl) := by rw [hk_.has.1.cell]; rfl
      go_wp2_with (first
        | (go_at_call 46; refine (HT2.out _).mono ?_; rintro e w' ⟨rfl, rfl⟩)
        | (refine wpList_store_row rfl 46 _ _ rfl (w.heap.size + 1 + 1) #[.int .u64 tb, .slice a5 b.length c5] _ _ rfl rfl hk_.has.2.2 rfl info_entry (by intro v hv; simp at hv; rcases hv with rfl | rfl <;> rfl) ?_; intro x7 hg7 hs7 hR7))
      refine bodyPost_ret (results_row_tmp Tryz.results49 _ _ (w.heap.size + 1 + 1) _ _ _ _ rfl rfl hR7 Tryz.underlying46 rfl info_entry) rfl ?_
      exact ⟨_, by rw [HOE.out]; rfl, by rw [HOE.out]; exact owns_mono (own_grown hown5 hg7 (RowT.blk hk_.has.2.2) (by decide)) HB0.out.size, hk_.up.grown hg7 hk_.up.size (fun k hk => by cases hk; omega)⟩
  · have HOE := Lib.hid (show openE bl mi at_ x box = none by unfold openE; rw [if_neg hok])
    have HOK := Lib.hid (decide_eq_false hok); clear hok
    go_enter Tryz.func49, Tryz.ntmps49
    go_wp2_with (first
      | (go_at_call 18; refine (Rightr_any x _ x0 x1).mono ?_; rintro e w' ⟨rfl, rfl⟩; rw [HOK.out])
      | (refine wpList_store_row rfl 46 _ _ rfl (w.heap.size + 1 + 1) #[.int .u64 0, .slice none 0 0] _ _ rfl rfl HR0.out rfl info_entry (by intro v hv; simp at hv; rcases hv with rfl | rfl <;> rfl) ?_; intro x7 hg7 hs7 hR7))
    refine bodyPost_ret (results_row_tmp Tryz.results49 _ _ (w.heap.size + 1 + 1) _ _ _ _ rfl rfl hR7 Tryz.underlying46 rfl info_entry) rfl ?_
    exact ⟨_, by rw [HOE.out]; rfl, by rw [HOE.out]; exact ownB_nil _ _, HB0.out.grown hg7 HB0.out.size (fun k hk => by cases hk; omega)⟩
end Go.Proofs.YtbgnfioggmkdeaaGreatDoor
