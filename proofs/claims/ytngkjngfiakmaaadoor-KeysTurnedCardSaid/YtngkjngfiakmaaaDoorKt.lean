/-
  Keys told: the program.
-/
import Derived.Test.YtngkjngfiakmaaaDoorKp
namespace Go.Proofs.YtngkjngfiakmaaaDoor
set_option linter.unusedVariables false
set_option linter.unusedSimpArgs false
open Go Go.RowKit

theorem drawk_any (v : Value) (l : List Int) (i : Int) (w : World) (hv : SeesU w v l) (hi : 0 ≤ i ∧ i ≤ 100) :
    Calls Tryd.prog 42 #[v, .int .i64 i] w fun e w' => e = .returned (.int .u64 (l.getD i.toNat 0)) ∧ w' = w := by
  obtain ⟨i0, i1⟩ := hi
  obtain ⟨hl, a, c, rfl, hc, hm, hnc, hb⟩ := hv
  have hm' : c ≤ 9223372036854775807 := by unfold maxLen at hm; omega
  by_cases hlt : i.toNat < l.length
  · obtain ⟨b, o, rfl, hcell⟩ := hb (by omega)
    have hx : l.getD i.toNat 0 = l[i.toNat] := by simp [List.getD_eq_getElem?_getD, List.getElem?_eq_getElem hlt]
    rw [hx]
    have h0 := hcell i.toNat (.int .u64 l[i.toNat]) (by rw [List.getElem?_map, List.getElem?_eq_getElem hlt]; rfl)
    have hd : i < (l.length : Int) := by omega
    go_enter Tryd.func42, Tryd.ntmps42
    go_wp2_with fail
    go_ret
    exact ⟨rfl, rfl⟩
  · have hx : l.getD i.toNat 0 = 0 := by simp [List.getD_eq_getElem?_getD, List.getElem?_eq_none (Nat.le_of_not_lt hlt)]
    rw [hx]
    have hd : ¬ i < (l.length : Int) := by omega
    go_enter Tryd.func42, Tryd.ntmps42
    go_wp2_with fail
    go_ret
    exact ⟨rfl, rfl⟩

set_option maxRecDepth 100000 in
set_option maxHeartbeats 4000000 in
theorem Tell_any (P : Int) (s : Sec) (ds : List Int) (vd : Value) (w : World) (hP : in64 P) (hs : s.ok) (hds : SeesU w vd ds) (hd : ∀ x ∈ ds, in64 x) :
    Calls Tryd.prog 22 #[.int .u64 P, SecV s, vd] w fun e w' => e = .returned (.agg (tellP P s ds).cells.toArray) ∧ Below w.heap.size w w' := by
  obtain ⟨sb, sm, si⟩ := s
  obtain ⟨b0, m0, i0⟩ := hs
  simp only at b0 m0 i0
  have hdg : ∀ i, in64 (ds.getD i 0) := by
    intro i
    rw [List.getD_eq_getElem?_getD]
    by_cases h : i < ds.length
    · rw [List.getElem?_eq_getElem h]; exact hd _ (List.getElem_mem h)
    · rw [List.getElem?_eq_none (Nat.le_of_not_lt h)]; exact ⟨by decide, by decide⟩
  obtain ⟨p, hp⟩ : ∃ p, tellP P ⟨sb, sm, si⟩ ds = p := ⟨_, rfl⟩
  have hpo := tellP_ok P ⟨sb, sm, si⟩ ds hP
  rw [hp] at hpo
  have q1 : timesP P sb = p.blind := by rw [← hp]; rfl
  have q2 : timesP P sm = p.mix := by rw [← hp]; rfl
  have q3 : timesP 37 si = p.inner := by rw [← hp]; rfl
  have q4 : PV (knowC P p.blind (ds.getD 0 0)) (ansP (knowC P p.blind (ds.getD 0 0)) sb (ds.getD 0 0)) = PV p.c1 p.s1 := by rw [← hp]; rfl
  have q5 : PV (knowC P p.mix (ds.getD 1 0)) (ansP (knowC P p.mix (ds.getD 1 0)) sm (ds.getD 1 0)) = PV p.c2 p.s2 := by rw [← hp]; rfl
  have q6 : PV (knowC 37 p.inner (ds.getD 2 0)) (ansP (knowC 37 p.inner (ds.getD 2 0)) si (ds.getD 2 0)) = PV p.c3 p.s3 := by rw [← hp]; rfl
  have qb : p.base = P := by rw [← hp]; rfl
  obtain ⟨pa, pb, pm, pn, c1, s1, c2, s2, c3, s3⟩ := p
  simp only at q1 q2 q3 q4 q5 q6 qb
  subst qb
  obtain ⟨-, ob, om, on, -, -, -, -, -, -⟩ := hpo
  simp only at ob om on
  have hd0 := hdg 0
  have hd1 := hdg 1
  have hd2 := hdg 2
  have e0 : ds.getD (0 : Int).toNat 0 = ds.getD 0 0 := rfl
  have e1 : ds.getD (1 : Int).toNat 0 = ds.getD 1 0 := rfl
  have e2 : ds.getD (2 : Int).toNat 0 = ds.getD 2 0 := rfl
  generalize ds.getD 0 0 = d0 at *
  generalize ds.getD 1 0 = d1 at *
  generalize ds.getD 2 0 = d2 at *
  have HP := Lib.hid hp; have H1 := Lib.hid q1; have H2 := Lib.hid q2; have H3 := Lib.hid q3; have H4 := Lib.hid q4; have H5 := Lib.hid q5; have H6 := Lib.hid q6
  have E0 := Lib.hid e0; have E1 := Lib.hid e1; have E2 := Lib.hid e2
  clear hp q1 q2 q3 q4 q5 q6 e0 e1 e2 hd hdg
  have hA := Blk.new w (SecC sb sm si) 27
  have hA1 := hA.alloc (.cells (PubC 0 0 0 0 0 0 0 0 0 0) 39)
  have hR1 := Blk.new2 w (.cells (SecC sb sm si) 27) (PubC 0 0 0 0 0 0 0 0 0 0) 39
  have hb0 : Below w.heap.size w ((w.alloc (.cells (SecC sb sm si) 27)).alloc (.cells (PubC 0 0 0 0 0 0 0 0 0 0) 39)) := by go_grown
  have hstab := Stab.and (Stab.blk w.heap.size (SecC sb sm si) 27) (Stab.blk (w.heap.size + 1) (PubC 0 0 0 0 0 0 0 0 0 0) 39)
  have hk : HoldT (fun u => Blk u w.heap.size (SecC sb sm si) 27 ∧ Blk u (w.heap.size + 1) (PubC 0 0 0 0 0 0 0 0 0 0) 39) w _ := HoldT.drew hstab ⟨⟨hA1, hR1⟩, hb0⟩
  have hL0 : ∀ e : InC (fun u => Blk u w.heap.size (SecC sb sm si) 27 ∧ Blk u (w.heap.size + 1) (PubC 0 0 0 0 0 0 0 0 0 0) 39), e.u.cell? ⟨w.heap.size, 0, none⟩ = some (.int .u64 sb) := fun e => by rw [e.has.1.cell]; rfl
  have hL1 : ∀ e : InC (fun u => Blk u w.heap.size (SecC sb sm si) 27 ∧ Blk u (w.heap.size + 1) (PubC 0 0 0 0 0 0 0 0 0 0) 39), e.u.cell? ⟨w.heap.size, 1, none⟩ = some (.int .u64 sm) := fun e => by rw [e.has.1.cell]; rfl
  have hL2 : ∀ e : InC (fun u => Blk u w.heap.size (SecC sb sm si) 27 ∧ Blk u (w.heap.size + 1) (PubC 0 0 0 0 0 0 0 0 0 0) 39), e.u.cell? ⟨w.heap.size, 2, none⟩ = some (.int .u64 si) := fun e => by rw [e.has.1.cell]; rfl
  clear hA hA1 hR1 hb0
  go_enter Tryd.func22, Tryd.ntmps22
  go_wp2_with fail
  try change Code.wp _ _ _ (Act.mk _ _) _
  haveI hne_ : Nonempty (InC (fun u => Blk u w.heap.size (SecC sb sm si) 27 ∧ Blk u (w.heap.size + 1) (PubC 0 0 0 0 0 0 0 0 0 0) 39)) := ⟨⟨_, (hk).1⟩⟩
  refine wp_region_tr (C := fun w_ => ∃ e_ : InC (fun u => Blk u w.heap.size (SecC sb sm si) 27 ∧ Blk u (w.heap.size + 1) (PubC 0 0 0 0 0 0 0 0 0 0) 39), w_ = e_.u) (.step [0, 1, 2, 3, 5, 6, 7, 9, 10] (.alt 4 (.step [] (.alt 8 (.step [] (.alt 11 (.step [] (.alt 12 (.step [] (.alt 13 (.step [] (.alt 14 (.fin []) .nil)) .nil)) (.alt 13 (.step [] (.alt 12 (.step [] (.alt 14 (.fin []) .nil)) .nil)) .nil))) (.alt 13 (.step [] (.alt 11 (.step [] (.alt 12 (.step [] (.alt 14 (.fin []) .nil)) .nil)) .nil)) .nil))) (.alt 13 (.step [] (.alt 8 (.step [] (.alt 11 (.step [] (.alt 12 (.step [] (.alt 14 (.fin []) .nil)) .nil)) .nil)) .nil)) .nil))) (.alt 13 (.step [] (.alt 4 (.step [] (.alt 8 (.step [] (.alt 11 (.step [] (.alt 12 (.step [] (.alt 14 (.fin []) .nil)) .nil)) .nil)) .nil)) .nil)) .nil))) (by kernel_rfl) (by kernel_rfl) (fun _ _ _ _ hd_ h_ => ⟨hd_.symm.trans h_.1, h_.2⟩) ⟨⟨World.drew _, (hk).1⟩, rfl⟩ ?_
  have hk_ := hk
  repeat' (first
    | ((with_reducible refine wpTr_fin ?_)
       simp only [pickOps, List.flatMap_cons, List.flatMap_nil, List.drop_succ_cons, List.drop_zero, List.take_succ_cons, List.take_zero, List.cons_append, List.nil_append, List.append_nil]
       repeat (go_big_quiet_step (exact rfl))
       refine wpQuiet_nil ?_)
    | ((with_reducible refine wpTr_step ?_); simp only [pickOps, List.flatMap_cons, List.flatMap_nil, List.drop_succ_cons, List.drop_zero, List.take_succ_cons, List.take_zero, List.cons_append, List.nil_append, List.append_nil]; repeat (go_big_quiet_step (exact rfl))
       refine wpQuiet_nil ?_)
    | (with_reducible refine wpTr_one ?_)
    | (with_reducible refine wpTr_alt ?_ ?_)
    | (simp only [pickOps, List.flatMap_cons, List.flatMap_nil, List.drop_succ_cons, List.drop_zero, List.take_succ_cons, List.take_zero, List.cons_append, List.nil_append, List.append_nil]
       go_wp2_with (first
    | (go_at_call 39; refine (Times_any _ _ _ hP.1 hP.2 (by first | exact b0.1 | exact m0.1) (by first | exact b0.2 | exact m0.2)).mono ?_; rintro e y1 ⟨rfl, rfl⟩; first | rw [H1.out] | rw [H2.out])
    | (go_at_call 40; refine (Base_any _ _ i0.1 i0.2).mono ?_; rintro e y1 ⟨rfl, rfl⟩; rw [H3.out])
    | (refine wpList_allocB rfl _ rfl _ run_allocPub ?_; intro x4 B4 hh hB4 e4; have hlt4 : w.heap.size + 1 < B4 := Nat.lt_of_lt_of_le (Blk.lt hk_.has.2) hB4; have hk4 := HoldT.step hstab hk_ e4)
    | (refine wpList_store_row rfl 39 _ _ rfl B4 (PubC pa pb pm pn 0 0 0 0 0 0) _ _ rfl rfl (hh.below (show Ext x4 _ from (by first | with_reducible exact Ext.refl _ | solve_by_elim (maxDepth := 30) [Ext.tr]))) rfl info_pub (by intro v hv; simp at hv; rcases hv with rfl | rfl | rfl | rfl | rfl <;> rfl) ?_; intro x7 hg7 hs7 hR7
       have hA7 := hk_.has.1.grownBy hg7 (some_ne (by omega))
       have hB7 := hk_.has.2.grownBy hg7 (some_ne (by omega))
       have hup7 := hk_.up.grown hg7 hk_.up.size (fun k hk => by cases hk; omega)
       have hk7 : HoldT (fun u => Blk u w.heap.size (SecC sb sm si) 27 ∧ Blk u (w.heap.size + 1) (PubC 0 0 0 0 0 0 0 0 0 0) 39) w x7 := ⟨⟨hA7, hB7⟩, hup7⟩))
       refine phPost_hold (by first | with_reducible assumption | exact HoldT.alloc hstab (by with_reducible assumption) _ | exact HoldT.alloc hstab (HoldT.alloc hstab (by with_reducible assumption) _) _) ?_
       intro hk_))
  all_goals (
    have hkx : HoldT (TellC w.heap.size B4 sb sm si pb pm pn) w x7 := ⟨⟨hA7, hB7, tell_cells hR7⟩, hup7⟩
    have hstab := stabTell w.heap.size B4 sb sm si pb pm pn
    have hM0 : ∀ e : InC (TellC w.heap.size B4 sb sm si pb pm pn), e.u.cell? ⟨w.heap.size, 0, none⟩ = some (.int .u64 sb) := fun e => by rw [e.has.1.cell]; rfl
    have hM1 : ∀ e : InC (TellC w.heap.size B4 sb sm si pb pm pn), e.u.cell? ⟨w.heap.size, 1, none⟩ = some (.int .u64 sm) := fun e => by rw [e.has.1.cell]; rfl
    have hM2 : ∀ e : InC (TellC w.heap.size B4 sb sm si pb pm pn), e.u.cell? ⟨w.heap.size, 2, none⟩ = some (.int .u64 si) := fun e => by rw [e.has.1.cell]; rfl
    have hM3 : ∀ e : InC (TellC w.heap.size B4 sb sm si pb pm pn), e.u.cell? ⟨B4, 1, none⟩ = some (.int .u64 pb) := fun e => e.has.2.2.1
    have hM4 : ∀ e : InC (TellC w.heap.size B4 sb sm si pb pm pn), e.u.cell? ⟨B4, 2, none⟩ = some (.int .u64 pm) := fun e => e.has.2.2.2.1
    have hM5 : ∀ e : InC (TellC w.heap.size B4 sb sm si pb pm pn), e.u.cell? ⟨B4, 3, none⟩ = some (.int .u64 pn) := fun e => e.has.2.2.2.2
    have hkz : HoldT (TellC w.heap.size B4 sb sm si pb pm pn) w x7.drew := HoldT.drew hstab hkx
    have hRd := hR7.drew
    go_wp2_with fail
    try change Code.wp _ _ _ (Act.mk _ _) _
    haveI hne_ : Nonempty (InC (TellC w.heap.size B4 sb sm si pb pm pn)) := ⟨⟨_, (hkz).1⟩⟩
    refine wp_region_tr (C := fun w_ => ∃ e_ : InC (TellC w.heap.size B4 sb sm si pb pm pn), w_ = e_.u) (.step [0, 1, 2, 3, 4, 5] (.alt 6 (.step [] (.alt 7 (.step [8] (.alt 9 (.fin []) .nil)) .nil)) .nil)) (by kernel_rfl) (by kernel_rfl) (fun _ _ _ _ hd_ h_ => ⟨hd_.symm.trans h_.1, h_.2⟩) ⟨⟨World.drew _, (hkz).1⟩, rfl⟩ ?_
    have hk_ := hkz
    repeat' (first
      | ((with_reducible refine wpTr_fin ?_)
         simp only [pickOps, List.flatMap_cons, List.flatMap_nil, List.drop_succ_cons, List.drop_zero, List.take_succ_cons, List.take_zero, List.cons_append, List.nil_append, List.append_nil]
         repeat (go_big_quiet_step (exact rfl))
         refine wpQuiet_nil ?_)
      | ((with_reducible refine wpTr_step ?_); simp only [pickOps, List.flatMap_cons, List.flatMap_nil, List.drop_succ_cons, List.drop_zero, List.take_succ_cons, List.take_zero, List.cons_append, List.nil_append, List.append_nil]; repeat (go_big_quiet_step (exact rfl))
         refine wpQuiet_nil ?_)
      | (with_reducible refine wpTr_one ?_)
      | (with_reducible refine wpTr_alt ?_ ?_)
      | (simp only [pickOps, List.flatMap_cons, List.flatMap_nil, List.drop_succ_cons, List.drop_zero, List.take_succ_cons, List.take_zero, List.cons_append, List.nil_append, List.append_nil]
         go_wp2_with (first
      | (go_at_call 42; refine (drawk_any vd ds 0 _ (hds.below hk_.up (by decide)) (by decide)).mono ?_; rintro e y ⟨rfl, rfl⟩; rw [E0.out])
      | (go_at_call 41; refine (Know_any _ _ _ _ _ hP ob b0 hd0).mono ?_; rintro e y2 ⟨rfl, hb2⟩; rw [H4.out]; have e2 : Ext x7.drew y2 := hb2; have hk2 := HoldT.step hstab hk_ hb2)
      | (refine wpList_store_in rfl 37 _ _ rfl B4 4 #[.int .u64 c1, .int .u64 s1] (PubC pa pb pm pn 0 0 0 0 0 0) (PubC pa pb pm pn c1 s1 0 0 0 0) _ rfl rfl (hRd.below (show Ext x7.drew _ from (by first | with_reducible exact Ext.refl _ | solve_by_elim (maxDepth := 30) [Ext.tr]))) (by show 4 + 2 ≤ 10; decide) info_proof (pv_one _ _) rfl ?_; intro z2 hg2 hs2 hR2
         have hk2b := tell_step hk_ hg2 hlt4 (Nat.le_refl _) hR2))
         refine phPost_hold (by first | with_reducible assumption | exact HoldT.alloc hstab (by with_reducible assumption) _ | exact HoldT.alloc hstab (HoldT.alloc hstab (by with_reducible assumption) _) _) ?_
         intro hk_))
    have hkz : HoldT (TellC w.heap.size B4 sb sm si pb pm pn) w z2.drew := HoldT.drew hstab hk2b
    have hRd := hR2.drew
    go_wp2_with fail
    try change Code.wp _ _ _ (Act.mk _ _) _
    haveI hne_ : Nonempty (InC (TellC w.heap.size B4 sb sm si pb pm pn)) := ⟨⟨_, (hkz).1⟩⟩
    refine wp_region_tr (C := fun w_ => ∃ e_ : InC (TellC w.heap.size B4 sb sm si pb pm pn), w_ = e_.u) (.step [0, 1, 2, 3, 4, 5] (.alt 6 (.step [] (.alt 7 (.step [8] (.alt 9 (.fin []) .nil)) .nil)) .nil)) (by kernel_rfl) (by kernel_rfl) (fun _ _ _ _ hd_ h_ => ⟨hd_.symm.trans h_.1, h_.2⟩) ⟨⟨World.drew _, (hkz).1⟩, rfl⟩ ?_
    have hk_ := hkz
    repeat' (first
      | ((with_reducible refine wpTr_fin ?_)
         simp only [pickOps, List.flatMap_cons, List.flatMap_nil, List.drop_succ_cons, List.drop_zero, List.take_succ_cons, List.take_zero, List.cons_append, List.nil_append, List.append_nil]
         repeat (go_big_quiet_step (exact rfl))
         refine wpQuiet_nil ?_)
      | ((with_reducible refine wpTr_step ?_); simp only [pickOps, List.flatMap_cons, List.flatMap_nil, List.drop_succ_cons, List.drop_zero, List.take_succ_cons, List.take_zero, List.cons_append, List.nil_append, List.append_nil]; repeat (go_big_quiet_step (exact rfl))
         refine wpQuiet_nil ?_)
      | (with_reducible refine wpTr_one ?_)
      | (with_reducible refine wpTr_alt ?_ ?_)
      | (simp only [pickOps, List.flatMap_cons, List.flatMap_nil, List.drop_succ_cons, List.drop_zero, List.take_succ_cons, List.take_zero, List.cons_append, List.nil_append, List.append_nil]
         go_wp2_with (first
      | (go_at_call 42; refine (drawk_any vd ds 1 _ (hds.below hk_.up (by decide)) (by decide)).mono ?_; rintro e y ⟨rfl, rfl⟩; rw [E1.out])
      | (go_at_call 41; refine (Know_any _ _ _ _ _ hP om m0 hd1).mono ?_; rintro e y3 ⟨rfl, hb3⟩; rw [H5.out]; have e3 : Ext z2.drew y3 := hb3; have hk3 := HoldT.step hstab hk_ hb3)
      | (refine wpList_store_in rfl 37 _ _ rfl B4 6 #[.int .u64 c2, .int .u64 s2] (PubC pa pb pm pn c1 s1 0 0 0 0) (PubC pa pb pm pn c1 s1 c2 s2 0 0) _ rfl rfl (hRd.below (show Ext z2.drew _ from (by first | with_reducible exact Ext.refl _ | solve_by_elim (maxDepth := 30) [Ext.tr]))) (by show 6 + 2 ≤ 10; decide) info_proof (pv_one _ _) rfl ?_; intro z3 hg3 hs3 hR3
         have hk3b := tell_step hk_ hg3 hlt4 (Nat.le_refl _) hR3))
         refine phPost_hold (by first | with_reducible assumption | exact HoldT.alloc hstab (by with_reducible assumption) _ | exact HoldT.alloc hstab (HoldT.alloc hstab (by with_reducible assumption) _) _) ?_
         intro hk_))
    have hkz : HoldT (TellC w.heap.size B4 sb sm si pb pm pn) w z3.drew := HoldT.drew hstab hk3b
    have hRd := hR3.drew
    go_wp2_with fail
    try change Code.wp _ _ _ (Act.mk _ _) _
    haveI hne_ : Nonempty (InC (TellC w.heap.size B4 sb sm si pb pm pn)) := ⟨⟨_, (hkz).1⟩⟩
    refine wp_region_tr (C := fun w_ => ∃ e_ : InC (TellC w.heap.size B4 sb sm si pb pm pn), w_ = e_.u) (.step [0, 1, 2, 3, 4] (.alt 5 (.step [] (.alt 6 (.step [7] (.alt 8 (.fin []) .nil)) .nil)) .nil)) (by kernel_rfl) (by kernel_rfl) (fun _ _ _ _ hd_ h_ => ⟨hd_.symm.trans h_.1, h_.2⟩) ⟨⟨World.drew _, (hkz).1⟩, rfl⟩ ?_
    have hk_ := hkz
    repeat' (first
      | ((with_reducible refine wpTr_fin ?_)
         simp only [pickOps, List.flatMap_cons, List.flatMap_nil, List.drop_succ_cons, List.drop_zero, List.take_succ_cons, List.take_zero, List.cons_append, List.nil_append, List.append_nil]
         repeat (go_big_quiet_step (exact rfl))
         refine wpQuiet_nil ?_)
      | ((with_reducible refine wpTr_step ?_); simp only [pickOps, List.flatMap_cons, List.flatMap_nil, List.drop_succ_cons, List.drop_zero, List.take_succ_cons, List.take_zero, List.cons_append, List.nil_append, List.append_nil]; repeat (go_big_quiet_step (exact rfl))
         refine wpQuiet_nil ?_)
      | (with_reducible refine wpTr_one ?_)
      | (with_reducible refine wpTr_alt ?_ ?_)
      | (simp only [pickOps, List.flatMap_cons, List.flatMap_nil, List.drop_succ_cons, List.drop_zero, List.take_succ_cons, List.take_zero, List.cons_append, List.nil_append, List.append_nil]
         go_wp2_with (first
      | (go_at_call 42; refine (drawk_any vd ds 2 _ (hds.below hk_.up (by decide)) (by decide)).mono ?_; rintro e y ⟨rfl, rfl⟩; rw [E2.out])
      | (go_at_call 41; refine (Know_any _ _ _ _ _ ⟨by decide, by decide⟩ on i0 hd2).mono ?_; rintro e y4 ⟨rfl, hb4⟩; rw [H6.out]; have e4 : Ext z3.drew y4 := hb4; have hk4 := HoldT.step hstab hk_ hb4)
      | (refine wpList_store_in rfl 37 _ _ rfl B4 8 #[.int .u64 c3, .int .u64 s3] (PubC pa pb pm pn c1 s1 c2 s2 0 0) (PubC pa pb pm pn c1 s1 c2 s2 c3 s3) _ rfl rfl (hRd.below (show Ext z3.drew _ from (by first | with_reducible exact Ext.refl _ | solve_by_elim (maxDepth := 30) [Ext.tr]))) (by show 8 + 2 ≤ 10; decide) info_proof (pv_one _ _) rfl ?_; intro z4 hg4 hs4 hR4
         have hk4b := tell_step hk_ hg4 hlt4 (Nat.le_refl _) hR4))
         refine phPost_hold (by first | with_reducible assumption | exact HoldT.alloc hstab (by with_reducible assumption) _ | exact HoldT.alloc hstab (HoldT.alloc hstab (by with_reducible assumption) _) _) ?_
         intro hk_))
    have hZ := hk4b.has.2.1
    have hone : ∀ v ∈ (PubC pa pb pm pn c1 s1 c2 s2 c3 s3).toList, v.oneCell' = true := by intro v hv; simp at hv; rcases hv with rfl | rfl | rfl | rfl | rfl | rfl | rfl | rfl | rfl | rfl <;> rfl
    go_wp2_with (first
      | (refine wpList_load_row rfl 39 _ rfl B4 rfl _ (PubC pa pb pm pn c1 s1 c2 s2 c3 s3) (0, 0) _ hR4 Tryd.underlying39 rfl info_pub ?_)
      | (refine wpList_store_row rfl 39 _ _ rfl (w.heap.size + 1) (PubC pa pb pm pn c1 s1 c2 s2 c3 s3) _ _ rfl rfl hZ rfl info_pub hone ?_; intro x9 hg9 hs9 hR9))
    refine bodyPost_ret (results_cell_row Tryd.results22 _ _ (w.heap.size + 1) _ _ (0, 0) _ rfl hR9 Tryd.underlying39 rfl info_pub) rfl ⟨by rw [HP.out]; rfl, hk4b.up.grown hg9 hk4b.up.size (fun k hk => by cases hk; omega)⟩)
end Go.Proofs.YtngkjngfiakmaaaDoor
