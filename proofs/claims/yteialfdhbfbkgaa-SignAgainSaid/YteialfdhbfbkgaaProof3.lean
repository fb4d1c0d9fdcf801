/-
  CheckEqual of the program. (Printed by wip/gen_proof2.py.)
-/
import Derived.Test.YteialfdhbfbkgaaProof2
namespace Go.Proofs.Yteialfdhbfbkgaa
set_option linter.unusedVariables false
set_option linter.unusedSimpArgs false
open Go Go.RowKit
def four (a b c d : Int) : Nat → Int | 0 => a | 1 => b | 2 => c | _ => d
set_option maxHeartbeats 2000000 in
theorem CheckEqual_any (g x h y c s : Int) (w : World) (hg : in64 g) (hx : in64 x) (hh : in64 h) (hy : in64 y) (hc : in64 c) (hs : in64 s) :
    Calls Try.prog 34 #[.int .u64 g, .int .u64 x, .int .u64 h, .int .u64 y, PV c s] w fun e w' => e = .returned (.bool (decide (equalOk g x h y c s))) ∧ Below w.heap.size w w' := by
  have HI := Lib.hid (show ∀ z ∈ [g, x, h, y, backP g x c s, backP h y c s], in64 z by intro z hz; simp at hz; rcases hz with rfl | rfl | rfl | rfl | rfl | rfl <;> first | assumption | exact in64_P (backP_pos _ _ _ _))
  obtain ⟨g0, g1⟩ := hg; obtain ⟨x0, x1⟩ := hx; obtain ⟨h0, h1⟩ := hh; obtain ⟨y0, y1⟩ := hy; obtain ⟨c0, c1⟩ := hc; obtain ⟨s0, s1⟩ := hs
  have hS0 : ∀ e : InC (fun u => Blk u w.heap.size #[.int .u64 c, .int .u64 s] 43), e.u.cell? ⟨w.heap.size, 0, none⟩ = some (.int .u64 c) := fun e => e.has.cell 0
  have hS1 : ∀ e : InC (fun u => Blk u w.heap.size #[.int .u64 c, .int .u64 s] 43), e.u.cell? ⟨w.heap.size, 1, none⟩ = some (.int .u64 s) := fun e => e.has.cell 1
  have hk := ((Hold.start w #[.int .u64 c, .int .u64 s] 43).alloc (.cells #[.int .u64 g, .int .u64 x, .int .u64 h, .int .u64 y] 24)).drew
  have hcell := Lib.hid (fun k (hk4 : k < 4) => show ((w.alloc (.cells #[.int .u64 c, .int .u64 s] 43)).alloc (.cells #[.int .u64 g, .int .u64 x, .int .u64 h, .int .u64 y] 24)).cell? ⟨w.heap.size + 1, k, none⟩ = some (UV (four g x h y k)) from
    ((Blk.new2 w _ _ _).cell k).trans (by match k, hk4 with | 0, _ => rfl | 1, _ => rfl | 2, _ => rfl | 3, _ => rfl))
  have hfour := Lib.hid (fun k (hk4 : k < 4) => show in64 (four g x h y k) from by match k, hk4 with | 0, _ => exact ⟨g0, g1⟩ | 1, _ => exact ⟨x0, x1⟩ | 2, _ => exact ⟨h0, h1⟩ | 3, _ => exact ⟨y0, y1⟩)
  obtain ⟨fin, hfin⟩ : ∃ fin, decide (equalOk g x h y c s) = fin := ⟨_, rfl⟩
  rw [hfin]; have HFIN := Lib.hid hfin; clear hfin
  go_enter Try.func34, Try.ntmps34
  go_wp2_with fail
  go_loop [19] (fun i => ∃ k : Nat, k ≤ 4 ∧ i = .int .i64 k ∧ Hid (∀ j, j < k → okP (four g x h y j))) (fun i => 4 - (intOf i).toNat)
  case atStart => exact ⟨0, by omega, rfl, Lib.hid (fun j hj => by omega)⟩
  case round =>
    obtain ⟨k, hk4, rfl, hall⟩ := hrel
    by_cases hlt : k < 4
    · have hck := hcell.out k hlt
      obtain ⟨z0, z1⟩ := hfour.out k hlt
      have HZ : Hid (∀ z, z = four g x h y k → ¬ okP z → fin = false) := Lib.hid (fun z hz hn => by
        rw [← HFIN.out]; apply decide_eq_false; intro hE; apply hn; rw [hz]
        obtain ⟨e1, e2, e3, e4, _⟩ := hE
        match k, hlt with | 0, _ => exact e1 | 1, _ => exact e2 | 2, _ => exact e3 | 3, _ => exact e4)
      have HA : Hid (okP (four g x h y k) → ∀ j, j < k + 1 → okP (four g x h y j)) := Lib.hid (fun h1 j hj => by
        by_cases e : j = k
        · rw [e]; exact h1
        · exact hall.out j (by omega))
      obtain ⟨z, hz⟩ : ∃ z, four g x h y k = z := ⟨_, rfl⟩
      rw [hz] at hck z0 z1 HA
      have HZ2 : Hid (¬ okP z → fin = false) := Lib.hid (HZ.out z hz.symm)
      clear hz HZ
      by_cases hzz : okP z
      · have hd := decide_eq_true hzz
        have HA2 := Lib.hid (HA.out hzz); clear HA hzz
        go_wp2_with (go_at_call 53; refine (Right_any _ _ (by omega) (by omega)).mono ?_; rintro e w' ⟨rfl, rfl⟩; simp only [hd])
        go_round
        case rel => exact ⟨k + 1, by omega, by go_num, HA2⟩
        case measure => simp [intOf]; omega
      · have hd := decide_eq_false hzz
        have HF2 := Lib.hid (HZ2.out hzz); clear HA HZ2 hzz
        go_wp2_with (go_at_call 53; refine (Right_any _ _ (by omega) (by omega)).mono ?_; rintro e w' ⟨rfl, rfl⟩; simp only [hd])
        go_ret
        exact ⟨ret_bool HF2.out.symm, by go_grown⟩
    · obtain rfl : k = 4 := by omega
      obtain ⟨hg, hx, hh, hy⟩ : okP g ∧ okP x ∧ okP h ∧ okP y := ⟨hall.out 0 (by omega), hall.out 1 (by omega), hall.out 2 (by omega), hall.out 3 (by omega)⟩
      go_wp2_with fail
      by_cases hp : smallP c s
      · have hd_hp := decide_eq_true hp
        have HF := Lib.hid (show fin = decide (chal equalS [g, x, h, y, backP g x c s, backP h y c s] = c) by rw [← HFIN.out]; simp [equalOk, hg, hx, hh, hy, hp])
        try change Code.wp _ _ _ (Act.mk _ _) _
        haveI hne_ : Nonempty (InC (fun u => Blk u w.heap.size #[.int .u64 c, .int .u64 s] 43)) := ⟨⟨_, hk.1⟩⟩
        refine wp_region_ph (C := fun w_ => ∃ e_ : InC (fun u => Blk u w.heap.size #[.int .u64 c, .int .u64 s] 43), w_ = e_.u) [([0], 1), ([2, 3, 4, 5, 6, 7, 8, 9, 11, 12, 13, 17, 18], 10), ([], 14), ([], 15), ([], 16), ([19], 20)] [21] (by kernel_rfl) (by kernel_rfl) (fun _ _ _ _ hd_ h_ => ⟨hd_.symm.trans h_.1, h_.2⟩) ⟨⟨World.drew _, hk.1⟩, rfl⟩ ?_
        first | refine wpPh_cons ?_ | refine wpPh_nil ?_
        simp only [pickOps, List.flatMap_cons, List.flatMap_nil, List.drop_succ_cons, List.drop_zero, List.take_succ_cons, List.take_zero, List.cons_append, List.nil_append, List.append_nil]
        iterate 1 (go_big_quiet_step (exact rfl))
        refine wpQuiet_nil ?_
        iterate 6 (
          go_wp2_with (first
      | (go_at_call 53; refine (Right_any _ _ (by omega) (by omega)).mono ?_; rintro e w' ⟨rfl, rfl⟩; simp only [hd_hp])
      | (go_at_call 54; refine (PRight_any _ _ _).mono ?_; rintro e w8 ⟨rfl, hb8⟩; simp only [hd_hp]; have hk8 := Hold.step (cs := _) (t := _) (by assumption) hb8)
      | (go_at_call 55; refine (Back_any _ _ _ _ _ ⟨by omega, by omega⟩ ⟨by omega, by omega⟩ ⟨by omega, by omega⟩ ⟨by omega, by omega⟩).mono ?_; rintro e w9 ⟨rfl, hb9⟩; have hk9 := Hold.step (by assumption) hb9)
      | (go_at_call 28; refine (Challenge_any _ equalS _ [g, x, h, y, backP g x c s, backP h y c s] (sees_new _ 1 _ _ 6 rfl (by decide)) HI.out (by decide) (by show 6 ≤ 1000000; omega)).mono ?_; rintro e w10 ⟨rfl, hb10⟩; have hk10 := Hold.step (Hold.alloc (by assumption) _) hb10))
          refine phPost_normal ⟨⟨⟨_, (show Hold _ _ _ _ from by first | assumption | exact Hold.alloc (by assumption) _).1⟩, rfl⟩, ?_⟩
          first | refine wpPh_cons ?_ | refine wpPh_nil ?_
          simp only [pickOps, List.flatMap_cons, List.flatMap_nil, List.drop_succ_cons, List.drop_zero, List.take_succ_cons, List.take_zero, List.cons_append, List.nil_append, List.append_nil]
          repeat (go_big_quiet_step (exact rfl))
          refine wpQuiet_nil ?_)
        go_wp2_with fail
        go_ret
        exact ⟨ret_bool (by rw [HF.out]; rfl), (show Hold _ _ _ _ from by assumption).2⟩
      · have hd_hp := decide_eq_false hp
        have HF := Lib.hid (show fin = false by rw [← HFIN.out]; simp [equalOk, hp])
        try change Code.wp _ _ _ (Act.mk _ _) _
        haveI hne_ : Nonempty (InC (fun u => Blk u w.heap.size #[.int .u64 c, .int .u64 s] 43)) := ⟨⟨_, hk.1⟩⟩
        refine wp_region_ph (C := fun w_ => ∃ e_ : InC (fun u => Blk u w.heap.size #[.int .u64 c, .int .u64 s] 43), w_ = e_.u) [([0], 1), ([2, 3, 4, 5, 6, 7, 8, 9, 11, 12, 13, 17, 18], 10), ([], 14), ([], 15), ([], 16), ([19], 20)] [21] (by kernel_rfl) (by kernel_rfl) (fun _ _ _ _ hd_ h_ => ⟨hd_.symm.trans h_.1, h_.2⟩) ⟨⟨World.drew _, hk.1⟩, rfl⟩ ?_
        first | refine wpPh_cons ?_ | refine wpPh_nil ?_
        simp only [pickOps, List.flatMap_cons, List.flatMap_nil, List.drop_succ_cons, List.drop_zero, List.take_succ_cons, List.take_zero, List.cons_append, List.nil_append, List.append_nil]
        iterate 1 (go_big_quiet_step (exact rfl))
        refine wpQuiet_nil ?_
        iterate 6 (
          go_wp2_with (first
      | (go_at_call 53; refine (Right_any _ _ (by omega) (by omega)).mono ?_; rintro e w' ⟨rfl, rfl⟩; simp only [hd_hp])
      | (go_at_call 54; refine (PRight_any _ _ _).mono ?_; rintro e w8 ⟨rfl, hb8⟩; simp only [hd_hp]; have hk8 := Hold.step (cs := _) (t := _) (by assumption) hb8)
      | (go_at_call 55; refine (Back_any _ _ _ _ _ ⟨by omega, by omega⟩ ⟨by omega, by omega⟩ ⟨by omega, by omega⟩ ⟨by omega, by omega⟩).mono ?_; rintro e w9 ⟨rfl, hb9⟩; have hk9 := Hold.step (by assumption) hb9)
      | (go_at_call 28; refine (Challenge_any _ equalS _ [g, x, h, y, backP g x c s, backP h y c s] (sees_new _ 1 _ _ 6 rfl (by decide)) HI.out (by decide) (by show 6 ≤ 1000000; omega)).mono ?_; rintro e w10 ⟨rfl, hb10⟩; have hk10 := Hold.step (Hold.alloc (by assumption) _) hb10))
          refine phPost_normal ⟨⟨⟨_, (show Hold _ _ _ _ from by first | assumption | exact Hold.alloc (by assumption) _).1⟩, rfl⟩, ?_⟩
          first | refine wpPh_cons ?_ | refine wpPh_nil ?_
          simp only [pickOps, List.flatMap_cons, List.flatMap_nil, List.drop_succ_cons, List.drop_zero, List.take_succ_cons, List.take_zero, List.cons_append, List.nil_append, List.append_nil]
          repeat (go_big_quiet_step (exact rfl))
          refine wpQuiet_nil ?_)
        go_wp2_with fail
        go_ret
        exact ⟨ret_bool HF.out.symm, (show Hold _ _ _ _ from by assumption).2⟩
end Go.Proofs.Yteialfdhbfbkgaa
