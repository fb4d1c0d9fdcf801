/-
  The laws of chapter 10: the walks. (Printed by wip/gen_law10b.py.)
-/
import Derived.Test.YteialfdhbfbkgaaLaw10a
import Derived.Test.YteialfdhbfbkgaaEqQ
namespace Go.Proofs.Yteialfdhbfbkgaa
set_option linter.unusedVariables false
set_option linter.unusedSimpArgs false
open Go Go.RowKit

theorem in64_w (n : Int) : in64 (IntKind.u64.wrap n) := by
  rw [IntKind.wrap_u64]; exact ⟨by omega, by omega⟩
set_option maxRecDepth 100000 in
set_option maxHeartbeats 2000000 in
theorem SignTurned_any (x o : Int) (a b : List UInt8) (va vb : Value) (w : World) (hx : in64 x) (ho : in64 o) (ha : SeesB w va a) (hb : SeesB w vb b) :
    Calls Try.prog 11 #[.int .u64 x, .int .u64 o, va, vb] w fun e w' => e = .returned (.bool true) ∧ Below w.heap.size w w' := by
  obtain ⟨x0, x1⟩ := hx; obtain ⟨o0, o1⟩ := ho
  obtain ⟨a0, n0, rfl, hna, hnc⟩ := sees_form ha
  obtain ⟨a1, n1, rfl, hnb, hnd⟩ := sees_form hb
  by_cases hla : 200 < a.length
  · go_enter Try.func11, Try.ntmps11
    go_wp2_with (go_at_call 36; refine (alive10_any _).mono ?_; rintro e w1 ⟨rfl, hb1⟩)
    go_ret
    exact ⟨rfl, hb1⟩
  by_cases hlb : 200 < b.length
  · go_enter Try.func11, Try.ntmps11
    go_wp2_with (go_at_call 36; refine (alive10_any _).mono ?_; rintro e w1 ⟨rfl, hb1⟩)
    go_ret
    exact ⟨rfl, hb1⟩
  obtain ⟨c0, c1⟩ := signC_pos x a
  obtain ⟨s0, s1⟩ := signS_pos x a
  have HT := sign_holds x a ⟨x0, x1⟩
  generalize hC : signC x a = C at *
  generalize hA : signS x a = A at *
  have HC := Lib.hid hC; have HA := Lib.hid hA
  clear hC hA
  clear HT
  obtain ⟨p0, p1⟩ := timesP_pos 37 x
  obtain ⟨q0, q1⟩ := timesP_pos 37 o
  generalize hP : timesP 37 x = pub at *
  generalize hO : timesP 37 o = oth at *
  have HP := Lib.hid hP; have HO := Lib.hid hO
  clear hP hO
  rcases Bool.eq_false_or_eq_true (decide (signOk pub b C A)) with d1 | d1
  · rcases Bool.eq_false_or_eq_true (decide (signOk oth a C A)) with d2 | d2
    ·
      go_enter Try.func11, Try.ntmps11
      go_wp2_with (first
          | (go_at_call 36; refine (alive10_any _).mono ?_; rintro e w1 ⟨rfl, hb1⟩)
          | (go_at_call 37; refine (Sign_any x a _ _ ⟨by omega, by omega⟩ (ha.below hb1 (by decide)) (by omega)).mono ?_; rintro e w2 ⟨rfl, hb2⟩; rw [HC.out, HA.out]; have hbel2 := hb1.trans (hb2.mono hb1.size))
          | (refine wpList_store_row rfl 43 _ _ rfl w2.heap.size #[.int .u64 C, .int .u64 A] _ _ rfl rfl (Blk.new _ _ _) (by rw [pv_size, pv_size]) (by rw [pv_size]; exact info_proof) (pv_one _ _) ?_; intro w3 hg3 hs3 hR3
             have hbel3 : Below w.heap.size w w3 := (hbel2.alloc hbel2.size _).grown hg3 (by simp only [World.size_alloc]; exact Nat.le_succ_of_le hbel2.size) (fun k hk => by cases hk; exact hbel2.size)
             have hk : HoldT (SP w2.heap.size C A) w w3 := ⟨hR3, hbel3⟩
             clear hg3 hs3 hR3))
      generalize w2.heap.size = B at *
      have hstab := stabSP B C A
      have hS0 : ∀ e : InC (SP B C A), e.u.cell? ⟨B, 0, none⟩ = some (.int .u64 C) := fun e => e.has.cell 0
      have hS1 : ∀ e : InC (SP B C A), e.u.cell? ⟨B, 1, none⟩ = some (.int .u64 A) := fun e => e.has.cell 1
      have hk := HoldT.drew hstab hk
      try change Code.wp _ _ _ (Act.mk _ _) _
      haveI hne_ : Nonempty (InC (SP B C A)) := ⟨⟨_, (hk).1⟩⟩
      refine wp_region_tr (C := fun w_ => ∃ e_ : InC (SP B C A), w_ = e_.u) (.step [0, 2, 3, 5, 7, 8] (.alt 1 (.step [] (.alt 4 (.step [] (.alt 6 (.step [] (.alt 9 (.step [10, 11, 12, 14, 15, 17, 19, 20] (.alt 13 (.step [] (.alt 16 (.step [] (.alt 18 (.step [] (.alt 21 (.step [22] (.alt 23 (.fin [24]) .nil)) .nil)) .nil)) .nil)) .nil)) .nil)) .nil)) .nil)) .nil)) (by kernel_rfl) (by kernel_rfl) (fun _ _ _ _ hd_ h_ => ⟨hd_.symm.trans h_.1, h_.2⟩) ⟨⟨World.drew _, (hk).1⟩, rfl⟩ ?_
      have hk_ := hk
      refine wpTr_step ?_
      simp only [pickOps, List.flatMap_cons, List.flatMap_nil, List.drop_succ_cons, List.drop_zero, List.take_succ_cons, List.take_zero, List.cons_append, List.nil_append, List.append_nil]
      iterate 6 (go_big_quiet_step (exact rfl))
      refine wpQuiet_nil ?_
      refine wpTr_one ?_
      simp only [pickOps, List.flatMap_cons, List.flatMap_nil, List.drop_succ_cons, List.drop_zero, List.take_succ_cons, List.take_zero, List.cons_append, List.nil_append, List.append_nil]
      go_wp2_with (first
          | (go_at_call 39; refine (Public_any _ _ (by omega) (by omega)).mono ?_; rintro e w5 ⟨rfl, rfl⟩; first | rw [HP.out] | rw [HO.out])
          | (go_at_call 41; refine (Baser_any _ _ (by omega) (by omega)).mono ?_; rintro e w5 ⟨rfl, rfl⟩; first | rw [HP.out] | rw [HO.out])
          | (go_at_call 38; (with_reducible show Calls _ _ #[Value.int IntKind.u64 pub, _, _] _ _); refine (SCheck_any pub C A b _ _ ⟨by omega, by omega⟩ ⟨by omega, by omega⟩ ⟨by omega, by omega⟩ (hb.below (show HoldT (SP B C A) w _ from by with_reducible assumption).up (by decide)) (by omega)).mono ?_; rintro e w8 ⟨rfl, hb8⟩; rw [d1]; have hk8 := HoldT.step hstab (by with_reducible assumption) hb8)
          | (go_at_call 40; (with_reducible show Calls _ _ #[Value.int IntKind.u64 pub, _, _] _ _); refine (SCheckr_any pub C A b _ _ ⟨by omega, by omega⟩ ⟨by omega, by omega⟩ ⟨by omega, by omega⟩ (hb.below (show HoldT (SP B C A) w _ from by with_reducible assumption).up (by decide)) (by omega)).mono ?_; rintro e w8 ⟨rfl, hb8⟩; rw [d1]; have hk8 := HoldT.step hstab (by with_reducible assumption) hb8)
          | (go_at_call 38; (with_reducible show Calls _ _ #[Value.int IntKind.u64 oth, _, _] _ _); refine (SCheck_any oth C A a _ _ ⟨by omega, by omega⟩ ⟨by omega, by omega⟩ ⟨by omega, by omega⟩ (ha.below (show HoldT (SP B C A) w _ from by with_reducible assumption).up (by decide)) (by omega)).mono ?_; rintro e w8 ⟨rfl, hb8⟩; rw [d2]; have hk8 := HoldT.step hstab (by with_reducible assumption) hb8)
          | (go_at_call 40; (with_reducible show Calls _ _ #[Value.int IntKind.u64 oth, _, _] _ _); refine (SCheckr_any oth C A a _ _ ⟨by omega, by omega⟩ ⟨by omega, by omega⟩ ⟨by omega, by omega⟩ (ha.below (show HoldT (SP B C A) w _ from by with_reducible assumption).up (by decide)) (by omega)).mono ?_; rintro e w8 ⟨rfl, hb8⟩; rw [d2]; have hk8 := HoldT.step hstab (by with_reducible assumption) hb8))
      refine phPost_hold (by first | with_reducible assumption | exact HoldT.alloc hstab (by with_reducible assumption) _ | exact HoldT.alloc hstab (HoldT.alloc hstab (by with_reducible assumption) _) _) ?_
      intro hk_
      refine wpTr_step ?_
      simp only [pickOps, List.flatMap_nil]
      refine wpQuiet_nil ?_
      refine wpTr_one ?_
      simp only [pickOps, List.flatMap_cons, List.flatMap_nil, List.drop_succ_cons, List.drop_zero, List.take_succ_cons, List.take_zero, List.cons_append, List.nil_append, List.append_nil]
      go_wp2_with (first
          | (go_at_call 39; refine (Public_any _ _ (by omega) (by omega)).mono ?_; rintro e w5 ⟨rfl, rfl⟩; first | rw [HP.out] | rw [HO.out])
          | (go_at_call 41; refine (Baser_any _ _ (by omega) (by omega)).mono ?_; rintro e w5 ⟨rfl, rfl⟩; first | rw [HP.out] | rw [HO.out])
          | (go_at_call 38; (with_reducible show Calls _ _ #[Value.int IntKind.u64 pub, _, _] _ _); refine (SCheck_any pub C A b _ _ ⟨by omega, by omega⟩ ⟨by omega, by omega⟩ ⟨by omega, by omega⟩ (hb.below (show HoldT (SP B C A) w _ from by with_reducible assumption).up (by decide)) (by omega)).mono ?_; rintro e w8 ⟨rfl, hb8⟩; rw [d1]; have hk8 := HoldT.step hstab (by with_reducible assumption) hb8)
          | (go_at_call 40; (with_reducible show Calls _ _ #[Value.int IntKind.u64 pub, _, _] _ _); refine (SCheckr_any pub C A b _ _ ⟨by omega, by omega⟩ ⟨by omega, by omega⟩ ⟨by omega, by omega⟩ (hb.below (show HoldT (SP B C A) w _ from by with_reducible assumption).up (by decide)) (by omega)).mono ?_; rintro e w8 ⟨rfl, hb8⟩; rw [d1]; have hk8 := HoldT.step hstab (by with_reducible assumption) hb8)
          | (go_at_call 38; (with_reducible show Calls _ _ #[Value.int IntKind.u64 oth, _, _] _ _); refine (SCheck_any oth C A a _ _ ⟨by omega, by omega⟩ ⟨by omega, by omega⟩ ⟨by omega, by omega⟩ (ha.below (show HoldT (SP B C A) w _ from by with_reducible assumption).up (by decide)) (by omega)).mono ?_; rintro e w8 ⟨rfl, hb8⟩; rw [d2]; have hk8 := HoldT.step hstab (by with_reducible assumption) hb8)
          | (go_at_call 40; (with_reducible show Calls _ _ #[Value.int IntKind.u64 oth, _, _] _ _); refine (SCheckr_any oth C A a _ _ ⟨by omega, by omega⟩ ⟨by omega, by omega⟩ ⟨by omega, by omega⟩ (ha.below (show HoldT (SP B C A) w _ from by with_reducible assumption).up (by decide)) (by omega)).mono ?_; rintro e w8 ⟨rfl, hb8⟩; rw [d2]; have hk8 := HoldT.step hstab (by with_reducible assumption) hb8))
      refine phPost_hold (by first | with_reducible assumption | exact HoldT.alloc hstab (by with_reducible assumption) _ | exact HoldT.alloc hstab (HoldT.alloc hstab (by with_reducible assumption) _) _) ?_
      intro hk_
      refine wpTr_step ?_
      simp only [pickOps, List.flatMap_nil]
      refine wpQuiet_nil ?_
      refine wpTr_one ?_
      simp only [pickOps, List.flatMap_cons, List.flatMap_nil, List.drop_succ_cons, List.drop_zero, List.take_succ_cons, List.take_zero, List.cons_append, List.nil_append, List.append_nil]
      go_wp2_with (first
          | (go_at_call 39; refine (Public_any _ _ (by omega) (by omega)).mono ?_; rintro e w5 ⟨rfl, rfl⟩; first | rw [HP.out] | rw [HO.out])
          | (go_at_call 41; refine (Baser_any _ _ (by omega) (by omega)).mono ?_; rintro e w5 ⟨rfl, rfl⟩; first | rw [HP.out] | rw [HO.out])
          | (go_at_call 38; (with_reducible show Calls _ _ #[Value.int IntKind.u64 pub, _, _] _ _); refine (SCheck_any pub C A b _ _ ⟨by omega, by omega⟩ ⟨by omega, by omega⟩ ⟨by omega, by omega⟩ (hb.below (show HoldT (SP B C A) w _ from by with_reducible assumption).up (by decide)) (by omega)).mono ?_; rintro e w8 ⟨rfl, hb8⟩; rw [d1]; have hk8 := HoldT.step hstab (by with_reducible assumption) hb8)
          | (go_at_call 40; (with_reducible show Calls _ _ #[Value.int IntKind.u64 pub, _, _] _ _); refine (SCheckr_any pub C A b _ _ ⟨by omega, by omega⟩ ⟨by omega, by omega⟩ ⟨by omega, by omega⟩ (hb.below (show HoldT (SP B C A) w _ from by with_reducible assumption).up (by decide)) (by omega)).mono ?_; rintro e w8 ⟨rfl, hb8⟩; rw [d1]; have hk8 := HoldT.step hstab (by with_reducible assumption) hb8)
          | (go_at_call 38; (with_reducible show Calls _ _ #[Value.int IntKind.u64 oth, _, _] _ _); refine (SCheck_any oth C A a _ _ ⟨by omega, by omega⟩ ⟨by omega, by omega⟩ ⟨by omega, by omega⟩ (ha.below (show HoldT (SP B C A) w _ from by with_reducible assumption).up (by decide)) (by omega)).mono ?_; rintro e w8 ⟨rfl, hb8⟩; rw [d2]; have hk8 := HoldT.step hstab (by with_reducible assumption) hb8)
          | (go_at_call 40; (with_reducible show Calls _ _ #[Value.int IntKind.u64 oth, _, _] _ _); refine (SCheckr_any oth C A a _ _ ⟨by omega, by omega⟩ ⟨by omega, by omega⟩ ⟨by omega, by omega⟩ (ha.below (show HoldT (SP B C A) w _ from by with_reducible assumption).up (by decide)) (by omega)).mono ?_; rintro e w8 ⟨rfl, hb8⟩; rw [d2]; have hk8 := HoldT.step hstab (by with_reducible assumption) hb8))
      refine phPost_hold (by first | with_reducible assumption | exact HoldT.alloc hstab (by with_reducible assumption) _ | exact HoldT.alloc hstab (HoldT.alloc hstab (by with_reducible assumption) _) _) ?_
      intro hk_
      refine wpTr_step ?_
      simp only [pickOps, List.flatMap_nil]
      refine wpQuiet_nil ?_
      refine wpTr_one ?_
      simp only [pickOps, List.flatMap_cons, List.flatMap_nil, List.drop_succ_cons, List.drop_zero, List.take_succ_cons, List.take_zero, List.cons_append, List.nil_append, List.append_nil]
      go_wp2_with (first
          | (go_at_call 39; refine (Public_any _ _ (by omega) (by omega)).mono ?_; rintro e w5 ⟨rfl, rfl⟩; first | rw [HP.out] | rw [HO.out])
          | (go_at_call 41; refine (Baser_any _ _ (by omega) (by omega)).mono ?_; rintro e w5 ⟨rfl, rfl⟩; first | rw [HP.out] | rw [HO.out])
          | (go_at_call 38; (with_reducible show Calls _ _ #[Value.int IntKind.u64 pub, _, _] _ _); refine (SCheck_any pub C A b _ _ ⟨by omega, by omega⟩ ⟨by omega, by omega⟩ ⟨by omega, by omega⟩ (hb.below (show HoldT (SP B C A) w _ from by with_reducible assumption).up (by decide)) (by omega)).mono ?_; rintro e w8 ⟨rfl, hb8⟩; rw [d1]; have hk8 := HoldT.step hstab (by with_reducible assumption) hb8)
          | (go_at_call 40; (with_reducible show Calls _ _ #[Value.int IntKind.u64 pub, _, _] _ _); refine (SCheckr_any pub C A b _ _ ⟨by omega, by omega⟩ ⟨by omega, by omega⟩ ⟨by omega, by omega⟩ (hb.below (show HoldT (SP B C A) w _ from by with_reducible assumption).up (by decide)) (by omega)).mono ?_; rintro e w8 ⟨rfl, hb8⟩; rw [d1]; have hk8 := HoldT.step hstab (by with_reducible assumption) hb8)
          | (go_at_call 38; (with_reducible show Calls _ _ #[Value.int IntKind.u64 oth, _, _] _ _); refine (SCheck_any oth C A a _ _ ⟨by omega, by omega⟩ ⟨by omega, by omega⟩ ⟨by omega, by omega⟩ (ha.below (show HoldT (SP B C A) w _ from by with_reducible assumption).up (by decide)) (by omega)).mono ?_; rintro e w8 ⟨rfl, hb8⟩; rw [d2]; have hk8 := HoldT.step hstab (by with_reducible assumption) hb8)
          | (go_at_call 40; (with_reducible show Calls _ _ #[Value.int IntKind.u64 oth, _, _] _ _); refine (SCheckr_any oth C A a _ _ ⟨by omega, by omega⟩ ⟨by omega, by omega⟩ ⟨by omega, by omega⟩ (ha.below (show HoldT (SP B C A) w _ from by with_reducible assumption).up (by decide)) (by omega)).mono ?_; rintro e w8 ⟨rfl, hb8⟩; rw [d2]; have hk8 := HoldT.step hstab (by with_reducible assumption) hb8))
      refine phPost_hold (by first | with_reducible assumption | exact HoldT.alloc hstab (by with_reducible assumption) _ | exact HoldT.alloc hstab (HoldT.alloc hstab (by with_reducible assumption) _) _) ?_
      intro hk_
      refine wpTr_step ?_
      simp only [pickOps, List.flatMap_cons, List.flatMap_nil, List.drop_succ_cons, List.drop_zero, List.take_succ_cons, List.take_zero, List.cons_append, List.nil_append, List.append_nil]
      iterate 8 (go_big_quiet_step (exact rfl))
      refine wpQuiet_nil ?_
      refine wpTr_one ?_
      simp only [pickOps, List.flatMap_cons, List.flatMap_nil, List.drop_succ_cons, List.drop_zero, List.take_succ_cons, List.take_zero, List.cons_append, List.nil_append, List.append_nil]
      go_wp2_with (first
          | (go_at_call 39; refine (Public_any _ _ (by omega) (by omega)).mono ?_; rintro e w5 ⟨rfl, rfl⟩; first | rw [HP.out] | rw [HO.out])
          | (go_at_call 41; refine (Baser_any _ _ (by omega) (by omega)).mono ?_; rintro e w5 ⟨rfl, rfl⟩; first | rw [HP.out] | rw [HO.out])
          | (go_at_call 38; (with_reducible show Calls _ _ #[Value.int IntKind.u64 pub, _, _] _ _); refine (SCheck_any pub C A b _ _ ⟨by omega, by omega⟩ ⟨by omega, by omega⟩ ⟨by omega, by omega⟩ (hb.below (show HoldT (SP B C A) w _ from by with_reducible assumption).up (by decide)) (by omega)).mono ?_; rintro e w8 ⟨rfl, hb8⟩; rw [d1]; have hk8 := HoldT.step hstab (by with_reducible assumption) hb8)
          | (go_at_call 40; (with_reducible show Calls _ _ #[Value.int IntKind.u64 pub, _, _] _ _); refine (SCheckr_any pub C A b _ _ ⟨by omega, by omega⟩ ⟨by omega, by omega⟩ ⟨by omega, by omega⟩ (hb.below (show HoldT (SP B C A) w _ from by with_reducible assumption).up (by decide)) (by omega)).mono ?_; rintro e w8 ⟨rfl, hb8⟩; rw [d1]; have hk8 := HoldT.step hstab (by with_reducible assumption) hb8)
          | (go_at_call 38; (with_reducible show Calls _ _ #[Value.int IntKind.u64 oth, _, _] _ _); refine (SCheck_any oth C A a _ _ ⟨by omega, by omega⟩ ⟨by omega, by omega⟩ ⟨by omega, by omega⟩ (ha.below (show HoldT (SP B C A) w _ from by with_reducible assumption).up (by decide)) (by omega)).mono ?_; rintro e w8 ⟨rfl, hb8⟩; rw [d2]; have hk8 := HoldT.step hstab (by with_reducible assumption) hb8)
          | (go_at_call 40; (with_reducible show Calls _ _ #[Value.int IntKind.u64 oth, _, _] _ _); refine (SCheckr_any oth C A a _ _ ⟨by omega, by omega⟩ ⟨by omega, by omega⟩ ⟨by omega, by omega⟩ (ha.below (show HoldT (SP B C A) w _ from by with_reducible assumption).up (by decide)) (by omega)).mono ?_; rintro e w8 ⟨rfl, hb8⟩; rw [d2]; have hk8 := HoldT.step hstab (by with_reducible assumption) hb8))
      refine phPost_hold (by first | with_reducible assumption | exact HoldT.alloc hstab (by with_reducible assumption) _ | exact HoldT.alloc hstab (HoldT.alloc hstab (by with_reducible assumption) _) _) ?_
      intro hk_
      refine wpTr_step ?_
      simp only [pickOps, List.flatMap_nil]
      refine wpQuiet_nil ?_
      refine wpTr_one ?_
      simp only [pickOps, List.flatMap_cons, List.flatMap_nil, List.drop_succ_cons, List.drop_zero, List.take_succ_cons, List.take_zero, List.cons_append, List.nil_append, List.append_nil]
      go_wp2_with (first
          | (go_at_call 39; refine (Public_any _ _ (by omega) (by omega)).mono ?_; rintro e w5 ⟨rfl, rfl⟩; first | rw [HP.out] | rw [HO.out])
          | (go_at_call 41; refine (Baser_any _ _ (by omega) (by omega)).mono ?_; rintro e w5 ⟨rfl, rfl⟩; first | rw [HP.out] | rw [HO.out])
          | (go_at_call 38; (with_reducible show Calls _ _ #[Value.int IntKind.u64 pub, _, _] _ _); refine (SCheck_any pub C A b _ _ ⟨by omega, by omega⟩ ⟨by omega, by omega⟩ ⟨by omega, by omega⟩ (hb.below (show HoldT (SP B C A) w _ from by with_reducible assumption).up (by decide)) (by omega)).mono ?_; rintro e w8 ⟨rfl, hb8⟩; rw [d1]; have hk8 := HoldT.step hstab (by with_reducible assumption) hb8)
          | (go_at_call 40; (with_reducible show Calls _ _ #[Value.int IntKind.u64 pub, _, _] _ _); refine (SCheckr_any pub C A b _ _ ⟨by omega, by omega⟩ ⟨by omega, by omega⟩ ⟨by omega, by omega⟩ (hb.below (show HoldT (SP B C A) w _ from by with_reducible assumption).up (by decide)) (by omega)).mono ?_; rintro e w8 ⟨rfl, hb8⟩; rw [d1]; have hk8 := HoldT.step hstab (by with_reducible assumption) hb8)
          | (go_at_call 38; (with_reducible show Calls _ _ #[Value.int IntKind.u64 oth, _, _] _ _); refine (SCheck_any oth C A a _ _ ⟨by omega, by omega⟩ ⟨by omega, by omega⟩ ⟨by omega, by omega⟩ (ha.below (show HoldT (SP B C A) w _ from by with_reducible assumption).up (by decide)) (by omega)).mono ?_; rintro e w8 ⟨rfl, hb8⟩; rw [d2]; have hk8 := HoldT.step hstab (by with_reducible assumption) hb8)
          | (go_at_call 40; (with_reducible show Calls _ _ #[Value.int IntKind.u64 oth, _, _] _ _); refine (SCheckr_any oth C A a _ _ ⟨by omega, by omega⟩ ⟨by omega, by omega⟩ ⟨by omega, by omega⟩ (ha.below (show HoldT (SP B C A) w _ from by with_reducible assumption).up (by decide)) (by omega)).mono ?_; rintro e w8 ⟨rfl, hb8⟩; rw [d2]; have hk8 := HoldT.step hstab (by with_reducible assumption) hb8))
      refine phPost_hold (by first | with_reducible assumption | exact HoldT.alloc hstab (by with_reducible assumption) _ | exact HoldT.alloc hstab (HoldT.alloc hstab (by with_reducible assumption) _) _) ?_
      intro hk_
      refine wpTr_step ?_
      simp only [pickOps, List.flatMap_nil]
      refine wpQuiet_nil ?_
      refine wpTr_one ?_
      simp only [pickOps, List.flatMap_cons, List.flatMap_nil, List.drop_succ_cons, List.drop_zero, List.take_succ_cons, List.take_zero, List.cons_append, List.nil_append, List.append_nil]
      go_wp2_with (first
          | (go_at_call 39; refine (Public_any _ _ (by omega) (by omega)).mono ?_; rintro e w5 ⟨rfl, rfl⟩; first | rw [HP.out] | rw [HO.out])
          | (go_at_call 41; refine (Baser_any _ _ (by omega) (by omega)).mono ?_; rintro e w5 ⟨rfl, rfl⟩; first | rw [HP.out] | rw [HO.out])
          | (go_at_call 38; (with_reducible show Calls _ _ #[Value.int IntKind.u64 pub, _, _] _ _); refine (SCheck_any pub C A b _ _ ⟨by omega, by omega⟩ ⟨by omega, by omega⟩ ⟨by omega, by omega⟩ (hb.below (show HoldT (SP B C A) w _ from by with_reducible assumption).up (by decide)) (by omega)).mono ?_; rintro e w8 ⟨rfl, hb8⟩; rw [d1]; have hk8 := HoldT.step hstab (by with_reducible assumption) hb8)
          | (go_at_call 40; (with_reducible show Calls _ _ #[Value.int IntKind.u64 pub, _, _] _ _); refine (SCheckr_any pub C A b _ _ ⟨by omega, by omega⟩ ⟨by omega, by omega⟩ ⟨by omega, by omega⟩ (hb.below (show HoldT (SP B C A) w _ from by with_reducible assumption).up (by decide)) (by omega)).mono ?_; rintro e w8 ⟨rfl, hb8⟩; rw [d1]; have hk8 := HoldT.step hstab (by with_reducible assumption) hb8)
          | (go_at_call 38; (with_reducible show Calls _ _ #[Value.int IntKind.u64 oth, _, _] _ _); refine (SCheck_any oth C A a _ _ ⟨by omega, by omega⟩ ⟨by omega, by omega⟩ ⟨by omega, by omega⟩ (ha.below (show HoldT (SP B C A) w _ from by with_reducible assumption).up (by decide)) (by omega)).mono ?_; rintro e w8 ⟨rfl, hb8⟩; rw [d2]; have hk8 := HoldT.step hstab (by with_reducible assumption) hb8)
          | (go_at_call 40; (with_reducible show Calls _ _ #[Value.int IntKind.u64 oth, _, _] _ _); refine (SCheckr_any oth C A a _ _ ⟨by omega, by omega⟩ ⟨by omega, by omega⟩ ⟨by omega, by omega⟩ (ha.below (show HoldT (SP B C A) w _ from by with_reducible assumption).up (by decide)) (by omega)).mono ?_; rintro e w8 ⟨rfl, hb8⟩; rw [d2]; have hk8 := HoldT.step hstab (by with_reducible assumption) hb8))
      refine phPost_hold (by first | with_reducible assumption | exact HoldT.alloc hstab (by with_reducible assumption) _ | exact HoldT.alloc hstab (HoldT.alloc hstab (by with_reducible assumption) _) _) ?_
      intro hk_
      refine wpTr_step ?_
      simp only [pickOps, List.flatMap_nil]
      refine wpQuiet_nil ?_
      refine wpTr_one ?_
      simp only [pickOps, List.flatMap_cons, List.flatMap_nil, List.drop_succ_cons, List.drop_zero, List.take_succ_cons, List.take_zero, List.cons_append, List.nil_append, List.append_nil]
      go_wp2_with (first
          | (go_at_call 39; refine (Public_any _ _ (by omega) (by omega)).mono ?_; rintro e w5 ⟨rfl, rfl⟩; first | rw [HP.out] | rw [HO.out])
          | (go_at_call 41; refine (Baser_any _ _ (by omega) (by omega)).mono ?_; rintro e w5 ⟨rfl, rfl⟩; first | rw [HP.out] | rw [HO.out])
          | (go_at_call 38; (with_reducible show Calls _ _ #[Value.int IntKind.u64 pub, _, _] _ _); refine (SCheck_any pub C A b _ _ ⟨by omega, by omega⟩ ⟨by omega, by omega⟩ ⟨by omega, by omega⟩ (hb.below (show HoldT (SP B C A) w _ from by with_reducible assumption).up (by decide)) (by omega)).mono ?_; rintro e w8 ⟨rfl, hb8⟩; rw [d1]; have hk8 := HoldT.step hstab (by with_reducible assumption) hb8)
          | (go_at_call 40; (with_reducible show Calls _ _ #[Value.int IntKind.u64 pub, _, _] _ _); refine (SCheckr_any pub C A b _ _ ⟨by omega, by omega⟩ ⟨by omega, by omega⟩ ⟨by omega, by omega⟩ (hb.below (show HoldT (SP B C A) w _ from by with_reducible assumption).up (by decide)) (by omega)).mono ?_; rintro e w8 ⟨rfl, hb8⟩; rw [d1]; have hk8 := HoldT.step hstab (by with_reducible assumption) hb8)
          | (go_at_call 38; (with_reducible show Calls _ _ #[Value.int IntKind.u64 oth, _, _] _ _); refine (SCheck_any oth C A a _ _ ⟨by omega, by omega⟩ ⟨by omega, by omega⟩ ⟨by omega, by omega⟩ (ha.below (show HoldT (SP B C A) w _ from by with_reducible assumption).up (by decide)) (by omega)).mono ?_; rintro e w8 ⟨rfl, hb8⟩; rw [d2]; have hk8 := HoldT.step hstab (by with_reducible assumption) hb8)
          | (go_at_call 40; (with_reducible show Calls _ _ #[Value.int IntKind.u64 oth, _, _] _ _); refine (SCheckr_any oth C A a _ _ ⟨by omega, by omega⟩ ⟨by omega, by omega⟩ ⟨by omega, by omega⟩ (ha.below (show HoldT (SP B C A) w _ from by with_reducible assumption).up (by decide)) (by omega)).mono ?_; rintro e w8 ⟨rfl, hb8⟩; rw [d2]; have hk8 := HoldT.step hstab (by with_reducible assumption) hb8))
      refine phPost_hold (by first | with_reducible assumption | exact HoldT.alloc hstab (by with_reducible assumption) _ | exact HoldT.alloc hstab (HoldT.alloc hstab (by with_reducible assumption) _) _) ?_
      intro hk_
      refine wpTr_step ?_
      simp only [pickOps, List.flatMap_cons, List.flatMap_nil, List.drop_succ_cons, List.drop_zero, List.take_succ_cons, List.take_zero, List.cons_append, List.nil_append, List.append_nil]
      iterate 1 (go_big_quiet_step (exact rfl))
      refine wpQuiet_nil ?_
      refine wpTr_one ?_
      simp only [pickOps, List.flatMap_cons, List.flatMap_nil, List.drop_succ_cons, List.drop_zero, List.take_succ_cons, List.take_zero, List.cons_append, List.nil_append, List.append_nil]
      go_wp2_with (first
          | (go_at_call 39; refine (Public_any _ _ (by omega) (by omega)).mono ?_; rintro e w5 ⟨rfl, rfl⟩; first | rw [HP.out] | rw [HO.out])
          | (go_at_call 41; refine (Baser_any _ _ (by omega) (by omega)).mono ?_; rintro e w5 ⟨rfl, rfl⟩; first | rw [HP.out] | rw [HO.out])
          | (go_at_call 38; (with_reducible show Calls _ _ #[Value.int IntKind.u64 pub, _, _] _ _); refine (SCheck_any pub C A b _ _ ⟨by omega, by omega⟩ ⟨by omega, by omega⟩ ⟨by omega, by omega⟩ (hb.below (show HoldT (SP B C A) w _ from by with_reducible assumption).up (by decide)) (by omega)).mono ?_; rintro e w8 ⟨rfl, hb8⟩; rw [d1]; have hk8 := HoldT.step hstab (by with_reducible assumption) hb8)
          | (go_at_call 40; (with_reducible show Calls _ _ #[Value.int IntKind.u64 pub, _, _] _ _); refine (SCheckr_any pub C A b _ _ ⟨by omega, by omega⟩ ⟨by omega, by omega⟩ ⟨by omega, by omega⟩ (hb.below (show HoldT (SP B C A) w _ from by with_reducible assumption).up (by decide)) (by omega)).mono ?_; rintro e w8 ⟨rfl, hb8⟩; rw [d1]; have hk8 := HoldT.step hstab (by with_reducible assumption) hb8)
          | (go_at_call 38; (with_reducible show Calls _ _ #[Value.int IntKind.u64 oth, _, _] _ _); refine (SCheck_any oth C A a _ _ ⟨by omega, by omega⟩ ⟨by omega, by omega⟩ ⟨by omega, by omega⟩ (ha.below (show HoldT (SP B C A) w _ from by with_reducible assumption).up (by decide)) (by omega)).mono ?_; rintro e w8 ⟨rfl, hb8⟩; rw [d2]; have hk8 := HoldT.step hstab (by with_reducible assumption) hb8)
          | (go_at_call 40; (with_reducible show Calls _ _ #[Value.int IntKind.u64 oth, _, _] _ _); refine (SCheckr_any oth C A a _ _ ⟨by omega, by omega⟩ ⟨by omega, by omega⟩ ⟨by omega, by omega⟩ (ha.below (show HoldT (SP B C A) w _ from by with_reducible assumption).up (by decide)) (by omega)).mono ?_; rintro e w8 ⟨rfl, hb8⟩; rw [d2]; have hk8 := HoldT.step hstab (by with_reducible assumption) hb8))
      refine phPost_hold (by first | with_reducible assumption | exact HoldT.alloc hstab (by with_reducible assumption) _ | exact HoldT.alloc hstab (HoldT.alloc hstab (by with_reducible assumption) _) _) ?_
      intro hk_
      refine wpTr_fin ?_
      simp only [pickOps, List.flatMap_cons, List.flatMap_nil, List.drop_succ_cons, List.drop_zero, List.take_succ_cons, List.take_zero, List.cons_append, List.nil_append, List.append_nil]
      iterate 1 (go_big_quiet_step (exact rfl))
      refine wpQuiet_nil ?_
      go_wp2_with fail
      go_ret
      exact ⟨rfl, (show HoldT (SP B C A) w _ from by with_reducible assumption).up⟩
    ·
      go_enter Try.func11, Try.ntmps11
      go_wp2_with (first
          | (go_at_call 36; refine (alive10_any _).mono ?_; rintro e w1 ⟨rfl, hb1⟩)
          | (go_at_call 37; refine (Sign_any x a _ _ ⟨by omega, by omega⟩ (ha.below hb1 (by decide)) (by omega)).mono ?_; rintro e w2 ⟨rfl, hb2⟩; rw [HC.out, HA.out]; have hbel2 := hb1.trans (hb2.mono hb1.size))
          | (refine wpList_store_row rfl 43 _ _ rfl w2.heap.size #[.int .u64 C, .int .u64 A] _ _ rfl rfl (Blk.new _ _ _) (by rw [pv_size, pv_size]) (by rw [pv_size]; exact info_proof) (pv_one _ _) ?_; intro w3 hg3 hs3 hR3
             have hbel3 : Below w.heap.size w w3 := (hbel2.alloc hbel2.size _).grown hg3 (by simp only [World.size_alloc]; exact Nat.le_succ_of_le hbel2.size) (fun k hk => by cases hk; exact hbel2.size)
             have hk : HoldT (SP w2.heap.size C A) w w3 := ⟨hR3, hbel3⟩
             clear hg3 hs3 hR3))
      generalize w2.heap.size = B at *
      have hstab := stabSP B C A
      have hS0 : ∀ e : InC (SP B C A), e.u.cell? ⟨B, 0, none⟩ = some (.int .u64 C) := fun e => e.has.cell 0
      have hS1 : ∀ e : InC (SP B C A), e.u.cell? ⟨B, 1, none⟩ = some (.int .u64 A) := fun e => e.has.cell 1
      have hk := HoldT.drew hstab hk
      try change Code.wp _ _ _ (Act.mk _ _) _
      haveI hne_ : Nonempty (InC (SP B C A)) := ⟨⟨_, (hk).1⟩⟩
      refine wp_region_tr (C := fun w_ => ∃ e_ : InC (SP B C A), w_ = e_.u) (.step [0, 2, 3, 5, 7, 8] (.alt 1 (.step [] (.alt 4 (.step [] (.alt 6 (.step [] (.alt 9 (.step [10, 11, 12, 14, 15, 17, 19, 20] (.alt 13 (.step [] (.alt 16 (.step [] (.alt 18 (.step [] (.alt 21 (.step [22] (.alt 23 (.fin [24]) .nil)) .nil)) .nil)) .nil)) .nil)) .nil)) .nil)) .nil)) .nil)) (by kernel_rfl) (by kernel_rfl) (fun _ _ _ _ hd_ h_ => ⟨hd_.symm.trans h_.1, h_.2⟩) ⟨⟨World.drew _, (hk).1⟩, rfl⟩ ?_
      have hk_ := hk
      refine wpTr_step ?_
      simp only [pickOps, List.flatMap_cons, List.flatMap_nil, List.drop_succ_cons, List.drop_zero, List.take_succ_cons, List.take_zero, List.cons_append, List.nil_append, List.append_nil]
      iterate 6 (go_big_quiet_step (exact rfl))
      refine wpQuiet_nil ?_
      refine wpTr_one ?_
      simp only [pickOps, List.flatMap_cons, List.flatMap_nil, List.drop_succ_cons, List.drop_zero, List.take_succ_cons, List.take_zero, List.cons_append, List.nil_append, List.append_nil]
      go_wp2_with (first
          | (go_at_call 39; refine (Public_any _ _ (by omega) (by omega)).mono ?_; rintro e w5 ⟨rfl, rfl⟩; first | rw [HP.out] | rw [HO.out])
          | (go_at_call 41; refine (Baser_any _ _ (by omega) (by omega)).mono ?_; rintro e w5 ⟨rfl, rfl⟩; first | rw [HP.out] | rw [HO.out])
          | (go_at_call 38; (with_reducible show Calls _ _ #[Value.int IntKind.u64 pub, _, _] _ _); refine (SCheck_any pub C A b _ _ ⟨by omega, by omega⟩ ⟨by omega, by omega⟩ ⟨by omega, by omega⟩ (hb.below (show HoldT (SP B C A) w _ from by with_reducible assumption).up (by decide)) (by omega)).mono ?_; rintro e w8 ⟨rfl, hb8⟩; rw [d1]; have hk8 := HoldT.step hstab (by with_reducible assumption) hb8)
          | (go_at_call 40; (with_reducible show Calls _ _ #[Value.int IntKind.u64 pub, _, _] _ _); refine (SCheckr_any pub C A b _ _ ⟨by omega, by omega⟩ ⟨by omega, by omega⟩ ⟨by omega, by omega⟩ (hb.below (show HoldT (SP B C A) w _ from by with_reducible assumption).up (by decide)) (by omega)).mono ?_; rintro e w8 ⟨rfl, hb8⟩; rw [d1]; have hk8 := HoldT.step hstab (by with_reducible assumption) hb8)
          | (go_at_call 38; (with_reducible show Calls _ _ #[Value.int IntKind.u64 oth, _, _] _ _); refine (SCheck_any oth C A a _ _ ⟨by omega, by omega⟩ ⟨by omega, by omega⟩ ⟨by omega, by omega⟩ (ha.below (show HoldT (SP B C A) w _ from by with_reducible assumption).up (by decide)) (by omega)).mono ?_; rintro e w8 ⟨rfl, hb8⟩; rw [d2]; have hk8 := HoldT.step hstab (by with_reducible assumption) hb8)
          | (go_at_call 40; (with_reducible show Calls _ _ #[Value.int IntKind.u64 oth, _, _] _ _); refine (SCheckr_any oth C A a _ _ ⟨by omega, by omega⟩ ⟨by omega, by omega⟩ ⟨by omega, by omega⟩ (ha.below (show HoldT (SP B C A) w _ from by with_reducible assumption).up (by decide)) (by omega)).mono ?_; rintro e w8 ⟨rfl, hb8⟩; rw [d2]; have hk8 := HoldT.step hstab (by with_reducible assumption) hb8))
      refine phPost_hold (by first | with_reducible assumption | exact HoldT.alloc hstab (by with_reducible assumption) _ | exact HoldT.alloc hstab (HoldT.alloc hstab (by with_reducible assumption) _) _) ?_
      intro hk_
      refine wpTr_step ?_
      simp only [pickOps, List.flatMap_nil]
      refine wpQuiet_nil ?_
      refine wpTr_one ?_
      simp only [pickOps, List.flatMap_cons, List.flatMap_nil, List.drop_succ_cons, List.drop_zero, List.take_succ_cons, List.take_zero, List.cons_append, List.nil_append, List.append_nil]
      go_wp2_with (first
          | (go_at_call 39; refine (Public_any _ _ (by omega) (by omega)).mono ?_; rintro e w5 ⟨rfl, rfl⟩; first | rw [HP.out] | rw [HO.out])
          | (go_at_call 41; refine (Baser_any _ _ (by omega) (by omega)).mono ?_; rintro e w5 ⟨rfl, rfl⟩; first | rw [HP.out] | rw [HO.out])
          | (go_at_call 38; (with_reducible show Calls _ _ #[Value.int IntKind.u64 pub, _, _] _ _); refine (SCheck_any pub C A b _ _ ⟨by omega, by omega⟩ ⟨by omega, by omega⟩ ⟨by omega, by omega⟩ (hb.below (show HoldT (SP B C A) w _ from by with_reducible assumption).up (by decide)) (by omega)).mono ?_; rintro e w8 ⟨rfl, hb8⟩; rw [d1]; have hk8 := HoldT.step hstab (by with_reducible assumption) hb8)
          | (go_at_call 40; (with_reducible show Calls _ _ #[Value.int IntKind.u64 pub, _, _] _ _); refine (SCheckr_any pub C A b _ _ ⟨by omega, by omega⟩ ⟨by omega, by omega⟩ ⟨by omega, by omega⟩ (hb.below (show HoldT (SP B C A) w _ from by with_reducible assumption).up (by decide)) (by omega)).mono ?_; rintro e w8 ⟨rfl, hb8⟩; rw [d1]; have hk8 := HoldT.step hstab (by with_reducible assumption) hb8)
          | (go_at_call 38; (with_reducible show Calls _ _ #[Value.int IntKind.u64 oth, _, _] _ _); refine (SCheck_any oth C A a _ _ ⟨by omega, by omega⟩ ⟨by omega, by omega⟩ ⟨by omega, by omega⟩ (ha.below (show HoldT (SP B C A) w _ from by with_reducible assumption).up (by decide)) (by omega)).mono ?_; rintro e w8 ⟨rfl, hb8⟩; rw [d2]; have hk8 := HoldT.step hstab (by with_reducible assumption) hb8)
          | (go_at_call 40; (with_reducible show Calls _ _ #[Value.int IntKind.u64 oth, _, _] _ _); refine (SCheckr_any oth C A a _ _ ⟨by omega, by omega⟩ ⟨by omega, by omega⟩ ⟨by omega, by omega⟩ (ha.below (show HoldT (SP B C A) w _ from by with_reducible assumption).up (by decide)) (by omega)).mono ?_; rintro e w8 ⟨rfl, hb8⟩; rw [d2]; have hk8 := HoldT.step hstab (by with_reducible assumption) hb8))
      refine phPost_hold (by first | with_reducible assumption | exact HoldT.alloc hstab (by with_reducible assumption) _ | exact HoldT.alloc hstab (HoldT.alloc hstab (by with_reducible assumption) _) _) ?_
      intro hk_
      refine wpTr_step ?_
      simp only [pickOps, List.flatMap_nil]
      refine wpQuiet_nil ?_
      refine wpTr_one ?_
      simp only [pickOps, List.flatMap_cons, List.flatMap_nil, List.drop_succ_cons, List.drop_zero, List.take_succ_cons, List.take_zero, List.cons_append, List.nil_append, List.append_nil]
      go_wp2_with (first
          | (go_at_call 39; refine (Public_any _ _ (by omega) (by omega)).mono ?_; rintro e w5 ⟨rfl, rfl⟩; first | rw [HP.out] | rw [HO.out])
          | (go_at_call 41; refine (Baser_any _ _ (by omega) (by omega)).mono ?_; rintro e w5 ⟨rfl, rfl⟩; first | rw [HP.out] | rw [HO.out])
          | (go_at_call 38; (with_reducible show Calls _ _ #[Value.int IntKind.u64 pub, _, _] _ _); refine (SCheck_any pub C A b _ _ ⟨by omega, by omega⟩ ⟨by omega, by omega⟩ ⟨by omega, by omega⟩ (hb.below (show HoldT (SP B C A) w _ from by with_reducible assumption).up (by decide)) (by omega)).mono ?_; rintro e w8 ⟨rfl, hb8⟩; rw [d1]; have hk8 := HoldT.step hstab (by with_reducible assumption) hb8)
          | (go_at_call 40; (with_reducible show Calls _ _ #[Value.int IntKind.u64 pub, _, _] _ _); refine (SCheckr_any pub C A b _ _ ⟨by omega, by omega⟩ ⟨by omega, by omega⟩ ⟨by omega, by omega⟩ (hb.below (show HoldT (SP B C A) w _ from by with_reducible assumption).up (by decide)) (by omega)).mono ?_; rintro e w8 ⟨rfl, hb8⟩; rw [d1]; have hk8 := HoldT.step hstab (by with_reducible assumption) hb8)
          | (go_at_call 38; (with_reducible show Calls _ _ #[Value.int IntKind.u64 oth, _, _] _ _); refine (SCheck_any oth C A a _ _ ⟨by omega, by omega⟩ ⟨by omega, by omega⟩ ⟨by omega, by omega⟩ (ha.below (show HoldT (SP B C A) w _ from by with_reducible assumption).up (by decide)) (by omega)).mono ?_; rintro e w8 ⟨rfl, hb8⟩; rw [d2]; have hk8 := HoldT.step hstab (by with_reducible assumption) hb8)
          | (go_at_call 40; (with_reducible show Calls _ _ #[Value.int IntKind.u64 oth, _, _] _ _); refine (SCheckr_any oth C A a _ _ ⟨by omega, by omega⟩ ⟨by omega, by omega⟩ ⟨by omega, by omega⟩ (ha.below (show HoldT (SP B C A) w _ from by with_reducible assumption).up (by decide)) (by omega)).mono ?_; rintro e w8 ⟨rfl, hb8⟩; rw [d2]; have hk8 := HoldT.step hstab (by with_reducible assumption) hb8))
      refine phPost_hold (by first | with_reducible assumption | exact HoldT.alloc hstab (by with_reducible assumption) _ | exact HoldT.alloc hstab (HoldT.alloc hstab (by with_reducible assumption) _) _) ?_
      intro hk_
      refine wpTr_step ?_
      simp only [pickOps, List.flatMap_nil]
      refine wpQuiet_nil ?_
      refine wpTr_one ?_
      simp only [pickOps, List.flatMap_cons, List.flatMap_nil, List.drop_succ_cons, List.drop_zero, List.take_succ_cons, List.take_zero, List.cons_append, List.nil_append, List.append_nil]
      go_wp2_with (first
          | (go_at_call 39; refine (Public_any _ _ (by omega) (by omega)).mono ?_; rintro e w5 ⟨rfl, rfl⟩; first | rw [HP.out] | rw [HO.out])
          | (go_at_call 41; refine (Baser_any _ _ (by omega) (by omega)).mono ?_; rintro e w5 ⟨rfl, rfl⟩; first | rw [HP.out] | rw [HO.out])
          | (go_at_call 38; (with_reducible show Calls _ _ #[Value.int IntKind.u64 pub, _, _] _ _); refine (SCheck_any pub C A b _ _ ⟨by omega, by omega⟩ ⟨by omega, by omega⟩ ⟨by omega, by omega⟩ (hb.below (show HoldT (SP B C A) w _ from by with_reducible assumption).up (by decide)) (by omega)).mono ?_; rintro e w8 ⟨rfl, hb8⟩; rw [d1]; have hk8 := HoldT.step hstab (by with_reducible assumption) hb8)
          | (go_at_call 40; (with_reducible show Calls _ _ #[Value.int IntKind.u64 pub, _, _] _ _); refine (SCheckr_any pub C A b _ _ ⟨by omega, by omega⟩ ⟨by omega, by omega⟩ ⟨by omega, by omega⟩ (hb.below (show HoldT (SP B C A) w _ from by with_reducible assumption).up (by decide)) (by omega)).mono ?_; rintro e w8 ⟨rfl, hb8⟩; rw [d1]; have hk8 := HoldT.step hstab (by with_reducible assumption) hb8)
          | (go_at_call 38; (with_reducible show Calls _ _ #[Value.int IntKind.u64 oth, _, _] _ _); refine (SCheck_any oth C A a _ _ ⟨by omega, by omega⟩ ⟨by omega, by omega⟩ ⟨by omega, by omega⟩ (ha.below (show HoldT (SP B C A) w _ from by with_reducible assumption).up (by decide)) (by omega)).mono ?_; rintro e w8 ⟨rfl, hb8⟩; rw [d2]; have hk8 := HoldT.step hstab (by with_reducible assumption) hb8)
          | (go_at_call 40; (with_reducible show Calls _ _ #[Value.int IntKind.u64 oth, _, _] _ _); refine (SCheckr_any oth C A a _ _ ⟨by omega, by omega⟩ ⟨by omega, by omega⟩ ⟨by omega, by omega⟩ (ha.below (show HoldT (SP B C A) w _ from by with_reducible assumption).up (by decide)) (by omega)).mono ?_; rintro e w8 ⟨rfl, hb8⟩; rw [d2]; have hk8 := HoldT.step hstab (by with_reducible assumption) hb8))
      refine phPost_hold (by first | with_reducible assumption | exact HoldT.alloc hstab (by with_reducible assumption) _ | exact HoldT.alloc hstab (HoldT.alloc hstab (by with_reducible assumption) _) _) ?_
      intro hk_
      refine wpTr_step ?_
      simp only [pickOps, List.flatMap_cons, List.flatMap_nil, List.drop_succ_cons, List.drop_zero, List.take_succ_cons, List.take_zero, List.cons_append, List.nil_append, List.append_nil]
      iterate 8 (go_big_quiet_step (exact rfl))
      refine wpQuiet_nil ?_
      refine wpTr_one ?_
      simp only [pickOps, List.flatMap_cons, List.flatMap_nil, List.drop_succ_cons, List.drop_zero, List.take_succ_cons, List.take_zero, List.cons_append, List.nil_append, List.append_nil]
      go_wp2_with (first
          | (go_at_call 39; refine (Public_any _ _ (by omega) (by omega)).mono ?_; rintro e w5 ⟨rfl, rfl⟩; first | rw [HP.out] | rw [HO.out])
          | (go_at_call 41; refine (Baser_any _ _ (by omega) (by omega)).mono ?_; rintro e w5 ⟨rfl, rfl⟩; first | rw [HP.out] | rw [HO.out])
          | (go_at_call 38; (with_reducible show Calls _ _ #[Value.int IntKind.u64 pub, _, _] _ _); refine (SCheck_any pub C A b _ _ ⟨by omega, by omega⟩ ⟨by omega, by omega⟩ ⟨by omega, by omega⟩ (hb.below (show HoldT (SP B C A) w _ from by with_reducible assumption).up (by decide)) (by omega)).mono ?_; rintro e w8 ⟨rfl, hb8⟩; rw [d1]; have hk8 := HoldT.step hstab (by with_reducible assumption) hb8)
          | (go_at_call 40; (with_reducible show Calls _ _ #[Value.int IntKind.u64 pub, _, _] _ _); refine (SCheckr_any pub C A b _ _ ⟨by omega, by omega⟩ ⟨by omega, by omega⟩ ⟨by omega, by omega⟩ (hb.below (show HoldT (SP B C A) w _ from by with_reducible assumption).up (by decide)) (by omega)).mono ?_; rintro e w8 ⟨rfl, hb8⟩; rw [d1]; have hk8 := HoldT.step hstab (by with_reducible assumption) hb8)
          | (go_at_call 38; (with_reducible show Calls _ _ #[Value.int IntKind.u64 oth, _, _] _ _); refine (SCheck_any oth C A a _ _ ⟨by omega, by omega⟩ ⟨by omega, by omega⟩ ⟨by omega, by omega⟩ (ha.below (show HoldT (SP B C A) w _ from by with_reducible assumption).up (by decide)) (by omega)).mono ?_; rintro e w8 ⟨rfl, hb8⟩; rw [d2]; have hk8 := HoldT.step hstab (by with_reducible assumption) hb8)
          | (go_at_call 40; (with_reducible show Calls _ _ #[Value.int IntKind.u64 oth, _, _] _ _); refine (SCheckr_any oth C A a _ _ ⟨by omega, by omega⟩ ⟨by omega, by omega⟩ ⟨by omega, by omega⟩ (ha.below (show HoldT (SP B C A) w _ from by with_reducible assumption).up (by decide)) (by omega)).mono ?_; rintro e w8 ⟨rfl, hb8⟩; rw [d2]; have hk8 := HoldT.step hstab (by with_reducible assumption) hb8))
      refine phPost_hold (by first | with_reducible assumption | exact HoldT.alloc hstab (by with_reducible assumption) _ | exact HoldT.alloc hstab (HoldT.alloc hstab (by with_reducible assumption) _) _) ?_
      intro hk_
      refine wpTr_step ?_
      simp only [pickOps, List.flatMap_nil]
      refine wpQuiet_nil ?_
      refine wpTr_one ?_
      simp only [pickOps, List.flatMap_cons, List.flatMap_nil, List.drop_succ_cons, List.drop_zero, List.take_succ_cons, List.take_zero, List.cons_append, List.nil_append, List.append_nil]
      go_wp2_with (first
          | (go_at_call 39; refine (Public_any _ _ (by omega) (by omega)).mono ?_; rintro e w5 ⟨rfl, rfl⟩; first | rw [HP.out] | rw [HO.out])
          | (go_at_call 41; refine (Baser_any _ _ (by omega) (by omega)).mono ?_; rintro e w5 ⟨rfl, rfl⟩; first | rw [HP.out] | rw [HO.out])
          | (go_at_call 38; (with_reducible show Calls _ _ #[Value.int IntKind.u64 pub, _, _] _ _); refine (SCheck_any pub C A b _ _ ⟨by omega, by omega⟩ ⟨by omega, by omega⟩ ⟨by omega, by omega⟩ (hb.below (show HoldT (SP B C A) w _ from by with_reducible assumption).up (by decide)) (by omega)).mono ?_; rintro e w8 ⟨rfl, hb8⟩; rw [d1]; have hk8 := HoldT.step hstab (by with_reducible assumption) hb8)
          | (go_at_call 40; (with_reducible show Calls _ _ #[Value.int IntKind.u64 pub, _, _] _ _); refine (SCheckr_any pub C A b _ _ ⟨by omega, by omega⟩ ⟨by omega, by omega⟩ ⟨by omega, by omega⟩ (hb.below (show HoldT (SP B C A) w _ from by with_reducible assumption).up (by decide)) (by omega)).mono ?_; rintro e w8 ⟨rfl, hb8⟩; rw [d1]; have hk8 := HoldT.step hstab (by with_reducible assumption) hb8)
          | (go_at_call 38; (with_reducible show Calls _ _ #[Value.int IntKind.u64 oth, _, _] _ _); refine (SCheck_any oth C A a _ _ ⟨by omega, by omega⟩ ⟨by omega, by omega⟩ ⟨by omega, by omega⟩ (ha.below (show HoldT (SP B C A) w _ from by with_reducible assumption).up (by decide)) (by omega)).mono ?_; rintro e w8 ⟨rfl, hb8⟩; rw [d2]; have hk8 := HoldT.step hstab (by with_reducible assumption) hb8)
          | (go_at_call 40; (with_reducible show Calls _ _ #[Value.int IntKind.u64 oth, _, _] _ _); refine (SCheckr_any oth C A a _ _ ⟨by omega, by omega⟩ ⟨by omega, by omega⟩ ⟨by omega, by omega⟩ (ha.below (show HoldT (SP B C A) w _ from by with_reducible assumption).up (by decide)) (by omega)).mono ?_; rintro e w8 ⟨rfl, hb8⟩; rw [d2]; have hk8 := HoldT.step hstab (by with_reducible assumption) hb8))
      refine phPost_hold (by first | with_reducible assumption | exact HoldT.alloc hstab (by with_reducible assumption) _ | exact HoldT.alloc hstab (HoldT.alloc hstab (by with_reducible assumption) _) _) ?_
      intro hk_
      refine wpTr_step ?_
      simp only [pickOps, List.flatMap_nil]
      refine wpQuiet_nil ?_
      refine wpTr_one ?_
      simp only [pickOps, List.flatMap_cons, List.flatMap_nil, List.drop_succ_cons, List.drop_zero, List.take_succ_cons, List.take_zero, List.cons_append, List.nil_append, List.append_nil]
      go_wp2_with (first
          | (go_at_call 39; refine (Public_any _ _ (by omega) (by omega)).mono ?_; rintro e w5 ⟨rfl, rfl⟩; first | rw [HP.out] | rw [HO.out])
          | (go_at_call 41; refine (Baser_any _ _ (by omega) (by omega)).mono ?_; rintro e w5 ⟨rfl, rfl⟩; first | rw [HP.out] | rw [HO.out])
          | (go_at_call 38; (with_reducible show Calls _ _ #[Value.int IntKind.u64 pub, _, _] _ _); refine (SCheck_any pub C A b _ _ ⟨by omega, by omega⟩ ⟨by omega, by omega⟩ ⟨by omega, by omega⟩ (hb.below (show HoldT (SP B C A) w _ from by with_reducible assumption).up (by decide)) (by omega)).mono ?_; rintro e w8 ⟨rfl, hb8⟩; rw [d1]; have hk8 := HoldT.step hstab (by with_reducible assumption) hb8)
          | (go_at_call 40; (with_reducible show Calls _ _ #[Value.int IntKind.u64 pub, _, _] _ _); refine (SCheckr_any pub C A b _ _ ⟨by omega, by omega⟩ ⟨by omega, by omega⟩ ⟨by omega, by omega⟩ (hb.below (show HoldT (SP B C A) w _ from by with_reducible assumption).up (by decide)) (by omega)).mono ?_; rintro e w8 ⟨rfl, hb8⟩; rw [d1]; have hk8 := HoldT.step hstab (by with_reducible assumption) hb8)
          | (go_at_call 38; (with_reducible show Calls _ _ #[Value.int IntKind.u64 oth, _, _] _ _); refine (SCheck_any oth C A a _ _ ⟨by omega, by omega⟩ ⟨by omega, by omega⟩ ⟨by omega, by omega⟩ (ha.below (show HoldT (SP B C A) w _ from by with_reducible assumption).up (by decide)) (by omega)).mono ?_; rintro e w8 ⟨rfl, hb8⟩; rw [d2]; have hk8 := HoldT.step hstab (by with_reducible assumption) hb8)
          | (go_at_call 40; (with_reducible show Calls _ _ #[Value.int IntKind.u64 oth, _, _] _ _); refine (SCheckr_any oth C A a _ _ ⟨by omega, by omega⟩ ⟨by omega, by omega⟩ ⟨by omega, by omega⟩ (ha.below (show HoldT (SP B C A) w _ from by with_reducible assumption).up (by decide)) (by omega)).mono ?_; rintro e w8 ⟨rfl, hb8⟩; rw [d2]; have hk8 := HoldT.step hstab (by with_reducible assumption) hb8))
      refine phPost_hold (by first | with_reducible assumption | exact HoldT.alloc hstab (by with_reducible assumption) _ | exact HoldT.alloc hstab (HoldT.alloc hstab (by with_reducible assumption) _) _) ?_
      intro hk_
      refine wpTr_step ?_
      simp only [pickOps, List.flatMap_nil]
      refine wpQuiet_nil ?_
      refine wpTr_one ?_
      simp only [pickOps, List.flatMap_cons, List.flatMap_nil, List.drop_succ_cons, List.drop_zero, List.take_succ_cons, List.take_zero, List.cons_append, List.nil_append, List.append_nil]
      go_wp2_with (first
          | (go_at_call 39; refine (Public_any _ _ (by omega) (by omega)).mono ?_; rintro e w5 ⟨rfl, rfl⟩; first | rw [HP.out] | rw [HO.out])
          | (go_at_call 41; refine (Baser_any _ _ (by omega) (by omega)).mono ?_; rintro e w5 ⟨rfl, rfl⟩; first | rw [HP.out] | rw [HO.out])
          | (go_at_call 38; (with_reducible show Calls _ _ #[Value.int IntKind.u64 pub, _, _] _ _); refine (SCheck_any pub C A b _ _ ⟨by omega, by omega⟩ ⟨by omega, by omega⟩ ⟨by omega, by omega⟩ (hb.below (show HoldT (SP B C A) w _ from by with_reducible assumption).up (by decide)) (by omega)).mono ?_; rintro e w8 ⟨rfl, hb8⟩; rw [d1]; have hk8 := HoldT.step hstab (by with_reducible assumption) hb8)
          | (go_at_call 40; (with_reducible show Calls _ _ #[Value.int IntKind.u64 pub, _, _] _ _); refine (SCheckr_any pub C A b _ _ ⟨by omega, by omega⟩ ⟨by omega, by omega⟩ ⟨by omega, by omega⟩ (hb.below (show HoldT (SP B C A) w _ from by with_reducible assumption).up (by decide)) (by omega)).mono ?_; rintro e w8 ⟨rfl, hb8⟩; rw [d1]; have hk8 := HoldT.step hstab (by with_reducible assumption) hb8)
          | (go_at_call 38; (with_reducible show Calls _ _ #[Value.int IntKind.u64 oth, _, _] _ _); refine (SCheck_any oth C A a _ _ ⟨by omega, by omega⟩ ⟨by omega, by omega⟩ ⟨by omega, by omega⟩ (ha.below (show HoldT (SP B C A) w _ from by with_reducible assumption).up (by decide)) (by omega)).mono ?_; rintro e w8 ⟨rfl, hb8⟩; rw [d2]; have hk8 := HoldT.step hstab (by with_reducible assumption) hb8)
          | (go_at_call 40; (with_reducible show Calls _ _ #[Value.int IntKind.u64 oth, _, _] _ _); refine (SCheckr_any oth C A a _ _ ⟨by omega, by omega⟩ ⟨by omega, by omega⟩ ⟨by omega, by omega⟩ (ha.below (show HoldT (SP B C A) w _ from by with_reducible assumption).up (by decide)) (by omega)).mono ?_; rintro e w8 ⟨rfl, hb8⟩; rw [d2]; have hk8 := HoldT.step hstab (by with_reducible assumption) hb8))
      refine phPost_hold (by first | with_reducible assumption | exact HoldT.alloc hstab (by with_reducible assumption) _ | exact HoldT.alloc hstab (HoldT.alloc hstab (by with_reducible assumption) _) _) ?_
      intro hk_
      refine wpTr_step ?_
      simp only [pickOps, List.flatMap_cons, List.flatMap_nil, List.drop_succ_cons, List.drop_zero, List.take_succ_cons, List.take_zero, List.cons_append, List.nil_append, List.append_nil]
      iterate 1 (go_big_quiet_step (exact rfl))
      refine wpQuiet_nil ?_
      refine wpTr_one ?_
      simp only [pickOps, List.flatMap_cons, List.flatMap_nil, List.drop_succ_cons, List.drop_zero, List.take_succ_cons, List.take_zero, List.cons_append, List.nil_append, List.append_nil]
      go_wp2_with (first
          | (go_at_call 39; refine (Public_any _ _ (by omega) (by omega)).mono ?_; rintro e w5 ⟨rfl, rfl⟩; first | rw [HP.out] | rw [HO.out])
          | (go_at_call 41; refine (Baser_any _ _ (by omega) (by omega)).mono ?_; rintro e w5 ⟨rfl, rfl⟩; first | rw [HP.out] | rw [HO.out])
          | (go_at_call 38; (with_reducible show Calls _ _ #[Value.int IntKind.u64 pub, _, _] _ _); refine (SCheck_any pub C A b _ _ ⟨by omega, by omega⟩ ⟨by omega, by omega⟩ ⟨by omega, by omega⟩ (hb.below (show HoldT (SP B C A) w _ from by with_reducible assumption).up (by decide)) (by omega)).mono ?_; rintro e w8 ⟨rfl, hb8⟩; rw [d1]; have hk8 := HoldT.step hstab (by with_reducible assumption) hb8)
          | (go_at_call 40; (with_reducible show Calls _ _ #[Value.int IntKind.u64 pub, _, _] _ _); refine (SCheckr_any pub C A b _ _ ⟨by omega, by omega⟩ ⟨by omega, by omega⟩ ⟨by omega, by omega⟩ (hb.below (show HoldT (SP B C A) w _ from by with_reducible assumption).up (by decide)) (by omega)).mono ?_; rintro e w8 ⟨rfl, hb8⟩; rw [d1]; have hk8 := HoldT.step hstab (by with_reducible assumption) hb8)
          | (go_at_call 38; (with_reducible show Calls _ _ #[Value.int IntKind.u64 oth, _, _] _ _); refine (SCheck_any oth C A a _ _ ⟨by omega, by omega⟩ ⟨by omega, by omega⟩ ⟨by omega, by omega⟩ (ha.below (show HoldT (SP B C A) w _ from by with_reducible assumption).up (by decide)) (by omega)).mono ?_; rintro e w8 ⟨rfl, hb8⟩; rw [d2]; have hk8 := HoldT.step hstab (by with_reducible assumption) hb8)
          | (go_at_call 40; (with_reducible show Calls _ _ #[Value.int IntKind.u64 oth, _, _] _ _); refine (SCheckr_any oth C A a _ _ ⟨by omega, by omega⟩ ⟨by omega, by omega⟩ ⟨by omega, by omega⟩ (ha.below (show HoldT (SP B C A) w _ from by with_reducible assumption).up (by decide)) (by omega)).mono ?_; rintro e w8 ⟨rfl, hb8⟩; rw [d2]; have hk8 := HoldT.step hstab (by with_reducible assumption) hb8))
      refine phPost_hold (by first | with_reducible assumption | exact HoldT.alloc hstab (by with_reducible assumption) _ | exact HoldT.alloc hstab (HoldT.alloc hstab (by with_reducible assumption) _) _) ?_
      intro hk_
      refine wpTr_fin ?_
      simp only [pickOps, List.flatMap_cons, List.flatMap_nil, List.drop_succ_cons, List.drop_zero, List.take_succ_cons, List.take_zero, List.cons_append, List.nil_append, List.append_nil]
      iterate 1 (go_big_quiet_step (exact rfl))
      refine wpQuiet_nil ?_
      go_wp2_with fail
      go_ret
      exact ⟨rfl, (show HoldT (SP B C A) w _ from by with_reducible assumption).up⟩
  · rcases Bool.eq_false_or_eq_true (decide (signOk oth a C A)) with d2 | d2
    ·
      go_enter Try.func11, Try.ntmps11
      go_wp2_with (first
          | (go_at_call 36; refine (alive10_any _).mono ?_; rintro e w1 ⟨rfl, hb1⟩)
          | (go_at_call 37; refine (Sign_any x a _ _ ⟨by omega, by omega⟩ (ha.below hb1 (by decide)) (by omega)).mono ?_; rintro e w2 ⟨rfl, hb2⟩; rw [HC.out, HA.out]; have hbel2 := hb1.trans (hb2.mono hb1.size))
          | (refine wpList_store_row rfl 43 _ _ rfl w2.heap.size #[.int .u64 C, .int .u64 A] _ _ rfl rfl (Blk.new _ _ _) (by rw [pv_size, pv_size]) (by rw [pv_size]; exact info_proof) (pv_one _ _) ?_; intro w3 hg3 hs3 hR3
             have hbel3 : Below w.heap.size w w3 := (hbel2.alloc hbel2.size _).grown hg3 (by simp only [World.size_alloc]; exact Nat.le_succ_of_le hbel2.size) (fun k hk => by cases hk; exact hbel2.size)
             have hk : HoldT (SP w2.heap.size C A) w w3 := ⟨hR3, hbel3⟩
             clear hg3 hs3 hR3))
      generalize w2.heap.size = B at *
      have hstab := stabSP B C A
      have hS0 : ∀ e : InC (SP B C A), e.u.cell? ⟨B, 0, none⟩ = some (.int .u64 C) := fun e => e.has.cell 0
      have hS1 : ∀ e : InC (SP B C A), e.u.cell? ⟨B, 1, none⟩ = some (.int .u64 A) := fun e => e.has.cell 1
      have hk := HoldT.drew hstab hk
      try change Code.wp _ _ _ (Act.mk _ _) _
      haveI hne_ : Nonempty (InC (SP B C A)) := ⟨⟨_, (hk).1⟩⟩
      refine wp_region_tr (C := fun w_ => ∃ e_ : InC (SP B C A), w_ = e_.u) (.step [0, 2, 3, 5, 7, 8] (.alt 1 (.step [] (.alt 4 (.step [] (.alt 6 (.step [] (.alt 9 (.step [10, 11, 12, 14, 15, 17, 19, 20] (.alt 13 (.step [] (.alt 16 (.step [] (.alt 18 (.step [] (.alt 21 (.step [22] (.alt 23 (.fin [24]) .nil)) .nil)) .nil)) .nil)) .nil)) .nil)) .nil)) .nil)) .nil)) (by kernel_rfl) (by kernel_rfl) (fun _ _ _ _ hd_ h_ => ⟨hd_.symm.trans h_.1, h_.2⟩) ⟨⟨World.drew _, (hk).1⟩, rfl⟩ ?_
      have hk_ := hk
      refine wpTr_step ?_
      simp only [pickOps, List.flatMap_cons, List.flatMap_nil, List.drop_succ_cons, List.drop_zero, List.take_succ_cons, List.take_zero, List.cons_append, List.nil_append, List.append_nil]
      iterate 6 (go_big_quiet_step (exact rfl))
      refine wpQuiet_nil ?_
      refine wpTr_one ?_
      simp only [pickOps, List.flatMap_cons, List.flatMap_nil, List.drop_succ_cons, List.drop_zero, List.take_succ_cons, List.take_zero, List.cons_append, List.nil_append, List.append_nil]
      go_wp2_with (first
          | (go_at_call 39; refine (Public_any _ _ (by omega) (by omega)).mono ?_; rintro e w5 ⟨rfl, rfl⟩; first | rw [HP.out] | rw [HO.out])
          | (go_at_call 41; refine (Baser_any _ _ (by omega) (by omega)).mono ?_; rintro e w5 ⟨rfl, rfl⟩; first | rw [HP.out] | rw [HO.out])
          | (go_at_call 38; (with_reducible show Calls _ _ #[Value.int IntKind.u64 pub, _, _] _ _); refine (SCheck_any pub C A b _ _ ⟨by omega, by omega⟩ ⟨by omega, by omega⟩ ⟨by omega, by omega⟩ (hb.below (show HoldT (SP B C A) w _ from by with_reducible assumption).up (by decide)) (by omega)).mono ?_; rintro e w8 ⟨rfl, hb8⟩; rw [d1]; have hk8 := HoldT.step hstab (by with_reducible assumption) hb8)
          | (go_at_call 40; (with_reducible show Calls _ _ #[Value.int IntKind.u64 pub, _, _] _ _); refine (SCheckr_any pub C A b _ _ ⟨by omega, by omega⟩ ⟨by omega, by omega⟩ ⟨by omega, by omega⟩ (hb.below (show HoldT (SP B C A) w _ from by with_reducible assumption).up (by decide)) (by omega)).mono ?_; rintro e w8 ⟨rfl, hb8⟩; rw [d1]; have hk8 := HoldT.step hstab (by with_reducible assumption) hb8)
          | (go_at_call 38; (with_reducible show Calls _ _ #[Value.int IntKind.u64 oth, _, _] _ _); refine (SCheck_any oth C A a _ _ ⟨by omega, by omega⟩ ⟨by omega, by omega⟩ ⟨by omega, by omega⟩ (ha.below (show HoldT (SP B C A) w _ from by with_reducible assumption).up (by decide)) (by omega)).mono ?_; rintro e w8 ⟨rfl, hb8⟩; rw [d2]; have hk8 := HoldT.step hstab (by with_reducible assumption) hb8)
          | (go_at_call 40; (with_reducible show Calls _ _ #[Value.int IntKind.u64 oth, _, _] _ _); refine (SCheckr_any oth C A a _ _ ⟨by omega, by omega⟩ ⟨by omega, by omega⟩ ⟨by omega, by omega⟩ (ha.below (show HoldT (SP B C A) w _ from by with_reducible assumption).up (by decide)) (by omega)).mono ?_; rintro e w8 ⟨rfl, hb8⟩; rw [d2]; have hk8 := HoldT.step hstab (by with_reducible assumption) hb8))
      refine phPost_hold (by first | with_reducible assumption | exact HoldT.alloc hstab (by with_reducible assumption) _ | exact HoldT.alloc hstab (HoldT.alloc hstab (by with_reducible assumption) _) _) ?_
      intro hk_
      refine wpTr_step ?_
      simp only [pickOps, List.flatMap_nil]
      refine wpQuiet_nil ?_
      refine wpTr_one ?_
      simp only [pickOps, List.flatMap_cons, List.flatMap_nil, List.drop_succ_cons, List.drop_zero, List.take_succ_cons, List.take_zero, List.cons_append, List.nil_append, List.append_nil]
      go_wp2_with (first
          | (go_at_call 39; refine (Public_any _ _ (by omega) (by omega)).mono ?_; rintro e w5 ⟨rfl, rfl⟩; first | rw [HP.out] | rw [HO.out])
          | (go_at_call 41; refine (Baser_any _ _ (by omega) (by omega)).mono ?_; rintro e w5 ⟨rfl, rfl⟩; first | rw [HP.out] | rw [HO.out])
          | (go_at_call 38; (with_reducible show Calls _ _ #[Value.int IntKind.u64 pub, _, _] _ _); refine (SCheck_any pub C A b _ _ ⟨by omega, by omega⟩ ⟨by omega, by omega⟩ ⟨by omega, by omega⟩ (hb.below (show HoldT (SP B C A) w _ from by with_reducible assumption).up (by decide)) (by omega)).mono ?_; rintro e w8 ⟨rfl, hb8⟩; rw [d1]; have hk8 := HoldT.step hstab (by with_reducible assumption) hb8)
          | (go_at_call 40; (with_reducible show Calls _ _ #[Value.int IntKind.u64 pub, _, _] _ _); refine (SCheckr_any pub C A b _ _ ⟨by omega, by omega⟩ ⟨by omega, by omega⟩ ⟨by omega, by omega⟩ (hb.below (show HoldT (SP B C A) w _ from by with_reducible assumption).up (by decide)) (by omega)).mono ?_; rintro e w8 ⟨rfl, hb8⟩; rw [d1]; have hk8 := HoldT.step hstab (by with_reducible assumption) hb8)
          | (go_at_call 38; (with_reducible show Calls _ _ #[Value.int IntKind.u64 oth, _, _] _ _); refine (SCheck_any oth C A a _ _ ⟨by omega, by omega⟩ ⟨by omega, by omega⟩ ⟨by omega, by omega⟩ (ha.below (show HoldT (SP B C A) w _ from by with_reducible assumption).up (by decide)) (by omega)).mono ?_; rintro e w8 ⟨rfl, hb8⟩; rw [d2]; have hk8 := HoldT.step hstab (by with_reducible assumption) hb8)
          | (go_at_call 40; (with_reducible show Calls _ _ #[Value.int IntKind.u64 oth, _, _] _ _); refine (SCheckr_any oth C A a _ _ ⟨by omega, by omega⟩ ⟨by omega, by omega⟩ ⟨by omega, by omega⟩ (ha.below (show HoldT (SP B C A) w _ from by with_reducible assumption).up (by decide)) (by omega)).mono ?_; rintro e w8 ⟨rfl, hb8⟩; rw [d2]; have hk8 := HoldT.step hstab (by with_reducible assumption) hb8))
      refine phPost_hold (by first | with_reducible assumption | exact HoldT.alloc hstab (by with_reducible assumption) _ | exact HoldT.alloc hstab (HoldT.alloc hstab (by with_reducible assumption) _) _) ?_
      intro hk_
      refine wpTr_step ?_
      simp only [pickOps, List.flatMap_nil]
      refine wpQuiet_nil ?_
      refine wpTr_one ?_
      simp only [pickOps, List.flatMap_cons, List.flatMap_nil, List.drop_succ_cons, List.drop_zero, List.take_succ_cons, List.take_zero, List.cons_append, List.nil_append, List.append_nil]
      go_wp2_with (first
          | (go_at_call 39; refine (Public_any _ _ (by omega) (by omega)).mono ?_; rintro e w5 ⟨rfl, rfl⟩; first | rw [HP.out] | rw [HO.out])
          | (go_at_call 41; refine (Baser_any _ _ (by omega) (by omega)).mono ?_; rintro e w5 ⟨rfl, rfl⟩; first | rw [HP.out] | rw [HO.out])
          | (go_at_call 38; (with_reducible show Calls _ _ #[Value.int IntKind.u64 pub, _, _] _ _); refine (SCheck_any pub C A b _ _ ⟨by omega, by omega⟩ ⟨by omega, by omega⟩ ⟨by omega, by omega⟩ (hb.below (show HoldT (SP B C A) w _ from by with_reducible assumption).up (by decide)) (by omega)).mono ?_; rintro e w8 ⟨rfl, hb8⟩; rw [d1]; have hk8 := HoldT.step hstab (by with_reducible assumption) hb8)
          | (go_at_call 40; (with_reducible show Calls _ _ #[Value.int IntKind.u64 pub, _, _] _ _); refine (SCheckr_any pub C A b _ _ ⟨by omega, by omega⟩ ⟨by omega, by omega⟩ ⟨by omega, by omega⟩ (hb.below (show HoldT (SP B C A) w _ from by with_reducible assumption).up (by decide)) (by omega)).mono ?_; rintro e w8 ⟨rfl, hb8⟩; rw [d1]; have hk8 := HoldT.step hstab (by with_reducible assumption) hb8)
          | (go_at_call 38; (with_reducible show Calls _ _ #[Value.int IntKind.u64 oth, _, _] _ _); refine (SCheck_any oth C A a _ _ ⟨by omega, by omega⟩ ⟨by omega, by omega⟩ ⟨by omega, by omega⟩ (ha.below (show HoldT (SP B C A) w _ from by with_reducible assumption).up (by decide)) (by omega)).mono ?_; rintro e w8 ⟨rfl, hb8⟩; rw [d2]; have hk8 := HoldT.step hstab (by with_reducible assumption) hb8)
          | (go_at_call 40; (with_reducible show Calls _ _ #[Value.int IntKind.u64 oth, _, _] _ _); refine (SCheckr_any oth C A a _ _ ⟨by omega, by omega⟩ ⟨by omega, by omega⟩ ⟨by omega, by omega⟩ (ha.below (show HoldT (SP B C A) w _ from by with_reducible assumption).up (by decide)) (by omega)).mono ?_; rintro e w8 ⟨rfl, hb8⟩; rw [d2]; have hk8 := HoldT.step hstab (by with_reducible assumption) hb8))
      refine phPost_hold (by first | with_reducible assumption | exact HoldT.alloc hstab (by with_reducible assumption) _ | exact HoldT.alloc hstab (HoldT.alloc hstab (by with_reducible assumption) _) _) ?_
      intro hk_
      refine wpTr_step ?_
      simp only [pickOps, List.flatMap_nil]
      refine wpQuiet_nil ?_
      refine wpTr_one ?_
      simp only [pickOps, List.flatMap_cons, List.flatMap_nil, List.drop_succ_cons, List.drop_zero, List.take_succ_cons, List.take_zero, List.cons_append, List.nil_append, List.append_nil]
      go_wp2_with (first
          | (go_at_call 39; refine (Public_any _ _ (by omega) (by omega)).mono ?_; rintro e w5 ⟨rfl, rfl⟩; first | rw [HP.out] | rw [HO.out])
          | (go_at_call 41; refine (Baser_any _ _ (by omega) (by omega)).mono ?_; rintro e w5 ⟨rfl, rfl⟩; first | rw [HP.out] | rw [HO.out])
          | (go_at_call 38; (with_reducible show Calls _ _ #[Value.int IntKind.u64 pub, _, _] _ _); refine (SCheck_any pub C A b _ _ ⟨by omega, by omega⟩ ⟨by omega, by omega⟩ ⟨by omega, by omega⟩ (hb.below (show HoldT (SP B C A) w _ from by with_reducible assumption).up (by decide)) (by omega)).mono ?_; rintro e w8 ⟨rfl, hb8⟩; rw [d1]; have hk8 := HoldT.step hstab (by with_reducible assumption) hb8)
          | (go_at_call 40; (with_reducible show Calls _ _ #[Value.int IntKind.u64 pub, _, _] _ _); refine (SCheckr_any pub C A b _ _ ⟨by omega, by omega⟩ ⟨by omega, by omega⟩ ⟨by omega, by omega⟩ (hb.below (show HoldT (SP B C A) w _ from by with_reducible assumption).up (by decide)) (by omega)).mono ?_; rintro e w8 ⟨rfl, hb8⟩; rw [d1]; have hk8 := HoldT.step hstab (by with_reducible assumption) hb8)
          | (go_at_call 38; (with_reducible show Calls _ _ #[Value.int IntKind.u64 oth, _, _] _ _); refine (SCheck_any oth C A a _ _ ⟨by omega, by omega⟩ ⟨by omega, by omega⟩ ⟨by omega, by omega⟩ (ha.below (show HoldT (SP B C A) w _ from by with_reducible assumption).up (by decide)) (by omega)).mono ?_; rintro e w8 ⟨rfl, hb8⟩; rw [d2]; have hk8 := HoldT.step hstab (by with_reducible assumption) hb8)
          | (go_at_call 40; (with_reducible show Calls _ _ #[Value.int IntKind.u64 oth, _, _] _ _); refine (SCheckr_any oth C A a _ _ ⟨by omega, by omega⟩ ⟨by omega, by omega⟩ ⟨by omega, by omega⟩ (ha.below (show HoldT (SP B C A) w _ from by with_reducible assumption).up (by decide)) (by omega)).mono ?_; rintro e w8 ⟨rfl, hb8⟩; rw [d2]; have hk8 := HoldT.step hstab (by with_reducible assumption) hb8))
      refine phPost_hold (by first | with_reducible assumption | exact HoldT.alloc hstab (by with_reducible assumption) _ | exact HoldT.alloc hstab (HoldT.alloc hstab (by with_reducible assumption) _) _) ?_
      intro hk_
      refine wpTr_step ?_
      simp only [pickOps, List.flatMap_cons, List.flatMap_nil, List.drop_succ_cons, List.drop_zero, List.take_succ_cons, List.take_zero, List.cons_append, List.nil_append, List.append_nil]
      iterate 8 (go_big_quiet_step (exact rfl))
      refine wpQuiet_nil ?_
      refine wpTr_one ?_
      simp only [pickOps, List.flatMap_cons, List.flatMap_nil, List.drop_succ_cons, List.drop_zero, List.take_succ_cons, List.take_zero, List.cons_append, List.nil_append, List.append_nil]
      go_wp2_with (first
          | (go_at_call 39; refine (Public_any _ _ (by omega) (by omega)).mono ?_; rintro e w5 ⟨rfl, rfl⟩; first | rw [HP.out] | rw [HO.out])
          | (go_at_call 41; refine (Baser_any _ _ (by omega) (by omega)).mono ?_; rintro e w5 ⟨rfl, rfl⟩; first | rw [HP.out] | rw [HO.out])
          | (go_at_call 38; (with_reducible show Calls _ _ #[Value.int IntKind.u64 pub, _, _] _ _); refine (SCheck_any pub C A b _ _ ⟨by omega, by omega⟩ ⟨by omega, by omega⟩ ⟨by omega, by omega⟩ (hb.below (show HoldT (SP B C A) w _ from by with_reducible assumption).up (by decide)) (by omega)).mono ?_; rintro e w8 ⟨rfl, hb8⟩; rw [d1]; have hk8 := HoldT.step hstab (by with_reducible assumption) hb8)
          | (go_at_call 40; (with_reducible show Calls _ _ #[Value.int IntKind.u64 pub, _, _] _ _); refine (SCheckr_any pub C A b _ _ ⟨by omega, by omega⟩ ⟨by omega, by omega⟩ ⟨by omega, by omega⟩ (hb.below (show HoldT (SP B C A) w _ from by with_reducible assumption).up (by decide)) (by omega)).mono ?_; rintro e w8 ⟨rfl, hb8⟩; rw [d1]; have hk8 := HoldT.step hstab (by with_reducible assumption) hb8)
          | (go_at_call 38; (with_reducible show Calls _ _ #[Value.int IntKind.u64 oth, _, _] _ _); refine (SCheck_any oth C A a _ _ ⟨by omega, by omega⟩ ⟨by omega, by omega⟩ ⟨by omega, by omega⟩ (ha.below (show HoldT (SP B C A) w _ from by with_reducible assumption).up (by decide)) (by omega)).mono ?_; rintro e w8 ⟨rfl, hb8⟩; rw [d2]; have hk8 := HoldT.step hstab (by with_reducible assumption) hb8)
          | (go_at_call 40; (with_reducible show Calls _ _ #[Value.int IntKind.u64 oth, _, _] _ _); refine (SCheckr_any oth C A a _ _ ⟨by omega, by omega⟩ ⟨by omega, by omega⟩ ⟨by omega, by omega⟩ (ha.below (show HoldT (SP B C A) w _ from by with_reducible assumption).up (by decide)) (by omega)).mono ?_; rintro e w8 ⟨rfl, hb8⟩; rw [d2]; have hk8 := HoldT.step hstab (by with_reducible assumption) hb8))
      refine phPost_hold (by first | with_reducible assumption | exact HoldT.alloc hstab (by with_reducible assumption) _ | exact HoldT.alloc hstab (HoldT.alloc hstab (by with_reducible assumption) _) _) ?_
      intro hk_
      refine wpTr_step ?_
      simp only [pickOps, List.flatMap_nil]
      refine wpQuiet_nil ?_
      refine wpTr_one ?_
      simp only [pickOps, List.flatMap_cons, List.flatMap_nil, List.drop_succ_cons, List.drop_zero, List.take_succ_cons, List.take_zero, List.cons_append, List.nil_append, List.append_nil]
      go_wp2_with (first
          | (go_at_call 39; refine (Public_any _ _ (by omega) (by omega)).mono ?_; rintro e w5 ⟨rfl, rfl⟩; first | rw [HP.out] | rw [HO.out])
          | (go_at_call 41; refine (Baser_any _ _ (by omega) (by omega)).mono ?_; rintro e w5 ⟨rfl, rfl⟩; first | rw [HP.out] | rw [HO.out])
          | (go_at_call 38; (with_reducible show Calls _ _ #[Value.int IntKind.u64 pub, _, _] _ _); refine (SCheck_any pub C A b _ _ ⟨by omega, by omega⟩ ⟨by omega, by omega⟩ ⟨by omega, by omega⟩ (hb.below (show HoldT (SP B C A) w _ from by with_reducible assumption).up (by decide)) (by omega)).mono ?_; rintro e w8 ⟨rfl, hb8⟩; rw [d1]; have hk8 := HoldT.step hstab (by with_reducible assumption) hb8)
          | (go_at_call 40; (with_reducible show Calls _ _ #[Value.int IntKind.u64 pub, _, _] _ _); refine (SCheckr_any pub C A b _ _ ⟨by omega, by omega⟩ ⟨by omega, by omega⟩ ⟨by omega, by omega⟩ (hb.below (show HoldT (SP B C A) w _ from by with_reducible assumption).up (by decide)) (by omega)).mono ?_; rintro e w8 ⟨rfl, hb8⟩; rw [d1]; have hk8 := HoldT.step hstab (by with_reducible assumption) hb8)
          | (go_at_call 38; (with_reducible show Calls _ _ #[Value.int IntKind.u64 oth, _, _] _ _); refine (SCheck_any oth C A a _ _ ⟨by omega, by omega⟩ ⟨by omega, by omega⟩ ⟨by omega, by omega⟩ (ha.below (show HoldT (SP B C A) w _ from by with_reducible assumption).up (by decide)) (by omega)).mono ?_; rintro e w8 ⟨rfl, hb8⟩; rw [d2]; have hk8 := HoldT.step hstab (by with_reducible assumption) hb8)
          | (go_at_call 40; (with_reducible show Calls _ _ #[Value.int IntKind.u64 oth, _, _] _ _); refine (SCheckr_any oth C A a _ _ ⟨by omega, by omega⟩ ⟨by omega, by omega⟩ ⟨by omega, by omega⟩ (ha.below (show HoldT (SP B C A) w _ from by with_reducible assumption).up (by decide)) (by omega)).mono ?_; rintro e w8 ⟨rfl, hb8⟩; rw [d2]; have hk8 := HoldT.step hstab (by with_reducible assumption) hb8))
      refine phPost_hold (by first | with_reducible assumption | exact HoldT.alloc hstab (by with_reducible assumption) _ | exact HoldT.alloc hstab (HoldT.alloc hstab (by with_reducible assumption) _) _) ?_
      intro hk_
      refine wpTr_step ?_
      simp only [pickOps, List.flatMap_nil]
      refine wpQuiet_nil ?_
      refine wpTr_one ?_
      simp only [pickOps, List.flatMap_cons, List.flatMap_nil, List.drop_succ_cons, List.drop_zero, List.take_succ_cons, List.take_zero, List.cons_append, List.nil_append, List.append_nil]
      go_wp2_with (first
          | (go_at_call 39; refine (Public_any _ _ (by omega) (by omega)).mono ?_; rintro e w5 ⟨rfl, rfl⟩; first | rw [HP.out] | rw [HO.out])
          | (go_at_call 41; refine (Baser_any _ _ (by omega) (by omega)).mono ?_; rintro e w5 ⟨rfl, rfl⟩; first | rw [HP.out] | rw [HO.out])
          | (go_at_call 38; (with_reducible show Calls _ _ #[Value.int IntKind.u64 pub, _, _] _ _); refine (SCheck_any pub C A b _ _ ⟨by omega, by omega⟩ ⟨by omega, by omega⟩ ⟨by omega, by omega⟩ (hb.below (show HoldT (SP B C A) w _ from by with_reducible assumption).up (by decide)) (by omega)).mono ?_; rintro e w8 ⟨rfl, hb8⟩; rw [d1]; have hk8 := HoldT.step hstab (by with_reducible assumption) hb8)
          | (go_at_call 40; (with_reducible show Calls _ _ #[Value.int IntKind.u64 pub, _, _] _ _); refine (SCheckr_any pub C A b _ _ ⟨by omega, by omega⟩ ⟨by omega, by omega⟩ ⟨by omega, by omega⟩ (hb.below (show HoldT (SP B C A) w _ from by with_reducible assumption).up (by decide)) (by omega)).mono ?_; rintro e w8 ⟨rfl, hb8⟩; rw [d1]; have hk8 := HoldT.step hstab (by with_reducible assumption) hb8)
          | (go_at_call 38; (with_reducible show Calls _ _ #[Value.int IntKind.u64 oth, _, _] _ _); refine (SCheck_any oth C A a _ _ ⟨by omega, by omega⟩ ⟨by omega, by omega⟩ ⟨by omega, by omega⟩ (ha.below (show HoldT (SP B C A) w _ from by with_reducible assumption).up (by decide)) (by omega)).mono ?_; rintro e w8 ⟨rfl, hb8⟩; rw [d2]; have hk8 := HoldT.step hstab (by with_reducible assumption) hb8)
          | (go_at_call 40; (with_reducible show Calls _ _ #[Value.int IntKind.u64 oth, _, _] _ _); refine (SCheckr_any oth C A a _ _ ⟨by omega, by omega⟩ ⟨by omega, by omega⟩ ⟨by omega, by omega⟩ (ha.below (show HoldT (SP B C A) w _ from by with_reducible assumption).up (by decide)) (by omega)).mono ?_; rintro e w8 ⟨rfl, hb8⟩; rw [d2]; have hk8 := HoldT.step hstab (by with_reducible assumption) hb8))
      refine phPost_hold (by first | with_reducible assumption | exact HoldT.alloc hstab (by with_reducible assumption) _ | exact HoldT.alloc hstab (HoldT.alloc hstab (by with_reducible assumption) _) _) ?_
      intro hk_
      refine wpTr_step ?_
      simp only [pickOps, List.flatMap_nil]
      refine wpQuiet_nil ?_
      refine wpTr_one ?_
      simp only [pickOps, List.flatMap_cons, List.flatMap_nil, List.drop_succ_cons, List.drop_zero, List.take_succ_cons, List.take_zero, List.cons_append, List.nil_append, List.append_nil]
      go_wp2_with (first
          | (go_at_call 39; refine (Public_any _ _ (by omega) (by omega)).mono ?_; rintro e w5 ⟨rfl, rfl⟩; first | rw [HP.out] | rw [HO.out])
          | (go_at_call 41; refine (Baser_any _ _ (by omega) (by omega)).mono ?_; rintro e w5 ⟨rfl, rfl⟩; first | rw [HP.out] | rw [HO.out])
          | (go_at_call 38; (with_reducible show Calls _ _ #[Value.int IntKind.u64 pub, _, _] _ _); refine (SCheck_any pub C A b _ _ ⟨by omega, by omega⟩ ⟨by omega, by omega⟩ ⟨by omega, by omega⟩ (hb.below (show HoldT (SP B C A) w _ from by with_reducible assumption).up (by decide)) (by omega)).mono ?_; rintro e w8 ⟨rfl, hb8⟩; rw [d1]; have hk8 := HoldT.step hstab (by with_reducible assumption) hb8)
          | (go_at_call 40; (with_reducible show Calls _ _ #[Value.int IntKind.u64 pub, _, _] _ _); refine (SCheckr_any pub C A b _ _ ⟨by omega, by omega⟩ ⟨by omega, by omega⟩ ⟨by omega, by omega⟩ (hb.below (show HoldT (SP B C A) w _ from by with_reducible assumption).up (by decide)) (by omega)).mono ?_; rintro e w8 ⟨rfl, hb8⟩; rw [d1]; have hk8 := HoldT.step hstab (by with_reducible assumption) hb8)
          | (go_at_call 38; (with_reducible show Calls _ _ #[Value.int IntKind.u64 oth, _, _] _ _); refine (SCheck_any oth C A a _ _ ⟨by omega, by omega⟩ ⟨by omega, by omega⟩ ⟨by omega, by omega⟩ (ha.below (show HoldT (SP B C A) w _ from by with_reducible assumption).up (by decide)) (by omega)).mono ?_; rintro e w8 ⟨rfl, hb8⟩; rw [d2]; have hk8 := HoldT.step hstab (by with_reducible assumption) hb8)
          | (go_at_call 40; (with_reducible show Calls _ _ #[Value.int IntKind.u64 oth, _, _] _ _); refine (SCheckr_any oth C A a _ _ ⟨by omega, by omega⟩ ⟨by omega, by omega⟩ ⟨by omega, by omega⟩ (ha.below (show HoldT (SP B C A) w _ from by with_reducible assumption).up (by decide)) (by omega)).mono ?_; rintro e w8 ⟨rfl, hb8⟩; rw [d2]; have hk8 := HoldT.step hstab (by with_reducible assumption) hb8))
      refine phPost_hold (by first | with_reducible assumption | exact HoldT.alloc hstab (by with_reducible assumption) _ | exact HoldT.alloc hstab (HoldT.alloc hstab (by with_reducible assumption) _) _) ?_
      intro hk_
      refine wpTr_step ?_
      simp only [pickOps, List.flatMap_cons, List.flatMap_nil, List.drop_succ_cons, List.drop_zero, List.take_succ_cons, List.take_zero, List.cons_append, List.nil_append, List.append_nil]
      iterate 1 (go_big_quiet_step (exact rfl))
      refine wpQuiet_nil ?_
      refine wpTr_one ?_
      simp only [pickOps, List.flatMap_cons, List.flatMap_nil, List.drop_succ_cons, List.drop_zero, List.take_succ_cons, List.take_zero, List.cons_append, List.nil_append, List.append_nil]
      go_wp2_with (first
          | (go_at_call 39; refine (Public_any _ _ (by omega) (by omega)).mono ?_; rintro e w5 ⟨rfl, rfl⟩; first | rw [HP.out] | rw [HO.out])
          | (go_at_call 41; refine (Baser_any _ _ (by omega) (by omega)).mono ?_; rintro e w5 ⟨rfl, rfl⟩; first | rw [HP.out] | rw [HO.out])
          | (go_at_call 38; (with_reducible show Calls _ _ #[Value.int IntKind.u64 pub, _, _] _ _); refine (SCheck_any pub C A b _ _ ⟨by omega, by omega⟩ ⟨by omega, by omega⟩ ⟨by omega, by omega⟩ (hb.below (show HoldT (SP B C A) w _ from by with_reducible assumption).up (by decide)) (by omega)).mono ?_; rintro e w8 ⟨rfl, hb8⟩; rw [d1]; have hk8 := HoldT.step hstab (by with_reducible assumption) hb8)
          | (go_at_call 40; (with_reducible show Calls _ _ #[Value.int IntKind.u64 pub, _, _] _ _); refine (SCheckr_any pub C A b _ _ ⟨by omega, by omega⟩ ⟨by omega, by omega⟩ ⟨by omega, by omega⟩ (hb.below (show HoldT (SP B C A) w _ from by with_reducible assumption).up (by decide)) (by omega)).mono ?_; rintro e w8 ⟨rfl, hb8⟩; rw [d1]; have hk8 := HoldT.step hstab (by with_reducible assumption) hb8)
          | (go_at_call 38; (with_reducible show Calls _ _ #[Value.int IntKind.u64 oth, _, _] _ _); refine (SCheck_any oth C A a _ _ ⟨by omega, by omega⟩ ⟨by omega, by omega⟩ ⟨by omega, by omega⟩ (ha.below (show HoldT (SP B C A) w _ from by with_reducible assumption).up (by decide)) (by omega)).mono ?_; rintro e w8 ⟨rfl, hb8⟩; rw [d2]; have hk8 := HoldT.step hstab (by with_reducible assumption) hb8)
          | (go_at_call 40; (with_reducible show Calls _ _ #[Value.int IntKind.u64 oth, _, _] _ _); refine (SCheckr_any oth C A a _ _ ⟨by omega, by omega⟩ ⟨by omega, by omega⟩ ⟨by omega, by omega⟩ (ha.below (show HoldT (SP B C A) w _ from by with_reducible assumption).up (by decide)) (by omega)).mono ?_; rintro e w8 ⟨rfl, hb8⟩; rw [d2]; have hk8 := HoldT.step hstab (by with_reducible assumption) hb8))
      refine phPost_hold (by first | with_reducible assumption | exact HoldT.alloc hstab (by with_reducible assumption) _ | exact HoldT.alloc hstab (HoldT.alloc hstab (by with_reducible assumption) _) _) ?_
      intro hk_
      refine wpTr_fin ?_
      simp only [pickOps, List.flatMap_cons, List.flatMap_nil, List.drop_succ_cons, List.drop_zero, List.take_succ_cons, List.take_zero, List.cons_append, List.nil_append, List.append_nil]
      iterate 1 (go_big_quiet_step (exact rfl))
      refine wpQuiet_nil ?_
      go_wp2_with fail
      go_ret
      exact ⟨rfl, (show HoldT (SP B C A) w _ from by with_reducible assumption).up⟩
    ·
      go_enter Try.func11, Try.ntmps11
      go_wp2_with (first
          | (go_at_call 36; refine (alive10_any _).mono ?_; rintro e w1 ⟨rfl, hb1⟩)
          | (go_at_call 37; refine (Sign_any x a _ _ ⟨by omega, by omega⟩ (ha.below hb1 (by decide)) (by omega)).mono ?_; rintro e w2 ⟨rfl, hb2⟩; rw [HC.out, HA.out]; have hbel2 := hb1.trans (hb2.mono hb1.size))
          | (refine wpList_store_row rfl 43 _ _ rfl w2.heap.size #[.int .u64 C, .int .u64 A] _ _ rfl rfl (Blk.new _ _ _) (by rw [pv_size, pv_size]) (by rw [pv_size]; exact info_proof) (pv_one _ _) ?_; intro w3 hg3 hs3 hR3
             have hbel3 : Below w.heap.size w w3 := (hbel2.alloc hbel2.size _).grown hg3 (by simp only [World.size_alloc]; exact Nat.le_succ_of_le hbel2.size) (fun k hk => by cases hk; exact hbel2.size)
             have hk : HoldT (SP w2.heap.size C A) w w3 := ⟨hR3, hbel3⟩
             clear hg3 hs3 hR3))
      generalize w2.heap.size = B at *
      have hstab := stabSP B C A
      have hS0 : ∀ e : InC (SP B C A), e.u.cell? ⟨B, 0, none⟩ = some (.int .u64 C) := fun e => e.has.cell 0
      have hS1 : ∀ e : InC (SP B C A), e.u.cell? ⟨B, 1, none⟩ = some (.int .u64 A) := fun e => e.has.cell 1
      have hk := HoldT.drew hstab hk
      try change Code.wp _ _ _ (Act.mk _ _) _
      haveI hne_ : Nonempty (InC (SP B C A)) := ⟨⟨_, (hk).1⟩⟩
      refine wp_region_tr (C := fun w_ => ∃ e_ : InC (SP B C A), w_ = e_.u) (.step [0, 2, 3, 5, 7, 8] (.alt 1 (.step [] (.alt 4 (.step [] (.alt 6 (.step [] (.alt 9 (.step [10, 11, 12, 14, 15, 17, 19, 20] (.alt 13 (.step [] (.alt 16 (.step [] (.alt 18 (.step [] (.alt 21 (.step [22] (.alt 23 (.fin [24]) .nil)) .nil)) .nil)) .nil)) .nil)) .nil)) .nil)) .nil)) .nil)) (by kernel_rfl) (by kernel_rfl) (fun _ _ _ _ hd_ h_ => ⟨hd_.symm.trans h_.1, h_.2⟩) ⟨⟨World.drew _, (hk).1⟩, rfl⟩ ?_
      have hk_ := hk
      refine wpTr_step ?_
      simp only [pickOps, List.flatMap_cons, List.flatMap_nil, List.drop_succ_cons, List.drop_zero, List.take_succ_cons, List.take_zero, List.cons_append, List.nil_append, List.append_nil]
      iterate 6 (go_big_quiet_step (exact rfl))
      refine wpQuiet_nil ?_
      refine wpTr_one ?_
      simp only [pickOps, List.flatMap_cons, List.flatMap_nil, List.drop_succ_cons, List.drop_zero, List.take_succ_cons, List.take_zero, List.cons_append, List.nil_append, List.append_nil]
      go_wp2_with (first
          | (go_at_call 39; refine (Public_any _ _ (by omega) (by omega)).mono ?_; rintro e w5 ⟨rfl, rfl⟩; first | rw [HP.out] | rw [HO.out])
          | (go_at_call 41; refine (Baser_any _ _ (by omega) (by omega)).mono ?_; rintro e w5 ⟨rfl, rfl⟩; first | rw [HP.out] | rw [HO.out])
          | (go_at_call 38; (with_reducible show Calls _ _ #[Value.int IntKind.u64 pub, _, _] _ _); refine (SCheck_any pub C A b _ _ ⟨by omega, by omega⟩ ⟨by omega, by omega⟩ ⟨by omega, by omega⟩ (hb.below (show HoldT (SP B C A) w _ from by with_reducible assumption).up (by decide)) (by omega)).mono ?_; rintro e w8 ⟨rfl, hb8⟩; rw [d1]; have hk8 := HoldT.step hstab (by with_reducible assumption) hb8)
          | (go_at_call 40; (with_reducible show Calls _ _ #[Value.int IntKind.u64 pub, _, _] _ _); refine (SCheckr_any pub C A b _ _ ⟨by omega, by omega⟩ ⟨by omega, by omega⟩ ⟨by omega, by omega⟩ (hb.below (show HoldT (SP B C A) w _ from by with_reducible assumption).up (by decide)) (by omega)).mono ?_; rintro e w8 ⟨rfl, hb8⟩; rw [d1]; have hk8 := HoldT.step hstab (by with_reducible assumption) hb8)
          | (go_at_call 38; (with_reducible show Calls _ _ #[Value.int IntKind.u64 oth, _, _] _ _); refine (SCheck_any oth C A a _ _ ⟨by omega, by omega⟩ ⟨by omega, by omega⟩ ⟨by omega, by omega⟩ (ha.below (show HoldT (SP B C A) w _ from by with_reducible assumption).up (by decide)) (by omega)).mono ?_; rintro e w8 ⟨rfl, hb8⟩; rw [d2]; have hk8 := HoldT.step hstab (by with_reducible assumption) hb8)
          | (go_at_call 40; (with_reducible show Calls _ _ #[Value.int IntKind.u64 oth, _, _] _ _); refine (SCheckr_any oth C A a _ _ ⟨by omega, by omega⟩ ⟨by omega, by omega⟩ ⟨by omega, by omega⟩ (ha.below (show HoldT (SP B C A) w _ from by with_reducible assumption).up (by decide)) (by omega)).mono ?_; rintro e w8 ⟨rfl, hb8⟩; rw [d2]; have hk8 := HoldT.step hstab (by with_reducible assumption) hb8))
      refine phPost_hold (by first | with_reducible assumption | exact HoldT.alloc hstab (by with_reducible assumption) _ | exact HoldT.alloc hstab (HoldT.alloc hstab (by with_reducible assumption) _) _) ?_
      intro hk_
      refine wpTr_step ?_
      simp only [pickOps, List.flatMap_nil]
      refine wpQuiet_nil ?_
      refine wpTr_one ?_
      simp only [pickOps, List.flatMap_cons, List.flatMap_nil, List.drop_succ_cons, List.drop_zero, List.take_succ_cons, List.take_zero, List.cons_append, List.nil_append, List.append_nil]
      go_wp2_with (first
          | (go_at_call 39; refine (Public_any _ _ (by omega) (by omega)).mono ?_; rintro e w5 ⟨rfl, rfl⟩; first | rw [HP.out] | rw [HO.out])
          | (go_at_call 41; refine (Baser_any _ _ (by omega) (by omega)).mono ?_; rintro e w5 ⟨rfl, rfl⟩; first | rw [HP.out] | rw [HO.out])
          | (go_at_call 38; (with_reducible show Calls _ _ #[Value.int IntKind.u64 pub, _, _] _ _); refine (SCheck_any pub C A b _ _ ⟨by omega, by omega⟩ ⟨by omega, by omega⟩ ⟨by omega, by omega⟩ (hb.below (show HoldT (SP B C A) w _ from by with_reducible assumption).up (by decide)) (by omega)).mono ?_; rintro e w8 ⟨rfl, hb8⟩; rw [d1]; have hk8 := HoldT.step hstab (by with_reducible assumption) hb8)
          | (go_at_call 40; (with_reducible show Calls _ _ #[Value.int IntKind.u64 pub, _, _] _ _); refine (SCheckr_any pub C A b _ _ ⟨by omega, by omega⟩ ⟨by omega, by omega⟩ ⟨by omega, by omega⟩ (hb.below (show HoldT (SP B C A) w _ from by with_reducible assumption).up (by decide)) (by omega)).mono ?_; rintro e w8 ⟨rfl, hb8⟩; rw [d1]; have hk8 := HoldT.step hstab (by with_reducible assumption) hb8)
          | (go_at_call 38; (with_reducible show Calls _ _ #[Value.int IntKind.u64 oth, _, _] _ _); refine (SCheck_any oth C A a _ _ ⟨by omega, by omega⟩ ⟨by omega, by omega⟩ ⟨by omega, by omega⟩ (ha.below (show HoldT (SP B C A) w _ from by with_reducible assumption).up (by decide)) (by omega)).mono ?_; rintro e w8 ⟨rfl, hb8⟩; rw [d2]; have hk8 := HoldT.step hstab (by with_reducible assumption) hb8)
          | (go_at_call 40; (with_reducible show Calls _ _ #[Value.int IntKind.u64 oth, _, _] _ _); refine (SCheckr_any oth C A a _ _ ⟨by omega, by omega⟩ ⟨by omega, by omega⟩ ⟨by omega, by omega⟩ (ha.below (show HoldT (SP B C A) w _ from by with_reducible assumption).up (by decide)) (by omega)).mono ?_; rintro e w8 ⟨rfl, hb8⟩; rw [d2]; have hk8 := HoldT.step hstab (by with_reducible assumption) hb8))
      refine phPost_hold (by first | with_reducible assumption | exact HoldT.alloc hstab (by with_reducible assumption) _ | exact HoldT.alloc hstab (HoldT.alloc hstab (by with_reducible assumption) _) _) ?_
      intro hk_
      refine wpTr_step ?_
      simp only [pickOps, List.flatMap_nil]
      refine wpQuiet_nil ?_
      refine wpTr_one ?_
      simp only [pickOps, List.flatMap_cons, List.flatMap_nil, List.drop_succ_cons, List.drop_zero, List.take_succ_cons, List.take_zero, List.cons_append, List.nil_append, List.append_nil]
      go_wp2_with (first
          | (go_at_call 39; refine (Public_any _ _ (by omega) (by omega)).mono ?_; rintro e w5 ⟨rfl, rfl⟩; first | rw [HP.out] | rw [HO.out])
          | (go_at_call 41; refine (Baser_any _ _ (by omega) (by omega)).mono ?_; rintro e w5 ⟨rfl, rfl⟩; first | rw [HP.out] | rw [HO.out])
          | (go_at_call 38; (with_reducible show Calls _ _ #[Value.int IntKind.u64 pub, _, _] _ _); refine (SCheck_any pub C A b _ _ ⟨by omega, by omega⟩ ⟨by omega, by omega⟩ ⟨by omega, by omega⟩ (hb.below (show HoldT (SP B C A) w _ from by with_reducible assumption).up (by decide)) (by omega)).mono ?_; rintro e w8 ⟨rfl, hb8⟩; rw [d1]; have hk8 := HoldT.step hstab (by with_reducible assumption) hb8)
          | (go_at_call 40; (with_reducible show Calls _ _ #[Value.int IntKind.u64 pub, _, _] _ _); refine (SCheckr_any pub C A b _ _ ⟨by omega, by omega⟩ ⟨by omega, by omega⟩ ⟨by omega, by omega⟩ (hb.below (show HoldT (SP B C A) w _ from by with_reducible assumption).up (by decide)) (by omega)).mono ?_; rintro e w8 ⟨rfl, hb8⟩; rw [d1]; have hk8 := HoldT.step hstab (by with_reducible assumption) hb8)
          | (go_at_call 38; (with_reducible show Calls _ _ #[Value.int IntKind.u64 oth, _, _] _ _); refine (SCheck_any oth C A a _ _ ⟨by omega, by omega⟩ ⟨by omega, by omega⟩ ⟨by omega, by omega⟩ (ha.below (show HoldT (SP B C A) w _ from by with_reducible assumption).up (by decide)) (by omega)).mono ?_; rintro e w8 ⟨rfl, hb8⟩; rw [d2]; have hk8 := HoldT.step hstab (by with_reducible assumption) hb8)
          | (go_at_call 40; (with_reducible show Calls _ _ #[Value.int IntKind.u64 oth, _, _] _ _); refine (SCheckr_any oth C A a _ _ ⟨by omega, by omega⟩ ⟨by omega, by omega⟩ ⟨by omega, by omega⟩ (ha.below (show HoldT (SP B C A) w _ from by with_reducible assumption).up (by decide)) (by omega)).mono ?_; rintro e w8 ⟨rfl, hb8⟩; rw [d2]; have hk8 := HoldT.step hstab (by with_reducible assumption) hb8))
      refine phPost_hold (by first | with_reducible assumption | exact HoldT.alloc hstab (by with_reducible assumption) _ | exact HoldT.alloc hstab (HoldT.alloc hstab (by with_reducible assumption) _) _) ?_
      intro hk_
      refine wpTr_step ?_
      simp only [pickOps, List.flatMap_nil]
      refine wpQuiet_nil ?_
      refine wpTr_one ?_
      simp only [pickOps, List.flatMap_cons, List.flatMap_nil, List.drop_succ_cons, List.drop_zero, List.take_succ_cons, List.take_zero, List.cons_append, List.nil_append, List.append_nil]
      go_wp2_with (first
          | (go_at_call 39; refine (Public_any _ _ (by omega) (by omega)).mono ?_; rintro e w5 ⟨rfl, rfl⟩; first | rw [HP.out] | rw [HO.out])
          | (go_at_call 41; refine (Baser_any _ _ (by omega) (by omega)).mono ?_; rintro e w5 ⟨rfl, rfl⟩; first | rw [HP.out] | rw [HO.out])
          | (go_at_call 38; (with_reducible show Calls _ _ #[Value.int IntKind.u64 pub, _, _] _ _); refine (SCheck_any pub C A b _ _ ⟨by omega, by omega⟩ ⟨by omega, by omega⟩ ⟨by omega, by omega⟩ (hb.below (show HoldT (SP B C A) w _ from by with_reducible assumption).up (by decide)) (by omega)).mono ?_; rintro e w8 ⟨rfl, hb8⟩; rw [d1]; have hk8 := HoldT.step hstab (by with_reducible assumption) hb8)
          | (go_at_call 40; (with_reducible show Calls _ _ #[Value.int IntKind.u64 pub, _, _] _ _); refine (SCheckr_any pub C A b _ _ ⟨by omega, by omega⟩ ⟨by omega, by omega⟩ ⟨by omega, by omega⟩ (hb.below (show HoldT (SP B C A) w _ from by with_reducible assumption).up (by decide)) (by omega)).mono ?_; rintro e w8 ⟨rfl, hb8⟩; rw [d1]; have hk8 := HoldT.step hstab (by with_reducible assumption) hb8)
          | (go_at_call 38; (with_reducible show Calls _ _ #[Value.int IntKind.u64 oth, _, _] _ _); refine (SCheck_any oth C A a _ _ ⟨by omega, by omega⟩ ⟨by omega, by omega⟩ ⟨by omega, by omega⟩ (ha.below (show HoldT (SP B C A) w _ from by with_reducible assumption).up (by decide)) (by omega)).mono ?_; rintro e w8 ⟨rfl, hb8⟩; rw [d2]; have hk8 := HoldT.step hstab (by with_reducible assumption) hb8)
          | (go_at_call 40; (with_reducible show Calls _ _ #[Value.int IntKind.u64 oth, _, _] _ _); refine (SCheckr_any oth C A a _ _ ⟨by omega, by omega⟩ ⟨by omega, by omega⟩ ⟨by omega, by omega⟩ (ha.below (show HoldT (SP B C A) w _ from by with_reducible assumption).up (by decide)) (by omega)).mono ?_; rintro e w8 ⟨rfl, hb8⟩; rw [d2]; have hk8 := HoldT.step hstab (by with_reducible assumption) hb8))
      refine phPost_hold (by first | with_reducible assumption | exact HoldT.alloc hstab (by with_reducible assumption) _ | exact HoldT.alloc hstab (HoldT.alloc hstab (by with_reducible assumption) _) _) ?_
      intro hk_
      refine wpTr_step ?_
      simp only [pickOps, List.flatMap_cons, List.flatMap_nil, List.drop_succ_cons, List.drop_zero, List.take_succ_cons, List.take_zero, List.cons_append, List.nil_append, List.append_nil]
      iterate 8 (go_big_quiet_step (exact rfl))
      refine wpQuiet_nil ?_
      refine wpTr_one ?_
      simp only [pickOps, List.flatMap_cons, List.flatMap_nil, List.drop_succ_cons, List.drop_zero, List.take_succ_cons, List.take_zero, List.cons_append, List.nil_append, List.append_nil]
      go_wp2_with (first
          | (go_at_call 39; refine (Public_any _ _ (by omega) (by omega)).mono ?_; rintro e w5 ⟨rfl, rfl⟩; first | rw [HP.out] | rw [HO.out])
          | (go_at_call 41; refine (Baser_any _ _ (by omega) (by omega)).mono ?_; rintro e w5 ⟨rfl, rfl⟩; first | rw [HP.out] | rw [HO.out])
          | (go_at_call 38; (with_reducible show Calls _ _ #[Value.int IntKind.u64 pub, _, _] _ _); refine (SCheck_any pub C A b _ _ ⟨by omega, by omega⟩ ⟨by omega, by omega⟩ ⟨by omega, by omega⟩ (hb.below (show HoldT (SP B C A) w _ from by with_reducible assumption).up (by decide)) (by omega)).mono ?_; rintro e w8 ⟨rfl, hb8⟩; rw [d1]; have hk8 := HoldT.step hstab (by with_reducible assumption) hb8)
          | (go_at_call 40; (with_reducible show Calls _ _ #[Value.int IntKind.u64 pub, _, _] _ _); refine (SCheckr_any pub C A b _ _ ⟨by omega, by omega⟩ ⟨by omega, by omega⟩ ⟨by omega, by omega⟩ (hb.below (show HoldT (SP B C A) w _ from by with_reducible assumption).up (by decide)) (by omega)).mono ?_; rintro e w8 ⟨rfl, hb8⟩; rw [d1]; have hk8 := HoldT.step hstab (by with_reducible assumption) hb8)
          | (go_at_call 38; (with_reducible show Calls _ _ #[Value.int IntKind.u64 oth, _, _] _ _); refine (SCheck_any oth C A a _ _ ⟨by omega, by omega⟩ ⟨by omega, by omega⟩ ⟨by omega, by omega⟩ (ha.below (show HoldT (SP B C A) w _ from by with_reducible assumption).up (by decide)) (by omega)).mono ?_; rintro e w8 ⟨rfl, hb8⟩; rw [d2]; have hk8 := HoldT.step hstab (by with_reducible assumption) hb8)
          | (go_at_call 40; (with_reducible show Calls _ _ #[Value.int IntKind.u64 oth, _, _] _ _); refine (SCheckr_any oth C A a _ _ ⟨by omega, by omega⟩ ⟨by omega, by omega⟩ ⟨by omega, by omega⟩ (ha.below (show HoldT (SP B C A) w _ from by with_reducible assumption).up (by decide)) (by omega)).mono ?_; rintro e w8 ⟨rfl, hb8⟩; rw [d2]; have hk8 := HoldT.step hstab (by with_reducible assumption) hb8))
      refine phPost_hold (by first | with_reducible assumption | exact HoldT.alloc hstab (by with_reducible assumption) _ | exact HoldT.alloc hstab (HoldT.alloc hstab (by with_reducible assumption) _) _) ?_
      intro hk_
      refine wpTr_step ?_
      simp only [pickOps, List.flatMap_nil]
      refine wpQuiet_nil ?_
      refine wpTr_one ?_
      simp only [pickOps, List.flatMap_cons, List.flatMap_nil, List.drop_succ_cons, List.drop_zero, List.take_succ_cons, List.take_zero, List.cons_append, List.nil_append, List.append_nil]
      go_wp2_with (first
          | (go_at_call 39; refine (Public_any _ _ (by omega) (by omega)).mono ?_; rintro e w5 ⟨rfl, rfl⟩; first | rw [HP.out] | rw [HO.out])
          | (go_at_call 41; refine (Baser_any _ _ (by omega) (by omega)).mono ?_; rintro e w5 ⟨rfl, rfl⟩; first | rw [HP.out] | rw [HO.out])
          | (go_at_call 38; (with_reducible show Calls _ _ #[Value.int IntKind.u64 pub, _, _] _ _); refine (SCheck_any pub C A b _ _ ⟨by omega, by omega⟩ ⟨by omega, by omega⟩ ⟨by omega, by omega⟩ (hb.below (show HoldT (SP B C A) w _ from by with_reducible assumption).up (by decide)) (by omega)).mono ?_; rintro e w8 ⟨rfl, hb8⟩; rw [d1]; have hk8 := HoldT.step hstab (by with_reducible assumption) hb8)
          | (go_at_call 40; (with_reducible show Calls _ _ #[Value.int IntKind.u64 pub, _, _] _ _); refine (SCheckr_any pub C A b _ _ ⟨by omega, by omega⟩ ⟨by omega, by omega⟩ ⟨by omega, by omega⟩ (hb.below (show HoldT (SP B C A) w _ from by with_reducible assumption).up (by decide)) (by omega)).mono ?_; rintro e w8 ⟨rfl, hb8⟩; rw [d1]; have hk8 := HoldT.step hstab (by with_reducible assumption) hb8)
          | (go_at_call 38; (with_reducible show Calls _ _ #[Value.int IntKind.u64 oth, _, _] _ _); refine (SCheck_any oth C A a _ _ ⟨by omega, by omega⟩ ⟨by omega, by omega⟩ ⟨by omega, by omega⟩ (ha.below (show HoldT (SP B C A) w _ from by with_reducible assumption).up (by decide)) (by omega)).mono ?_; rintro e w8 ⟨rfl, hb8⟩; rw [d2]; have hk8 := HoldT.step hstab (by with_reducible assumption) hb8)
          | (go_at_call 40; (with_reducible show Calls _ _ #[Value.int IntKind.u64 oth, _, _] _ _); refine (SCheckr_any oth C A a _ _ ⟨by omega, by omega⟩ ⟨by omega, by omega⟩ ⟨by omega, by omega⟩ (ha.below (show HoldT (SP B C A) w _ from by with_reducible assumption).up (by decide)) (by omega)).mono ?_; rintro e w8 ⟨rfl, hb8⟩; rw [d2]; have hk8 := HoldT.step hstab (by with_reducible assumption) hb8))
      refine phPost_hold (by first | with_reducible assumption | exact HoldT.alloc hstab (by with_reducible assumption) _ | exact HoldT.alloc hstab (HoldT.alloc hstab (by with_reducible assumption) _) _) ?_
      intro hk_
      refine wpTr_step ?_
      simp only [pickOps, List.flatMap_nil]
      refine wpQuiet_nil ?_
      refine wpTr_one ?_
      simp only [pickOps, List.flatMap_cons, List.flatMap_nil, List.drop_succ_cons, List.drop_zero, List.take_succ_cons, List.take_zero, List.cons_append, List.nil_append, List.append_nil]
      go_wp2_with (first
          | (go_at_call 39; refine (Public_any _ _ (by omega) (by omega)).mono ?_; rintro e w5 ⟨rfl, rfl⟩; first | rw [HP.out] | rw [HO.out])
          | (go_at_call 41; refine (Baser_any _ _ (by omega) (by omega)).mono ?_; rintro e w5 ⟨rfl, rfl⟩; first | rw [HP.out] | rw [HO.out])
          | (go_at_call 38; (with_reducible show Calls _ _ #[Value.int IntKind.u64 pub, _, _] _ _); refine (SCheck_any pub C A b _ _ ⟨by omega, by omega⟩ ⟨by omega, by omega⟩ ⟨by omega, by omega⟩ (hb.below (show HoldT (SP B C A) w _ from by with_reducible assumption).up (by decide)) (by omega)).mono ?_; rintro e w8 ⟨rfl, hb8⟩; rw [d1]; have hk8 := HoldT.step hstab (by with_reducible assumption) hb8)
          | (go_at_call 40; (with_reducible show Calls _ _ #[Value.int IntKind.u64 pub, _, _] _ _); refine (SCheckr_any pub C A b _ _ ⟨by omega, by omega⟩ ⟨by omega, by omega⟩ ⟨by omega, by omega⟩ (hb.below (show HoldT (SP B C A) w _ from by with_reducible assumption).up (by decide)) (by omega)).mono ?_; rintro e w8 ⟨rfl, hb8⟩; rw [d1]; have hk8 := HoldT.step hstab (by with_reducible assumption) hb8)
          | (go_at_call 38; (with_reducible show Calls _ _ #[Value.int IntKind.u64 oth, _, _] _ _); refine (SCheck_any oth C A a _ _ ⟨by omega, by omega⟩ ⟨by omega, by omega⟩ ⟨by omega, by omega⟩ (ha.below (show HoldT (SP B C A) w _ from by with_reducible assumption).up (by decide)) (by omega)).mono ?_; rintro e w8 ⟨rfl, hb8⟩; rw [d2]; have hk8 := HoldT.step hstab (by with_reducible assumption) hb8)
          | (go_at_call 40; (with_reducible show Calls _ _ #[Value.int IntKind.u64 oth, _, _] _ _); refine (SCheckr_any oth C A a _ _ ⟨by omega, by omega⟩ ⟨by omega, by omega⟩ ⟨by omega, by omega⟩ (ha.below (show HoldT (SP B C A) w _ from by with_reducible assumption).up (by decide)) (by omega)).mono ?_; rintro e w8 ⟨rfl, hb8⟩; rw [d2]; have hk8 := HoldT.step hstab (by with_reducible assumption) hb8))
      refine phPost_hold (by first | with_reducible assumption | exact HoldT.alloc hstab (by with_reducible assumption) _ | exact HoldT.alloc hstab (HoldT.alloc hstab (by with_reducible assumption) _) _) ?_
      intro hk_
      refine wpTr_step ?_
      simp only [pickOps, List.flatMap_nil]
      refine wpQuiet_nil ?_
      refine wpTr_one ?_
      simp only [pickOps, List.flatMap_cons, List.flatMap_nil, List.drop_succ_cons, List.drop_zero, List.take_succ_cons, List.take_zero, List.cons_append, List.nil_append, List.append_nil]
      go_wp2_with (first
          | (go_at_call 39; refine (Public_any _ _ (by omega) (by omega)).mono ?_; rintro e w5 ⟨rfl, rfl⟩; first | rw [HP.out] | rw [HO.out])
          | (go_at_call 41; refine (Baser_any _ _ (by omega) (by omega)).mono ?_; rintro e w5 ⟨rfl, rfl⟩; first | rw [HP.out] | rw [HO.out])
          | (go_at_call 38; (with_reducible show Calls _ _ #[Value.int IntKind.u64 pub, _, _] _ _); refine (SCheck_any pub C A b _ _ ⟨by omega, by omega⟩ ⟨by omega, by omega⟩ ⟨by omega, by omega⟩ (hb.below (show HoldT (SP B C A) w _ from by with_reducible assumption).up (by decide)) (by omega)).mono ?_; rintro e w8 ⟨rfl, hb8⟩; rw [d1]; have hk8 := HoldT.step hstab (by with_reducible assumption) hb8)
          | (go_at_call 40; (with_reducible show Calls _ _ #[Value.int IntKind.u64 pub, _, _] _ _); refine (SCheckr_any pub C A b _ _ ⟨by omega, by omega⟩ ⟨by omega, by omega⟩ ⟨by omega, by omega⟩ (hb.below (show HoldT (SP B C A) w _ from by with_reducible assumption).up (by decide)) (by omega)).mono ?_; rintro e w8 ⟨rfl, hb8⟩; rw [d1]; have hk8 := HoldT.step hstab (by with_reducible assumption) hb8)
          | (go_at_call 38; (with_reducible show Calls _ _ #[Value.int IntKind.u64 oth, _, _] _ _); refine (SCheck_any oth C A a _ _ ⟨by omega, by omega⟩ ⟨by omega, by omega⟩ ⟨by omega, by omega⟩ (ha.below (show HoldT (SP B C A) w _ from by with_reducible assumption).up (by decide)) (by omega)).mono ?_; rintro e w8 ⟨rfl, hb8⟩; rw [d2]; have hk8 := HoldT.step hstab (by with_reducible assumption) hb8)
          | (go_at_call 40; (with_reducible show Calls _ _ #[Value.int IntKind.u64 oth, _, _] _ _); refine (SCheckr_any oth C A a _ _ ⟨by omega, by omega⟩ ⟨by omega, by omega⟩ ⟨by omega, by omega⟩ (ha.below (show HoldT (SP B C A) w _ from by with_reducible assumption).up (by decide)) (by omega)).mono ?_; rintro e w8 ⟨rfl, hb8⟩; rw [d2]; have hk8 := HoldT.step hstab (by with_reducible assumption) hb8))
      refine phPost_hold (by first | with_reducible assumption | exact HoldT.alloc hstab (by with_reducible assumption) _ | exact HoldT.alloc hstab (HoldT.alloc hstab (by with_reducible assumption) _) _) ?_
      intro hk_
      refine wpTr_step ?_
      simp only [pickOps, List.flatMap_cons, List.flatMap_nil, List.drop_succ_cons, List.drop_zero, List.take_succ_cons, List.take_zero, List.cons_append, List.nil_append, List.append_nil]
      iterate 1 (go_big_quiet_step (exact rfl))
      refine wpQuiet_nil ?_
      refine wpTr_one ?_
      simp only [pickOps, List.flatMap_cons, List.flatMap_nil, List.drop_succ_cons, List.drop_zero, List.take_succ_cons, List.take_zero, List.cons_append, List.nil_append, List.append_nil]
      go_wp2_with (first
          | (go_at_call 39; refine (Public_any _ _ (by omega) (by omega)).mono ?_; rintro e w5 ⟨rfl, rfl⟩; first | rw [HP.out] | rw [HO.out])
          | (go_at_call 41; refine (Baser_any _ _ (by omega) (by omega)).mono ?_; rintro e w5 ⟨rfl, rfl⟩; first | rw [HP.out] | rw [HO.out])
          | (go_at_call 38; (with_reducible show Calls _ _ #[Value.int IntKind.u64 pub, _, _] _ _); refine (SCheck_any pub C A b _ _ ⟨by omega, by omega⟩ ⟨by omega, by omega⟩ ⟨by omega, by omega⟩ (hb.below (show HoldT (SP B C A) w _ from by with_reducible assumption).up (by decide)) (by omega)).mono ?_; rintro e w8 ⟨rfl, hb8⟩; rw [d1]; have hk8 := HoldT.step hstab (by with_reducible assumption) hb8)
          | (go_at_call 40; (with_reducible show Calls _ _ #[Value.int IntKind.u64 pub, _, _] _ _); refine (SCheckr_any pub C A b _ _ ⟨by omega, by omega⟩ ⟨by omega, by omega⟩ ⟨by omega, by omega⟩ (hb.below (show HoldT (SP B C A) w _ from by with_reducible assumption).up (by decide)) (by omega)).mono ?_; rintro e w8 ⟨rfl, hb8⟩; rw [d1]; have hk8 := HoldT.step hstab (by with_reducible assumption) hb8)
          | (go_at_call 38; (with_reducible show Calls _ _ #[Value.int IntKind.u64 oth, _, _] _ _); refine (SCheck_any oth C A a _ _ ⟨by omega, by omega⟩ ⟨by omega, by omega⟩ ⟨by omega, by omega⟩ (ha.below (show HoldT (SP B C A) w _ from by with_reducible assumption).up (by decide)) (by omega)).mono ?_; rintro e w8 ⟨rfl, hb8⟩; rw [d2]; have hk8 := HoldT.step hstab (by with_reducible assumption) hb8)
          | (go_at_call 40; (with_reducible show Calls _ _ #[Value.int IntKind.u64 oth, _, _] _ _); refine (SCheckr_any oth C A a _ _ ⟨by omega, by omega⟩ ⟨by omega, by omega⟩ ⟨by omega, by omega⟩ (ha.below (show HoldT (SP B C A) w _ from by with_reducible assumption).up (by decide)) (by omega)).mono ?_; rintro e w8 ⟨rfl, hb8⟩; rw [d2]; have hk8 := HoldT.step hstab (by with_reducible assumption) hb8))
      refine phPost_hold (by first | with_reducible assumption | exact HoldT.alloc hstab (by with_reducible assumption) _ | exact HoldT.alloc hstab (HoldT.alloc hstab (by with_reducible assumption) _) _) ?_
      intro hk_
      refine wpTr_fin ?_
      simp only [pickOps, List.flatMap_cons, List.flatMap_nil, List.drop_succ_cons, List.drop_zero, List.take_succ_cons, List.take_zero, List.cons_append, List.nil_append, List.append_nil]
      iterate 1 (go_big_quiet_step (exact rfl))
      refine wpQuiet_nil ?_
      go_wp2_with fail
      go_ret
      exact ⟨rfl, (show HoldT (SP B C A) w _ from by with_reducible assumption).up⟩

set_option maxRecDepth 100000 in
set_option maxHeartbeats 2000000 in
theorem SignChecks_any (pub C A : Int) (b : List UInt8) (vb : Value) (w : World) (hp : in64 pub) (hc : in64 C) (hs : in64 A) (hb : SeesB w vb b) :
    Calls Try.prog 14 #[.int .u64 pub, vb, PV C A] w fun e w' => e = .returned (.bool true) ∧ Below w.heap.size w w' := by
  obtain ⟨p0, p1⟩ := hp; obtain ⟨c0, c1⟩ := hc; obtain ⟨s0, s1⟩ := hs
  obtain ⟨a1, n1, rfl, hnb, hnd⟩ := sees_form hb
  have hstab := stabSP w.heap.size C A
  have hst : HoldT (SP w.heap.size C A) w (w.alloc (.cells #[.int .u64 C, .int .u64 A] 43)) := ⟨Blk.new w _ _, show Below _ _ _ from by go_grown⟩
  have hS0 : ∀ e : InC (SP w.heap.size C A), e.u.cell? ⟨w.heap.size, 0, none⟩ = some (.int .u64 C) := fun e => e.has.cell 0
  have hS1 : ∀ e : InC (SP w.heap.size C A), e.u.cell? ⟨w.heap.size, 1, none⟩ = some (.int .u64 A) := fun e => e.has.cell 1
  by_cases hlb : 300 < b.length
  · go_enter Try.func14, Try.ntmps14
    go_wp2_with (go_at_call 36; refine (alive10_any _).mono ?_; rintro e w1 ⟨rfl, hb1⟩; have hk1 := HoldT.step hstab hst hb1)
    go_ret
    exact ⟨rfl, hk1.up⟩
  rcases Bool.eq_false_or_eq_true (decide (signOk pub b C A)) with d1 | d1
  ·
    go_enter Try.func14, Try.ntmps14
    go_wp2_with (go_at_call 36; refine (alive10_any _).mono ?_; rintro e w1 ⟨rfl, hb1⟩; have hk1 := HoldT.step hstab hst hb1; clear hst)
    have hk := HoldT.drew hstab hk1
    try change Code.wp _ _ _ (Act.mk _ _) _
    haveI hne_ : Nonempty (InC (SP w.heap.size C A)) := ⟨⟨_, (hk).1⟩⟩
    refine wp_region_tr (C := fun w_ => ∃ e_ : InC (SP w.heap.size C A), w_ = e_.u) (.step [0, 1, 2, 4, 5, 6] (.alt 3 (.step [] (.alt 7 (.step [8, 9, 10, 12] (.alt 11 (.step [] (.alt 13 (.step [14] (.alt 15 (.fin [16]) .nil)) .nil)) .nil)) .nil)) .nil)) (by kernel_rfl) (by kernel_rfl) (fun _ _ _ _ hd_ h_ => ⟨hd_.symm.trans h_.1, h_.2⟩) ⟨⟨World.drew _, (hk).1⟩, rfl⟩ ?_
    have hk_ := hk
    refine wpTr_step ?_
    simp only [pickOps, List.flatMap_cons, List.flatMap_nil, List.drop_succ_cons, List.drop_zero, List.take_succ_cons, List.take_zero, List.cons_append, List.nil_append, List.append_nil]
    iterate 6 (first | ((go_big_quiet_want; refine quiet_eql 23 _ _ rfl _ _ _ rfl rfl guard_key (run_eqKey (nameL pub) (nameL pub) (length_nameL _) (length_nameL _)) ?_; simp only [beq_self_eq_true, Bool.and_self, Act.put, List.setIfInBounds_toArray, List.set_cons_succ, List.set_cons_zero]; go_big_quiet_on)) | go_big_quiet_step (exact rfl))
    refine wpQuiet_nil ?_
    refine wpTr_one ?_
    simp only [pickOps, List.flatMap_cons, List.flatMap_nil, List.drop_succ_cons, List.drop_zero, List.take_succ_cons, List.take_zero, List.cons_append, List.nil_append, List.append_nil]
    go_wp2_with (first
        | (go_at_call 38; refine (SCheck_any pub C A b _ _ ⟨by omega, by omega⟩ ⟨by omega, by omega⟩ ⟨by omega, by omega⟩ (hb.below (show HoldT (SP w.heap.size C A) w _ from by with_reducible assumption).up (by decide)) (by omega)).mono ?_; rintro e w8 ⟨rfl, hb8⟩; rw [d1]; have hk8 := HoldT.step hstab (by with_reducible assumption) hb8)
        | (go_at_call 40; refine (SCheckr_any pub C A b _ _ ⟨by omega, by omega⟩ ⟨by omega, by omega⟩ ⟨by omega, by omega⟩ (hb.below (show HoldT (SP w.heap.size C A) w _ from by with_reducible assumption).up (by decide)) (by omega)).mono ?_; rintro e w8 ⟨rfl, hb8⟩; rw [d1]; have hk8 := HoldT.step hstab (by with_reducible assumption) hb8)
        | (go_at_call 43; refine (Name_any pub _ ⟨by omega, by omega⟩).mono ?_; rintro e w8 ⟨rfl, hb8⟩; have hk8 := HoldT.step hstab (by with_reducible assumption) hb8)
        | (go_at_call 44; refine (Namer_any pub _ ⟨by omega, by omega⟩).mono ?_; rintro e w8 ⟨rfl, hb8⟩; have hk8 := HoldT.step hstab (by with_reducible assumption) hb8))
    refine phPost_hold (by first | with_reducible assumption | exact HoldT.alloc hstab (by with_reducible assumption) _ | exact HoldT.alloc hstab (HoldT.alloc hstab (by with_reducible assumption) _) _) ?_
    intro hk_
    refine wpTr_step ?_
    simp only [pickOps, List.flatMap_nil]
    refine wpQuiet_nil ?_
    refine wpTr_one ?_
    simp only [pickOps, List.flatMap_cons, List.flatMap_nil, List.drop_succ_cons, List.drop_zero, List.take_succ_cons, List.take_zero, List.cons_append, List.nil_append, List.append_nil]
    go_wp2_with (first
        | (go_at_call 38; refine (SCheck_any pub C A b _ _ ⟨by omega, by omega⟩ ⟨by omega, by omega⟩ ⟨by omega, by omega⟩ (hb.below (show HoldT (SP w.heap.size C A) w _ from by with_reducible assumption).up (by decide)) (by omega)).mono ?_; rintro e w8 ⟨rfl, hb8⟩; rw [d1]; have hk8 := HoldT.step hstab (by with_reducible assumption) hb8)
        | (go_at_call 40; refine (SCheckr_any pub C A b _ _ ⟨by omega, by omega⟩ ⟨by omega, by omega⟩ ⟨by omega, by omega⟩ (hb.below (show HoldT (SP w.heap.size C A) w _ from by with_reducible assumption).up (by decide)) (by omega)).mono ?_; rintro e w8 ⟨rfl, hb8⟩; rw [d1]; have hk8 := HoldT.step hstab (by with_reducible assumption) hb8)
        | (go_at_call 43; refine (Name_any pub _ ⟨by omega, by omega⟩).mono ?_; rintro e w8 ⟨rfl, hb8⟩; have hk8 := HoldT.step hstab (by with_reducible assumption) hb8)
        | (go_at_call 44; refine (Namer_any pub _ ⟨by omega, by omega⟩).mono ?_; rintro e w8 ⟨rfl, hb8⟩; have hk8 := HoldT.step hstab (by with_reducible assumption) hb8))
    refine phPost_hold (by first | with_reducible assumption | exact HoldT.alloc hstab (by with_reducible assumption) _ | exact HoldT.alloc hstab (HoldT.alloc hstab (by with_reducible assumption) _) _) ?_
    intro hk_
    refine wpTr_step ?_
    simp only [pickOps, List.flatMap_cons, List.flatMap_nil, List.drop_succ_cons, List.drop_zero, List.take_succ_cons, List.take_zero, List.cons_append, List.nil_append, List.append_nil]
    iterate 4 (first | ((go_big_quiet_want; refine quiet_eql 23 _ _ rfl _ _ _ rfl rfl guard_key (run_eqKey (nameL pub) (nameL pub) (length_nameL _) (length_nameL _)) ?_; simp only [beq_self_eq_true, Bool.and_self, Act.put, List.setIfInBounds_toArray, List.set_cons_succ, List.set_cons_zero]; go_big_quiet_on)) | go_big_quiet_step (exact rfl))
    refine wpQuiet_nil ?_
    refine wpTr_one ?_
    simp only [pickOps, List.flatMap_cons, List.flatMap_nil, List.drop_succ_cons, List.drop_zero, List.take_succ_cons, List.take_zero, List.cons_append, List.nil_append, List.append_nil]
    go_wp2_with (first
        | (go_at_call 38; refine (SCheck_any pub C A b _ _ ⟨by omega, by omega⟩ ⟨by omega, by omega⟩ ⟨by omega, by omega⟩ (hb.below (show HoldT (SP w.heap.size C A) w _ from by with_reducible assumption).up (by decide)) (by omega)).mono ?_; rintro e w8 ⟨rfl, hb8⟩; rw [d1]; have hk8 := HoldT.step hstab (by with_reducible assumption) hb8)
        | (go_at_call 40; refine (SCheckr_any pub C A b _ _ ⟨by omega, by omega⟩ ⟨by omega, by omega⟩ ⟨by omega, by omega⟩ (hb.below (show HoldT (SP w.heap.size C A) w _ from by with_reducible assumption).up (by decide)) (by omega)).mono ?_; rintro e w8 ⟨rfl, hb8⟩; rw [d1]; have hk8 := HoldT.step hstab (by with_reducible assumption) hb8)
        | (go_at_call 43; refine (Name_any pub _ ⟨by omega, by omega⟩).mono ?_; rintro e w8 ⟨rfl, hb8⟩; have hk8 := HoldT.step hstab (by with_reducible assumption) hb8)
        | (go_at_call 44; refine (Namer_any pub _ ⟨by omega, by omega⟩).mono ?_; rintro e w8 ⟨rfl, hb8⟩; have hk8 := HoldT.step hstab (by with_reducible assumption) hb8))
    refine phPost_hold (by first | with_reducible assumption | exact HoldT.alloc hstab (by with_reducible assumption) _ | exact HoldT.alloc hstab (HoldT.alloc hstab (by with_reducible assumption) _) _) ?_
    intro hk_
    refine wpTr_step ?_
    simp only [pickOps, List.flatMap_nil]
    refine wpQuiet_nil ?_
    refine wpTr_one ?_
    simp only [pickOps, List.flatMap_cons, List.flatMap_nil, List.drop_succ_cons, List.drop_zero, List.take_succ_cons, List.take_zero, List.cons_append, List.nil_append, List.append_nil]
    go_wp2_with (first
        | (go_at_call 38; refine (SCheck_any pub C A b _ _ ⟨by omega, by omega⟩ ⟨by omega, by omega⟩ ⟨by omega, by omega⟩ (hb.below (show HoldT (SP w.heap.size C A) w _ from by with_reducible assumption).up (by decide)) (by omega)).mono ?_; rintro e w8 ⟨rfl, hb8⟩; rw [d1]; have hk8 := HoldT.step hstab (by with_reducible assumption) hb8)
        | (go_at_call 40; refine (SCheckr_any pub C A b _ _ ⟨by omega, by omega⟩ ⟨by omega, by omega⟩ ⟨by omega, by omega⟩ (hb.below (show HoldT (SP w.heap.size C A) w _ from by with_reducible assumption).up (by decide)) (by omega)).mono ?_; rintro e w8 ⟨rfl, hb8⟩; rw [d1]; have hk8 := HoldT.step hstab (by with_reducible assumption) hb8)
        | (go_at_call 43; refine (Name_any pub _ ⟨by omega, by omega⟩).mono ?_; rintro e w8 ⟨rfl, hb8⟩; have hk8 := HoldT.step hstab (by with_reducible assumption) hb8)
        | (go_at_call 44; refine (Namer_any pub _ ⟨by omega, by omega⟩).mono ?_; rintro e w8 ⟨rfl, hb8⟩; have hk8 := HoldT.step hstab (by with_reducible assumption) hb8))
    refine phPost_hold (by first | with_reducible assumption | exact HoldT.alloc hstab (by with_reducible assumption) _ | exact HoldT.alloc hstab (HoldT.alloc hstab (by with_reducible assumption) _) _) ?_
    intro hk_
    refine wpTr_step ?_
    simp only [pickOps, List.flatMap_cons, List.flatMap_nil, List.drop_succ_cons, List.drop_zero, List.take_succ_cons, List.take_zero, List.cons_append, List.nil_append, List.append_nil]
    iterate 1 (first | ((go_big_quiet_want; refine quiet_eql 23 _ _ rfl _ _ _ rfl rfl guard_key (run_eqKey (nameL pub) (nameL pub) (length_nameL _) (length_nameL _)) ?_; simp only [beq_self_eq_true, Bool.and_self, Act.put, List.setIfInBounds_toArray, List.set_cons_succ, List.set_cons_zero]; go_big_quiet_on)) | go_big_quiet_step (exact rfl))
    refine wpQuiet_nil ?_
    refine wpTr_one ?_
    simp only [pickOps, List.flatMap_cons, List.flatMap_nil, List.drop_succ_cons, List.drop_zero, List.take_succ_cons, List.take_zero, List.cons_append, List.nil_append, List.append_nil]
    go_wp2_with (first
        | (go_at_call 38; refine (SCheck_any pub C A b _ _ ⟨by omega, by omega⟩ ⟨by omega, by omega⟩ ⟨by omega, by omega⟩ (hb.below (show HoldT (SP w.heap.size C A) w _ from by with_reducible assumption).up (by decide)) (by omega)).mono ?_; rintro e w8 ⟨rfl, hb8⟩; rw [d1]; have hk8 := HoldT.step hstab (by with_reducible assumption) hb8)
        | (go_at_call 40; refine (SCheckr_any pub C A b _ _ ⟨by omega, by omega⟩ ⟨by omega, by omega⟩ ⟨by omega, by omega⟩ (hb.below (show HoldT (SP w.heap.size C A) w _ from by with_reducible assumption).up (by decide)) (by omega)).mono ?_; rintro e w8 ⟨rfl, hb8⟩; rw [d1]; have hk8 := HoldT.step hstab (by with_reducible assumption) hb8)
        | (go_at_call 43; refine (Name_any pub _ ⟨by omega, by omega⟩).mono ?_; rintro e w8 ⟨rfl, hb8⟩; have hk8 := HoldT.step hstab (by with_reducible assumption) hb8)
        | (go_at_call 44; refine (Namer_any pub _ ⟨by omega, by omega⟩).mono ?_; rintro e w8 ⟨rfl, hb8⟩; have hk8 := HoldT.step hstab (by with_reducible assumption) hb8))
    refine phPost_hold (by first | with_reducible assumption | exact HoldT.alloc hstab (by with_reducible assumption) _ | exact HoldT.alloc hstab (HoldT.alloc hstab (by with_reducible assumption) _) _) ?_
    intro hk_
    refine wpTr_fin ?_
    simp only [pickOps, List.flatMap_cons, List.flatMap_nil, List.drop_succ_cons, List.drop_zero, List.take_succ_cons, List.take_zero, List.cons_append, List.nil_append, List.append_nil]
    iterate 1 (first | ((go_big_quiet_want; refine quiet_eql 23 _ _ rfl _ _ _ rfl rfl guard_key (run_eqKey (nameL pub) (nameL pub) (length_nameL _) (length_nameL _)) ?_; simp only [beq_self_eq_true, Bool.and_self, Act.put, List.setIfInBounds_toArray, List.set_cons_succ, List.set_cons_zero]; go_big_quiet_on)) | go_big_quiet_step (exact rfl))
    refine wpQuiet_nil ?_
    go_wp2_with fail
    go_ret
    exact ⟨rfl, (show HoldT (SP w.heap.size C A) w _ from by with_reducible assumption).up⟩
  ·
    go_enter Try.func14, Try.ntmps14
    go_wp2_with (go_at_call 36; refine (alive10_any _).mono ?_; rintro e w1 ⟨rfl, hb1⟩; have hk1 := HoldT.step hstab hst hb1; clear hst)
    have hk := HoldT.drew hstab hk1
    try change Code.wp _ _ _ (Act.mk _ _) _
    haveI hne_ : Nonempty (InC (SP w.heap.size C A)) := ⟨⟨_, (hk).1⟩⟩
    refine wp_region_tr (C := fun w_ => ∃ e_ : InC (SP w.heap.size C A), w_ = e_.u) (.step [0, 1, 2, 4, 5, 6] (.alt 3 (.step [] (.alt 7 (.step [8, 9, 10, 12] (.alt 11 (.step [] (.alt 13 (.step [14] (.alt 15 (.fin [16]) .nil)) .nil)) .nil)) .nil)) .nil)) (by kernel_rfl) (by kernel_rfl) (fun _ _ _ _ hd_ h_ => ⟨hd_.symm.trans h_.1, h_.2⟩) ⟨⟨World.drew _, (hk).1⟩, rfl⟩ ?_
    have hk_ := hk
    refine wpTr_step ?_
    simp only [pickOps, List.flatMap_cons, List.flatMap_nil, List.drop_succ_cons, List.drop_zero, List.take_succ_cons, List.take_zero, List.cons_append, List.nil_append, List.append_nil]
    iterate 6 (first | ((go_big_quiet_want; refine quiet_eql 23 _ _ rfl _ _ _ rfl rfl guard_key (run_eqKey (nameL pub) (nameL pub) (length_nameL _) (length_nameL _)) ?_; simp only [beq_self_eq_true, Bool.and_self, Act.put, List.setIfInBounds_toArray, List.set_cons_succ, List.set_cons_zero]; go_big_quiet_on)) | go_big_quiet_step (exact rfl))
    refine wpQuiet_nil ?_
    refine wpTr_one ?_
    simp only [pickOps, List.flatMap_cons, List.flatMap_nil, List.drop_succ_cons, List.drop_zero, List.take_succ_cons, List.take_zero, List.cons_append, List.nil_append, List.append_nil]
    go_wp2_with (first
        | (go_at_call 38; refine (SCheck_any pub C A b _ _ ⟨by omega, by omega⟩ ⟨by omega, by omega⟩ ⟨by omega, by omega⟩ (hb.below (show HoldT (SP w.heap.size C A) w _ from by with_reducible assumption).up (by decide)) (by omega)).mono ?_; rintro e w8 ⟨rfl, hb8⟩; rw [d1]; have hk8 := HoldT.step hstab (by with_reducible assumption) hb8)
        | (go_at_call 40; refine (SCheckr_any pub C A b _ _ ⟨by omega, by omega⟩ ⟨by omega, by omega⟩ ⟨by omega, by omega⟩ (hb.below (show HoldT (SP w.heap.size C A) w _ from by with_reducible assumption).up (by decide)) (by omega)).mono ?_; rintro e w8 ⟨rfl, hb8⟩; rw [d1]; have hk8 := HoldT.step hstab (by with_reducible assumption) hb8)
        | (go_at_call 43; refine (Name_any pub _ ⟨by omega, by omega⟩).mono ?_; rintro e w8 ⟨rfl, hb8⟩; have hk8 := HoldT.step hstab (by with_reducible assumption) hb8)
        | (go_at_call 44; refine (Namer_any pub _ ⟨by omega, by omega⟩).mono ?_; rintro e w8 ⟨rfl, hb8⟩; have hk8 := HoldT.step hstab (by with_reducible assumption) hb8))
    refine phPost_hold (by first | with_reducible assumption | exact HoldT.alloc hstab (by with_reducible assumption) _ | exact HoldT.alloc hstab (HoldT.alloc hstab (by with_reducible assumption) _) _) ?_
    intro hk_
    refine wpTr_step ?_
    simp only [pickOps, List.flatMap_nil]
    refine wpQuiet_nil ?_
    refine wpTr_one ?_
    simp only [pickOps, List.flatMap_cons, List.flatMap_nil, List.drop_succ_cons, List.drop_zero, List.take_succ_cons, List.take_zero, List.cons_append, List.nil_append, List.append_nil]
    go_wp2_with (first
        | (go_at_call 38; refine (SCheck_any pub C A b _ _ ⟨by omega, by omega⟩ ⟨by omega, by omega⟩ ⟨by omega, by omega⟩ (hb.below (show HoldT (SP w.heap.size C A) w _ from by with_reducible assumption).up (by decide)) (by omega)).mono ?_; rintro e w8 ⟨rfl, hb8⟩; rw [d1]; have hk8 := HoldT.step hstab (by with_reducible assumption) hb8)
        | (go_at_call 40; refine (SCheckr_any pub C A b _ _ ⟨by omega, by omega⟩ ⟨by omega, by omega⟩ ⟨by omega, by omega⟩ (hb.below (show HoldT (SP w.heap.size C A) w _ from by with_reducible assumption).up (by decide)) (by omega)).mono ?_; rintro e w8 ⟨rfl, hb8⟩; rw [d1]; have hk8 := HoldT.step hstab (by with_reducible assumption) hb8)
        | (go_at_call 43; refine (Name_any pub _ ⟨by omega, by omega⟩).mono ?_; rintro e w8 ⟨rfl, hb8⟩; have hk8 := HoldT.step hstab (by with_reducible assumption) hb8)
        | (go_at_call 44; refine (Namer_any pub _ ⟨by omega, by omega⟩).mono ?_; rintro e w8 ⟨rfl, hb8⟩; have hk8 := HoldT.step hstab (by with_reducible assumption) hb8))
    refine phPost_hold (by first | with_reducible assumption | exact HoldT.alloc hstab (by with_reducible assumption) _ | exact HoldT.alloc hstab (HoldT.alloc hstab (by with_reducible assumption) _) _) ?_
    intro hk_
    refine wpTr_step ?_
    simp only [pickOps, List.flatMap_cons, List.flatMap_nil, List.drop_succ_cons, List.drop_zero, List.take_succ_cons, List.take_zero, List.cons_append, List.nil_append, List.append_nil]
    iterate 4 (first | ((go_big_quiet_want; refine quiet_eql 23 _ _ rfl _ _ _ rfl rfl guard_key (run_eqKey (nameL pub) (nameL pub) (length_nameL _) (length_nameL _)) ?_; simp only [beq_self_eq_true, Bool.and_self, Act.put, List.setIfInBounds_toArray, List.set_cons_succ, List.set_cons_zero]; go_big_quiet_on)) | go_big_quiet_step (exact rfl))
    refine wpQuiet_nil ?_
    refine wpTr_one ?_
    simp only [pickOps, List.flatMap_cons, List.flatMap_nil, List.drop_succ_cons, List.drop_zero, List.take_succ_cons, List.take_zero, List.cons_append, List.nil_append, List.append_nil]
    go_wp2_with (first
        | (go_at_call 38; refine (SCheck_any pub C A b _ _ ⟨by omega, by omega⟩ ⟨by omega, by omega⟩ ⟨by omega, by omega⟩ (hb.below (show HoldT (SP w.heap.size C A) w _ from by with_reducible assumption).up (by decide)) (by omega)).mono ?_; rintro e w8 ⟨rfl, hb8⟩; rw [d1]; have hk8 := HoldT.step hstab (by with_reducible assumption) hb8)
        | (go_at_call 40; refine (SCheckr_any pub C A b _ _ ⟨by omega, by omega⟩ ⟨by omega, by omega⟩ ⟨by omega, by omega⟩ (hb.below (show HoldT (SP w.heap.size C A) w _ from by with_reducible assumption).up (by decide)) (by omega)).mono ?_; rintro e w8 ⟨rfl, hb8⟩; rw [d1]; have hk8 := HoldT.step hstab (by with_reducible assumption) hb8)
        | (go_at_call 43; refine (Name_any pub _ ⟨by omega, by omega⟩).mono ?_; rintro e w8 ⟨rfl, hb8⟩; have hk8 := HoldT.step hstab (by with_reducible assumption) hb8)
        | (go_at_call 44; refine (Namer_any pub _ ⟨by omega, by omega⟩).mono ?_; rintro e w8 ⟨rfl, hb8⟩; have hk8 := HoldT.step hstab (by with_reducible assumption) hb8))
    refine phPost_hold (by first | with_reducible assumption | exact HoldT.alloc hstab (by with_reducible assumption) _ | exact HoldT.alloc hstab (HoldT.alloc hstab (by with_reducible assumption) _) _) ?_
    intro hk_
    refine wpTr_step ?_
    simp only [pickOps, List.flatMap_nil]
    refine wpQuiet_nil ?_
    refine wpTr_one ?_
    simp only [pickOps, List.flatMap_cons, List.flatMap_nil, List.drop_succ_cons, List.drop_zero, List.take_succ_cons, List.take_zero, List.cons_append, List.nil_append, List.append_nil]
    go_wp2_with (first
        | (go_at_call 38; refine (SCheck_any pub C A b _ _ ⟨by omega, by omega⟩ ⟨by omega, by omega⟩ ⟨by omega, by omega⟩ (hb.below (show HoldT (SP w.heap.size C A) w _ from by with_reducible assumption).up (by decide)) (by omega)).mono ?_; rintro e w8 ⟨rfl, hb8⟩; rw [d1]; have hk8 := HoldT.step hstab (by with_reducible assumption) hb8)
        | (go_at_call 40; refine (SCheckr_any pub C A b _ _ ⟨by omega, by omega⟩ ⟨by omega, by omega⟩ ⟨by omega, by omega⟩ (hb.below (show HoldT (SP w.heap.size C A) w _ from by with_reducible assumption).up (by decide)) (by omega)).mono ?_; rintro e w8 ⟨rfl, hb8⟩; rw [d1]; have hk8 := HoldT.step hstab (by with_reducible assumption) hb8)
        | (go_at_call 43; refine (Name_any pub _ ⟨by omega, by omega⟩).mono ?_; rintro e w8 ⟨rfl, hb8⟩; have hk8 := HoldT.step hstab (by with_reducible assumption) hb8)
        | (go_at_call 44; refine (Namer_any pub _ ⟨by omega, by omega⟩).mono ?_; rintro e w8 ⟨rfl, hb8⟩; have hk8 := HoldT.step hstab (by with_reducible assumption) hb8))
    refine phPost_hold (by first | with_reducible assumption | exact HoldT.alloc hstab (by with_reducible assumption) _ | exact HoldT.alloc hstab (HoldT.alloc hstab (by with_reducible assumption) _) _) ?_
    intro hk_
    refine wpTr_step ?_
    simp only [pickOps, List.flatMap_cons, List.flatMap_nil, List.drop_succ_cons, List.drop_zero, List.take_succ_cons, List.take_zero, List.cons_append, List.nil_append, List.append_nil]
    iterate 1 (first | ((go_big_quiet_want; refine quiet_eql 23 _ _ rfl _ _ _ rfl rfl guard_key (run_eqKey (nameL pub) (nameL pub) (length_nameL _) (length_nameL _)) ?_; simp only [beq_self_eq_true, Bool.and_self, Act.put, List.setIfInBounds_toArray, List.set_cons_succ, List.set_cons_zero]; go_big_quiet_on)) | go_big_quiet_step (exact rfl))
    refine wpQuiet_nil ?_
    refine wpTr_one ?_
    simp only [pickOps, List.flatMap_cons, List.flatMap_nil, List.drop_succ_cons, List.drop_zero, List.take_succ_cons, List.take_zero, List.cons_append, List.nil_append, List.append_nil]
    go_wp2_with (first
        | (go_at_call 38; refine (SCheck_any pub C A b _ _ ⟨by omega, by omega⟩ ⟨by omega, by omega⟩ ⟨by omega, by omega⟩ (hb.below (show HoldT (SP w.heap.size C A) w _ from by with_reducible assumption).up (by decide)) (by omega)).mono ?_; rintro e w8 ⟨rfl, hb8⟩; rw [d1]; have hk8 := HoldT.step hstab (by with_reducible assumption) hb8)
        | (go_at_call 40; refine (SCheckr_any pub C A b _ _ ⟨by omega, by omega⟩ ⟨by omega, by omega⟩ ⟨by omega, by omega⟩ (hb.below (show HoldT (SP w.heap.size C A) w _ from by with_reducible assumption).up (by decide)) (by omega)).mono ?_; rintro e w8 ⟨rfl, hb8⟩; rw [d1]; have hk8 := HoldT.step hstab (by with_reducible assumption) hb8)
        | (go_at_call 43; refine (Name_any pub _ ⟨by omega, by omega⟩).mono ?_; rintro e w8 ⟨rfl, hb8⟩; have hk8 := HoldT.step hstab (by with_reducible assumption) hb8)
        | (go_at_call 44; refine (Namer_any pub _ ⟨by omega, by omega⟩).mono ?_; rintro e w8 ⟨rfl, hb8⟩; have hk8 := HoldT.step hstab (by with_reducible assumption) hb8))
    refine phPost_hold (by first | with_reducible assumption | exact HoldT.alloc hstab (by with_reducible assumption) _ | exact HoldT.alloc hstab (HoldT.alloc hstab (by with_reducible assumption) _) _) ?_
    intro hk_
    refine wpTr_fin ?_
    simp only [pickOps, List.flatMap_cons, List.flatMap_nil, List.drop_succ_cons, List.drop_zero, List.take_succ_cons, List.take_zero, List.cons_append, List.nil_append, List.append_nil]
    iterate 1 (first | ((go_big_quiet_want; refine quiet_eql 23 _ _ rfl _ _ _ rfl rfl guard_key (run_eqKey (nameL pub) (nameL pub) (length_nameL _) (length_nameL _)) ?_; simp only [beq_self_eq_true, Bool.and_self, Act.put, List.setIfInBounds_toArray, List.set_cons_succ, List.set_cons_zero]; go_big_quiet_on)) | go_big_quiet_step (exact rfl))
    refine wpQuiet_nil ?_
    go_wp2_with fail
    go_ret
    exact ⟨rfl, (show HoldT (SP w.heap.size C A) w _ from by with_reducible assumption).up⟩

set_option maxRecDepth 100000 in
set_option maxHeartbeats 2000000 in
theorem SignSigns_any (x : Int) (b : List UInt8) (vb : Value) (w : World) (hx : in64 x) (hb : SeesB w vb b) :
    Calls Try.prog 13 #[.int .u64 x, vb] w fun e w' => e = .returned (.bool true) ∧ Below w.heap.size w w' := by
  obtain ⟨x0, x1⟩ := hx
  obtain ⟨a1, n1, rfl, hnb, hnd⟩ := sees_form hb
  by_cases hlb : 300 < b.length
  · go_enter Try.func13, Try.ntmps13
    go_wp2_with (go_at_call 36; refine (alive10_any _).mono ?_; rintro e w1 ⟨rfl, hb1⟩)
    go_ret
    exact ⟨rfl, hb1⟩
  obtain ⟨c0, c1⟩ := signC_pos x b
  obtain ⟨s0, s1⟩ := signS_pos x b
  have HT := sign_holds x b ⟨x0, x1⟩
  generalize hC : signC x b = C at *
  generalize hA : signS x b = A at *
  have HC := Lib.hid hC; have HA := Lib.hid hA
  clear hC hA
  have HTD := Lib.hid (decide_eq_true HT)
  clear HT
  obtain ⟨p0, p1⟩ := timesP_pos 37 x
  generalize hP : timesP 37 x = pub at *
  have HP := Lib.hid hP
  clear hP
  go_enter Try.func13, Try.ntmps13
  go_wp2_with (first
    | (go_at_call 36; refine (alive10_any _).mono ?_; rintro e w1 ⟨rfl, hb1⟩)
    | (at_builtin; refine appB (W := w1) rfl _ _ rfl (.slice none 0 0) [] rfl (ownB_nil _ _) _ b rfl (hb.below hb1 (by decide)) (by simp only [List.length_nil]; omega) (Below.refl _ _) ?_; intro v4 w4 hown4 hgr4 hb4; clear hgr4; rw [List.nil_append] at hown4)
    | (go_at_call 37; refine (Sign_any x b _ _ ⟨by omega, by omega⟩ (sees_of_owns hown4) (by omega)).mono ?_; rintro e w2 ⟨rfl, hb2⟩; rw [HC.out, HA.out]; have hbel2 := (hb1.trans (hb4.mono hb1.size)).trans (hb2.mono (Nat.le_trans hb1.size hb4.size)))
    | (refine wpList_store_row rfl 43 _ _ rfl w2.heap.size #[.int .u64 C, .int .u64 A] _ _ rfl rfl (Blk.new _ _ _) (by rw [pv_size, pv_size]) (by rw [pv_size]; exact info_proof) (pv_one _ _) ?_; intro w3 hg3 hs3 hR3
       have hbel3 : Below w.heap.size w w3 := (hbel2.alloc hbel2.size _).grown hg3 (by simp only [World.size_alloc]; exact Nat.le_succ_of_le hbel2.size) (fun k hk => by cases hk; exact hbel2.size)
       have hk : HoldT (SP w2.heap.size C A) w w3 := ⟨hR3, hbel3⟩
       clear hg3 hs3 hR3)
    | (go_at_call 39; refine (Public_any _ _ (by omega) (by omega)).mono ?_; rintro e w5 ⟨rfl, rfl⟩; rw [HP.out]))
  generalize w2.heap.size = B at *
  have hstab := stabSP B C A
  have hS0 : ∀ e : InC (SP B C A), e.u.cell? ⟨B, 0, none⟩ = some (.int .u64 C) := fun e => e.has.cell 0
  have hS1 : ∀ e : InC (SP B C A), e.u.cell? ⟨B, 1, none⟩ = some (.int .u64 A) := fun e => e.has.cell 1
  have hk := HoldT.drew hstab hk
  try change Code.wp _ _ _ (Act.mk _ _) _
  haveI hne_ : Nonempty (InC (SP B C A)) := ⟨⟨_, (hk).1⟩⟩
  refine wp_region_tr (C := fun w_ => ∃ e_ : InC (SP B C A), w_ = e_.u) (.step [0, 1, 2] (.alt 3 (.step [4, 5, 6, 7] (.alt 8 (.step [9] (.alt 10 (.step [11, 12, 14] (.alt 13 (.step [] (.alt 15 (.step [16] (.alt 17 (.step [18, 19, 20, 21] (.alt 22 (.step [] (.alt 23 (.fin [24]) .nil)) .nil)) .nil)) .nil)) .nil)) .nil)) .nil)) .nil)) (by kernel_rfl) (by kernel_rfl) (fun _ _ _ _ hd_ h_ => ⟨hd_.symm.trans h_.1, h_.2⟩) ⟨⟨World.drew _, (hk).1⟩, rfl⟩ ?_
  have hk_ := hk
  refine wpTr_step ?_
  simp only [pickOps, List.flatMap_cons, List.flatMap_nil, List.drop_succ_cons, List.drop_zero, List.take_succ_cons, List.take_zero, List.cons_append, List.nil_append, List.append_nil]
  iterate 3 (first | (first | (go_big_quiet_want; refine quiet_eql 43 _ _ rfl _ _ _ rfl rfl guard_proof (run_eqP C A C A) ?_; simp only [beq_self_eq_true, Bool.and_self, Act.put, List.setIfInBounds_toArray, List.set_cons_succ, List.set_cons_zero]; go_big_quiet_on) | (go_big_quiet_want; refine quiet_eql 23 _ _ rfl _ _ _ rfl rfl guard_key (run_eqKey (nameL pub) (nameL pub) (length_nameL _) (length_nameL _)) ?_; simp only [beq_self_eq_true, Bool.and_self, Act.put, List.setIfInBounds_toArray, List.set_cons_succ, List.set_cons_zero]; go_big_quiet_on)) | go_big_quiet_step (exact rfl))
  refine wpQuiet_nil ?_
  refine wpTr_one ?_
  simp only [pickOps, List.flatMap_cons, List.flatMap_nil, List.drop_succ_cons, List.drop_zero, List.take_succ_cons, List.take_zero, List.cons_append, List.nil_append, List.append_nil]
  go_wp2_with (first
    | (go_at_call 42; refine (Signr_any x b _ _ ⟨by omega, by omega⟩ (hb.below (show HoldT (SP B C A) w _ from by with_reducible assumption).up (by decide)) (by omega)).mono ?_; rintro e w8 ⟨rfl, hb8⟩; rw [HC.out, HA.out]; have hk8 := HoldT.step hstab (by with_reducible assumption) hb8)
    | (go_at_call 41; refine (Baser_any _ _ (by omega) (by omega)).mono ?_; rintro e w5 ⟨rfl, rfl⟩; rw [HP.out])
    | (go_at_call 43; refine (Name_any pub _ ⟨by omega, by omega⟩).mono ?_; rintro e w8 ⟨rfl, hb8⟩; have hk8 := HoldT.step hstab (by with_reducible assumption) hb8)
    | (go_at_call 44; refine (Namer_any pub _ ⟨by omega, by omega⟩).mono ?_; rintro e w8 ⟨rfl, hb8⟩; have hk8 := HoldT.step hstab (by with_reducible assumption) hb8)
    | (go_at_call 38; refine (SCheck_any pub C A b _ _ ⟨by omega, by omega⟩ ⟨by omega, by omega⟩ ⟨by omega, by omega⟩ (hb.below (show HoldT (SP B C A) w _ from by with_reducible assumption).up (by decide)) (by omega)).mono ?_; rintro e w8 ⟨rfl, hb8⟩; rw [HTD.out]; have hk8 := HoldT.step hstab (by with_reducible assumption) hb8))
  refine phPost_hold (by first | with_reducible assumption | exact HoldT.alloc hstab (by with_reducible assumption) _ | exact HoldT.alloc hstab (HoldT.alloc hstab (by with_reducible assumption) _) _) ?_
  intro hk_
  refine wpTr_step ?_
  simp only [pickOps, List.flatMap_cons, List.flatMap_nil, List.drop_succ_cons, List.drop_zero, List.take_succ_cons, List.take_zero, List.cons_append, List.nil_append, List.append_nil]
  iterate 4 (first | (first | (go_big_quiet_want; refine quiet_eql 43 _ _ rfl _ _ _ rfl rfl guard_proof (run_eqP C A C A) ?_; simp only [beq_self_eq_true, Bool.and_self, Act.put, List.setIfInBounds_toArray, List.set_cons_succ, List.set_cons_zero]; go_big_quiet_on) | (go_big_quiet_want; refine quiet_eql 23 _ _ rfl _ _ _ rfl rfl guard_key (run_eqKey (nameL pub) (nameL pub) (length_nameL _) (length_nameL _)) ?_; simp only [beq_self_eq_true, Bool.and_self, Act.put, List.setIfInBounds_toArray, List.set_cons_succ, List.set_cons_zero]; go_big_quiet_on)) | go_big_quiet_step (exact rfl))
  refine wpQuiet_nil ?_
  refine wpTr_one ?_
  simp only [pickOps, List.flatMap_cons, List.flatMap_nil, List.drop_succ_cons, List.drop_zero, List.take_succ_cons, List.take_zero, List.cons_append, List.nil_append, List.append_nil]
  go_wp2_with (first
    | (go_at_call 42; refine (Signr_any x b _ _ ⟨by omega, by omega⟩ (hb.below (show HoldT (SP B C A) w _ from by with_reducible assumption).up (by decide)) (by omega)).mono ?_; rintro e w8 ⟨rfl, hb8⟩; rw [HC.out, HA.out]; have hk8 := HoldT.step hstab (by with_reducible assumption) hb8)
    | (go_at_call 41; refine (Baser_any _ _ (by omega) (by omega)).mono ?_; rintro e w5 ⟨rfl, rfl⟩; rw [HP.out])
    | (go_at_call 43; refine (Name_any pub _ ⟨by omega, by omega⟩).mono ?_; rintro e w8 ⟨rfl, hb8⟩; have hk8 := HoldT.step hstab (by with_reducible assumption) hb8)
    | (go_at_call 44; refine (Namer_any pub _ ⟨by omega, by omega⟩).mono ?_; rintro e w8 ⟨rfl, hb8⟩; have hk8 := HoldT.step hstab (by with_reducible assumption) hb8)
    | (go_at_call 38; refine (SCheck_any pub C A b _ _ ⟨by omega, by omega⟩ ⟨by omega, by omega⟩ ⟨by omega, by omega⟩ (hb.below (show HoldT (SP B C A) w _ from by with_reducible assumption).up (by decide)) (by omega)).mono ?_; rintro e w8 ⟨rfl, hb8⟩; rw [HTD.out]; have hk8 := HoldT.step hstab (by with_reducible assumption) hb8))
  refine phPost_hold (by first | with_reducible assumption | exact HoldT.alloc hstab (by with_reducible assumption) _ | exact HoldT.alloc hstab (HoldT.alloc hstab (by with_reducible assumption) _) _) ?_
  intro hk_
  refine wpTr_step ?_
  simp only [pickOps, List.flatMap_cons, List.flatMap_nil, List.drop_succ_cons, List.drop_zero, List.take_succ_cons, List.take_zero, List.cons_append, List.nil_append, List.append_nil]
  iterate 1 (first | (first | (go_big_quiet_want; refine quiet_eql 43 _ _ rfl _ _ _ rfl rfl guard_proof (run_eqP C A C A) ?_; simp only [beq_self_eq_true, Bool.and_self, Act.put, List.setIfInBounds_toArray, List.set_cons_succ, List.set_cons_zero]; go_big_quiet_on) | (go_big_quiet_want; refine quiet_eql 23 _ _ rfl _ _ _ rfl rfl guard_key (run_eqKey (nameL pub) (nameL pub) (length_nameL _) (length_nameL _)) ?_; simp only [beq_self_eq_true, Bool.and_self, Act.put, List.setIfInBounds_toArray, List.set_cons_succ, List.set_cons_zero]; go_big_quiet_on)) | go_big_quiet_step (exact rfl))
  refine wpQuiet_nil ?_
  refine wpTr_one ?_
  simp only [pickOps, List.flatMap_cons, List.flatMap_nil, List.drop_succ_cons, List.drop_zero, List.take_succ_cons, List.take_zero, List.cons_append, List.nil_append, List.append_nil]
  go_wp2_with (first
    | (go_at_call 42; refine (Signr_any x b _ _ ⟨by omega, by omega⟩ (hb.below (show HoldT (SP B C A) w _ from by with_reducible assumption).up (by decide)) (by omega)).mono ?_; rintro e w8 ⟨rfl, hb8⟩; rw [HC.out, HA.out]; have hk8 := HoldT.step hstab (by with_reducible assumption) hb8)
    | (go_at_call 41; refine (Baser_any _ _ (by omega) (by omega)).mono ?_; rintro e w5 ⟨rfl, rfl⟩; rw [HP.out])
    | (go_at_call 43; refine (Name_any pub _ ⟨by omega, by omega⟩).mono ?_; rintro e w8 ⟨rfl, hb8⟩; have hk8 := HoldT.step hstab (by with_reducible assumption) hb8)
    | (go_at_call 44; refine (Namer_any pub _ ⟨by omega, by omega⟩).mono ?_; rintro e w8 ⟨rfl, hb8⟩; have hk8 := HoldT.step hstab (by with_reducible assumption) hb8)
    | (go_at_call 38; refine (SCheck_any pub C A b _ _ ⟨by omega, by omega⟩ ⟨by omega, by omega⟩ ⟨by omega, by omega⟩ (hb.below (show HoldT (SP B C A) w _ from by with_reducible assumption).up (by decide)) (by omega)).mono ?_; rintro e w8 ⟨rfl, hb8⟩; rw [HTD.out]; have hk8 := HoldT.step hstab (by with_reducible assumption) hb8))
  refine phPost_hold (by first | with_reducible assumption | exact HoldT.alloc hstab (by with_reducible assumption) _ | exact HoldT.alloc hstab (HoldT.alloc hstab (by with_reducible assumption) _) _) ?_
  intro hk_
  refine wpTr_step ?_
  simp only [pickOps, List.flatMap_cons, List.flatMap_nil, List.drop_succ_cons, List.drop_zero, List.take_succ_cons, List.take_zero, List.cons_append, List.nil_append, List.append_nil]
  iterate 3 (first | (first | (go_big_quiet_want; refine quiet_eql 43 _ _ rfl _ _ _ rfl rfl guard_proof (run_eqP C A C A) ?_; simp only [beq_self_eq_true, Bool.and_self, Act.put, List.setIfInBounds_toArray, List.set_cons_succ, List.set_cons_zero]; go_big_quiet_on) | (go_big_quiet_want; refine quiet_eql 23 _ _ rfl _ _ _ rfl rfl guard_key (run_eqKey (nameL pub) (nameL pub) (length_nameL _) (length_nameL _)) ?_; simp only [beq_self_eq_true, Bool.and_self, Act.put, List.setIfInBounds_toArray, List.set_cons_succ, List.set_cons_zero]; go_big_quiet_on)) | go_big_quiet_step (exact rfl))
  refine wpQuiet_nil ?_
  refine wpTr_one ?_
  simp only [pickOps, List.flatMap_cons, List.flatMap_nil, List.drop_succ_cons, List.drop_zero, List.take_succ_cons, List.take_zero, List.cons_append, List.nil_append, List.append_nil]
  go_wp2_with (first
    | (go_at_call 42; refine (Signr_any x b _ _ ⟨by omega, by omega⟩ (hb.below (show HoldT (SP B C A) w _ from by with_reducible assumption).up (by decide)) (by omega)).mono ?_; rintro e w8 ⟨rfl, hb8⟩; rw [HC.out, HA.out]; have hk8 := HoldT.step hstab (by with_reducible assumption) hb8)
    | (go_at_call 41; refine (Baser_any _ _ (by omega) (by omega)).mono ?_; rintro e w5 ⟨rfl, rfl⟩; rw [HP.out])
    | (go_at_call 43; refine (Name_any pub _ ⟨by omega, by omega⟩).mono ?_; rintro e w8 ⟨rfl, hb8⟩; have hk8 := HoldT.step hstab (by with_reducible assumption) hb8)
    | (go_at_call 44; refine (Namer_any pub _ ⟨by omega, by omega⟩).mono ?_; rintro e w8 ⟨rfl, hb8⟩; have hk8 := HoldT.step hstab (by with_reducible assumption) hb8)
    | (go_at_call 38; refine (SCheck_any pub C A b _ _ ⟨by omega, by omega⟩ ⟨by omega, by omega⟩ ⟨by omega, by omega⟩ (hb.below (show HoldT (SP B C A) w _ from by with_reducible assumption).up (by decide)) (by omega)).mono ?_; rintro e w8 ⟨rfl, hb8⟩; rw [HTD.out]; have hk8 := HoldT.step hstab (by with_reducible assumption) hb8))
  refine phPost_hold (by first | with_reducible assumption | exact HoldT.alloc hstab (by with_reducible assumption) _ | exact HoldT.alloc hstab (HoldT.alloc hstab (by with_reducible assumption) _) _) ?_
  intro hk_
  refine wpTr_step ?_
  simp only [pickOps, List.flatMap_nil]
  refine wpQuiet_nil ?_
  refine wpTr_one ?_
  simp only [pickOps, List.flatMap_cons, List.flatMap_nil, List.drop_succ_cons, List.drop_zero, List.take_succ_cons, List.take_zero, List.cons_append, List.nil_append, List.append_nil]
  go_wp2_with (first
    | (go_at_call 42; refine (Signr_any x b _ _ ⟨by omega, by omega⟩ (hb.below (show HoldT (SP B C A) w _ from by with_reducible assumption).up (by decide)) (by omega)).mono ?_; rintro e w8 ⟨rfl, hb8⟩; rw [HC.out, HA.out]; have hk8 := HoldT.step hstab (by with_reducible assumption) hb8)
    | (go_at_call 41; refine (Baser_any _ _ (by omega) (by omega)).mono ?_; rintro e w5 ⟨rfl, rfl⟩; rw [HP.out])
    | (go_at_call 43; refine (Name_any pub _ ⟨by omega, by omega⟩).mono ?_; rintro e w8 ⟨rfl, hb8⟩; have hk8 := HoldT.step hstab (by with_reducible assumption) hb8)
    | (go_at_call 44; refine (Namer_any pub _ ⟨by omega, by omega⟩).mono ?_; rintro e w8 ⟨rfl, hb8⟩; have hk8 := HoldT.step hstab (by with_reducible assumption) hb8)
    | (go_at_call 38; refine (SCheck_any pub C A b _ _ ⟨by omega, by omega⟩ ⟨by omega, by omega⟩ ⟨by omega, by omega⟩ (hb.below (show HoldT (SP B C A) w _ from by with_reducible assumption).up (by decide)) (by omega)).mono ?_; rintro e w8 ⟨rfl, hb8⟩; rw [HTD.out]; have hk8 := HoldT.step hstab (by with_reducible assumption) hb8))
  refine phPost_hold (by first | with_reducible assumption | exact HoldT.alloc hstab (by with_reducible assumption) _ | exact HoldT.alloc hstab (HoldT.alloc hstab (by with_reducible assumption) _) _) ?_
  intro hk_
  refine wpTr_step ?_
  simp only [pickOps, List.flatMap_cons, List.flatMap_nil, List.drop_succ_cons, List.drop_zero, List.take_succ_cons, List.take_zero, List.cons_append, List.nil_append, List.append_nil]
  iterate 1 (first | (first | (go_big_quiet_want; refine quiet_eql 43 _ _ rfl _ _ _ rfl rfl guard_proof (run_eqP C A C A) ?_; simp only [beq_self_eq_true, Bool.and_self, Act.put, List.setIfInBounds_toArray, List.set_cons_succ, List.set_cons_zero]; go_big_quiet_on) | (go_big_quiet_want; refine quiet_eql 23 _ _ rfl _ _ _ rfl rfl guard_key (run_eqKey (nameL pub) (nameL pub) (length_nameL _) (length_nameL _)) ?_; simp only [beq_self_eq_true, Bool.and_self, Act.put, List.setIfInBounds_toArray, List.set_cons_succ, List.set_cons_zero]; go_big_quiet_on)) | go_big_quiet_step (exact rfl))
  refine wpQuiet_nil ?_
  refine wpTr_one ?_
  simp only [pickOps, List.flatMap_cons, List.flatMap_nil, List.drop_succ_cons, List.drop_zero, List.take_succ_cons, List.take_zero, List.cons_append, List.nil_append, List.append_nil]
  go_wp2_with (first
    | (go_at_call 42; refine (Signr_any x b _ _ ⟨by omega, by omega⟩ (hb.below (show HoldT (SP B C A) w _ from by with_reducible assumption).up (by decide)) (by omega)).mono ?_; rintro e w8 ⟨rfl, hb8⟩; rw [HC.out, HA.out]; have hk8 := HoldT.step hstab (by with_reducible assumption) hb8)
    | (go_at_call 41; refine (Baser_any _ _ (by omega) (by omega)).mono ?_; rintro e w5 ⟨rfl, rfl⟩; rw [HP.out])
    | (go_at_call 43; refine (Name_any pub _ ⟨by omega, by omega⟩).mono ?_; rintro e w8 ⟨rfl, hb8⟩; have hk8 := HoldT.step hstab (by with_reducible assumption) hb8)
    | (go_at_call 44; refine (Namer_any pub _ ⟨by omega, by omega⟩).mono ?_; rintro e w8 ⟨rfl, hb8⟩; have hk8 := HoldT.step hstab (by with_reducible assumption) hb8)
    | (go_at_call 38; refine (SCheck_any pub C A b _ _ ⟨by omega, by omega⟩ ⟨by omega, by omega⟩ ⟨by omega, by omega⟩ (hb.below (show HoldT (SP B C A) w _ from by with_reducible assumption).up (by decide)) (by omega)).mono ?_; rintro e w8 ⟨rfl, hb8⟩; rw [HTD.out]; have hk8 := HoldT.step hstab (by with_reducible assumption) hb8))
  refine phPost_hold (by first | with_reducible assumption | exact HoldT.alloc hstab (by with_reducible assumption) _ | exact HoldT.alloc hstab (HoldT.alloc hstab (by with_reducible assumption) _) _) ?_
  intro hk_
  refine wpTr_step ?_
  simp only [pickOps, List.flatMap_cons, List.flatMap_nil, List.drop_succ_cons, List.drop_zero, List.take_succ_cons, List.take_zero, List.cons_append, List.nil_append, List.append_nil]
  iterate 4 (first | (first | (go_big_quiet_want; refine quiet_eql 43 _ _ rfl _ _ _ rfl rfl guard_proof (run_eqP C A C A) ?_; simp only [beq_self_eq_true, Bool.and_self, Act.put, List.setIfInBounds_toArray, List.set_cons_succ, List.set_cons_zero]; go_big_quiet_on) | (go_big_quiet_want; refine quiet_eql 23 _ _ rfl _ _ _ rfl rfl guard_key (run_eqKey (nameL pub) (nameL pub) (length_nameL _) (length_nameL _)) ?_; simp only [beq_self_eq_true, Bool.and_self, Act.put, List.setIfInBounds_toArray, List.set_cons_succ, List.set_cons_zero]; go_big_quiet_on)) | go_big_quiet_step (exact rfl))
  refine wpQuiet_nil ?_
  refine wpTr_one ?_
  simp only [pickOps, List.flatMap_cons, List.flatMap_nil, List.drop_succ_cons, List.drop_zero, List.take_succ_cons, List.take_zero, List.cons_append, List.nil_append, List.append_nil]
  go_wp2_with (first
    | (go_at_call 42; refine (Signr_any x b _ _ ⟨by omega, by omega⟩ (hb.below (show HoldT (SP B C A) w _ from by with_reducible assumption).up (by decide)) (by omega)).mono ?_; rintro e w8 ⟨rfl, hb8⟩; rw [HC.out, HA.out]; have hk8 := HoldT.step hstab (by with_reducible assumption) hb8)
    | (go_at_call 41; refine (Baser_any _ _ (by omega) (by omega)).mono ?_; rintro e w5 ⟨rfl, rfl⟩; rw [HP.out])
    | (go_at_call 43; refine (Name_any pub _ ⟨by omega, by omega⟩).mono ?_; rintro e w8 ⟨rfl, hb8⟩; have hk8 := HoldT.step hstab (by with_reducible assumption) hb8)
    | (go_at_call 44; refine (Namer_any pub _ ⟨by omega, by omega⟩).mono ?_; rintro e w8 ⟨rfl, hb8⟩; have hk8 := HoldT.step hstab (by with_reducible assumption) hb8)
    | (go_at_call 38; refine (SCheck_any pub C A b _ _ ⟨by omega, by omega⟩ ⟨by omega, by omega⟩ ⟨by omega, by omega⟩ (hb.below (show HoldT (SP B C A) w _ from by with_reducible assumption).up (by decide)) (by omega)).mono ?_; rintro e w8 ⟨rfl, hb8⟩; rw [HTD.out]; have hk8 := HoldT.step hstab (by with_reducible assumption) hb8))
  refine phPost_hold (by first | with_reducible assumption | exact HoldT.alloc hstab (by with_reducible assumption) _ | exact HoldT.alloc hstab (HoldT.alloc hstab (by with_reducible assumption) _) _) ?_
  intro hk_
  refine wpTr_step ?_
  simp only [pickOps, List.flatMap_nil]
  refine wpQuiet_nil ?_
  refine wpTr_one ?_
  simp only [pickOps, List.flatMap_cons, List.flatMap_nil, List.drop_succ_cons, List.drop_zero, List.take_succ_cons, List.take_zero, List.cons_append, List.nil_append, List.append_nil]
  go_wp2_with (first
    | (go_at_call 42; refine (Signr_any x b _ _ ⟨by omega, by omega⟩ (hb.below (show HoldT (SP B C A) w _ from by with_reducible assumption).up (by decide)) (by omega)).mono ?_; rintro e w8 ⟨rfl, hb8⟩; rw [HC.out, HA.out]; have hk8 := HoldT.step hstab (by with_reducible assumption) hb8)
    | (go_at_call 41; refine (Baser_any _ _ (by omega) (by omega)).mono ?_; rintro e w5 ⟨rfl, rfl⟩; rw [HP.out])
    | (go_at_call 43; refine (Name_any pub _ ⟨by omega, by omega⟩).mono ?_; rintro e w8 ⟨rfl, hb8⟩; have hk8 := HoldT.step hstab (by with_reducible assumption) hb8)
    | (go_at_call 44; refine (Namer_any pub _ ⟨by omega, by omega⟩).mono ?_; rintro e w8 ⟨rfl, hb8⟩; have hk8 := HoldT.step hstab (by with_reducible assumption) hb8)
    | (go_at_call 38; refine (SCheck_any pub C A b _ _ ⟨by omega, by omega⟩ ⟨by omega, by omega⟩ ⟨by omega, by omega⟩ (hb.below (show HoldT (SP B C A) w _ from by with_reducible assumption).up (by decide)) (by omega)).mono ?_; rintro e w8 ⟨rfl, hb8⟩; rw [HTD.out]; have hk8 := HoldT.step hstab (by with_reducible assumption) hb8))
  refine phPost_hold (by first | with_reducible assumption | exact HoldT.alloc hstab (by with_reducible assumption) _ | exact HoldT.alloc hstab (HoldT.alloc hstab (by with_reducible assumption) _) _) ?_
  intro hk_
  refine wpTr_fin ?_
  simp only [pickOps, List.flatMap_cons, List.flatMap_nil, List.drop_succ_cons, List.drop_zero, List.take_succ_cons, List.take_zero, List.cons_append, List.nil_append, List.append_nil]
  iterate 1 (first | (first | (go_big_quiet_want; refine quiet_eql 43 _ _ rfl _ _ _ rfl rfl guard_proof (run_eqP C A C A) ?_; simp only [beq_self_eq_true, Bool.and_self, Act.put, List.setIfInBounds_toArray, List.set_cons_succ, List.set_cons_zero]; go_big_quiet_on) | (go_big_quiet_want; refine quiet_eql 23 _ _ rfl _ _ _ rfl rfl guard_key (run_eqKey (nameL pub) (nameL pub) (length_nameL _) (length_nameL _)) ?_; simp only [beq_self_eq_true, Bool.and_self, Act.put, List.setIfInBounds_toArray, List.set_cons_succ, List.set_cons_zero]; go_big_quiet_on)) | go_big_quiet_step (exact rfl))
  refine wpQuiet_nil ?_
  go_wp2_with fail
  go_ret
  exact ⟨rfl, (show HoldT (SP B C A) w _ from by with_reducible assumption).up⟩

set_option maxRecDepth 100000 in
set_option maxHeartbeats 2000000 in
theorem SignAgain_any (x : Int) (a b : List UInt8) (va vb : Value) (w : World) (hx : in64 x) (ha : SeesB w va a) (hb : SeesB w vb b) :
    Calls Try.prog 12 #[.int .u64 x, va, vb] w fun e w' => e = .returned (.bool true) ∧ Below w.heap.size w w' := by
  obtain ⟨x0, x1⟩ := hx
  obtain ⟨a0, n0, rfl, hna, hnc⟩ := sees_form ha
  obtain ⟨a1, n1, rfl, hnb, hnd⟩ := sees_form hb
  by_cases hla : 200 < a.length
  · go_enter Try.func12, Try.ntmps12
    go_wp2_with (go_at_call 36; refine (alive10_any _).mono ?_; rintro e w1 ⟨rfl, hb1⟩)
    go_ret
    exact ⟨rfl, hb1⟩
  by_cases hlb : 200 < b.length
  · go_enter Try.func12, Try.ntmps12
    go_wp2_with (go_at_call 36; refine (alive10_any _).mono ?_; rintro e w1 ⟨rfl, hb1⟩)
    go_ret
    exact ⟨rfl, hb1⟩
  obtain ⟨c0, c1⟩ := signC_pos x a
  obtain ⟨s0, s1⟩ := signS_pos x a
  have HT := sign_holds x a ⟨x0, x1⟩
  generalize hC : signC x a = C at *
  generalize hA : signS x a = A at *
  have HC := Lib.hid hC; have HA := Lib.hid hA
  clear hC hA
  clear HT
  have hd1 : decide (C < 2305843009213693950) = true := decide_eq_true c1
  have hd2 : decide (A < 2305843009213693950) = true := decide_eq_true s1
  have hstab := fun B => stabSP B C A
  go_enter Try.func12, Try.ntmps12
  go_wp2_with (first
    | (go_at_call 36; refine (alive10_any _).mono ?_; rintro e w1 ⟨rfl, hb1⟩)
    | (go_at_call 37; (with_reducible show Calls _ _ #[Value.int IntKind.u64 x, Value.slice a0 _ _] w1 _); refine (Sign_any x a _ _ ⟨by omega, by omega⟩ (ha.below hb1 (by decide)) (by omega)).mono ?_; rintro e w2 ⟨rfl, hb2⟩; rw [HC.out, HA.out]; have hbel2 := hb1.trans (hb2.mono hb1.size))
    | (refine wpList_store_row rfl 43 _ _ rfl w2.heap.size #[.int .u64 C, .int .u64 A] _ _ rfl rfl (Blk.new _ _ _) (by rw [pv_size, pv_size]) (by rw [pv_size]; exact info_proof) (pv_one _ _) ?_; intro w3 hg3 hs3 hR3
       have hbel3 : Below w.heap.size w w3 := (hbel2.alloc hbel2.size _).grown hg3 (by simp only [World.size_alloc]; exact Nat.le_succ_of_le hbel2.size) (fun k hk => by cases hk; exact hbel2.size)
       have hk : HoldT (SP w2.heap.size C A) w w3 := ⟨hR3, hbel3⟩
       clear hg3 hs3 hR3)
    | (go_at_call 37; (with_reducible show Calls _ _ #[_, Value.slice a1 _ _] _ _); refine (Sign_any _ b _ _ (by first | exact in64_w _ | (constructor <;> omega)) (hb.below hk.up (by decide)) (by omega)).mono ?_; rintro e w4 ⟨rfl, hb4⟩; have hk4 := HoldT.step (hstab _) hk hb4)
    | (go_at_call 37; refine (Sign_any x a _ _ ⟨by omega, by omega⟩ (ha.below hk4.up (by decide)) (by omega)).mono ?_; rintro e w5 ⟨rfl, hb5⟩; rw [HC.out, HA.out]; have hk5 := HoldT.step (hstab _) hk4 hb5)
    | (refine wpList_store_row rfl 43 _ _ rfl w5.heap.size #[.int .u64 C, .int .u64 A] _ _ rfl rfl (Blk.new _ _ _) (by rw [pv_size, pv_size]) (by rw [pv_size]; exact info_proof) (pv_one _ _) ?_; intro w6 hg6 hs6 hR6
       have hR2 : Blk w6 w2.heap.size #[.int .u64 C, .int .u64 A] 43 := (hk5.has.alloc _).grownBy hg6 (some_ne (by have := Blk.lt hk5.has; omega))
       have hbel6 : Below w.heap.size w w6 := (hk5.up.alloc hk5.up.size _).grown hg6 (by simp only [World.size_alloc]; exact Nat.le_succ_of_le hk5.up.size) (fun k hk => by cases hk; exact hk5.up.size)
       have e0 := hR2.cell 0
       have e1 := hR2.cell 1
       have e2 := hR6.cell 0
       have e3 := hR6.cell 1
       clear hg6 hs6 hR6 hR2)
    | (refine wpList_eqP rfl _ _ rfl _ _ _ _ rfl rfl ?_; simp only [beq_self_eq_true, Bool.and_self]))
  go_ret
  exact ⟨rfl, hbel6⟩
end Go.Proofs.Yteialfdhbfbkgaa
