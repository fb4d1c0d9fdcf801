/-
  The laws of chapter 10: alive.
-/
import Derived.Test.YteialfdhbfbkgaaSign3
import Derived.Test.YteialfdhbfbkgaaTree
import Derived.Test.YteialfdhbfbkgaaLaw9a
namespace Go.Proofs.Yteialfdhbfbkgaa
set_option linter.unusedVariables false
set_option linter.unusedSimpArgs false
open Go Go.RowKit

theorem sign_holds (x : Int) (b : List UInt8) (hx : in64 x) : signOk (timesP 37 x) b (signC x b) (signS x b) := by
  have hd : in64 (sigD x b) := ⟨(sigD_pos x b).1, by have := (sigD_pos x b).2; omega⟩
  obtain ⟨h1, h2⟩ := back_holds (g := 37) (a := x) (d := sigD x b) (c := signC x b) (by decide) hx hd (signC_pos x b).1
  refine ⟨h1, ⟨(signC_pos x b).2, (signS_pos x b).2⟩, ?_⟩
  unfold signS
  rw [h2]; rfl
theorem conv1 (a : Int) (W : World) : (convert 25 25 (.slice (some ⟨W.heap.size, 0, none⟩) 1 1)).run Try.prog (W.alloc (.cells #[.int .u8 a] 5)) = .ok (.slice (some ⟨W.heap.size, 0, none⟩) 1 1) (W.alloc (.cells #[.int .u8 a] 5 (1, 2))) :=
  Lib.run_convert_bytes_const W 25 5 #[.int .u8 a] 1 1 u_bytes u_byte
def SP (B : Nat) (C A : Int) (u : World) : Prop := Blk u B #[.int .u64 C, .int .u64 A] 43
theorem stabSP (B : Nat) (C A : Int) : Stab (SP B C A) := Stab.blk _ _ _
theorem info_zproof : (Try.prog.info? 43).map (·.zero) = some (some (.agg #[.int .u64 0, .int .u64 0])) := by kernel_rfl

set_option maxRecDepth 100000 in
set_option maxHeartbeats 1000000 in
theorem alive10_any (w : World) : Calls Try.prog 36 #[] w fun e w' => e = .returned (.bool true) ∧ Below w.heap.size w w' := by
  have HT := Lib.hid (decide_eq_true (sign_holds 5 [97] (by decide)))
  have HF := Lib.hid (show decide (signOk 0 [] 0 0) = false from decide_eq_false (fun h => absurd h.1.1 (by decide)))
  obtain ⟨c0, c1⟩ := signC_pos 5 [97]
  obtain ⟨s0, s1⟩ := signS_pos 5 [97]
  obtain ⟨p0, p1⟩ := timesP_pos 37 5
  generalize hC : signC 5 [97] = C at *
  generalize hS : signS 5 [97] = A at *
  generalize hP : timesP 37 5 = pub at *
  have HC := Lib.hid hC; have HS := Lib.hid hS; have HP := Lib.hid hP
  clear hC hS hP
  have hsa := Lib.hid (fun W : World => seesB_litF W [BV 97] 5 (1, 2) [97] 1 rfl rfl (by decide))
  have hcv := fun W : World => conv1 97 W
  have hb0 := Lib.hid (show Below w.heap.size w (w.alloc (.cells #[BV 97] 5 (1, 2))) by go_grown)
  go_enter Try.func36, Try.ntmps36
  go_wp2_with (first
    | (go_at_call 37; refine (Sign_any 5 [97] _ _ ⟨by omega, by omega⟩ (hsa.out w) (by decide)).mono ?_; rintro e w2 ⟨rfl, hb2⟩; rw [HC.out, HS.out])
    | (refine wpList_store_row rfl 43 _ _ rfl w2.heap.size #[.int .u64 C, .int .u64 A] _ _ rfl rfl (Blk.new _ _ _) (by rw [pv_size, pv_size]) (by rw [pv_size]; exact info_proof) (pv_one _ _) ?_; intro w3 hg3 hs3 hR3
       have hb2' := hb0.out.trans (hb2.mono hb0.out.size)
       have hbel3 : Below w.heap.size w w3 := (hb2'.alloc hb2'.size _).grown hg3 (by simp only [World.size_alloc]; exact Nat.le_succ_of_le hb2'.size) (fun k hk => by cases hk; exact hb2'.size)
       have hk : HoldT (SP w2.heap.size C A) w w3.drew := ⟨hR3.drew, hbel3.drew⟩
       clear hg3 hs3 hR3 hb2 hb2' hbel3))
  generalize w2.heap.size = B at *
  have hstab := stabSP B C A
  have hS0 : ∀ e : InC (SP B C A), e.u.cell? ⟨B, 0, none⟩ = some (.int .u64 C) := fun e => e.has.cell 0
  have hS1 : ∀ e : InC (SP B C A), e.u.cell? ⟨B, 1, none⟩ = some (.int .u64 A) := fun e => e.has.cell 1
  try change Code.wp _ _ _ (Act.mk _ _) _
  haveI hne_ : Nonempty (InC (SP B C A)) := ⟨⟨_, (hk).1⟩⟩
  refine wp_region_tr (C := fun w_ => ∃ e_ : InC (SP B C A), w_ = e_.u) (.step [] (.alt 0 (.step [] (.alt 1 (.step [2, 3, 7] (.alt 4 (.step [] (.alt 5 (.step [] (.alt 6 (.step [] (.alt 8 (.step [] (.alt 9 (.fin [10]) .nil)) .nil)) .nil)) .nil)) (.alt 5 (.step [] (.alt 4 (.step [] (.alt 6 (.step [] (.alt 8 (.step [] (.alt 9 (.fin [10]) .nil)) .nil)) .nil)) (.alt 6 (.step [] (.alt 4 (.step [] (.alt 8 (.step [] (.alt 9 (.fin [10]) .nil)) .nil)) .nil)) .nil))) .nil))) .nil)) .nil)) (by kernel_rfl) (by kernel_rfl) (fun _ _ _ _ hd_ h_ => ⟨hd_.symm.trans h_.1, h_.2⟩) ⟨⟨World.drew _, (hk).1⟩, rfl⟩ ?_
  have hk_ := hk
  refine wpTr_step ?_
  simp only [pickOps, List.flatMap_nil]
  refine wpQuiet_nil ?_
  refine wpTr_one ?_
  simp only [pickOps, List.flatMap_cons, List.flatMap_nil, List.drop_succ_cons, List.drop_zero, List.take_succ_cons, List.take_zero, List.cons_append, List.nil_append, List.append_nil]
  go_wp2_with (first
    | (go_at_call 38; with_reducible show Calls _ _ #[Value.int IntKind.u64 0, _, _] _ _; refine (SCheck_any 0 0 0 [] _ _ (by decide) (by decide) (by decide) (Sees.nil _ _) (by decide)).mono ?_; rintro e w8 ⟨rfl, hb8⟩; rw [HF.out]; have hk8 := HoldT.step hstab (by with_reducible assumption) hb8)
    | (go_at_call 39; refine (Public_any _ _ (by omega) (by omega)).mono ?_; rintro e w5 ⟨rfl, rfl⟩; rw [HP.out])
    | (go_at_call 38; refine (SCheck_any pub C A [97] _ _ ⟨by omega, by omega⟩ ⟨by omega, by omega⟩ ⟨by omega, by omega⟩ (hsa.out _) (by decide)).mono ?_; rintro e w9 ⟨rfl, hb9⟩; rw [HT.out]; have hk9 := HoldT.step hstab (HoldT.alloc hstab (by with_reducible assumption) _) hb9))
  refine phPost_hold (by first | with_reducible assumption | exact HoldT.alloc hstab (by with_reducible assumption) _ | exact HoldT.alloc hstab (HoldT.alloc hstab (by with_reducible assumption) _) _) ?_
  intro hk_
  refine wpTr_step ?_
  simp only [pickOps, List.flatMap_nil]
  refine wpQuiet_nil ?_
  refine wpTr_one ?_
  simp only [pickOps, List.flatMap_cons, List.flatMap_nil, List.drop_succ_cons, List.drop_zero, List.take_succ_cons, List.take_zero, List.cons_append, List.nil_append, List.append_nil]
  go_wp2_with (first
    | (go_at_call 38; with_reducible show Calls _ _ #[Value.int IntKind.u64 0, _, _] _ _; refine (SCheck_any 0 0 0 [] _ _ (by decide) (by decide) (by decide) (Sees.nil _ _) (by decide)).mono ?_; rintro e w8 ⟨rfl, hb8⟩; rw [HF.out]; have hk8 := HoldT.step hstab (by with_reducible assumption) hb8)
    | (go_at_call 39; refine (Public_any _ _ (by omega) (by omega)).mono ?_; rintro e w5 ⟨rfl, rfl⟩; rw [HP.out])
    | (go_at_call 38; refine (SCheck_any pub C A [97] _ _ ⟨by omega, by omega⟩ ⟨by omega, by omega⟩ ⟨by omega, by omega⟩ (hsa.out _) (by decide)).mono ?_; rintro e w9 ⟨rfl, hb9⟩; rw [HT.out]; have hk9 := HoldT.step hstab (HoldT.alloc hstab (by with_reducible assumption) _) hb9))
  refine phPost_hold (by first | with_reducible assumption | exact HoldT.alloc hstab (by with_reducible assumption) _ | exact HoldT.alloc hstab (HoldT.alloc hstab (by with_reducible assumption) _) _) ?_
  intro hk_
  refine wpTr_step ?_
  simp only [pickOps, List.flatMap_cons, List.flatMap_nil, List.drop_succ_cons, List.drop_zero, List.take_succ_cons, List.take_zero, List.cons_append, List.nil_append, List.append_nil]
  iterate 3 (go_big_quiet_step (exact rfl))
  refine wpQuiet_nil ?_
  refine wpTr_alt ?_ ?_
  focus
    simp only [pickOps, List.flatMap_cons, List.flatMap_nil, List.drop_succ_cons, List.drop_zero, List.take_succ_cons, List.take_zero, List.cons_append, List.nil_append, List.append_nil]
    go_wp2_with (first
    | (go_at_call 38; with_reducible show Calls _ _ #[Value.int IntKind.u64 0, _, _] _ _; refine (SCheck_any 0 0 0 [] _ _ (by decide) (by decide) (by decide) (Sees.nil _ _) (by decide)).mono ?_; rintro e w8 ⟨rfl, hb8⟩; rw [HF.out]; have hk8 := HoldT.step hstab (by with_reducible assumption) hb8)
    | (go_at_call 39; refine (Public_any _ _ (by omega) (by omega)).mono ?_; rintro e w5 ⟨rfl, rfl⟩; rw [HP.out])
    | (go_at_call 38; refine (SCheck_any pub C A [97] _ _ ⟨by omega, by omega⟩ ⟨by omega, by omega⟩ ⟨by omega, by omega⟩ (hsa.out _) (by decide)).mono ?_; rintro e w9 ⟨rfl, hb9⟩; rw [HT.out]; have hk9 := HoldT.step hstab (HoldT.alloc hstab (by with_reducible assumption) _) hb9))
    refine phPost_hold (by first | with_reducible assumption | exact HoldT.alloc hstab (by with_reducible assumption) _ | exact HoldT.alloc hstab (HoldT.alloc hstab (by with_reducible assumption) _) _) ?_
    intro hk_
    refine wpTr_step ?_
    simp only [pickOps, List.flatMap_nil]
    refine wpQuiet_nil ?_
    refine wpTr_one ?_
    simp only [pickOps, List.flatMap_cons, List.flatMap_nil, List.drop_succ_cons, List.drop_zero, List.take_succ_cons, List.take_zero, List.cons_append, List.nil_append, List.append_nil]
    go_wp2_with (first
    | (go_at_call 38; with_reducible show Calls _ _ #[Value.int IntKind.u64 0, _, _] _ _; refine (SCheck_any 0 0 0 [] _ _ (by decide) (by decide) (by decide) (Sees.nil _ _) (by decide)).mono ?_; rintro e w8 ⟨rfl, hb8⟩; rw [HF.out]; have hk8 := HoldT.step hstab (by with_reducible assumption) hb8)
    | (go_at_call 39; refine (Public_any _ _ (by omega) (by omega)).mono ?_; rintro e w5 ⟨rfl, rfl⟩; rw [HP.out])
    | (go_at_call 38; refine (SCheck_any pub C A [97] _ _ ⟨by omega, by omega⟩ ⟨by omega, by omega⟩ ⟨by omega, by omega⟩ (hsa.out _) (by decide)).mono ?_; rintro e w9 ⟨rfl, hb9⟩; rw [HT.out]; have hk9 := HoldT.step hstab (HoldT.alloc hstab (by with_reducible assumption) _) hb9))
    refine phPost_hold (by first | with_reducible assumption | exact HoldT.alloc hstab (by with_reducible assumption) _ | exact HoldT.alloc hstab (HoldT.alloc hstab (by with_reducible assumption) _) _) ?_
    intro hk_
    refine wpTr_step ?_
    simp only [pickOps, List.flatMap_nil]
    refine wpQuiet_nil ?_
    refine wpTr_one ?_
    simp only [pickOps, List.flatMap_cons, List.flatMap_nil, List.drop_succ_cons, List.drop_zero, List.take_succ_cons, List.take_zero, List.cons_append, List.nil_append, List.append_nil]
    go_wp2_with (first
    | (go_at_call 38; with_reducible show Calls _ _ #[Value.int IntKind.u64 0, _, _] _ _; refine (SCheck_any 0 0 0 [] _ _ (by decide) (by decide) (by decide) (Sees.nil _ _) (by decide)).mono ?_; rintro e w8 ⟨rfl, hb8⟩; rw [HF.out]; have hk8 := HoldT.step hstab (by with_reducible assumption) hb8)
    | (go_at_call 39; refine (Public_any _ _ (by omega) (by omega)).mono ?_; rintro e w5 ⟨rfl, rfl⟩; rw [HP.out])
    | (go_at_call 38; refine (SCheck_any pub C A [97] _ _ ⟨by omega, by omega⟩ ⟨by omega, by omega⟩ ⟨by omega, by omega⟩ (hsa.out _) (by decide)).mono ?_; rintro e w9 ⟨rfl, hb9⟩; rw [HT.out]; have hk9 := HoldT.step hstab (HoldT.alloc hstab (by with_reducible assumption) _) hb9))
    refine phPost_hold (by first | with_reducible assumption | exact HoldT.alloc hstab (by with_reducible assumption) _ | exact HoldT.alloc hstab (HoldT.alloc hstab (by with_reducible assumption) _) _) ?_
    intro hk_
    refine wpTr_step ?_
    simp only [pickOps, List.flatMap_nil]
    refine wpQuiet_nil ?_
    refine wpTr_one ?_
    simp only [pickOps, List.flatMap_cons, List.flatMap_nil, List.drop_succ_cons, List.drop_zero, List.take_succ_cons, List.take_zero, List.cons_append, List.nil_append, List.append_nil]
    go_wp2_with (first
    | (go_at_call 38; with_reducible show Calls _ _ #[Value.int IntKind.u64 0, _, _] _ _; refine (SCheck_any 0 0 0 [] _ _ (by decide) (by decide) (by decide) (Sees.nil _ _) (by decide)).mono ?_; rintro e w8 ⟨rfl, hb8⟩; rw [HF.out]; have hk8 := HoldT.step hstab (by with_reducible assumption) hb8)
    | (go_at_call 39; refine (Public_any _ _ (by omega) (by omega)).mono ?_; rintro e w5 ⟨rfl, rfl⟩; rw [HP.out])
    | (go_at_call 38; refine (SCheck_any pub C A [97] _ _ ⟨by omega, by omega⟩ ⟨by omega, by omega⟩ ⟨by omega, by omega⟩ (hsa.out _) (by decide)).mono ?_; rintro e w9 ⟨rfl, hb9⟩; rw [HT.out]; have hk9 := HoldT.step hstab (HoldT.alloc hstab (by with_reducible assumption) _) hb9))
    refine phPost_hold (by first | with_reducible assumption | exact HoldT.alloc hstab (by with_reducible assumption) _ | exact HoldT.alloc hstab (HoldT.alloc hstab (by with_reducible assumption) _) _) ?_
    intro hk_
    refine wpTr_step ?_
    simp only [pickOps, List.flatMap_nil]
    refine wpQuiet_nil ?_
    refine wpTr_one ?_
    simp only [pickOps, List.flatMap_cons, List.flatMap_nil, List.drop_succ_cons, List.drop_zero, List.take_succ_cons, List.take_zero, List.cons_append, List.nil_append, List.append_nil]
    go_wp2_with (first
    | (go_at_call 38; with_reducible show Calls _ _ #[Value.int IntKind.u64 0, _, _] _ _; refine (SCheck_any 0 0 0 [] _ _ (by decide) (by decide) (by decide) (Sees.nil _ _) (by decide)).mono ?_; rintro e w8 ⟨rfl, hb8⟩; rw [HF.out]; have hk8 := HoldT.step hstab (by with_reducible assumption) hb8)
    | (go_at_call 39; refine (Public_any _ _ (by omega) (by omega)).mono ?_; rintro e w5 ⟨rfl, rfl⟩; rw [HP.out])
    | (go_at_call 38; refine (SCheck_any pub C A [97] _ _ ⟨by omega, by omega⟩ ⟨by omega, by omega⟩ ⟨by omega, by omega⟩ (hsa.out _) (by decide)).mono ?_; rintro e w9 ⟨rfl, hb9⟩; rw [HT.out]; have hk9 := HoldT.step hstab (HoldT.alloc hstab (by with_reducible assumption) _) hb9))
    refine phPost_hold (by first | with_reducible assumption | exact HoldT.alloc hstab (by with_reducible assumption) _ | exact HoldT.alloc hstab (HoldT.alloc hstab (by with_reducible assumption) _) _) ?_
    intro hk_
    refine wpTr_fin ?_
    simp only [pickOps, List.flatMap_cons, List.flatMap_nil, List.drop_succ_cons, List.drop_zero, List.take_succ_cons, List.take_zero, List.cons_append, List.nil_append, List.append_nil]
    iterate 1 (go_big_quiet_step (exact rfl))
    refine wpQuiet_nil ?_
    go_wp2_with fail
    go_ret
    exact ⟨rfl, (show HoldT (SP B C A) w _ from by with_reducible assumption).2⟩
  refine wpTr_one ?_
  simp only [pickOps, List.flatMap_cons, List.flatMap_nil, List.drop_succ_cons, List.drop_zero, List.take_succ_cons, List.take_zero, List.cons_append, List.nil_append, List.append_nil]
  go_wp2_with (first
    | (go_at_call 38; with_reducible show Calls _ _ #[Value.int IntKind.u64 0, _, _] _ _; refine (SCheck_any 0 0 0 [] _ _ (by decide) (by decide) (by decide) (Sees.nil _ _) (by decide)).mono ?_; rintro e w8 ⟨rfl, hb8⟩; rw [HF.out]; have hk8 := HoldT.step hstab (by with_reducible assumption) hb8)
    | (go_at_call 39; refine (Public_any _ _ (by omega) (by omega)).mono ?_; rintro e w5 ⟨rfl, rfl⟩; rw [HP.out])
    | (go_at_call 38; refine (SCheck_any pub C A [97] _ _ ⟨by omega, by omega⟩ ⟨by omega, by omega⟩ ⟨by omega, by omega⟩ (hsa.out _) (by decide)).mono ?_; rintro e w9 ⟨rfl, hb9⟩; rw [HT.out]; have hk9 := HoldT.step hstab (HoldT.alloc hstab (by with_reducible assumption) _) hb9))
  refine phPost_hold (by first | with_reducible assumption | exact HoldT.alloc hstab (by with_reducible assumption) _ | exact HoldT.alloc hstab (HoldT.alloc hstab (by with_reducible assumption) _) _) ?_
  intro hk_
  refine wpTr_step ?_
  simp only [pickOps, List.flatMap_nil]
  refine wpQuiet_nil ?_
  refine wpTr_alt ?_ ?_
  focus
    simp only [pickOps, List.flatMap_cons, List.flatMap_nil, List.drop_succ_cons, List.drop_zero, List.take_succ_cons, List.take_zero, List.cons_append, List.nil_append, List.append_nil]
    go_wp2_with (first
    | (go_at_call 38; with_reducible show Calls _ _ #[Value.int IntKind.u64 0, _, _] _ _; refine (SCheck_any 0 0 0 [] _ _ (by decide) (by decide) (by decide) (Sees.nil _ _) (by decide)).mono ?_; rintro e w8 ⟨rfl, hb8⟩; rw [HF.out]; have hk8 := HoldT.step hstab (by with_reducible assumption) hb8)
    | (go_at_call 39; refine (Public_any _ _ (by omega) (by omega)).mono ?_; rintro e w5 ⟨rfl, rfl⟩; rw [HP.out])
    | (go_at_call 38; refine (SCheck_any pub C A [97] _ _ ⟨by omega, by omega⟩ ⟨by omega, by omega⟩ ⟨by omega, by omega⟩ (hsa.out _) (by decide)).mono ?_; rintro e w9 ⟨rfl, hb9⟩; rw [HT.out]; have hk9 := HoldT.step hstab (HoldT.alloc hstab (by with_reducible assumption) _) hb9))
    refine phPost_hold (by first | with_reducible assumption | exact HoldT.alloc hstab (by with_reducible assumption) _ | exact HoldT.alloc hstab (HoldT.alloc hstab (by with_reducible assumption) _) _) ?_
    intro hk_
    refine wpTr_step ?_
    simp only [pickOps, List.flatMap_nil]
    refine wpQuiet_nil ?_
    refine wpTr_one ?_
    simp only [pickOps, List.flatMap_cons, List.flatMap_nil, List.drop_succ_cons, List.drop_zero, List.take_succ_cons, List.take_zero, List.cons_append, List.nil_append, List.append_nil]
    go_wp2_with (first
    | (go_at_call 38; with_reducible show Calls _ _ #[Value.int IntKind.u64 0, _, _] _ _; refine (SCheck_any 0 0 0 [] _ _ (by decide) (by decide) (by decide) (Sees.nil _ _) (by decide)).mono ?_; rintro e w8 ⟨rfl, hb8⟩; rw [HF.out]; have hk8 := HoldT.step hstab (by with_reducible assumption) hb8)
    | (go_at_call 39; refine (Public_any _ _ (by omega) (by omega)).mono ?_; rintro e w5 ⟨rfl, rfl⟩; rw [HP.out])
    | (go_at_call 38; refine (SCheck_any pub C A [97] _ _ ⟨by omega, by omega⟩ ⟨by omega, by omega⟩ ⟨by omega, by omega⟩ (hsa.out _) (by decide)).mono ?_; rintro e w9 ⟨rfl, hb9⟩; rw [HT.out]; have hk9 := HoldT.step hstab (HoldT.alloc hstab (by with_reducible assumption) _) hb9))
    refine phPost_hold (by first | with_reducible assumption | exact HoldT.alloc hstab (by with_reducible assumption) _ | exact HoldT.alloc hstab (HoldT.alloc hstab (by with_reducible assumption) _) _) ?_
    intro hk_
    refine wpTr_step ?_
    simp only [pickOps, List.flatMap_nil]
    refine wpQuiet_nil ?_
    refine wpTr_one ?_
    simp only [pickOps, List.flatMap_cons, List.flatMap_nil, List.drop_succ_cons, List.drop_zero, List.take_succ_cons, List.take_zero, List.cons_append, List.nil_append, List.append_nil]
    go_wp2_with (first
    | (go_at_call 38; with_reducible show Calls _ _ #[Value.int IntKind.u64 0, _, _] _ _; refine (SCheck_any 0 0 0 [] _ _ (by decide) (by decide) (by decide) (Sees.nil _ _) (by decide)).mono ?_; rintro e w8 ⟨rfl, hb8⟩; rw [HF.out]; have hk8 := HoldT.step hstab (by with_reducible assumption) hb8)
    | (go_at_call 39; refine (Public_any _ _ (by omega) (by omega)).mono ?_; rintro e w5 ⟨rfl, rfl⟩; rw [HP.out])
    | (go_at_call 38; refine (SCheck_any pub C A [97] _ _ ⟨by omega, by omega⟩ ⟨by omega, by omega⟩ ⟨by omega, by omega⟩ (hsa.out _) (by decide)).mono ?_; rintro e w9 ⟨rfl, hb9⟩; rw [HT.out]; have hk9 := HoldT.step hstab (HoldT.alloc hstab (by with_reducible assumption) _) hb9))
    refine phPost_hold (by first | with_reducible assumption | exact HoldT.alloc hstab (by with_reducible assumption) _ | exact HoldT.alloc hstab (HoldT.alloc hstab (by with_reducible assumption) _) _) ?_
    intro hk_
    refine wpTr_step ?_
    simp only [pickOps, List.flatMap_nil]
    refine wpQuiet_nil ?_
    refine wpTr_one ?_
    simp only [pickOps, List.flatMap_cons, List.flatMap_nil, List.drop_succ_cons, List.drop_zero, List.take_succ_cons, List.take_zero, List.cons_append, List.nil_append, List.append_nil]
    go_wp2_with (first
    | (go_at_call 38; with_reducible show Calls _ _ #[Value.int IntKind.u64 0, _, _] _ _; refine (SCheck_any 0 0 0 [] _ _ (by decide) (by decide) (by decide) (Sees.nil _ _) (by decide)).mono ?_; rintro e w8 ⟨rfl, hb8⟩; rw [HF.out]; have hk8 := HoldT.step hstab (by with_reducible assumption) hb8)
    | (go_at_call 39; refine (Public_any _ _ (by omega) (by omega)).mono ?_; rintro e w5 ⟨rfl, rfl⟩; rw [HP.out])
    | (go_at_call 38; refine (SCheck_any pub C A [97] _ _ ⟨by omega, by omega⟩ ⟨by omega, by omega⟩ ⟨by omega, by omega⟩ (hsa.out _) (by decide)).mono ?_; rintro e w9 ⟨rfl, hb9⟩; rw [HT.out]; have hk9 := HoldT.step hstab (HoldT.alloc hstab (by with_reducible assumption) _) hb9))
    refine phPost_hold (by first | with_reducible assumption | exact HoldT.alloc hstab (by with_reducible assumption) _ | exact HoldT.alloc hstab (HoldT.alloc hstab (by with_reducible assumption) _) _) ?_
    intro hk_
    refine wpTr_fin ?_
    simp only [pickOps, List.flatMap_cons, List.flatMap_nil, List.drop_succ_cons, List.drop_zero, List.take_succ_cons, List.take_zero, List.cons_append, List.nil_append, List.append_nil]
    iterate 1 (go_big_quiet_step (exact rfl))
    refine wpQuiet_nil ?_
    go_wp2_with fail
    go_ret
    exact ⟨rfl, (show HoldT (SP B C A) w _ from by with_reducible assumption).2⟩
  refine wpTr_one ?_
  simp only [pickOps, List.flatMap_cons, List.flatMap_nil, List.drop_succ_cons, List.drop_zero, List.take_succ_cons, List.take_zero, List.cons_append, List.nil_append, List.append_nil]
  go_wp2_with (first
    | (go_at_call 38; with_reducible show Calls _ _ #[Value.int IntKind.u64 0, _, _] _ _; refine (SCheck_any 0 0 0 [] _ _ (by decide) (by decide) (by decide) (Sees.nil _ _) (by decide)).mono ?_; rintro e w8 ⟨rfl, hb8⟩; rw [HF.out]; have hk8 := HoldT.step hstab (by with_reducible assumption) hb8)
    | (go_at_call 39; refine (Public_any _ _ (by omega) (by omega)).mono ?_; rintro e w5 ⟨rfl, rfl⟩; rw [HP.out])
    | (go_at_call 38; refine (SCheck_any pub C A [97] _ _ ⟨by omega, by omega⟩ ⟨by omega, by omega⟩ ⟨by omega, by omega⟩ (hsa.out _) (by decide)).mono ?_; rintro e w9 ⟨rfl, hb9⟩; rw [HT.out]; have hk9 := HoldT.step hstab (HoldT.alloc hstab (by with_reducible assumption) _) hb9))
  refine phPost_hold (by first | with_reducible assumption | exact HoldT.alloc hstab (by with_reducible assumption) _ | exact HoldT.alloc hstab (HoldT.alloc hstab (by with_reducible assumption) _) _) ?_
  intro hk_
  refine wpTr_step ?_
  simp only [pickOps, List.flatMap_nil]
  refine wpQuiet_nil ?_
  refine wpTr_one ?_
  simp only [pickOps, List.flatMap_cons, List.flatMap_nil, List.drop_succ_cons, List.drop_zero, List.take_succ_cons, List.take_zero, List.cons_append, List.nil_append, List.append_nil]
  go_wp2_with (first
    | (go_at_call 38; with_reducible show Calls _ _ #[Value.int IntKind.u64 0, _, _] _ _; refine (SCheck_any 0 0 0 [] _ _ (by decide) (by decide) (by decide) (Sees.nil _ _) (by decide)).mono ?_; rintro e w8 ⟨rfl, hb8⟩; rw [HF.out]; have hk8 := HoldT.step hstab (by with_reducible assumption) hb8)
    | (go_at_call 39; refine (Public_any _ _ (by omega) (by omega)).mono ?_; rintro e w5 ⟨rfl, rfl⟩; rw [HP.out])
    | (go_at_call 38; refine (SCheck_any pub C A [97] _ _ ⟨by omega, by omega⟩ ⟨by omega, by omega⟩ ⟨by omega, by omega⟩ (hsa.out _) (by decide)).mono ?_; rintro e w9 ⟨rfl, hb9⟩; rw [HT.out]; have hk9 := HoldT.step hstab (HoldT.alloc hstab (by with_reducible assumption) _) hb9))
  refine phPost_hold (by first | with_reducible assumption | exact HoldT.alloc hstab (by with_reducible assumption) _ | exact HoldT.alloc hstab (HoldT.alloc hstab (by with_reducible assumption) _) _) ?_
  intro hk_
  refine wpTr_step ?_
  simp only [pickOps, List.flatMap_nil]
  refine wpQuiet_nil ?_
  refine wpTr_one ?_
  simp only [pickOps, List.flatMap_cons, List.flatMap_nil, List.drop_succ_cons, List.drop_zero, List.take_succ_cons, List.take_zero, List.cons_append, List.nil_append, List.append_nil]
  go_wp2_with (first
    | (go_at_call 38; with_reducible show Calls _ _ #[Value.int IntKind.u64 0, _, _] _ _; refine (SCheck_any 0 0 0 [] _ _ (by decide) (by decide) (by decide) (Sees.nil _ _) (by decide)).mono ?_; rintro e w8 ⟨rfl, hb8⟩; rw [HF.out]; have hk8 := HoldT.step hstab (by with_reducible assumption) hb8)
    | (go_at_call 39; refine (Public_any _ _ (by omega) (by omega)).mono ?_; rintro e w5 ⟨rfl, rfl⟩; rw [HP.out])
    | (go_at_call 38; refine (SCheck_any pub C A [97] _ _ ⟨by omega, by omega⟩ ⟨by omega, by omega⟩ ⟨by omega, by omega⟩ (hsa.out _) (by decide)).mono ?_; rintro e w9 ⟨rfl, hb9⟩; rw [HT.out]; have hk9 := HoldT.step hstab (HoldT.alloc hstab (by with_reducible assumption) _) hb9))
  refine phPost_hold (by first | with_reducible assumption | exact HoldT.alloc hstab (by with_reducible assumption) _ | exact HoldT.alloc hstab (HoldT.alloc hstab (by with_reducible assumption) _) _) ?_
  intro hk_
  refine wpTr_step ?_
  simp only [pickOps, List.flatMap_nil]
  refine wpQuiet_nil ?_
  refine wpTr_one ?_
  simp only [pickOps, List.flatMap_cons, List.flatMap_nil, List.drop_succ_cons, List.drop_zero, List.take_succ_cons, List.take_zero, List.cons_append, List.nil_append, List.append_nil]
  go_wp2_with (first
    | (go_at_call 38; with_reducible show Calls _ _ #[Value.int IntKind.u64 0, _, _] _ _; refine (SCheck_any 0 0 0 [] _ _ (by decide) (by decide) (by decide) (Sees.nil _ _) (by decide)).mono ?_; rintro e w8 ⟨rfl, hb8⟩; rw [HF.out]; have hk8 := HoldT.step hstab (by with_reducible assumption) hb8)
    | (go_at_call 39; refine (Public_any _ _ (by omega) (by omega)).mono ?_; rintro e w5 ⟨rfl, rfl⟩; rw [HP.out])
    | (go_at_call 38; refine (SCheck_any pub C A [97] _ _ ⟨by omega, by omega⟩ ⟨by omega, by omega⟩ ⟨by omega, by omega⟩ (hsa.out _) (by decide)).mono ?_; rintro e w9 ⟨rfl, hb9⟩; rw [HT.out]; have hk9 := HoldT.step hstab (HoldT.alloc hstab (by with_reducible assumption) _) hb9))
  refine phPost_hold (by first | with_reducible assumption | exact HoldT.alloc hstab (by with_reducible assumption) _ | exact HoldT.alloc hstab (HoldT.alloc hstab (by with_reducible assumption) _) _) ?_
  intro hk_
  refine wpTr_fin ?_
  simp only [pickOps, List.flatMap_cons, List.flatMap_nil, List.drop_succ_cons, List.drop_zero, List.take_succ_cons, List.take_zero, List.cons_append, List.nil_append, List.append_nil]
  iterate 1 (go_big_quiet_step (exact rfl))
  refine wpQuiet_nil ?_
  go_wp2_with fail
  go_ret
  exact ⟨rfl, (show HoldT (SP B C A) w _ from by with_reducible assumption).2⟩
end Go.Proofs.Yteialfdhbfbkgaa
