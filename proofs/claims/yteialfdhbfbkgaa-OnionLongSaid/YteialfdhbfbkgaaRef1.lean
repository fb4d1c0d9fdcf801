/-
  The sum of bytes: the reference.
-/
import Derived.Test.YteialfdhbfbkgaaRef0
namespace Go.Proofs.Yteialfdhbfbkgaa
set_option linter.unusedVariables false
set_option linter.unusedSimpArgs false
open Go Go.RowKit

set_option maxRecDepth 100000 in
set_option maxHeartbeats 1000000 in
theorem Written_any (w : World) : Calls Try.prog 97 #[] w fun e w' => ∃ g, e = .returned (.tuple #[.slice (some ⟨g, 0, none⟩) 64 64, agg8 shaInit]) ∧ Blk w' g (arr32 64 shaK) 94 ∧ Below w.heap.size w w' := by
  go_enter Try.func97, Try.ntmps97
  go_wp2_with fail
  generalize hW : World.alloc _ _ = W
  have hN : Blk W (w.heap.size + 1) (cells8 shaInit) 95 := by rw [← hW, shaInit_arr]; exact Blk.new2 _ _ _ _
  have hZ : Blk W w.heap.size (cells8 ⟨0, 0, 0, 0, 0, 0, 0, 0⟩) 95 := by rw [← hW]; exact (Blk.new w _ _).alloc _
  have hbel : Below w.heap.size w W := by rw [← hW]; go_grown
  clear hW
  try change Code.wp _ _ _ (Act.mk _ _) _
  haveI hne_ : Nonempty (InC (fun u => Blk u (w.heap.size + 1) (cells8 shaInit) 95)) := ⟨⟨_, hN⟩⟩
  refine wp_region_ph (C := fun w_ => ∃ e_ : InC (fun u => Blk u (w.heap.size + 1) (cells8 shaInit) 95), w_ = e_.u) [([1], 0), ([2], 3)] [] (by kernel_rfl) (by kernel_rfl) (fun _ _ _ _ hd_ h_ => ⟨hd_.symm.trans h_.1, h_.2⟩) ⟨⟨World.drew _, hN⟩, rfl⟩ ?_
  first | refine wpPh_cons ?_ | refine wpPh_nil ?_
  simp only [pickOps, List.flatMap_cons, List.flatMap_nil, List.drop_succ_cons, List.drop_zero, List.take_succ_cons, List.take_zero, List.cons_append, List.nil_append, List.append_nil]
  iterate 1 (first | (refine wpQuiet_load_row rfl 95 _ rfl (w.heap.size + 1) rfl _ (cells8 shaInit) (0, 0) _ (fun w_ hw_ => by obtain ⟨e_, rfl⟩ := hw_; exact e_.has) Try.underlying95 rfl (by rw [size8]; exact info_arr8) ?_) | go_big_quiet_step (exact rfl))
  refine wpQuiet_nil ?_
  have hK : Blk (W.drew.alloc (.cells (arr32 64 shaK) 94)) W.drew.heap.size (arr32 64 shaK) 94 := Blk.new _ _ _
  rw [shaK_arr] at hK
  have HK := Lib.hid hK; clear hK
  go_wp2_with fail
  refine phPost_normal ⟨⟨⟨_, Blk.drew (hN.alloc _)⟩, rfl⟩, ?_⟩
  first | refine wpPh_cons ?_ | refine wpPh_nil ?_
  simp only [pickOps, List.flatMap_cons, List.flatMap_nil, List.drop_succ_cons, List.drop_zero, List.take_succ_cons, List.take_zero, List.cons_append, List.nil_append, List.append_nil]
  iterate 1 (go_big_quiet_step (exact rfl))
  refine wpQuiet_nil ?_
  generalize hW2 : World.drew (World.alloc W _) = W2
  have hZ2 : Blk W2 w.heap.size (cells8 ⟨0, 0, 0, 0, 0, 0, 0, 0⟩) 95 := by rw [← hW2]; exact (hZ.alloc _).drew
  have hN2 : Blk W2 (w.heap.size + 1) (cells8 shaInit) 95 := by rw [← hW2]; exact (hN.alloc _).drew
  have hK2 : Blk W2 W.heap.size (arr32 64 shaK) 94 := by rw [← hW2, shaK_arr]; exact HK.out
  have hbel2 : Below w.heap.size w W2 := by rw [← hW2]; exact (hbel.alloc hbel.size _).drew
  have hlt : w.heap.size + 1 < W.heap.size := hN.lt
  clear hW2 HK hZ hN hbel
  go_wp2_with (refine wpList_store8 rfl _ _ rfl w.heap.size _ _ rfl rfl hZ2 ?_; intro w3 hg3 hs3 hR3)
  refine phPost_normal ⟨⟨⟨_, hN2.grownBy hg3 (some_ne (by omega))⟩, rfl⟩, ?_⟩
  first | refine wpPh_cons ?_ | refine wpPh_nil ?_
  simp only [pickOps, List.flatMap_cons, List.flatMap_nil, List.drop_succ_cons, List.drop_zero, List.take_succ_cons, List.take_zero, List.cons_append, List.nil_append, List.append_nil]
  refine wpQuiet_nil ?_
  obtain ⟨c0, c1, c2, c3, c4, c5, c6, c7⟩ := blk8 hR3
  go_wp2_with fail
  refine bodyPost_ret (v := .tuple #[.slice (some ⟨W.heap.size, 0, none⟩) 64 64, agg8 shaInit]) (by simp [results, Try.results97, go_sem, c0, c1, c2, c3, c4, c5, c6, c7]) rfl ⟨_, rfl, hK2.grownBy hg3 (some_ne (by omega)), hbel2.grown hg3 hbel2.size (fun k hk => ?_)⟩
  cases hk; omega
end Go.Proofs.Yteialfdhbfbkgaa
