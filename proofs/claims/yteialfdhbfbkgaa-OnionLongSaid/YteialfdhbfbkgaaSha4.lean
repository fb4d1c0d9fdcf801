/-
  The constants; the padding: the first program.
-/
import Derived.Test.YteialfdhbfbkgaaSha3
namespace Go.Proofs.Yteialfdhbfbkgaa
set_option linter.unusedVariables false
set_option linter.unusedSimpArgs false
open Go Go.RowKit

set_option maxRecDepth 100000 in
set_option maxHeartbeats 1000000 in
theorem first_any (w : World) : Calls Try.prog 93 #[] w fun e w' => e = .returned (agg8 shaInit) ∧ Below w.heap.size w w' := by
  rw [show agg8 shaInit = .agg (cells8 shaInit) from rfl, shaInit_arr]
  go_enter Try.func93, Try.ntmps93
  go_wp2
  exact bodyPost_ret (v := .agg _) (by simp [results, Try.results93, go_sem]) rfl ⟨rfl, by go_grown⟩

set_option maxRecDepth 100000 in
set_option maxHeartbeats 1000000 in
theorem numbers_any (w : World) : Calls Try.prog 94 #[] w fun e w' => e = .returned (.agg (arr32 64 shaK)) ∧ Below w.heap.size w w' := by
  go_enter Try.func94, Try.ntmps94
  have hz : Blk (w.alloc (.cells (arr32 64 (fun _ => 0)) 97)) w.heap.size (arr32 64 (fun _ => 0)) 97 := Blk.new w _ _
  rw [arr32_zero64] at hz
  have HZ := Lib.hid hz; clear hz
  go_wp2_with (refine wpList_store_row rfl 97 _ _ rfl w.heap.size (arr32 64 shaK) _ _ rfl (by rw [shaK_arr]; rfl) HZ.out (by rw [arr32_size]; rfl) (by rw [arr32_size]; exact info_arr64) (arr32_one _ _) ?_; intro w2 hg2 hs2 hR2)
  refine bodyPost_ret (results_cell_row Try.results94 _ _ w.heap.size _ _ (0, 0) _ rfl hR2 Try.underlying97 rfl (by rw [arr32_size]; exact info_arr64)) rfl ⟨rfl, Below.grown (by go_grown) hg2 (by simp only [World.size_alloc]; omega) (fun k hk => ?_)⟩
  cases hk; exact Nat.le_refl _
end Go.Proofs.Yteialfdhbfbkgaa
