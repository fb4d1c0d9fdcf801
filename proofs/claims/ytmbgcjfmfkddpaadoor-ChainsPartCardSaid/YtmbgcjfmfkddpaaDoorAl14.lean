/-
  The law's example of chains.
-/
import Derived.Test.YtmbgcjfmfkddpaaDoorZk
import Derived.Test.YtmbgcjfmfkddpaaDoorOne
import Derived.Test.YtmbgcjfmfkddpaaDoorSint
namespace Go.Proofs.YtmbgcjfmfkddpaaDoor
set_option linter.unusedVariables false
set_option linter.unusedSimpArgs false
open Go Go.RowKit

set_option maxRecDepth 100000 in
theorem num14_any (x : Int) (w : World) : Calls Tryd.prog 10 #[.int .i64 x] w fun e w' => e = .returned (.int .i64 x) ∧ w = w' := by
  go_enter Tryd.func10, Tryd.ntmps10
  go_wp2_with fail
  go_ret
  exact ⟨rfl, rfl⟩
theorem oneO_one (seed : List UInt8) (c : Int) : oneO seed 1 c = some [0] := rfl
set_option maxRecDepth 100000 in
set_option maxHeartbeats 2000000 in
theorem alive14_any (w : World) : Calls Tryd.prog 6 #[] w fun e w' => e = .returned (.bool true) ∧ Below w.heap.size w w' := by
  have h1 := One_any zKey 1 1 0 w (by simp) (by decide) (by decide) (by decide) (by decide) (by decide) (by decide) ⟨by decide, by decide⟩ (itoa_small w 0 (by decide) (by decide))
  rw [oneO_one] at h1
  have H1 := Lib.hid h1
  clear h1
  go_enter Tryd.func6, Tryd.ntmps6
  go_wp2_with (first
    | (refine wpList_build0 rfl 23 rfl _ (run_buildKey0 _) ?_)
    | (go_at_call 7; refine H1.out.mono ?_; rintro e w1 ⟨v1, rfl, hv1, hb1⟩
       have hs1 : SlR intR 0 w1 v1 [0] := hv1
       obtain ⟨b, o, c, rfl, -, -⟩ := hs1.open (by decide)
       have hc1 : w1.cell? ⟨b, o, none⟩ = some (.int .i64 0) := slI_at hs1 0 0 rfl
       rw [show errO (some [0]) = 0 from rfl]
       clear hv1 hs1)
    | (go_at_call 10; refine (num14_any 0 _).mono ?_; rintro e w2 ⟨rfl, rfl⟩))
  go_ret
  exact ⟨rfl, hb1⟩
end Go.Proofs.YtmbgcjfmfkddpaaDoor
