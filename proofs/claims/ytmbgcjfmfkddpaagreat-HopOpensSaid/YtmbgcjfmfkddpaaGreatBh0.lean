/-
  Lists of entries and of steps that grow.
-/
import Derived.Test.YtmbgcjfmfkddpaaGreatMade
import Derived.Test.YtmbgcjfmfkddpaaGreatHop3
import Derived.Test.YtmbgcjfmfkddpaaGreatHon2
import Derived.Test.YtmbgcjfmfkddpaaGreatBl8
import Derived.Test.YtmbgcjfmfkddpaaGreatBfa
namespace Go.Proofs.YtmbgcjfmfkddpaaGreat
set_option linter.unusedVariables false
set_option linter.unusedSimpArgs false
open Go Go.RowKit

theorem info_lst3 : (Tryz.prog.info? 31).map (fun i => (i.zero, i.size, i.bytes)) = some (some (.slice none 0 0), 1, 24) := by kernel_rfl
/-- A literal of one. -/
theorem OwR.lit1 {α : Type} {R : Rp α} {B B0 : Nat} {w : World} {c : List Value} {y : α} (h : R.rel B w c y) (hB : B0 ≤ w.heap.size) : OwR R B B0 (w.alloc (.cells c.toArray R.ty)) (.slice (some ⟨w.heap.size, 0, none⟩) 1 1) [y] := by
  refine ⟨[c], ElR.one_of (R.keep h ((Ext.alloc w _).same _ _)), ?_⟩
  have hc := R.len h
  refine ⟨by simp [hc], .inr ⟨w.heap.size, 1, c.toArray, rfl, hB, Blk.new _ _ _, Nat.le_refl _, by decide, by simp [hc], ?_⟩⟩
  simp [hc, List.take_of_length_le]
end Go.Proofs.YtmbgcjfmfkddpaaGreat
