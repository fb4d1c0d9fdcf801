/-
  Chains of keys: the program's chain; both programs' checks and products.
-/
import Derived.Test.YtbgnfioggmkdeaaGreatDoorKt
import Derived.Test.YtbgnfioggmkdeaaGreatDoorSub
import Derived.Test.YtbgnfioggmkdeaaGreatDoorSet
import Derived.Test.YtbgnfioggmkdeaaGreatDoorPrd
namespace Go.Proofs.YtbgnfioggmkdeaaGreatDoor
set_option linter.unusedVariables false
set_option linter.unusedSimpArgs false
open Go Go.RowKit

theorem one_secC (a b c : Int) : ∀ v ∈ (SecC a b c).toList, v.oneCell' = true := one_sec ⟨a, b, c⟩
theorem one_pubC (pa pb pm pn q1 q2 q3 q4 q5 q6 : Int) : ∀ v ∈ (PubC pa pb pm pn q1 q2 q3 q4 q5 q6).toList, v.oneCell' = true := one_pub ⟨pa, pb, pm, pn, q1, q2, q3, q4, q5, q6⟩
end Go.Proofs.YtbgnfioggmkdeaaGreatDoor
