/-
  Keys told: the program.
-/
import Derived.Test.YtbgnfioggmkdeaaGreatDoorKp
namespace Go.Proofs.YtbgnfioggmkdeaaGreatDoor
set_option linter.unusedVariables false
set_option linter.unusedSimpArgs false
open Go Go.RowKit

end Go.Proofs.YtbgnfioggmkdeaaGreatDoor
