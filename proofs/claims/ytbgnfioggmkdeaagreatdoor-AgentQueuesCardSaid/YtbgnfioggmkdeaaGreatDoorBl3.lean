/-
  Failed of both programs.
-/
import Derived.Test.YtbgnfioggmkdeaaGreatDoorBl2
namespace Go.Proofs.YtbgnfioggmkdeaaGreatDoor
set_option linter.unusedVariables false
set_option linter.unusedSimpArgs false
open Go Go.RowKit

end Go.Proofs.YtbgnfioggmkdeaaGreatDoor
