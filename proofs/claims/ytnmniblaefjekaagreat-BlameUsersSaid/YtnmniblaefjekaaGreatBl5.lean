/-
  Passed of the reference.
-/
import Derived.Test.YtnmniblaefjekaaGreatBl4
namespace Go.Proofs.YtnmniblaefjekaaGreat
set_option linter.unusedVariables false
set_option linter.unusedSimpArgs false
open Go Go.RowKit

end Go.Proofs.YtnmniblaefjekaaGreat
