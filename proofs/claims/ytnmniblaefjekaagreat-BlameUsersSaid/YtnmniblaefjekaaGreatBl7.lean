/-
  Who is to blame: the reference.
-/
import Derived.Test.YtnmniblaefjekaaGreatBl6
namespace Go.Proofs.YtnmniblaefjekaaGreat
set_option linter.unusedVariables false
set_option linter.unusedSimpArgs false
open Go Go.RowKit
end Go.Proofs.YtnmniblaefjekaaGreat
