/-
  Passed of the reference.
-/
import Derived.Test.YtmbgcjfmfkddpaaGreatBl4
namespace Go.Proofs.YtmbgcjfmfkddpaaGreat
set_option linter.unusedVariables false
set_option linter.unusedSimpArgs false
open Go Go.RowKit

end Go.Proofs.YtmbgcjfmfkddpaaGreat
