/-
  Failed of both programs.
-/
import Derived.Test.YtmbgcjfmfkddpaaBl2
namespace Go.Proofs.Ytmbgcjfmfkddpaa
set_option linter.unusedVariables false
set_option linter.unusedSimpArgs false
open Go Go.RowKit

end Go.Proofs.Ytmbgcjfmfkddpaa
