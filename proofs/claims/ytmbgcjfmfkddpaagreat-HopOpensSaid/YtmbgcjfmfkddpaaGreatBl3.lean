/-
  Failed of both programs.
-/
import Derived.Test.YtmbgcjfmfkddpaaGreatBl2
namespace Go.Proofs.YtmbgcjfmfkddpaaGreat
set_option linter.unusedVariables false
set_option linter.unusedSimpArgs false
open Go Go.RowKit

end Go.Proofs.YtmbgcjfmfkddpaaGreat
