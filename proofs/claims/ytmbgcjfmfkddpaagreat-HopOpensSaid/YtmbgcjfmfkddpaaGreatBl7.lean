/-
  Who is to blame: the reference.
-/
import Derived.Test.YtmbgcjfmfkddpaaGreatBl6
namespace Go.Proofs.YtmbgcjfmfkddpaaGreat
set_option linter.unusedVariables false
set_option linter.unusedSimpArgs false
open Go Go.RowKit
end Go.Proofs.YtmbgcjfmfkddpaaGreat
