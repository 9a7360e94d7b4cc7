/- A slice with no room behind, all of it; and one more. -/
import Derived.Test.YtmakkmcjocjgmaaGreatCaOwn2
namespace Go.Proofs.YtmakkmcjocjgmaaGreat.Am
open Go Go.RowKit
set_option linter.unusedVariables false
set_option linter.unusedSimpArgs false

end Go.Proofs.YtmakkmcjocjgmaaGreat.Am
