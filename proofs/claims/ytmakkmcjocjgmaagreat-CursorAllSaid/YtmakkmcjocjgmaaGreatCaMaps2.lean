/- Maps: whether a key is there; keys that are numbers. -/
import Derived.Test.YtmakkmcjocjgmaaGreatCaMaps
namespace Go.Proofs.YtmakkmcjocjgmaaGreat.Am
open Go Go.RowKit
set_option linter.unusedVariables false
set_option linter.unusedSimpArgs false

section
variable {P : Program} {t : Fr} {H : Hp} {d : Option Tmp} {ty : TypeId} {pos : String} {after : Array Edge} {guard : Option (Nat × Bool)}
end
end Go.Proofs.YtmakkmcjocjgmaaGreat.Am
