/- append of so many zeros to no slice. -/
import Derived.Test.YtmakkmcjocjgmaaGreatCaOwn
namespace Go.Proofs.YtmakkmcjocjgmaaGreat.Am
open Go Go.RowKit
set_option linter.unusedVariables false
set_option linter.unusedSimpArgs false

section
variable {P : Program} {H : Hp} {t : Fr} {d : Option Tmp} {ty : TypeId} {pos : String} {after : Array Edge} {guard : Option (Nat × Bool)} {K : Value → Hp → Prop}
end
end Go.Proofs.YtmakkmcjocjgmaaGreat.Am
