
/- The statement TreeGroups, as the abstract machine runs it. -/
import Derived.Test.YtmakkmcjocjgmaaGreatCa6
import Derived.Test.YtmakkmcjocjgmaaGreatCaRow
import Derived.OpenShut
namespace Go.Proofs.YtmakkmcjocjgmaaGreat.Am
open Go Go.RowKit
set_option maxRecDepth 100000
set_option linter.unusedVariables false
set_option linter.unusedSimpArgs false

def LastB (g : List Link) (node : Int) (k : Nat) (at_ : Int) : Prop := (at_ = -1 ∧ ∀ j (h : j < g.length), j < k → g[j].b ≠ node) ∨ ∃ m : Nat, at_ = m ∧ m < k ∧ ∃ h : m < g.length, g[m].b = node
theorem LastB.skip {g : List Link} {node at_ : Int} {k : Nat} (h : LastB g node k at_) (hk : k < g.length) (hne : g[k].b ≠ node) : LastB g node (k + 1) at_ := by
 rcases h with ⟨h1, h2⟩ | ⟨m, h1, h2, h3⟩
 ·refine .inl ⟨h1, fun j hj h => ?_⟩
  rcases Nat.lt_or_ge j k with h4 | h4
  ·exact h2 j hj h4
  ·obtain rfl : j = k := by omega
   exact hne
 ·exact .inr ⟨m, h1, by omega, h3⟩
end Go.Proofs.YtmakkmcjocjgmaaGreat.Am
