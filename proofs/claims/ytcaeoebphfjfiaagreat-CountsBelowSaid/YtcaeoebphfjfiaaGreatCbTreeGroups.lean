
/- The statement TreeGroups, as the abstract machine runs it. -/
import Derived.Test.YtcaeoebphfjfiaaGreatCb6
import Derived.Test.YtcaeoebphfjfiaaGreatCbRow
import Derived.OpenShut
namespace Go.Proofs.YtcaeoebphfjfiaaGreat.Am
open Go Go.RowKit
set_option maxRecDepth 100000
set_option linter.unusedVariables false
set_option linter.unusedSimpArgs false

theorem parR_tree {f : Forest} {x : Parts} (hg : GoodF f) (i : Int) : parR f i = if 0 ≤ i ∧ i < (Yy f x).vars.length then (Yy f x).parent.getD i.toNat 0 else -1 := by
  unfold parR
  rw [(Vj x).1]
  split
  · rename_i h
    have := hg.l1
    rw [tree_par x hg (by omega)]
  · rfl
def LastB (g : List Link) (node : Int) (k : Nat) (at_ : Int) : Prop := (at_ = -1 ∧ ∀ j (h : j < g.length), j < k → g[j].b ≠ node) ∨ ∃ m : Nat, at_ = m ∧ m < k ∧ ∃ h : m < g.length, g[m].b = node
theorem LastB.skip {g : List Link} {node at_ : Int} {k : Nat} (h : LastB g node k at_) (hk : k < g.length) (hne : g[k].b ≠ node) : LastB g node (k + 1) at_ := by
  rcases h with ⟨h1, h2⟩ | ⟨m, h1, h2, h3⟩
  · refine .inl ⟨h1, fun j hj h => ?_⟩
    rcases Nat.lt_or_ge j k with h4 | h4
    · exact h2 j hj h4
    · obtain rfl : j = k := by omega
      exact hne
  · exact .inr ⟨m, h1, by omega, h3⟩
end Go.Proofs.YtcaeoebphfjfiaaGreat.Am
