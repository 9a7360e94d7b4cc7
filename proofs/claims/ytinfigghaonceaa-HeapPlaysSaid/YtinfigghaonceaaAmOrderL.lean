/- The order of items: laws. -/
import Derived.Test.YtinfigghaonceaaAmLives34
namespace Go.Proofs.Ytinfigghaonceaa.Am
open Go Go.RowKit
set_option linter.unusedVariables false
set_option linter.unusedSimpArgs false

theorem cmpI_anti (a b : Int) : cmpI a b = - cmpI b a := by unfold cmpI; split <;> split <;> omega
theorem cmpI_range (a b : Int) : -1 ≤ cmpI a b ∧ cmpI a b ≤ 1 := by unfold cmpI; split <;> (try split) <;> omega
theorem cmpI_self (a : Int) : cmpI a a = 0 := by simp [cmpI]
theorem cmpL_anti : ∀ x y : List Int, cmpL x y = - cmpL y x
  | [], [] => rfl
  | [], _ :: _ => rfl
  | _ :: _, [] => rfl
  | a :: x, b :: y => by
    have h := cmpI_anti a b
    rw [cmpL, cmpL, cmpL_anti x y]
    split <;> split <;> omega
theorem cmpL_range : ∀ x y : List Int, -1 ≤ cmpL x y ∧ cmpL x y ≤ 1
  | [], [] => by decide
  | [], _ :: _ => by rw [cmpL]; omega
  | _ :: _, [] => by rw [cmpL]; omega
  | a :: x, b :: y => by
    have h := cmpI_range a b
    have := cmpL_range x y
    rw [cmpL]
    split <;> omega
theorem cmpL_self : ∀ x : List Int, cmpL x x = 0
  | [] => rfl
  | a :: x => by rw [cmpL, cmpI_self, if_neg (by simp), cmpL_self x]
theorem orI4 (a b c d : Int) : orI [a, b, c, d] = if a ≠ 0 then a else if b ≠ 0 then b else if c ≠ 0 then c else if d ≠ 0 then d else 0 := by simp only [orI]
theorem cmpItem_anti (x y : Item) : cmpItem x y = - cmpItem y x := by
  rw [cmpItem, cmpItem, orI4, orI4, cmpI_anti x.cost, cmpL_anti x.nodes, cmpI_anti x.place, cmpI_anti x.rank]
  split <;> split <;> (try omega) <;> split <;> split <;> (try omega) <;> split <;> split <;> (try omega) <;> split <;> split <;> omega
theorem cmpItem_range (x y : Item) : -1 ≤ cmpItem x y ∧ cmpItem x y ≤ 1 := by
  have h1 := cmpI_range x.cost y.cost
  have h2 := cmpL_range x.nodes y.nodes
  have h3 := cmpI_range x.place y.place
  have h4 := cmpI_range x.rank y.rank
  rw [cmpItem, orI4]
  split
  · exact h1
  · split
    · exact h2
    · split
      · exact h3
      · split
        · exact h4
        · omega
theorem cmpItem_self (x : Item) : cmpItem x x = 0 := by rw [cmpItem, orI4, cmpI_self, cmpL_self, cmpI_self, cmpI_self]; rfl
theorem sameL_self : ∀ xs : List Item, sameL xs xs = true
  | [] => rfl
  | x :: xs => by rw [sameL, cmpItem_self, sameL_self xs]; rfl
theorem cut_cut (x : Item) : x.cut.cut = x.cut := by simp [Item.cut, List.take_take]
theorem cut_len (x : Item) : x.cut.nodes.length ≤ 5 := by simp [Item.cut]; omega
theorem map_cut (xs : List Item) : (xs.map Item.cut).map Item.cut = xs.map Item.cut := by rw [List.map_map]; congr 1; funext x; exact cut_cut x
theorem good_cut (xs : List Item) : Good (xs.map Item.cut) := fun x hx => by
  obtain ⟨y, _, rfl⟩ := List.mem_map.1 hx
  have := cut_len y
  omega
end Go.Proofs.Ytinfigghaonceaa.Am
