/- Numbers: the lesser, the greater; calls of the library that reckon alone. -/
import Derived.Test.YtnkjikpmgeknbaaRoOwn
import Derived.Shelf.Bits.Mul64
namespace Go.Proofs.Ytnkjikpmgeknbaa.Am
open Go Go.RowKit Go.Shelf
set_option linter.unusedVariables false
set_option linter.unusedSimpArgs false

section
variable {P : Program} {t : Fr} {H : Hp} {d : Option Tmp} {ty : TypeId} {pos : String} {after : Array Edge} {guard : Option (Nat × Bool)} {k : IntKind} {a b : Int}
end
theorem VRels.scal {φ : Inj} {args args' : Array Value} (h : VRels φ args args') (hs : ∀ v ∈ args.toList, Am.scal v = true) : args' = args := by
  apply Array.ext'
  apply List.ext_getElem?
  intro i
  by_cases hi : i < args.toList.length
  · obtain ⟨v', e, hv⟩ := h.2 i _ (List.getElem?_eq_getElem hi)
    rw [e, List.getElem?_eq_getElem hi, hv.scal (hs _ (List.getElem_mem hi))]
  · rw [List.getElem?_eq_none (by have := h.1; omega), List.getElem?_eq_none (by omega)]
/-- The most ways that are counted. -/
def mostI : Int := 4611686018427387904
def timesI (a b : Int) : Int := min (min a mostI * min b mostI) mostI
def addI (a b : Int) : Int := min (min a mostI + min b mostI) mostI
end Go.Proofs.Ytnkjikpmgeknbaa.Am
