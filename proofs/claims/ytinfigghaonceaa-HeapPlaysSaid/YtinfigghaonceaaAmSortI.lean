/- slices.SortFunc at items. -/
import Derived.Test.YtinfigghaonceaaAmSort
import Derived.Test.YtinfigghaonceaaAmSortLay
import Derived.Test.YtinfigghaonceaaAmHeapL
namespace Go.Proofs.Ytinfigghaonceaa.Am
open Go Go.RowKit Go.Shelf
set_option linter.unusedVariables false
set_option linter.unusedSimpArgs false

theorem swo_of {α : Type} {f : α → α → Int} (h : IsCmp f) (h0 : ∀ x, f x x = 0) : Go.Sort.SWO (ltOf f) where
  irrefl x := by simp [ltOf, h0]
  trans x y z h1 h2 := by
    simp only [ltOf, decide_eq_true_eq] at *
    exact h.lt_le h1 (by omega)
  ntrans x y z h1 h2 := by
    simp only [ltOf, decide_eq_false_iff_not] at *
    have a1 := h.anti x y
    have a2 := h.anti y z
    have a3 := h.anti x z
    have := h.trans z y x (by omega) (by omega)
    omega
theorem SortFunc_items {G H : Hp} {v : Value} {xs : List Item} (h : OwnP kItem G H v xs) (hx : Good xs) (hl : xs.length < 4611686018427387904) :
    ACalls Try.prog 31 #[v, .func (.func 24) #[] #[]] H (fun r H' => r = .tuple #[] ∧ ∃ ys, ys.Perm xs ∧ Sorted ys ∧ OwnP kItem G H' v ys) := by
  refine ACalls.mono (OwnP.sort sortLay (fun w => run_isAgg_yes Try.underlying24 rfl w) (fun w => by obtain ⟨i, h1, h2⟩ := info_size inf24.size; exact (run_sizeOf h1 w).trans (by rw [h2]; rfl)) cmpItem (swo_of isCmpItem cmpItem_self) 24 (fun args w => by kernel_rfl) h (fun x hx1 y hy1 cs ds hc hd => (order_item x y cs ds G.ro hc hd (hx x hx1) (hx y hy1)).mono fun _ _ h => h.1) hl) ?_
  rintro r H' ⟨rfl, ys, hp, hs, ho⟩
  exact ⟨rfl, ys, hp, hs.imp fun h => leI.of_not_lt h, ho⟩
end Go.Proofs.Ytinfigghaonceaa.Am
