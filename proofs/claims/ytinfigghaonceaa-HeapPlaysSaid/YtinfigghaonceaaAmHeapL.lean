/- What a heap of items holds, and what comes first: laws. -/
import Derived.Test.YtinfigghaonceaaAmOrderL
import Derived.Test.YtinfigghaonceaaAmHeapM
namespace Go.Proofs.Ytinfigghaonceaa.Am
open Go Go.RowKit
set_option linter.unusedVariables false
set_option linter.unusedSimpArgs false

/-- A comparison. -/
structure IsCmp {α : Type} (f : α → α → Int) : Prop where
  anti : ∀ a b, f a b = - f b a
  trans : ∀ a b c, f a b ≤ 0 → f b c ≤ 0 → f a c ≤ 0
theorem IsCmp.lt_le {α : Type} {f : α → α → Int} (h : IsCmp f) {a b c : α} (h1 : f a b < 0) (h2 : f b c ≤ 0) : f a c < 0 := by
  have h3 := h.trans a b c (by omega) h2
  rcases Int.lt_or_eq_of_le h3 with h4 | h4
  · exact h4
  · have h5 := h.anti a c
    have h6 := h.trans b c a h2 (by omega)
    have h7 := h.anti a b
    omega
theorem IsCmp.le_lt {α : Type} {f : α → α → Int} (h : IsCmp f) {a b c : α} (h1 : f a b ≤ 0) (h2 : f b c < 0) : f a c < 0 := by
  have h3 := h.trans a b c h1 (by omega)
  rcases Int.lt_or_eq_of_le h3 with h4 | h4
  · exact h4
  · have h5 := h.anti a c
    have h6 := h.trans c a b (by omega) h1
    have h7 := h.anti b c
    omega
theorem IsCmp.lex {α : Type} {f g h : α → α → Int} (hf : IsCmp f) (hg : IsCmp g) (hh : ∀ a b, h a b = if f a b ≠ 0 then f a b else g a b) : IsCmp h where
  anti a b := by
    rw [hh, hh, hf.anti a b, hg.anti a b]
    split <;> split <;> omega
  trans a b c h1 h2 := by
    rw [hh] at h1 h2 ⊢
    have hab := hf.anti a b
    split at h1 <;> split at h2
    · have := hf.lt_le (show f a b < 0 by omega) h2
      rw [if_pos (by omega)]; omega
    · have := hf.lt_le (show f a b < 0 by omega) (show f b c ≤ 0 by omega)
      rw [if_pos (by omega)]; omega
    · have := hf.le_lt (show f a b ≤ 0 by omega) (show f b c < 0 by omega)
      rw [if_pos (by omega)]; omega
    · have e1 := hf.trans a b c (by omega) (by omega)
      have e2 := hf.trans c b a (by have := hf.anti b c; omega) (by omega)
      have e3 := hf.anti a c
      rw [if_neg (by omega)]
      exact hg.trans a b c h1 h2
theorem IsCmp.at {α β : Type} {f : α → α → Int} (h : IsCmp f) (k : β → α) : IsCmp fun a b => f (k a) (k b) := ⟨fun a b => h.anti _ _, fun a b c => h.trans _ _ _⟩
theorem isCmpI : IsCmp cmpI := ⟨cmpI_anti, fun a b c => by unfold cmpI; (repeat' split) <;> omega⟩
theorem cmpI_zero {a b : Int} (h : cmpI a b = 0) : a = b := by unfold cmpI at h; (repeat' split at h) <;> omega
theorem cmpL_trans : ∀ a b c : List Int, cmpL a b ≤ 0 → cmpL b c ≤ 0 → cmpL a c ≤ 0
  | [], [], [], _, _ => by decide
  | [], [], _ :: _, _, _ => by rw [cmpL]; omega
  | [], _ :: _, [], _, _ => by rw [cmpL]; omega
  | [], _ :: _, _ :: _, _, _ => by rw [cmpL]; omega
  | _ :: _, [], _, h, _ => by rw [cmpL] at h; omega
  | _ :: _, _ :: _, [], _, h => by rw [cmpL] at h; omega
  | a :: x, b :: y, c :: z, h1, h2 => by
    rw [cmpL] at h1 h2 ⊢
    have hab := cmpI_anti a b
    split at h1 <;> split at h2
    · have := isCmpI.lt_le (show cmpI a b < 0 by omega) h2
      rw [if_pos (by omega)]; omega
    · have := isCmpI.lt_le (show cmpI a b < 0 by omega) (show cmpI b c ≤ 0 by omega)
      rw [if_pos (by omega)]; omega
    · have := isCmpI.le_lt (show cmpI a b ≤ 0 by omega) (show cmpI b c < 0 by omega)
      rw [if_pos (by omega)]; omega
    · have e1 := isCmpI.trans a b c (by omega) (by omega)
      have e2 := isCmpI.trans c b a (by have := isCmpI.anti b c; omega) (by omega)
      have e3 := isCmpI.anti a c
      rw [if_neg (by omega)]
      exact cmpL_trans x y z h1 h2
theorem isCmpL : IsCmp cmpL := ⟨cmpL_anti, cmpL_trans⟩
theorem cmpL_zero : ∀ {a b : List Int}, cmpL a b = 0 → a = b
  | [], [], _ => rfl
  | [], _ :: _, h => by rw [cmpL] at h; omega
  | _ :: _, [], h => by rw [cmpL] at h; omega
  | a :: x, b :: y, h => by
    rw [cmpL] at h
    split at h
    · contradiction
    · next h0 => rw [cmpI_zero (a := a) (b := b) (by omega), cmpL_zero h]
theorem isCmpItem : IsCmp cmpItem :=
  IsCmp.lex (f := fun x y => cmpI x.cost y.cost) (isCmpI.at Item.cost) (IsCmp.lex (f := fun x y => cmpL x.nodes y.nodes) (isCmpL.at Item.nodes) (IsCmp.lex (f := fun x y => cmpI x.place y.place) (isCmpI.at Item.place) (isCmpI.at Item.rank) (fun _ _ => rfl)) (fun _ _ => rfl)) (fun x y => by
    rw [cmpItem, orI4]
    split
    · rfl
    · split
      · rfl
      · split
        · rfl
        · split
          · rfl
          · omega)
theorem cmpItem_zero {x y : Item} (h : cmpItem x y = 0) : x = y := by
  rw [cmpItem, orI4] at h
  split at h
  · contradiction
  · split at h
    · contradiction
    · split at h
      · contradiction
      · split at h
        · contradiction
        · next h1 h2 h3 h4 =>
          have e1 := cmpI_zero (a := x.cost) (b := y.cost) (by omega)
          have e2 := cmpL_zero (a := x.nodes) (b := y.nodes) (by omega)
          have e3 := cmpI_zero (a := x.place) (b := y.place) (by omega)
          have e4 := cmpI_zero (a := x.rank) (b := y.rank) (by omega)
          cases x; cases y
          simp only at e1 e2 e3 e4
          subst e1 e2 e3 e4
          rfl
def leI (x y : Item) : Prop := cmpItem x y ≤ 0
theorem leI.refl (x : Item) : leI x x := by unfold leI; rw [cmpItem_self]; omega
theorem leI.trans {x y z : Item} (h : leI x y) (k : leI y z) : leI x z := isCmpItem.trans _ _ _ h k
theorem leI.antisymm {x y : Item} (h : leI x y) (k : leI y x) : x = y := cmpItem_zero (by have := isCmpItem.anti x y; unfold leI at h k; omega)
theorem leI.of_not {x y : Item} (h : ¬ cmpItem x y ≤ 0) : leI y x := by have := isCmpItem.anti x y; unfold leI; omega
theorem leI.of_not_lt {x y : Item} (h : ¬ cmpItem x y < 0) : leI y x := by have := isCmpItem.anti x y; unfold leI; omega

/-- From a place on, none stands ahead of the one above it. -/
def HeapFrom (k : Nat) (xs : List Item) : Prop := ∀ j, 1 ≤ j → j < xs.length → k ≤ (j - 1) / 2 → leI (xs.getD ((j - 1) / 2) dItem) (xs.getD j dItem)
theorem swapL_getD {xs : List Item} {a i : Nat} (ha : a < xs.length) (hi : i < xs.length) (j : Nat) : (swapL xs a i).getD j dItem = if j = i then xs.getD a dItem else if j = a then xs.getD i dItem else xs.getD j dItem := by
  unfold swapL
  simp only [List.getD_eq_getElem?_getD, List.getElem?_set, List.length_set]
  by_cases h1 : j = i
  · subst h1; simp [hi]
  · have h1' : ¬ i = j := fun e => h1 e.symm
    by_cases h2 : j = a
    · subst h2; simp [h1, h1', ha]
    · have h2' : ¬ a = j := fun e => h2 e.symm
      simp [h1, h1', h2, h2']
theorem swapL_perm {xs : List Item} {a i : Nat} (ha : a < xs.length) (hi : i < xs.length) : (swapL xs a i).Perm xs := by
  rw [swapL_eq ha hi]; exact List.set_set_perm ha hi
theorem stepL_le (xs : List Item) (k l : Nat) : leI (xs.getD (stepL xs k l) dItem) (xs.getD l dItem) ∧ (k < xs.length → leI (xs.getD (stepL xs k l) dItem) (xs.getD k dItem)) := by
  unfold stepL
  split
  · next h => exact ⟨by unfold leI; omega, fun _ => leI.refl _⟩
  · next h => exact ⟨leI.refl _, fun hk => leI.of_not_lt (fun e => h ⟨hk, e⟩)⟩
theorem leastL_le (xs : List Item) (m : Nat) : leI (xs.getD (leastL xs m) dItem) (xs.getD m dItem) ∧ ∀ c, c < xs.length → 1 ≤ c → (c - 1) / 2 = m → leI (xs.getD (leastL xs m) dItem) (xs.getD c dItem) := by
  have h1 := stepL_le xs (2 * m + 1) m
  have h2 := stepL_le xs (2 * m + 1 + 1) (stepL xs (2 * m + 1) m)
  have e : leastL xs m = stepL xs (2 * m + 1 + 1) (stepL xs (2 * m + 1) m) := rfl
  rw [e]
  refine ⟨h2.1.trans h1.1, fun c hc h0 hp => ?_⟩
  have : c = 2 * m + 1 ∨ c = 2 * m + 1 + 1 := by omega
  rcases this with rfl | rfl
  · exact h2.1.trans (h1.2 hc)
  · exact h2.2 hc
theorem leastL_child (xs : List Item) (m : Nat) (h : leastL xs m ≠ m) : m < leastL xs m ∧ leastL xs m < xs.length ∧ (leastL xs m - 1) / 2 = m := by
  have h1 := leastL_or xs m
  refine ⟨by omega, by omega, ?_⟩
  have e : leastL xs m = stepL xs (2 * m + 1 + 1) (stepL xs (2 * m + 1) m) := rfl
  rw [e] at h ⊢
  unfold stepL at h ⊢
  (repeat' split at h) <;> (repeat' split) <;> omega
theorem downF_heap : ∀ (n : Nat) (xs : List Item) (m k : Nat), k ≤ m → xs.length + 1 ≤ n + m → 1 ≤ n →
    (∀ j, 1 ≤ j → j < xs.length → k ≤ (j - 1) / 2 → (j - 1) / 2 ≠ m → leI (xs.getD ((j - 1) / 2) dItem) (xs.getD j dItem)) →
    (1 ≤ m → k ≤ (m - 1) / 2 → ∀ c, 1 ≤ c → c < xs.length → (c - 1) / 2 = m → leI (xs.getD ((m - 1) / 2) dItem) (xs.getD c dItem)) → HeapFrom k (downF n xs m)
  | 0, _, _, _, _, _, h, _, _ => by omega
  | n + 1, xs, m, k, hkm, hn, _, h1, h2 => by
    have hle := leastL_le xs m
    rw [downF]
    by_cases hl : leastL xs m = m
    · rw [if_pos hl]
      intro j hj1 hj2 hj3
      by_cases hp : (j - 1) / 2 = m
      · have := hle.2 j hj2 hj1 hp
        rw [hl] at this
        rw [hp]; exact this
      · exact h1 j hj1 hj2 hj3 hp
    · rw [if_neg hl]
      obtain ⟨c1, c2, c3⟩ := leastL_child xs m hl
      generalize leastL xs m = l at hle hl c1 c2 c3
      have hm : m < xs.length := by omega
      have g := swapL_getD (xs := xs) (a := l) (i := m) c2 hm
      refine downF_heap n _ l k (by omega) (by rw [swapL_length]; omega) (by omega) ?_ ?_
      · intro j hj1 hj2 hj3 hj4
        rw [swapL_length] at hj2
        rw [g, g]
        by_cases ejm : j = m
        · subst ejm
          rw [if_neg (by omega), if_neg (by omega), if_pos rfl]
          exact h2 hj1 hj3 l (by omega) c2 c3
        · by_cases ejl : j = l
          · subst ejl
            rw [c3, if_pos rfl, if_neg ejm, if_pos rfl]
            exact hle.1
          · rw [if_neg ejm, if_neg ejl]
            by_cases ep : (j - 1) / 2 = m
            · rw [if_pos ep]; exact hle.2 j hj2 hj1 ep
            · rw [if_neg ep, if_neg hj4]; exact h1 j hj1 hj2 hj3 ep
      · intro _ _ c hc1 hc2 hc3
        rw [swapL_length] at hc2
        rw [g, g, c3, if_pos rfl, if_neg (by omega), if_neg (by omega)]
        have := h1 c hc1 hc2 (by omega) (by omega)
        rwa [hc3] at this
theorem downF_perm : ∀ (n : Nat) (xs : List Item) (m : Nat), (downF n xs m).Perm xs
  | 0, xs, m => .refl _
  | n + 1, xs, m => by
    rw [downF]
    split
    · exact .refl _
    · next h =>
      obtain ⟨c1, c2, c3⟩ := leastL_child xs m h
      exact (downF_perm n _ _).trans (swapL_perm c2 (by omega))
theorem downM_heap {xs : List Item} {m : Nat} (h : HeapFrom (m + 1) xs) : HeapFrom m (downM xs m) :=
  downF_heap _ xs m m (Nat.le_refl _) (by omega) (by omega) (fun j a b c d => h j a b (by omega)) (fun a b => by omega)
theorem downsF_heap : ∀ (n : Nat) {xs : List Item}, HeapFrom n xs → HeapFrom 0 (downsF n xs)
  | 0, _, h => h
  | n + 1, _, h => downsF_heap n (downM_heap h)
theorem downsF_perm : ∀ (n : Nat) (xs : List Item), (downsF n xs).Perm xs
  | 0, xs => .refl _
  | n + 1, xs => (downsF_perm n _).trans (downF_perm _ _ _)
theorem newM_heap (xs : List Item) : HeapFrom 0 (newM xs) := downsF_heap _ fun j a b c => by omega
theorem newM_perm (xs : List Item) : (newM xs).Perm xs := downsF_perm _ _
theorem upF_perm : ∀ (n : Nat) (xs : List Item) (i : Nat), i < xs.length → (upF n xs i).Perm xs
  | 0, xs, i, _ => .refl _
  | n + 1, xs, i, hi => by
    rw [upF]
    split
    · exact .refl _
    · split
      · exact .refl _
      · exact (upF_perm n _ _ (by rw [swapL_length]; omega)).trans (swapL_perm (by omega) hi)
theorem upF_heap : ∀ (n : Nat) (xs : List Item) (i : Nat), i < xs.length → i + 1 ≤ n →
    (∀ j, 1 ≤ j → j < xs.length → j ≠ i → leI (xs.getD ((j - 1) / 2) dItem) (xs.getD j dItem)) →
    (∀ c, 1 ≤ c → c < xs.length → (c - 1) / 2 = i → 1 ≤ i → leI (xs.getD ((i - 1) / 2) dItem) (xs.getD c dItem)) → HeapFrom 0 (upF n xs i)
  | 0, _, _, _, h, _, _ => by omega
  | n + 1, xs, i, hi, hn, h1, h2 => by
    rw [upF]
    by_cases h0 : i = 0
    · rw [if_pos h0]
      intro j a b _
      exact h1 j a b (by omega)
    · rw [if_neg h0]
      by_cases hc : cmpItem (xs.getD ((i - 1) / 2) dItem) (xs.getD i dItem) ≤ 0
      · rw [if_pos hc]
        intro j a b _
        by_cases e : j = i
        · subst e; exact hc
        · exact h1 j a b e
      · rw [if_neg hc]
        have hia := leI.of_not hc
        have ha : (i - 1) / 2 < xs.length := by omega
        have g := swapL_getD (xs := xs) (a := (i - 1) / 2) (i := i) ha hi
        refine upF_heap n _ _ (by rw [swapL_length]; omega) (by omega) ?_ ?_
        · intro j a b e
          rw [swapL_length] at b
          rw [g, g]
          by_cases ej : j = i
          · subst ej
            rw [if_neg (by omega), if_pos rfl, if_pos rfl]
            exact hia
          · rw [if_neg ej, if_neg e]
            by_cases ep : (j - 1) / 2 = i
            · rw [if_pos ep]; exact h2 j a b ep (by omega)
            · rw [if_neg ep]
              by_cases eq : (j - 1) / 2 = (i - 1) / 2
              · rw [if_pos eq]
                have := h1 j a b ej
                rw [eq] at this
                exact hia.trans this
              · rw [if_neg eq]; exact h1 j a b ej
        · intro c a b e e1
          rw [swapL_length] at b
          rw [g, g, if_neg (by omega), if_neg (by omega)]
          have hpa := h1 ((i - 1) / 2) e1 ha (by omega)
          by_cases ec : c = i
          · rw [if_pos ec]; exact hpa
          · rw [if_neg ec, if_neg (by omega)]
            have := h1 c a b ec
            rw [e] at this
            exact hpa.trans this
theorem pushM_heap {xs : List Item} (x : Item) (h : HeapFrom 0 xs) : HeapFrom 0 (pushM xs x) := by
  refine upF_heap _ _ _ (by simp) (Nat.le_refl _) (fun j a b e => ?_) (fun c a b e _ => ?_)
  · simp only [List.length_append, List.length_singleton] at b
    have := h j a (by omega) (Nat.zero_le _)
    rw [List.getD_eq_getElem?_getD, List.getD_eq_getElem?_getD] at this ⊢
    rwa [List.getElem?_append_left (by omega), List.getElem?_append_left (by omega)]
  · simp only [List.length_append, List.length_singleton] at b
    omega
theorem pushM_perm (xs : List Item) (x : Item) : (pushM xs x).Perm (x :: xs) := (upF_perm _ _ _ (by simp)).trans List.perm_append_comm
theorem popM_heap {xs : List Item} (h : HeapFrom 0 xs) : HeapFrom 0 (popM xs) := by
  refine downM_heap fun j a b c => ?_
  rw [List.length_take, List.length_set] at b
  have e : ∀ i, 1 ≤ i → i < xs.length - 1 → ((xs.set 0 (xs.getD (xs.length - 1) dItem)).take (xs.length - 1)).getD i dItem = xs.getD i dItem := fun i h1 h2 => by
    rw [List.getD_eq_getElem?_getD, List.getElem?_take, if_pos h2, List.getElem?_set, if_neg (by omega), ← List.getD_eq_getElem?_getD]
  rw [e _ (by omega) (by omega), e _ a (by omega)]
  exact h j a (by omega) (Nat.zero_le _)
theorem popM_perm {xs : List Item} (h : 0 < xs.length) : (xs.getD 0 dItem :: popM xs).Perm xs := by
  refine ((downF_perm _ _ _).cons _).trans ?_
  cases xs with
  | nil => simp at h
  | cons x r =>
    simp only [List.getD_cons_zero, List.length_cons, Nat.add_sub_cancel, List.set_cons_zero]
    refine List.Perm.cons _ ?_
    rcases List.eq_nil_or_concat r with rfl | ⟨q, y, rfl⟩
    · exact .refl _
    · have e1 : (x :: (q ++ [y])).getD (q ++ [y]).length dItem = y := by
        rw [List.getD_eq_getElem?_getD]; simp
      simp only [List.concat_eq_append] at *
      rw [e1]
      have e2 : (y :: (q ++ [y])).take (q ++ [y]).length = y :: q := by simp
      rw [e2]
      exact (List.perm_append_comm (l₁ := [y]) (l₂ := q))
theorem heap_root {xs : List Item} (h : HeapFrom 0 xs) : ∀ j, j < xs.length → leI (xs.getD 0 dItem) (xs.getD j dItem) := fun j => by
  induction j using Nat.strongRecOn with
  | ind j ih =>
    intro hj
    by_cases h0 : j = 0
    · subst h0; exact leI.refl _
    · exact (ih ((j - 1) / 2) (by omega) (by omega)).trans (h j (by omega) hj (Nat.zero_le _))

/-- A list with one more, in order. -/
def posF (l : List Item) (x : Item) : Nat → Nat
  | 0 => 0
  | n + 1 => if cmpItem x (l.getD n dItem) < 0 then posF l x n else n + 1
def insM (l : List Item) (x : Item) : List Item := l.take (posF l x l.length) ++ [x] ++ l.drop (posF l x l.length)
def Sorted (l : List Item) : Prop := l.Pairwise leI
theorem posF_step {l : List Item} {x : Item} {n : Nat} (h : 1 ≤ n) : posF l x n = if cmpItem x (l.getD (n - 1) dItem) < 0 then posF l x (n - 1) else n := by
  obtain ⟨m, rfl⟩ : ∃ m, n = m + 1 := ⟨n - 1, by omega⟩
  rfl
theorem posF_le (l : List Item) (x : Item) : ∀ n, posF l x n ≤ n
  | 0 => Nat.le_refl _
  | n + 1 => by rw [posF]; split <;> have := posF_le l x n <;> omega
theorem posF_above (l : List Item) (x : Item) : ∀ n j, posF l x n ≤ j → j < n → cmpItem x (l.getD j dItem) < 0
  | 0, j, _, h => by omega
  | n + 1, j, h, hj => by
    rw [posF] at h
    split at h
    · next hc =>
      by_cases e : j = n
      · subst e; exact hc
      · exact posF_above l x n j h (by omega)
    · omega
theorem posF_below (l : List Item) (x : Item) : ∀ n, 0 < posF l x n → leI (l.getD (posF l x n - 1) dItem) x
  | 0, h => by rw [posF] at h; omega
  | n + 1, h => by
    rw [posF] at h ⊢
    split at h
    · next hc => rw [if_pos hc]; exact posF_below l x n h
    · next hc => rw [if_neg hc]; exact leI.of_not_lt hc
theorem insM_length (l : List Item) (x : Item) : (insM l x).length = l.length + 1 := by
  have := posF_le l x l.length
  simp [insM]; omega
theorem insM_perm (l : List Item) (x : Item) : (insM l x).Perm (x :: l) := by
  unfold insM
  rw [List.append_assoc]
  have := List.perm_middle (a := x) (l₁ := l.take (posF l x l.length)) (l₂ := l.drop (posF l x l.length))
  rwa [List.take_append_drop] at this
theorem sorted_at {l : List Item} (h : Sorted l) {i j : Nat} (hij : i ≤ j) (hj : j < l.length) : leI (l.getD i dItem) (l.getD j dItem) := by
  rw [getD_item hj, getD_item (show i < l.length by omega)]
  by_cases e : i = j
  · subst e; exact leI.refl _
  · exact List.pairwise_iff_getElem.1 h i j (by omega) hj (by omega)
theorem insM_sorted {l : List Item} (x : Item) (h : Sorted l) : Sorted (insM l x) := by
  unfold insM Sorted
  have hp := posF_le l x l.length
  have hup : ∀ y ∈ l.drop (posF l x l.length), leI x y := fun y hy => by
    obtain ⟨j, hj⟩ := List.getElem?_of_mem hy
    rw [List.getElem?_drop] at hj
    have hlt := (List.getElem?_eq_some_iff.1 hj).1
    have := posF_above l x l.length _ (Nat.le_add_right _ j) hlt
    rw [List.getD_eq_getElem?_getD, hj] at this
    have h' : cmpItem x y < 0 := this
    unfold leI; omega
  have hdn : ∀ y ∈ l.take (posF l x l.length), leI y x := fun y hy => by
    obtain ⟨j, hj⟩ := List.getElem?_of_mem hy
    rw [List.getElem?_take] at hj
    split at hj
    · next hlt =>
      have h1 := posF_below l x l.length (by omega)
      have h2 := sorted_at h (i := j) (j := posF l x l.length - 1) (by omega) (by omega)
      have h3 := h2.trans h1
      rw [List.getD_eq_getElem?_getD, hj] at h3
      exact h3
    · cases hj
  rw [List.append_assoc]
  refine List.pairwise_append.2 ⟨h.sublist (List.take_sublist _ _), ?_, fun a ha b hb => ?_⟩
  · exact List.pairwise_append.2 ⟨by simp, h.sublist (List.drop_sublist _ _), fun a ha b hb => by simp at ha; subst ha; exact hup b hb⟩
  · rcases List.mem_append.1 hb with hb | hb
    · simp at hb; subst hb; exact hdn a ha
    · exact (hdn a ha).trans (hup b hb)
/-- A heap and the list in order hold the same. -/
structure Both (hs l : List Item) : Prop where
  heap : HeapFrom 0 hs
  sorted : Sorted l
  perm : hs.Perm l
theorem Both.nil : Both [] [] := ⟨fun j a b => by simp at b, .nil, .refl _⟩
theorem Both.push {hs l : List Item} (h : Both hs l) (x : Item) : Both (pushM hs x) (insM l x) :=
  ⟨pushM_heap x h.heap, insM_sorted x h.sorted, (pushM_perm hs x).trans ((h.perm.cons x).trans (insM_perm l x).symm)⟩
theorem Both.length {hs l : List Item} (h : Both hs l) : hs.length = l.length := h.perm.length_eq
theorem Both.head {hs l : List Item} (h : Both hs l) (hl : 0 < l.length) : hs.getD 0 dItem = l.getD 0 dItem := by
  have hlen := h.length
  have m1 : hs.getD 0 dItem ∈ l := h.perm.mem_iff.1 (by rw [getD_item (by omega)]; exact List.getElem_mem _)
  have m2 : l.getD 0 dItem ∈ hs := h.perm.mem_iff.2 (by rw [getD_item hl]; exact List.getElem_mem _)
  obtain ⟨i, hi⟩ := List.getElem?_of_mem m1
  obtain ⟨j, hj⟩ := List.getElem?_of_mem m2
  have a1 := sorted_at h.sorted (Nat.zero_le i) (List.getElem?_eq_some_iff.1 hi).1
  have a2 := heap_root h.heap j (List.getElem?_eq_some_iff.1 hj).1
  rw [List.getD_eq_getElem?_getD (l := l) (i := i), hi] at a1
  rw [List.getD_eq_getElem?_getD (l := hs) (i := j), hj] at a2
  exact leI.antisymm a2 a1
theorem Both.pop {hs l : List Item} (h : Both hs l) (hl : 0 < l.length) : Both (popM hs) (l.drop 1) := by
  have hh := h.head hl
  have hlen := h.length
  refine ⟨popM_heap h.heap, h.sorted.sublist (List.drop_sublist _ _), ?_⟩
  have h1 := (popM_perm (xs := hs) (by omega)).trans h.perm
  have e : l = l.getD 0 dItem :: l.drop 1 := by
    rw [getD_item hl]; exact (List.getElem_cons_drop hl).symm
  rw [e, ← hh] at h1
  exact h1.cons_inv
end Go.Proofs.Ytinfigghaonceaa.Am
