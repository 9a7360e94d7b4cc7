/- What a heap of items does with its list. -/
import Derived.Test.YtinfigghaonceaaAmItem
namespace Go.Proofs.Ytinfigghaonceaa.Am
open Go Go.RowKit
set_option linter.unusedVariables false
set_option linter.unusedSimpArgs false

def dItem : Item := ⟨0, [], 0, 0⟩
def swapL (xs : List Item) (a i : Nat) : List Item := (xs.set a (xs.getD i dItem)).set i (xs.getD a dItem)
def stepL (xs : List Item) (k l : Nat) : Nat := if k < xs.length ∧ cmpItem (xs.getD k dItem) (xs.getD l dItem) < 0 then k else l
def lstL (xs : List Item) (i : Nat) : Nat → Nat
  | 0 => i
  | j + 1 => stepL xs (2 * i + 1 + j) (lstL xs i j)
def leastL (xs : List Item) (i : Nat) : Nat := lstL xs i 2
def downF : Nat → List Item → Nat → List Item
  | 0, xs, _ => xs
  | n + 1, xs, i => if leastL xs i = i then xs else downF n (swapL xs (leastL xs i) i) (leastL xs i)
def downM (xs : List Item) (i : Nat) : List Item := downF (xs.length + 1) xs i
def upF : Nat → List Item → Nat → List Item
  | 0, xs, _ => xs
  | n + 1, xs, i => if i = 0 then xs else if cmpItem (xs.getD ((i - 1) / 2) dItem) (xs.getD i dItem) ≤ 0 then xs else upF n (swapL xs ((i - 1) / 2) i) ((i - 1) / 2)
def upM (xs : List Item) (i : Nat) : List Item := upF (i + 1) xs i
def downsF : Nat → List Item → List Item
  | 0, xs => xs
  | n + 1, xs => downsF n (downM xs n)
def newM (xs : List Item) : List Item := downsF (xs.length / 2) xs
def pushM (xs : List Item) (x : Item) : List Item := upM (xs ++ [x]) xs.length
def popM (xs : List Item) : List Item := downM ((xs.set 0 (xs.getD (xs.length - 1) dItem)).take (xs.length - 1)) 0
theorem stepL_out {xs : List Item} {k l : Nat} (h : xs.length ≤ k) : stepL xs k l = l := if_neg (by omega)
theorem lstL_or (xs : List Item) (i : Nat) : ∀ j, lstL xs i j = i ∨ (i < lstL xs i j ∧ lstL xs i j < xs.length)
  | 0 => .inl rfl
  | j + 1 => by
    rw [lstL, stepL]
    split
    · exact .inr ⟨by omega, by omega⟩
    · exact lstL_or xs i j
theorem swapL_length (xs : List Item) (a i : Nat) : (swapL xs a i).length = xs.length := by simp [swapL]
theorem getD_item {xs : List Item} {i : Nat} (h : i < xs.length) : xs.getD i dItem = xs[i] := by rw [List.getD_eq_getElem?_getD, List.getElem?_eq_getElem h]; rfl
theorem swapL_eq {xs : List Item} {a i : Nat} (ha : a < xs.length) (hi : i < xs.length) : swapL xs a i = (xs.set a xs[i]).set i xs[a] := by rw [swapL, getD_item ha, getD_item hi]
theorem mem_swapL {xs : List Item} {a i : Nat} (ha : a < xs.length) (hi : i < xs.length) {x : Item} (h : x ∈ swapL xs a i) : x ∈ xs := by
  rw [swapL_eq ha hi] at h
  rcases List.mem_or_eq_of_mem_set h with h | rfl
  · rcases List.mem_or_eq_of_mem_set h with h | rfl
    · exact h
    · exact List.getElem_mem _
  · exact List.getElem_mem _
theorem leastL_exit {xs : List Item} {k j : Nat} (h : j ≤ 2) (h2 : j = 2 ∨ xs.length ≤ 2 * k + 1 + j) : leastL xs k = lstL xs k j := by
  rcases h2 with rfl | h2
  · rfl
  · match j, h with
    | 0, _ => show stepL xs (2 * k + 1 + 1) (stepL xs (2 * k + 1 + 0) k) = k; rw [stepL_out (by omega), stepL_out (by omega)]
    | 1, _ => show stepL xs (2 * k + 1 + 1) (lstL xs k 1) = lstL xs k 1; rw [stepL_out (by omega)]
    | 2, _ => rfl
theorem lstL_hit {xs : List Item} {k j : Nat} (h : 2 * k + 1 + j < xs.length) (h2 : lstL xs k j < xs.length) (hc : cmpItem xs[2 * k + 1 + j] xs[lstL xs k j] < 0) : lstL xs k (j + 1) = 2 * k + 1 + j := by rw [lstL, stepL, if_pos ⟨h, by rw [getD_item h, getD_item h2]; exact hc⟩]
theorem lstL_miss {xs : List Item} {k j : Nat} (h : 2 * k + 1 + j < xs.length) (h2 : lstL xs k j < xs.length) (hc : ¬ cmpItem xs[2 * k + 1 + j] xs[lstL xs k j] < 0) : lstL xs k (j + 1) = lstL xs k j := by rw [lstL, stepL, if_neg (fun e => hc (by have := e.2; rwa [getD_item h, getD_item h2] at this))]
theorem downF_end {xs : List Item} {k n : Nat} (hn : 1 ≤ n) (h : leastL xs k = k) : downF n xs k = xs := by
  obtain ⟨n, rfl⟩ : ∃ m, n = m + 1 := ⟨n - 1, by omega⟩
  rw [downF, if_pos h]
theorem downF_next {xs : List Item} {k l n : Nat} (hn : 1 ≤ n) (hl : leastL xs k = l) (h : l ≠ k) : downF n xs k = downF (n - 1) (swapL xs l k) l := by
  obtain ⟨n, rfl⟩ : ∃ m, n = m + 1 := ⟨n - 1, by omega⟩
  rw [downF, if_neg (by rw [hl]; exact h), hl]; rfl
theorem upF_root {xs : List Item} {n : Nat} (hn : 1 ≤ n) : upF n xs 0 = xs := by
  obtain ⟨n, rfl⟩ : ∃ m, n = m + 1 := ⟨n - 1, by omega⟩
  rw [upF, if_pos rfl]
theorem upF_end {xs : List Item} {k n : Nat} (hn : 1 ≤ n) (hk : k < xs.length) (ha : (k - 1) / 2 < xs.length) (h : cmpItem xs[(k - 1) / 2] xs[k] ≤ 0) : upF n xs k = xs := by
  obtain ⟨n, rfl⟩ : ∃ m, n = m + 1 := ⟨n - 1, by omega⟩
  rw [upF]
  split
  · rfl
  · rw [if_pos (by rw [getD_item ha, getD_item hk]; exact h)]
theorem upF_next {xs : List Item} {k n : Nat} (hn : 1 ≤ n) (h0 : k ≠ 0) (hk : k < xs.length) (ha : (k - 1) / 2 < xs.length) (h : ¬ cmpItem xs[(k - 1) / 2] xs[k] ≤ 0) : upF n xs k = upF (n - 1) (swapL xs ((k - 1) / 2) k) ((k - 1) / 2) := by
  obtain ⟨n, rfl⟩ : ∃ m, n = m + 1 := ⟨n - 1, by omega⟩
  rw [upF, if_neg h0, if_neg (by rw [getD_item ha, getD_item hk]; exact h)]; rfl
theorem leastL_or (xs : List Item) (i : Nat) : leastL xs i = i ∨ (i < leastL xs i ∧ leastL xs i < xs.length) := lstL_or xs i 2
theorem downF_length : ∀ (n : Nat) (xs : List Item) (i : Nat), (downF n xs i).length = xs.length
  | 0, xs, i => rfl
  | n + 1, xs, i => by
    rw [downF]
    split
    · rfl
    · rw [downF_length n, swapL_length]
theorem mem_downF : ∀ (n : Nat) (xs : List Item) (i : Nat) {x : Item}, x ∈ downF n xs i → x ∈ xs
  | 0, xs, i, x, h => h
  | n + 1, xs, i, x, h => by
    rw [downF] at h
    split at h
    · exact h
    · next hne =>
      have := leastL_or xs i
      exact mem_swapL (by omega) (by omega) (mem_downF n _ _ h)
theorem downM_length (xs : List Item) (i : Nat) : (downM xs i).length = xs.length := downF_length _ _ _
theorem mem_downM {xs : List Item} {i : Nat} {x : Item} (h : x ∈ downM xs i) : x ∈ xs := mem_downF _ _ _ h
theorem downsF_length : ∀ (n : Nat) (xs : List Item), (downsF n xs).length = xs.length
  | 0, xs => rfl
  | n + 1, xs => by rw [downsF, downsF_length n, downM_length]
theorem mem_downsF : ∀ (n : Nat) (xs : List Item) {x : Item}, x ∈ downsF n xs → x ∈ xs
  | 0, xs, x, h => h
  | n + 1, xs, x, h => mem_downM (mem_downsF n _ h)
theorem newM_length (xs : List Item) : (newM xs).length = xs.length := downsF_length _ _
theorem mem_newM {xs : List Item} {x : Item} (h : x ∈ newM xs) : x ∈ xs := mem_downsF _ _ h
theorem upF_length : ∀ (n : Nat) (xs : List Item) (i : Nat), (upF n xs i).length = xs.length
  | 0, xs, i => rfl
  | n + 1, xs, i => by
    rw [upF]
    split
    · rfl
    · split
      · rfl
      · rw [upF_length n, swapL_length]
theorem mem_upF : ∀ (n : Nat) (xs : List Item) (i : Nat) {x : Item}, i < xs.length → x ∈ upF n xs i → x ∈ xs
  | 0, xs, i, x, _, h => h
  | n + 1, xs, i, x, hi, h => by
    rw [upF] at h
    split at h
    · exact h
    · split at h
      · exact h
      · exact mem_swapL (by omega) hi (mem_upF n _ _ (by rw [swapL_length]; omega) h)
theorem pushM_length (xs : List Item) (x : Item) : (pushM xs x).length = xs.length + 1 := by rw [pushM, upM, upF_length]; simp
theorem mem_pushM {xs : List Item} {x y : Item} (h : y ∈ pushM xs x) : y ∈ xs ∨ y = x := by
  have := mem_upF _ _ _ (by simp) h
  simpa using this
theorem popM_length (xs : List Item) : (popM xs).length = xs.length - 1 := by rw [popM, downM_length, List.length_take, List.length_set]; omega
theorem mem_popM {xs : List Item} {y : Item} (h : y ∈ popM xs) : y ∈ xs := by
  have h2 := List.mem_of_mem_take (mem_downM h)
  have := h2
  rcases List.mem_or_eq_of_mem_set this with h | rfl
  · exact h
  · cases xs with
    | nil => simp at h2
    | cons a l => rw [getD_item (by simp)]; exact List.getElem_mem _
end Go.Proofs.Ytinfigghaonceaa.Am
