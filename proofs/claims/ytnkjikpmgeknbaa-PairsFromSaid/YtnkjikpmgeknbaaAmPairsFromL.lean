/- Links by the nodes at which they begin. -/
import Derived.Test.YtnkjikpmgeknbaaAmFrom
namespace Go.Proofs.Ytnkjikpmgeknbaa.Am
open Go Go.RowKit
set_option maxRecDepth 100000
set_option linter.unusedVariables false
set_option linter.unusedSimpArgs false

theorem flatMap_ext {α β : Type} {l : List α} {f g : α → List β} (h : ∀ e ∈ l, f e = g e) : l.flatMap f = l.flatMap g := by
  induction l with
  | nil => rfl
  | cons a l ih => rw [List.flatMap_cons, List.flatMap_cons, h a List.mem_cons_self, ih fun e he => h e (List.mem_cons_of_mem _ he)]
theorem goodL_rise {xs : List Link} (h : GoodL xs) : RiseA xs := by
  intro i j hi hj hij
  obtain ⟨d, rfl⟩ : ∃ d, j = i + d := ⟨j - i, by omega⟩
  clear hij
  induction d with
  | zero => exact Int.le_refl _
  | succ d ih =>
    have h1 := ih (by omega)
    have h2 := (h (i + (d + 1)) hj).2 (by omega)
    have e : i + (d + 1) - 1 = i + d := by omega
    simp only [e] at h2
    simp only [lessL, Bool.or_eq_true, Bool.and_eq_true, decide_eq_true_eq] at h2
    omega
theorem few_few (x : Link) : x.few.few = x.few := by
  unfold Link.few
  split
  · simp
  · first | rfl | (rename_i h; rw [if_neg h])
theorem fewL_fewL (xs : List Link) : fewL (fewL xs) = fewL xs := by
  unfold fewL
  rw [List.take_of_length_le (by rw [List.length_map, List.length_take]; omega), List.map_map]
  congr 1
  funext x; exact few_few x
theorem fewL_len (xs : List Link) : (fewL xs).length ≤ 25 := by unfold fewL; rw [List.length_map, List.length_take]; omega
theorem fst_sorted {xs : List Link} (h : RiseA xs) : (xs.map fun x => if false then x.b else x.a).mergeSort (fun x y => decide (x ≤ y)) = xs.map fun x => x.a := by
  have e : (xs.map fun x => if false then x.b else x.a) = xs.map fun x => x.a := by congr 1
  rw [e]
  apply List.mergeSort_of_pairwise
  rw [List.pairwise_iff_getElem]
  intro i j hi hj hij
  simp only [List.length_map] at hi hj
  simp only [List.getElem_map, decide_eq_true_eq]
  exact h i j hi hj (by omega)
theorem compact_last {L : List Link} (h : RiseA L) : ∀ m, 1 ≤ m → m ≤ L.length → ∃ pre, Lib.compactUpTo (L.map fun x => x.a).toArray m = pre ++ [(L.map fun x => x.a).toArray[m - 1]!] ∧ (∀ e ∈ pre, e < (L.map fun x => x.a).toArray[m - 1]!) ∧ ((Lib.compactUpTo (L.map fun x => x.a).toArray m).flatMap fun e => (L.take m).filter fun x => decide (x.a = e)) = L.take m
  | 0, h0, _ => by omega
  | m + 1, _, hm => by
    have hat : ∀ i (hi : i < L.length), (L.map fun x => x.a).toArray[i]! = L[i].a := fun i hi => by
      rw [getElem!_pos _ i (by simpa using hi)]; simp
    have hx : L.take (m + 1) = L.take m ++ [L[m]] := List.take_succ_eq_append_getElem (by omega)
    rw [Lib.compactUpTo_succ]
    simp only [Nat.add_sub_cancel]
    rcases Nat.eq_zero_or_pos m with rfl | hp
    · refine ⟨[], by simp [Lib.compactUpTo, Lib.keeps], by simp, ?_⟩
      have : Lib.keeps (L.map fun x => x.a).toArray 0 = true := by simp [Lib.keeps]
      rw [if_pos this]
      simp only [Lib.compactUpTo, List.range_zero, List.filter_nil, List.map_nil, List.nil_append, List.flatMap_cons, List.flatMap_nil, List.append_nil]
      rw [hat 0 (by omega), hx]
      simp
    · obtain ⟨pre, e1, e2, e3⟩ := compact_last h m hp (by omega)
      have hk : Lib.keeps (L.map fun x => x.a).toArray m = decide (L[m].a ≠ L[m - 1].a) := by
        unfold Lib.keeps
        rw [hat m (by omega), hat (m - 1) (by omega)]
        have : m ≠ 0 := by omega
        simp [this]
      have hle : L[m - 1].a ≤ L[m].a := h (m - 1) m (by omega) (by omega) (by omega)
      rw [hat (m - 1) (by omega)] at e1 e2
      rw [hat m (by omega)]
      by_cases hc : L[m].a = L[m - 1].a
      · rw [if_neg (by rw [hk]; simpa using hc), List.append_nil]
        refine ⟨pre, by rw [e1, hc], by rw [hc]; exact e2, ?_⟩
        rw [hx]
        rw [e1] at e3 ⊢
        rw [List.flatMap_append] at e3 ⊢
        have p1 : (pre.flatMap fun e => (L.take m ++ [L[m]]).filter fun x => decide (x.a = e)) = pre.flatMap fun e => (L.take m).filter fun x => decide (x.a = e) := by
          apply flatMap_ext
          intro e he
          rw [List.filter_append]
          have := e2 e he
          have : ([L[m]].filter fun x => decide (x.a = e)) = [] := by simp; omega
          rw [this, List.append_nil]
        rw [p1]
        simp only [List.flatMap_cons, List.flatMap_nil, List.append_nil] at e3 ⊢
        rw [List.filter_append]
        have : ([L[m]].filter fun x => decide (x.a = L[m - 1].a)) = [L[m]] := by simp [hc]
        rw [this, ← List.append_assoc, e3]
      · have hlt : L[m - 1].a < L[m].a := by omega
        rw [if_pos (by rw [hk]; simpa using hc)]
        have hall : ∀ e ∈ Lib.compactUpTo (L.map fun x => x.a).toArray m, e < L[m].a := by
          rw [e1]
          intro e he
          rcases List.mem_append.1 he with he | he
          · have := e2 e he; omega
          · simp at he; omega
        refine ⟨_, rfl, hall, ?_⟩
        rw [List.flatMap_append, hx]
        have p1 : ((Lib.compactUpTo (L.map fun x => x.a).toArray m).flatMap fun e => (L.take m ++ [L[m]]).filter fun x => decide (x.a = e)) = (Lib.compactUpTo (L.map fun x => x.a).toArray m).flatMap fun e => (L.take m).filter fun x => decide (x.a = e) := by
          apply flatMap_ext
          intro e he
          rw [List.filter_append]
          have := hall e he
          have : ([L[m]].filter fun x => decide (x.a = e)) = [] := by simp; omega
          rw [this, List.append_nil]
        rw [p1, e3]
        simp only [List.flatMap_cons, List.flatMap_nil, List.append_nil]
        rw [List.filter_append]
        have q1 : ((L.take m).filter fun x => decide (x.a = L[m].a)) = [] := by
          rw [List.filter_eq_nil_iff]
          intro x hx2
          obtain ⟨i, hi1, rfl⟩ := List.getElem_of_mem hx2
          rw [List.length_take] at hi1
          rw [List.getElem_take]
          have := h i (m - 1) (by omega) (by omega) (by omega)
          simp; omega
        have q2 : ([L[m]].filter fun x => decide (x.a = L[m].a)) = [L[m]] := by simp
        rw [q1, q2, List.nil_append]
theorem ends_flat {L : List Link} (h : RiseA L) : ((endsL L false).flatMap fun e => L.filter fun x => decide (x.a = e)) = L := by
  unfold endsL
  simp only [Bool.false_eq_true, if_false]
  have e := fst_sorted h
  simp only [Bool.false_eq_true, if_false] at e
  rw [e]
  unfold Lib.compact
  rcases Nat.eq_zero_or_pos L.length with h0 | hp
  · rw [List.eq_nil_of_length_eq_zero h0]; rfl
  · obtain ⟨_, _, _, e3⟩ := compact_last h L.length hp (Nat.le_refl _)
    rw [List.take_length] at e3
    rw [List.length_map]
    exact e3
end Go.Proofs.Ytnkjikpmgeknbaa.Am
