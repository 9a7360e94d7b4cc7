/- The library's sort of numbers, and runs of one number made one. -/
import Derived.Test.YtmakkmcjocjgmaaGreatCaSort
import Derived.Shelf.Sort.Plain
import Derived.Shelf.Slices.In.SortNone
import Derived.Shelf.Slices.CompactI
namespace Go.Proofs.YtmakkmcjocjgmaaGreat.Am
open Go Go.RowKit Go.Shelf Go.Sort
set_option linter.unusedVariables false
set_option linter.unusedSimpArgs false

theorem get_putCells_int (off : Nat) (d : Array Int) (c : Array Value) (t : Nat) (ht : t < c.size) : (putCells (Value.int .i64) off d c)[t]? = some (if off ≤ t ∧ t < off + d.size then .int .i64 d[t - off]! else c[t]) := by
  simp [putCells, ht]
theorem args_one {φ : Inj} {v : Value} {args' : Array Value} (ha : VRels φ #[v] args') : ∃ v', args' = #[v'] ∧ VRel φ v v' := by
  obtain ⟨v', e0, hv⟩ := ha.2 0 v rfl
  have hsz := ha.1
  refine ⟨v', ?_, hv⟩
  apply Array.ext'
  match hq : args'.toList, e0, hsz with
  | [a], e0, _ =>
    simp at e0
    rw [e0]
theorem ints_real {G : Hp} {b cp : Nat} {cs : List Value} {xs : List Int} {base : Nat} {φ : Inj} {w : World} {g : Img} (hb : b < G.size) (hd : G.get b = .dead) (hcap : cp = unk ∨ xs.length ≤ cp) (he : Els (Y1 .i64) G xs cs)
    (hw : WRel base φ (G.put b (.own 1 cs)) w) (hg : φ b = some g) : g.rb < w.heap.size ∧ Holds (Value.int .i64) w g.rb g.d xs.toArray ∧ ∀ (ys : List Int) (m : Nat) (os : Array Obj) (w' : World), ys.length = xs.length → w' = grow (putRow (Value.int .i64) (Sort.ahead w m) g.rb g.d ys.toArray) os →
      ∃ H', WRel base φ H' w' ∧ Step φ (G.put b (.own 1 cs)) w φ H' w' ∧ OwnP (Y1 .i64) G H' (.slice (some ⟨b, 0, none⟩) xs.length cp) ys := by
  obtain ⟨o1, o2, c, e, o3, o4, o5, o6⟩ := hw.own b 1 cs g (Hp.put_same _ _ _) hg
  have hlc : xs.length ≤ cs.length := by have := he.1; simpa [Y1] using this
  have hci : ∀ i (hi : i < xs.length), cs[i]? = some (.int .i64 xs[i]) := fun i hi => by
    obtain ⟨d, h1, h2⟩ := he.2 i _ (List.getElem?_eq_getElem hi)
    have : d = [.int .i64 xs[i]] := h1
    subst this
    have := h2 0 _ rfl
    simpa [Y1] using this
  have hcr : ∀ i (hi : i < xs.length), c[i + g.d]? = some (.int .i64 xs[i]) := fun i hi => by
    obtain ⟨u, h1, h2⟩ := o6 i _ (hci i hi)
    cases h2
    exact h1
  have hlt : g.rb < w.heap.size := (Array.getElem?_eq_some_iff.1 o3).1
  refine ⟨hlt, fun j hj => ?_, fun ys m os w' yl hww => ?_⟩
  · have hj' : j < xs.length := by simpa using hj
    constructor
    · simp only [World.cell?, o3, Option.isSome_none, Bool.false_eq_true, if_false]
      rw [Nat.add_comm, hcr j hj', getElem!_pos xs.toArray j hj]
      simp
    · simp [World.frozen?, o3]
  · have S1 : w'.heap.size = w.heap.size + os.size := by rw [hww]; simp [grow, putRow, mapBlock, ahead]
    have S2 : ∀ j, j < w.heap.size → j ≠ g.rb → w'.heap[j]? = w.heap[j]? := fun j hj hne => by
      rw [hww]
      simp only [grow, putRow, mapBlock, ahead]
      rw [Array.getElem?_append_left (by simpa [ahead] using hj), Array.getElem?_modify, if_neg (Ne.symm hne)]; rfl
    have S3 : w'.heap[g.rb]? = some (.cells (putCells (Value.int .i64) g.d ys.toArray c) e (0, 0)) := by
      rw [hww]
      simp only [grow, putRow, mapBlock, ahead]
      rw [Array.getElem?_append_left (by simpa [ahead] using hlt), Array.getElem?_modify, if_pos rfl]
      show Option.map _ w.heap[g.rb]? = _
      rw [o3]
      rfl
    have fin := WRel.moved (cs' := ys.map (Value.int .i64)) hw hg (by rw [hww]; rfl) (by rw [hww]; rfl) (by rw [hww]; rfl) (by rw [hww]; show w.drawn ≤ w.drawn + m; omega) (by omega) S2 o3 S3 (by simp [putCells]; exact o4) (by simp; omega) (fun t u hu => by
      have ht : t < ys.length := by have := (List.getElem?_eq_some_iff.1 hu).1; simpa using this
      rw [get_putCells_int _ _ _ _ (by omega), if_pos (by simp; omega), Nat.add_sub_cancel]
      refine ⟨_, rfl, ?_⟩
      rw [List.getElem?_map, List.getElem?_eq_getElem ht] at hu
      injection hu with hu
      rw [← hu, getElem!_pos ys.toArray t (by simpa using ht)]
      simp only [List.getElem_toArray]
      exact .int _ _)
    refine ⟨_, fin.1, fin.2, .inr ⟨b, ys.map (Value.int .i64), cp, by rw [yl], hb, hd, rfl, by rw [yl]; exact hcap, ⟨by simp [Y1], fun i x hx => ⟨[.int .i64 x], rfl, fun j u hu => ?_⟩⟩⟩⟩
    cases j with
    | zero =>
      simp at hu
      subst hu
      simp [Y1, hx]
    | succ j => simp at hu
theorem VRel.sl_img {φ : Inj} {b n c : Nat} {v' : Value} (h : VRel φ (.slice (some ⟨b, 0, none⟩) n c) v') (hn : n ≠ 0) : ∃ g c', φ b = some g ∧ v' = .slice (some ⟨g.rb, g.d, none⟩) n c' ∧ n ≤ c' ∧ ∀ m, m ≤ n → VRel φ (.slice (some ⟨b, 0, none⟩) m c) (.slice (some ⟨g.rb, g.d, none⟩) m c') := by
  cases h with
  | @slice _ g o n c c' hg h1 h2 h3 =>
    refine ⟨g, c', hg, by rw [Nat.zero_add], h1, fun m hm => ?_⟩
    have := VRel.slice (φ := φ) 0 m c c' hg (by omega) h2 h3
    rwa [Nat.zero_add] at this
  | slice0 => exact absurd rfl hn
theorem VRel.sl_none {φ : Inj} {A : Option Addr} {c : Nat} {v' : Value} (h : VRel φ (.slice A 0 c) v') : ∃ p c', v' = .slice p 0 c' := by
  cases h <;> exact ⟨_, _, rfl⟩
theorem OwnP.sort_ints {P : Program} {ρ : Ren} (L : Lays.n189 P ρ) {G H : Hp} {v : Value} {xs : List Int} (h : OwnP (Y1 .i64) G H v xs) (hn : xs.length < 4611686018427387904) :
    ACalls P (ρ.f 189) #[v] H (fun r H' => r = .tuple #[] ∧ OwnP (Y1 .i64) G H' v (xs.mergeSort fun x y => decide (x ≤ y))) := by
  intro base φ w args' hw ha
  obtain ⟨v', rfl, hv⟩ := args_one ha
  by_cases h0 : xs.length = 0
  · obtain ⟨A, c, rfl⟩ := h.shape
    rw [h0] at hv
    obtain ⟨p, c', rfl⟩ := hv.sl_none
    refine (Any.slices_Sort_int_none L p c' w).mono fun e w' ⟨he, hww⟩ => ?_
    subst hww
    have hx := List.eq_nil_of_length_eq_zero h0
    subst hx
    exact ⟨.tuple #[], .tuple #[], H, φ, he, ⟨rfl, by rw [show ([] : List Int).mergeSort (fun x y => decide (x ≤ y)) = [] by simp]; exact h⟩, hw, .plain rfl, Step.refl _ _ _⟩
  rcases h with ⟨rfl, rfl, rfl⟩ | ⟨b, cs, cp, rfl, hb, hd, rfl, hcap, he⟩
  · simp at h0
  obtain ⟨g, c', hg, rfl, hnc, _⟩ := hv.sl_img h0
  obtain ⟨hlt, hH, fin⟩ := ints_real hb hd hcap he hw hg
  refine (Any.slices_Sort_int L g.rb g.d c' xs w hH hlt hn).mono fun ee w' ⟨hee, m, os, hww⟩ => ?_
  obtain ⟨H', r1, r2, r3⟩ := fin _ m os w' (List.length_mergeSort xs) hww
  exact ⟨.tuple #[], .tuple #[], H', φ, hee, ⟨rfl, r3⟩, r1, .plain rfl, r2⟩
theorem OwnP.compact_ints {P : Program} {ρ : Ren} (L : Lays2.n20 P ρ) {G H : Hp} {v : Value} {xs : List Int} (h : OwnP (Y1 .i64) G H v xs) (hn : xs.length ≤ 9223372036854775807) :
    ACalls P (ρ.f 20) #[v] H (fun r H' => OwnP (Y1 .i64) G H' r (Lib.compact xs)) := by
  intro base φ w args' hw ha
  obtain ⟨v', rfl, hv⟩ := args_one ha
  by_cases h0 : xs.length = 0
  · obtain ⟨A, c, rfl⟩ := h.shape
    rw [h0] at hv
    obtain ⟨p, c', rfl⟩ := hv.sl_none
    refine (Any.slices_Compact_int_empty L p c' w).mono fun e w' ⟨he, hww⟩ => ?_
    subst hww
    have hx := List.eq_nil_of_length_eq_zero h0
    subst hx
    exact ⟨.slice A 0 c, .slice p 0 c', H, φ, he, by rw [show Lib.compact [] = [] from rfl]; exact h, hw, hv, Step.refl _ _ _⟩
  rcases h with ⟨rfl, rfl, rfl⟩ | ⟨b, cs, cp, rfl, hb, hd, rfl, hcap, he⟩
  · simp at h0
  obtain ⟨g, c', hg, rfl, hnc, hvm⟩ := hv.sl_img h0
  obtain ⟨hlt, hH, fin⟩ := ints_real hb hd hcap he hw hg
  refine (Any.slices_Compact_int L g.rb g.d c' xs w hH hn hnc).mono fun ee w' ⟨hee, m, hww⟩ => ?_
  have hcl : (Lib.compact xs).length ≤ xs.length := by
    unfold Lib.compact Lib.compactUpTo
    rw [List.length_map]
    exact Nat.le_trans (List.length_filter_le _ _) (by simp)
  obtain ⟨H', r1, r2, r3⟩ := fin (Lib.compact xs ++ List.replicate (xs.length - (Lib.compact xs).length) 0) m #[] w' (by rw [List.length_append, List.length_replicate]; omega) (by rw [hww, grow_empty])
  have r4 := r3.cut (m := (Lib.compact xs).length) (by rw [List.length_append]; omega)
  refine ⟨_, _, H', φ, hee, ?_, r1, hvm _ hcl, r2⟩
  rw [List.take_left'] at r4
  · exact r4
  · rfl
end Go.Proofs.YtmakkmcjocjgmaaGreat.Am
