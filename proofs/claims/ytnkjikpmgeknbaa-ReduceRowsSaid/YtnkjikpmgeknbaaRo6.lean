/- Texts that the proof rests on, part 6: lemmas for every heap that is related to a world, no condition beyond each lemma's own. -/
import Derived.Test.YtnkjikpmgeknbaaRo5
import Derived.Test.YtnkjikpmgeknbaaRo4
import Derived.Test.YtnkjikpmgeknbaaRoGrow
import Derived.Test.YtnkjikpmgeknbaaRo1
import Derived.Test.YtnkjikpmgeknbaaRoRow
namespace Go.Proofs.Ytnkjikpmgeknbaa.Am
open Go Go.RowKit
set_option maxRecDepth 100000
set_option linter.unusedVariables false
set_option linter.unusedSimpArgs false

/-- A variable's place. -/
def posOf (f : Forest) (v : Int) : Nat := (atI f.order v).toNat
theorem GoodF.vAt_lt {f : Forest} (h : GoodF f) {s : Nat} (hs : s < f.vars.length) : vAt f s < f.vars.length ∧ ((vAt f s : Nat) : Int) = f.order.getD s 0 := by
  have h1 := h.ok s hs
  have h2 := h1.1
  have h3 := h1.2.1
  unfold vAt
  omega
theorem GoodF.pos_vAt {f : Forest} (h : GoodF f) {s : Nat} (hs : s < f.vars.length) : posOf f (vAt f s) = s := by
  have hl := h.l1
  rw [(h.vAt_lt hs).2]
  unfold posOf
  have h1 := (h.ok s hs).2.2.1
  rw [atI_some (i := s) (by omega) (by rw [getD_at (by omega)]) h1]; rfl
theorem GoodF.pos_par {f : Forest} (h : GoodF f) {s : Nat} (hs : s < f.vars.length) (hp : 0 ≤ par f (vAt f s)) : posOf f (par f (vAt f s)) < s ∧ ((vAt f (posOf f (par f (vAt f s))) : Nat) : Int) = par f (vAt f s) := by
  have h1 := (h.ok s hs).2.2.2
  have h2 : (f.order.getD s 0).toNat = vAt f s := rfl
  rw [h2] at h1
  obtain ⟨q, hq1, hq2, hq3, hq4⟩ := atI_take (xs := f.order) (v := par f (vAt f s)) (i := s) (h1.resolve_left (by unfold par at hp; omega))
  have hq : posOf f (par f (vAt f s)) = q := by unfold posOf; rw [hq1]; rfl
  rw [hq]
  refine ⟨hq2, ?_⟩
  rw [(h.vAt_lt (by omega)).2, getD_at hq3, hq4]
theorem GoodF.vAt_pos {f : Forest} (h : GoodF f) {v : Nat} (hv : v < f.vars.length) : posOf f v < f.vars.length ∧ vAt f (posOf f v) = v := by
  have hl := h.l1
  obtain ⟨q, h1, _, h3, h4⟩ := atI_take (xs := f.order) (v := (v : Int)) (i := f.order.length) (by rw [List.take_length]; exact h.in_order hv)
  have hq : posOf f v = q := by unfold posOf; rw [h1]; rfl
  rw [hq]
  refine ⟨by omega, ?_⟩
  unfold vAt
  rw [getD_at h3, h4]; rfl
/-- The first nodes of a row. -/
def SatAt (f : Forest) (p : Parts) (ns : List Int) (s : Nat) : Prop :=
  ns.getD s 0 ∈ firsts (nd p (vAt f s)) ∧ (0 ≤ par f (vAt f s) → ∃ l ∈ lk p (vAt f s), l.a = ns.getD (posOf f (par f (vAt f s))) 0 ∧ l.b = ns.getD s 0)
def Sat (f : Forest) (p : Parts) (i : Nat) (ns : List Int) : Prop := ns.length = i ∧ ∀ s, s < i → SatAt f p ns s
theorem getD_app {ns : List Int} {a : Int} {s : Nat} (h : s < ns.length) : (ns ++ [a]).getD s 0 = ns.getD s 0 := by
  rw [List.getD_eq_getElem?_getD, List.getD_eq_getElem?_getD, List.getElem?_append_left h]
theorem getD_end {ns : List Int} {a : Int} : (ns ++ [a]).getD ns.length 0 = a := by
  rw [List.getD_eq_getElem?_getD, List.getElem?_append_right (Nat.le_refl _)]; simp
theorem SatAt.app {f : Forest} {p : Parts} {ns : List Int} {a : Int} {s : Nat} (hg : GoodF f) (hs : s < ns.length) (hn : ns.length < f.vars.length) : SatAt f p (ns ++ [a]) s ↔ SatAt f p ns s := by
  unfold SatAt
  rw [getD_app hs]
  constructor
  · intro ⟨h1, h2⟩
    refine ⟨h1, fun hp => ?_⟩
    obtain ⟨l, hl, e1, e2⟩ := h2 hp
    rw [getD_app (by have := (hg.pos_par (by omega) hp).1; omega)] at e1
    exact ⟨l, hl, e1, e2⟩
  · intro ⟨h1, h2⟩
    refine ⟨h1, fun hp => ?_⟩
    obtain ⟨l, hl, e1, e2⟩ := h2 hp
    exact ⟨l, hl, by rw [getD_app (by have := (hg.pos_par (by omega) hp).1; omega)]; exact e1, e2⟩
theorem sat_succ {f : Forest} {p : Parts} {ns : List Int} {a : Int} {i : Nat} (hg : GoodF f) (hl : ns.length = i) (hi : i < f.vars.length) : Sat f p (i + 1) (ns ++ [a]) ↔ Sat f p i ns ∧ SatAt f p (ns ++ [a]) i := by
  subst hl
  constructor
  · intro ⟨h1, h2⟩
    exact ⟨⟨rfl, fun s hs => (SatAt.app hg hs hi).1 (h2 s (by omega))⟩, h2 _ (by omega)⟩
  · intro ⟨⟨_, h1⟩, h2⟩
    refine ⟨by simp, fun s hs => ?_⟩
    rcases Nat.lt_or_ge s ns.length with h | h
    · exact (SatAt.app hg h hi).2 (h1 s h)
    · obtain rfl : s = ns.length := by omega
      exact h2
/-- What one node more makes of a row. -/
theorem rowOne_sat {f : Forest} {p : Parts} {r r' : RowT} {x : Link} {i : Nat} (hg : GoodF f) (hi : i < f.vars.length) (hr : r.nodes.length = i) (hx : x ∈ nd p (vAt f i)) (h : rowOne f p (vAt f i) r x = some r') : r'.nodes = r.nodes ++ [x.a] ∧ SatAt f p r'.nodes i := by
  subst hr
  have hfirst : x.a ∈ firsts (nd p (vAt f r.nodes.length)) := List.mem_map.2 ⟨x, hx, rfl⟩
  unfold rowOne at h
  split at h
  · rename_i hp
    split at h
    · rename_i hlo
      injection h with h
      subst h
      refine ⟨rfl, by rw [getD_end]; exact hfirst, fun _ => ?_⟩
      obtain ⟨l, hl, e1, e2⟩ := findI_ge.1 hlo
      have := (hg.pos_par hi hp).1
      exact ⟨l, hl, by rw [getD_app this]; exact e1, by rw [getD_end]; exact e2⟩
    · cases h
  · rename_i hp
    injection h with h
    subst h
    exact ⟨rfl, by rw [getD_end]; exact hfirst, fun h => absurd h hp⟩
theorem rowOne_some {f : Forest} {p : Parts} {r : RowT} {x : Link} {i : Nat} (hg : GoodF f) (hi : i < f.vars.length) (hr : r.nodes.length = i) (hs : SatAt f p (r.nodes ++ [x.a]) i) : ∃ r', rowOne f p (vAt f i) r x = some r' ∧ r'.nodes = r.nodes ++ [x.a] := by
  subst hr
  unfold rowOne
  by_cases hp : 0 ≤ par f (vAt f r.nodes.length)
  · obtain ⟨l, hl, e1, e2⟩ := hs.2 hp
    rw [getD_app (hg.pos_par hi hp).1] at e1
    rw [getD_end] at e2
    have hlo : 0 ≤ linkOf f p (vAt f r.nodes.length) r x := findI_ge.2 ⟨l, hl, e1, e2⟩
    rw [if_pos hp, if_pos hlo]
    exact ⟨_, rfl, rfl⟩
  · rw [if_neg hp]; exact ⟨_, rfl, rfl⟩
theorem rows_len {f : Forest} {p : Parts} : ∀ (i : Nat), ∀ r ∈ rowsK f p i, r.nodes.length = i
  | 0, r, h => by simp [rowsK] at h; subst h; rfl
  | i + 1, r, h => by
    obtain ⟨r0, h0, h1⟩ := List.mem_flatMap.1 h
    obtain ⟨x, hx, h2⟩ := List.mem_filterMap.1 h1
    have h3 := rows_len i r0 h0
    unfold rowOne at h2
    split at h2
    · split at h2
      · injection h2 with h2; subst h2; simp [h3]
      · cases h2
    · injection h2 with h2; subst h2; simp [h3]
theorem rows_sat {f : Forest} {p : Parts} (hg : GoodF f) : ∀ (i : Nat), i ≤ f.vars.length → ∀ r ∈ rowsK f p i, Sat f p i r.nodes
  | 0, _, r, h => by simp [rowsK] at h; subst h; exact ⟨rfl, fun s hs => by omega⟩
  | i + 1, hi, r, h => by
    obtain ⟨r0, h0, h1⟩ := List.mem_flatMap.1 h
    obtain ⟨x, hx, h2⟩ := List.mem_filterMap.1 h1
    have h3 := rows_len i r0 h0
    obtain ⟨e, hs⟩ := rowOne_sat hg (by omega) h3 hx h2
    rw [e] at hs ⊢
    exact (sat_succ hg h3 (by omega)).2 ⟨rows_sat hg i (by omega) r0 h0, hs⟩
theorem sat_rows {f : Forest} {p : Parts} (hg : GoodF f) : ∀ (i : Nat), i ≤ f.vars.length → ∀ ns, Sat f p i ns → ∃ r ∈ rowsK f p i, r.nodes = ns
  | 0, _, ns, ⟨h, _⟩ => ⟨⟨[], 0, 1⟩, by simp [rowsK], by rw [List.eq_nil_of_length_eq_zero h]⟩
  | i + 1, hi, ns, h => by
    obtain ⟨ns0, a, rfl⟩ : ∃ ns0 a, ns = ns0 ++ [a] := ⟨ns.dropLast, ns.getLast (by intro e; rw [e] at h; have := h.1; simp at this), (List.dropLast_concat_getLast _).symm⟩
    have hl : ns0.length = i := by have := h.1; simp at this; exact this
    obtain ⟨h1, h2⟩ := (sat_succ hg hl (by omega)).1 h
    obtain ⟨r0, h3, h4⟩ := sat_rows hg i (by omega) ns0 h1
    have h5 := h2.1
    rw [← hl, getD_end, hl] at h5
    obtain ⟨x, hx, e⟩ := List.mem_map.1 h5
    subst e
    rw [← h4] at h2 hl
    obtain ⟨r', h6, h7⟩ := rowOne_some hg (by omega) hl h2
    exact ⟨r', List.mem_flatMap.2 ⟨r0, h3, List.mem_filterMap.2 ⟨x, hx, h6⟩⟩, by rw [h7, h4]⟩
theorem Sat.sub {f : Forest} {p q : Parts} {i : Nat} {ns : List Int} (h : Sat f q i ns) (hs : Sub q p) : Sat f p i ns :=
  ⟨h.1, fun s hi => by
    obtain ⟨h1, h2⟩ := h.2 s hi
    refine ⟨?_, fun hp => ?_⟩
    · obtain ⟨x, hx, e⟩ := List.mem_map.1 h1
      exact List.mem_map.2 ⟨x, (hs _).1.subset hx, e⟩
    · obtain ⟨l, hl, e⟩ := h2 hp
      exact ⟨l, (hs _).2.subset hl, e⟩⟩
end Go.Proofs.Ytnkjikpmgeknbaa.Am

namespace Go.Proofs.Ytnkjikpmgeknbaa.Am
open Go Go.RowKit
set_option maxRecDepth 100000
set_option linter.unusedVariables false
set_option linter.unusedSimpArgs false

/-- Whole rows stay, step by step. -/
theorem sat_up {f : Forest} {p : Parts} {w : Nat} {ns : List Int} (hg : GoodF f) (hl : Lens f.vars.length p) (hw : w < f.vars.length) (h : Sat f p f.vars.length ns) : Sat f (upC f p w) f.vars.length ns ∧ Sat f (downC f p w) f.vars.length ns := by
  have hge : -1 ≤ par f w ∧ par f w < f.vars.length := hg.parent_ge hw
  have hu : (par f w).toNat < f.vars.length := by omega
  have hnn : par f w ≠ -1 → 0 ≤ par f w := fun h => by omega
  have hlink : par f w ≠ -1 → ∃ l ∈ left p w (par f w).toNat, l.a = ns.getD (posOf f (par f w)) 0 ∧ l.b = ns.getD (posOf f w) 0 := fun hp => by
    obtain ⟨k1, k2⟩ := hg.vAt_pos hw
    have hp0 : 0 ≤ par f w := hnn hp
    obtain ⟨h1, h2⟩ := h.2 (posOf f w) k1
    rw [k2] at h1 h2
    obtain ⟨l, hl1, e1, e2⟩ := h2 hp0
    have hpn : ((par f w).toNat : Int) = par f w := Int.toNat_of_nonneg hp0
    obtain ⟨k3, k4⟩ := hg.vAt_pos (v := (par f w).toNat) hu
    rw [hpn] at k3 k4
    have h3 := (h.2 _ k3).1
    rw [k4] at h3
    exact ⟨l, left_mem.2 ⟨hl1, by rw [e1]; exact h3, by rw [e2]; exact h1⟩, e1, e2⟩
  constructor
  · refine ⟨h.1, fun s hs => ?_⟩
    obtain ⟨h1, h2⟩ := h.2 s hs
    refine ⟨?_, fun hp => ?_⟩
    · rw [nd_up hl hu]
      split
      · rename_i hc
        obtain ⟨l, hl1, e1, e2⟩ := hlink hc.1
        obtain ⟨x, hx, e⟩ := List.mem_map.1 h1
        refine List.mem_map.2 ⟨x, List.mem_filter.2 ⟨hx, ?_⟩, e⟩
        rw [decide_eq_true_eq, e]
        have hps : posOf f (par f w) = s := by
          have := hg.pos_vAt hs
          rw [hc.2, show ((par f w).toNat : Int) = par f w from Int.toNat_of_nonneg (hnn hc.1)] at this
          exact this
        rw [hps] at e1
        exact List.mem_map.2 ⟨l, hl1, e1⟩
      · exact h1
    · rw [lk_up hl hw]
      split
      · rename_i hc
        obtain ⟨l, hl1, e1, e2⟩ := hlink hc.1
        have hps : posOf f w = s := by rw [← hc.2]; exact hg.pos_vAt hs
        rw [hps] at e2
        exact ⟨l, hl1, by rw [hc.2]; exact e1, e2⟩
      · exact h2 hp
  · refine ⟨h.1, fun s hs => ?_⟩
    obtain ⟨h1, h2⟩ := h.2 s hs
    refine ⟨?_, fun hp => ?_⟩
    · rw [nd_down hl hw]
      split
      · rename_i hc
        obtain ⟨l, hl1, e1, e2⟩ := hlink hc.1
        rw [hc.2] at h1
        obtain ⟨x, hx, e⟩ := List.mem_map.1 h1
        refine List.mem_map.2 ⟨x, List.mem_filter.2 ⟨hx, ?_⟩, e⟩
        rw [decide_eq_true_eq, e]
        have hps : posOf f w = s := by rw [← hc.2]; exact hg.pos_vAt hs
        rw [hps] at e2
        exact List.mem_map.2 ⟨l, hl1, e2⟩
      · exact h1
    · rw [lk_down hl hw]
      split
      · rename_i hc
        obtain ⟨l, hl1, e1, e2⟩ := hlink hc.1
        have hps : posOf f w = s := by rw [← hc.2]; exact hg.pos_vAt hs
        rw [hps] at e2
        exact ⟨l, hl1, by rw [hc.2]; exact e1, e2⟩
      · exact h2 hp
theorem sat_up_fold {f : Forest} {ns : List Int} (hg : GoodF f) : ∀ (vs : List Int) (p : Parts), (∀ v ∈ vs, v.toNat < f.vars.length) → Lens f.vars.length p → Sat f p f.vars.length ns → Sat f (vs.foldl (fun p v => upC f p v.toNat) p) f.vars.length ns
  | [], _, _, _, h => h
  | v :: vs, p, hv, hl, h => sat_up_fold hg vs _ (fun w hw => hv w (by simp [hw])) (hl.up _) (sat_up hg hl (hv v (by simp)) h).1
theorem sat_down_fold {f : Forest} {ns : List Int} (hg : GoodF f) : ∀ (vs : List Int) (p : Parts), (∀ v ∈ vs, v.toNat < f.vars.length) → Lens f.vars.length p → Sat f p f.vars.length ns → Sat f (vs.foldl (fun p v => downC f p v.toNat) p) f.vars.length ns
  | [], _, _, _, h => h
  | v :: vs, p, hv, hl, h => sat_down_fold hg vs _ (fun w hw => hv w (by simp [hw])) (hl.down _) (sat_up hg hl (hv v (by simp)) h).2
theorem sat_ofP {f : Forest} {p : Parts} {ns : List Int} (h : GoodP f p) (hs : Sat f p f.vars.length ns) : Sat f (ofP f p) f.vars.length ns := by
  obtain ⟨k1, k2, k3, k4⟩ := up_all h.gf f.order.reverse [] p rfl h.lens h.nb (fun v hv => by simp at hv)
  have e1 : upP f p = f.order.reverse.foldl (fun p v => upC f p v.toNat) p := k4
  rw [← e1] at k1 k2
  have e2 : downP f (upP f p) = f.order.foldl (fun p v => downC f p v.toNat) (upP f p) := down_fold _ _ (fun v hv => by have := h.gf.order_in hv; omega) k1 (h.nb.sub k2)
  have s1 : Sat f (upP f p) f.vars.length ns := by rw [e1]; exact sat_up_fold h.gf _ _ (fun v hv => by have := h.gf.order_in (List.mem_reverse.1 hv); omega) h.lens hs
  have s2 : Sat f (downP f (upP f p)) f.vars.length ns := by rw [e2]; exact sat_down_fold h.gf _ _ (fun v hv => by have := h.gf.order_in hv; omega) k1 s1
  unfold ofP
  split
  · rename_i hr
    exfalso
    obtain ⟨v, hv, hr2⟩ := List.any_eq_true.1 hr
    have hvv := h.gf.order_in hv
    obtain ⟨m, rfl⟩ : ∃ m : Nat, v = m := ⟨v.toNat, by omega⟩
    obtain ⟨q1, q2⟩ := h.gf.vAt_pos (v := m) (by omega)
    have h3 := (s2.2 _ q1).1
    rw [q2] at h3
    unfold rootless at hr2
    rw [Bool.and_eq_true, decide_eq_true_eq, decide_eq_true_eq, Int.toNat_natCast] at hr2
    rw [show nd (downP f (upP f p)) m = [] from List.eq_nil_of_length_eq_zero hr2.2] at h3
    simp [firsts] at h3
  · exact s2
/-- Nodes that are chosen, each with all above it. -/
def Pinned (f : Forest) (x : Parts) (pin : Nat → Option Int) : Prop := ∀ s a, pin s = some a → s < f.vars.length ∧ a ∈ firsts (nd x (vAt f s)) ∧ (0 ≤ par f (vAt f s) → ∃ l ∈ lk x (vAt f s), pin (posOf f (par f (vAt f s))) = some l.a ∧ l.b = a)
structure Fit (f : Forest) (x : Parts) : Prop where
  gf : GoodF f
  full : ∀ v : Nat, v < f.vars.length → par f v ≠ -1 → Full f x v
  root : ∀ v : Nat, v < f.vars.length → par f v = -1 → nd x v ≠ []
theorem mem_par {f : Forest} {x : Parts} {s : Nat} (hg : GoodF f) (hs : s < f.vars.length) (hp : 0 ≤ par f (vAt f s)) : (par f (vAt f s)).toNat = vAt f (posOf f (par f (vAt f s))) := by
  have := (hg.pos_par hs hp).2; omega
theorem pinned_row {f : Forest} {x : Parts} (hx : Fit f x) {pin : Nat → Option Int} (hpin : Pinned f x pin) : ∀ i, i ≤ f.vars.length → ∃ ns, Sat f x i ns ∧ ∀ s a, s < i → pin s = some a → ns.getD s 0 = a
  | 0, _ => ⟨[], ⟨rfl, fun s hs => by omega⟩, fun s a hs => by omega⟩
  | i + 1, hi => by
    obtain ⟨ns, h1, h2⟩ := pinned_row hx hpin i (by omega)
    have hlen := h1.1
    have key : ∃ a, SatAt f x (ns ++ [a]) i ∧ ∀ a', pin i = some a' → a = a' := by
      have hvl := (hx.gf.vAt_lt (s := i) (by omega)).1
      have hge : -1 ≤ par f (vAt f i) ∧ par f (vAt f i) < f.vars.length := hx.gf.parent_ge hvl
      cases hpi : pin i with
      | some a =>
        obtain ⟨k1, k2, k3⟩ := hpin i a hpi
        refine ⟨a, ⟨by rw [← hlen, getD_end, hlen]; exact k2, fun hp => ?_⟩, fun a' e => by injection e⟩
        obtain ⟨l, hl, e1, e2⟩ := k3 hp
        have hq := (hx.gf.pos_par (by omega) hp).1
        refine ⟨l, hl, ?_, ?_⟩
        · rw [getD_app (by omega)]; exact (h2 _ _ hq e1).symm
        · rw [← hlen, getD_end]; exact e2
      | none =>
        by_cases hp : par f (vAt f i) = -1
        · obtain ⟨y, hy⟩ := List.exists_mem_of_ne_nil _ (hx.root _ hvl hp)
          exact ⟨y.a, ⟨by rw [← hlen, getD_end, hlen]; exact List.mem_map.2 ⟨y, hy, rfl⟩, fun h => by omega⟩, fun a' e => by cases e⟩
        · have hp0 : 0 ≤ par f (vAt f i) := by omega
          have hF := hx.full _ hvl hp
          have hq := (hx.gf.pos_par (by omega) hp0).1
          have h3 := (h1.2 _ hq).1
          rw [← mem_par (x := x) hx.gf (by omega) hp0] at h3
          obtain ⟨y, hy, e⟩ := List.mem_map.1 h3
          obtain ⟨l, hl, e1⟩ := List.mem_map.1 (hF.up y hy)
          refine ⟨l.b, ⟨by rw [← hlen, getD_end, hlen]; exact (hF.ends l hl).2, fun _ => ⟨l, hl, ?_, by rw [← hlen, getD_end]⟩⟩, fun a' e => by cases e⟩
          rw [getD_app (by omega), ← e]; exact e1
    obtain ⟨a, k1, k2⟩ := key
    refine ⟨ns ++ [a], (sat_succ hx.gf hlen (by omega)).2 ⟨h1, k1⟩, fun s a' hs hp => ?_⟩
    rcases Nat.lt_or_ge s i with h | h
    · rw [getD_app (by omega)]; exact h2 s a' h hp
    · obtain rfl : s = i := by omega
      rw [← hlen, getD_end]; exact k2 a' hp
theorem pin_node {f : Forest} {x : Parts} (hx : Fit f x) : ∀ (s0 : Nat), s0 < f.vars.length → ∀ a0 ∈ firsts (nd x (vAt f s0)), ∃ pin, Pinned f x pin ∧ pin s0 = some a0 ∧ ∀ s, s0 < s → pin s = none := by
  intro s0
  induction s0 using Nat.strongRecOn with
  | ind s0 ih =>
    intro hs a0 ha
    have hvl := (hx.gf.vAt_lt hs).1
    have hge : -1 ≤ par f (vAt f s0) ∧ par f (vAt f s0) < f.vars.length := hx.gf.parent_ge hvl
    by_cases hp : par f (vAt f s0) = -1
    · refine ⟨fun s => if s = s0 then some a0 else none, fun s a e => ?_, by simp, fun s h => if_neg (by omega)⟩
      by_cases hss : s = s0
      · subst hss; simp at e; subst e; exact ⟨hs, ha, fun h => by omega⟩
      · simp [hss] at e
    · have hp0 : 0 ≤ par f (vAt f s0) := by omega
      have hF := hx.full _ hvl hp
      have hq := (hx.gf.pos_par hs hp0).1
      obtain ⟨y, hy, e⟩ := List.mem_map.1 ha
      obtain ⟨l, hl, e1⟩ := List.mem_map.1 (hF.down y hy)
      have h3 := (hF.ends l hl).1
      rw [mem_par (x := x) hx.gf hs hp0] at h3
      obtain ⟨pin, k1, k2, k3⟩ := ih _ hq (by omega) l.a h3
      refine ⟨fun s => if s = s0 then some a0 else pin s, fun s a ee => ?_, by simp, fun s h => (if_neg (by omega)).trans (k3 s (by omega))⟩
      by_cases hss : s = s0
      · subst hss
        simp at ee
        subst ee
        exact ⟨hs, ha, fun _ => ⟨l, hl, (if_neg (by omega)).trans k2, by rw [e1]; exact e⟩⟩
      · simp only [hss, if_false] at ee
        obtain ⟨j1, j2, j3⟩ := k1 s a ee
        refine ⟨j1, j2, fun h => ?_⟩
        obtain ⟨l', hl', e3, e4⟩ := j3 h
        refine ⟨l', hl', ?_, e4⟩
        have hsq : ¬ posOf f (par f (vAt f s0)) < s := fun h => by rw [k3 s h] at ee; cases ee
        have := (hx.gf.pos_par j1 h).1
        exact (if_neg (by omega)).trans e3
theorem pin_link {f : Forest} {x : Parts} (hx : Fit f x) {s0 : Nat} (hs : s0 < f.vars.length) (hp : par f (vAt f s0) ≠ -1) {l : Link} (hl : l ∈ lk x (vAt f s0)) : ∃ pin, Pinned f x pin ∧ pin s0 = some l.b ∧ pin (posOf f (par f (vAt f s0))) = some l.a := by
  have hvl := (hx.gf.vAt_lt hs).1
  have hge : -1 ≤ par f (vAt f s0) ∧ par f (vAt f s0) < f.vars.length := hx.gf.parent_ge hvl
  have hp0 : 0 ≤ par f (vAt f s0) := by omega
  have hF := hx.full _ hvl hp
  have hq := (hx.gf.pos_par hs hp0).1
  obtain ⟨h3, h4⟩ := hF.ends l hl
  rw [mem_par (x := x) hx.gf hs hp0] at h3
  obtain ⟨pin, k1, k2, k3⟩ := pin_node hx _ (by omega) l.a h3
  refine ⟨fun s => if s = s0 then some l.b else pin s, fun s a ee => ?_, by simp, (if_neg (by omega)).trans k2⟩
  by_cases hss : s = s0
  · subst hss
    simp at ee
    subst ee
    exact ⟨hs, h4, fun _ => ⟨l, hl, (if_neg (by omega)).trans k2, rfl⟩⟩
  · simp only [hss, if_false] at ee
    obtain ⟨j1, j2, j3⟩ := k1 s a ee
    refine ⟨j1, j2, fun h => ?_⟩
    obtain ⟨l', hl', e3, e4⟩ := j3 h
    refine ⟨l', hl', ?_, e4⟩
    have hsq : ¬ posOf f (par f (vAt f s0)) < s := fun h => by rw [k3 s h] at ee; cases ee
    have := (hx.gf.pos_par j1 h).1
    exact (if_neg (by omega)).trans e3
end Go.Proofs.Ytnkjikpmgeknbaa.Am

namespace Go.Proofs.Ytnkjikpmgeknbaa.Am
open Go Go.RowKit
set_option maxRecDepth 100000
set_option linter.unusedVariables false
set_option linter.unusedSimpArgs false

theorem findI_link {xs : List Link} {a b : Int} (h : 0 ≤ findI xs a b) : ∃ m : Nat, findI xs a b = m ∧ ∃ hm : m < xs.length, xs[m].a = a ∧ xs[m].b = b := by
  unfold findI at *
  cases hf : xs.findIdx? (isAt a b) with
  | none => rw [hf] at h; simp at h
  | some i =>
    obtain ⟨hi, h1, _⟩ := List.findIdx?_eq_some_iff_getElem.1 hf
    unfold isAt at h1
    rw [Bool.and_eq_true, decide_eq_true_eq, decide_eq_true_eq] at h1
    exact ⟨i, rfl, hi, h1⟩
theorem goodL_ne {xs : List Link} (h : GoodL xs) : xs.Pairwise fun x y => x.a ≠ y.a ∨ x.b ≠ y.b :=
  (goodL_iff.1 h).2.imp fun {x y} h => by
    simp only [lessL, Bool.or_eq_true, Bool.and_eq_true, decide_eq_true_eq] at h
    omega
theorem pairwise_uniq {α : Type} {R : α → α → Prop} (sy : ∀ x y, R x y → R y x) {xs : List α} (h : xs.Pairwise R) {x y : α} (hx : x ∈ xs) (hy : y ∈ xs) (hne : ¬ R x y) : x = y := by
  obtain ⟨i, hi, rfl⟩ := List.getElem_of_mem hx
  obtain ⟨j, hj, rfl⟩ := List.getElem_of_mem hy
  rw [List.pairwise_iff_getElem] at h
  rcases Nat.lt_trichotomy i j with h1 | h1 | h1
  · exact absurd (h i j hi hj h1) hne
  · subst h1; rfl
  · exact absurd (sy _ _ (h j i hj hi h1)) hne
theorem goodL_uniq {xs : List Link} (h : GoodL xs) {x y : Link} (hx : x ∈ xs) (hy : y ∈ xs) (ha : x.a = y.a) (hb : x.b = y.b) : x = y :=
  pairwise_uniq (R := fun x y => x.a ≠ y.a ∨ x.b ≠ y.b) (fun x y h => h.elim (fun h => .inl (Ne.symm h)) (fun h => .inr (Ne.symm h))) (goodL_ne h) hx hy (by rw [ha, hb]; simp)
theorem goodL_nodup {xs : List Link} (h : GoodL xs) : xs.Nodup := (goodL_ne h).imp fun {x y} h e => by subst e; simp at h
theorem sublist_filter {α : Type} {xs ys : List α} {q : α → Bool} (h : xs.Sublist ys) : ys.Nodup → (∀ y ∈ ys, q y = true ↔ y ∈ xs) → xs = ys.filter q := by
  induction h with
  | slnil => intro _ _; rfl
  | @cons xs ys a hs ih =>
    intro hn hq
    obtain ⟨h1, h2⟩ := List.nodup_cons.1 hn
    have hqa : ¬ q a = true := fun h => h1 (hs.subset ((hq a (by simp)).1 h))
    rw [List.filter_cons_of_neg hqa]
    exact ih h2 fun y hy => hq y (by simp [hy])
  | @cons_cons xs ys a hs ih =>
    intro hn hq
    obtain ⟨h1, h2⟩ := List.nodup_cons.1 hn
    rw [List.filter_cons_of_pos ((hq a (by simp)).2 (by simp)), ← ih h2 fun y hy => ?_]
    rw [hq y (by simp [hy])]
    constructor
    · intro h
      rcases List.mem_cons.1 h with h | h
      · exact absurd (h ▸ hy) h1
      · exact h
    · intro h; simp [h]
theorem nd_uniq {f : Forest} {p : Parts} (h : GoodP f p) {v : Nat} (hv : v < f.vars.length) {x y : Link} (hx : x ∈ nd p v) (hy : y ∈ nd p v) (ha : x.a = y.a) : x = y :=
  goodL_uniq (h.ok v hv).1 hx hy ha (by rw [← h.nb v x hx, ← h.nb v y hy, ha])
theorem lk_uniq {f : Forest} {p : Parts} (h : GoodP f p) {v : Nat} (hv : v < f.vars.length) {x y : Link} (hx : x ∈ lk p v) (hy : y ∈ lk p v) (ha : x.a = y.a) (hb : x.b = y.b) : x = y := goodL_uniq (h.ok v hv).2.1 hx hy ha hb
theorem fit_of {f : Forest} {p : Parts} (h : GoodP f p) (hr : ¬ f.order.any (rootless f (ofP f p)) = true) : Fit f (ofP f p) := by
  obtain ⟨k1, k2, k3, k4⟩ := ofP_all h
  refine ⟨h.gf, k3, fun v hv hp he => hr (List.any_eq_true.2 ⟨v, h.gf.in_order hv, ?_⟩)⟩
  unfold rootless
  rw [Int.toNat_natCast, Bool.and_eq_true, decide_eq_true_eq, decide_eq_true_eq]
  exact ⟨hp, by rw [show (ofP f p).nodes.getD v [] = [] from he]; rfl⟩
theorem rows_mem {f : Forest} {p : Parts} (hg : GoodF f) {ns : List Int} (h : Sat f p f.vars.length ns) : ∃ r ∈ rowsP f p, r.nodes = ns := by
  unfold rowsP
  rw [hg.l1]
  exact sat_rows hg _ (Nat.le_refl _) ns h
theorem mem_rows {f : Forest} {p : Parts} (hg : GoodF f) {r : RowT} (h : r ∈ rowsP f p) : Sat f p f.vars.length r.nodes := by
  unfold rowsP at h
  rw [hg.l1] at h
  exact rows_sat hg _ (Nat.le_refl _) r h
theorem node_in {f : Forest} {p : Parts} (h : GoodP f p) {v : Nat} (hv : v < f.vars.length) {y : Link} (hy : y ∈ nd p v) : (∃ r ∈ rowsP f p, r.nodes.getD (posOf f v) 0 = y.a) ↔ y ∈ nd (ofP f p) v := by
  obtain ⟨k1, k2, k3, k4⟩ := ofP_all h
  obtain ⟨q1, q2⟩ := h.gf.vAt_pos hv
  constructor
  · intro ⟨r, hr, e⟩
    have h1 := ((sat_ofP h (mem_rows h.gf hr)).2 _ q1).1
    rw [q2, e] at h1
    obtain ⟨z, hz, e2⟩ := List.mem_map.1 h1
    rw [nd_uniq h hv hy ((k2 v).1.subset hz) e2.symm]
    exact hz
  · intro hx
    have hr : ¬ f.order.any (rootless f (ofP f p)) = true := fun hr => by
      rw [k4 hr, nd_empties] at hx; simp at hx
    have hF := fit_of h hr
    obtain ⟨pin, j1, j2, _⟩ := pin_node hF (posOf f v) q1 y.a (by rw [q2]; exact List.mem_map.2 ⟨y, hx, rfl⟩)
    obtain ⟨ns, j4, j5⟩ := pinned_row hF j1 _ (Nat.le_refl _)
    obtain ⟨r, hr1, hr2⟩ := rows_mem h.gf (j4.sub k2)
    exact ⟨r, hr1, by rw [hr2]; exact j5 _ _ q1 j2⟩
theorem link_in {f : Forest} {p : Parts} (h : GoodP f p) {v : Nat} (hv : v < f.vars.length) {l : Link} (hl : l ∈ lk p v) : (∃ r ∈ rowsP f p, r.nodes.getD (posOf f v) 0 = l.b ∧ r.nodes.getD (posOf f (par f v)) 0 = l.a) ↔ l ∈ lk (ofP f p) v := by
  obtain ⟨k1, k2, k3, k4⟩ := ofP_all h
  obtain ⟨q1, q2⟩ := h.gf.vAt_pos hv
  have hge : -1 ≤ par f v ∧ par f v < f.vars.length := h.gf.parent_ge hv
  have hpar : par f v ≠ -1 := fun e => by
    have h4 := (h.ok v hv).2.2.2 e
    unfold lk at hl
    rw [h4] at hl; simp at hl
  have hp0 : 0 ≤ par f v := by omega
  constructor
  · intro ⟨r, hr, e1, e2⟩
    have h1 := ((sat_ofP h (mem_rows h.gf hr)).2 _ q1).2
    rw [q2, e1, e2] at h1
    obtain ⟨z, hz, e3, e4⟩ := h1 hp0
    rw [lk_uniq h hv hl ((k2 v).2.subset hz) e3.symm e4.symm]
    exact hz
  · intro hx
    have hr : ¬ f.order.any (rootless f (ofP f p)) = true := fun hr => by
      rw [k4 hr, lk_empties] at hx; simp at hx
    have hF := fit_of h hr
    obtain ⟨pin, j1, j2, j3⟩ := pin_link hF q1 (by rw [q2]; exact hpar) (l := l) (by rw [q2]; exact hx)
    rw [q2] at j3
    obtain ⟨ns, j4, j5⟩ := pinned_row hF j1 _ (Nat.le_refl _)
    obtain ⟨r, hr1, hr2⟩ := rows_mem h.gf (j4.sub k2)
    have hq := (h.gf.pos_par q1 (by rw [q2]; exact hp0)).1
    rw [q2] at hq
    exact ⟨r, hr1, by rw [hr2]; exact j5 _ _ q1 j2, by rw [hr2]; exact j5 _ _ (by omega) j3⟩
theorem flatMap_sub {α β : Type} {g k : α → List β} {xs ys : List α} (h : xs.Sublist ys) : (∀ a ∈ xs, (g a).Sublist (k a)) → (xs.flatMap g).Sublist (ys.flatMap k) := by
  induction h with
  | slnil => intro _; simp
  | @cons xs ys a hs ih =>
    intro hg
    rw [List.flatMap_cons]
    exact (ih hg).trans (List.sublist_append_right _ _)
  | @cons_cons xs ys a hs ih =>
    intro hg
    rw [List.flatMap_cons, List.flatMap_cons]
    exact (hg a (by simp)).append (ih fun b hb => hg b (by simp [hb]))
theorem filterMap_sub {α β : Type} {g k : α → Option β} {xs ys : List α} (h : xs.Sublist ys) : (∀ a ∈ xs, ∀ b, g a = some b → k a = some b) → (xs.filterMap g).Sublist (ys.filterMap k) := by
  induction h with
  | slnil => intro _; simp
  | @cons xs ys a hs ih =>
    intro hg
    rw [List.filterMap_cons]
    split
    · exact ih hg
    · exact (ih hg).trans (List.sublist_cons_self _ _)
  | @cons_cons xs ys a hs ih =>
    intro hg
    have ih' := ih fun b hb => hg b (by simp [hb])
    rw [List.filterMap_cons]
    split
    · rw [List.filterMap_cons]
      split
      · exact ih'
      · exact ih'.trans (List.sublist_cons_self _ _)
    · rename_i b hb
      rw [List.filterMap_cons, hg a (by simp) b hb]
      exact ih'.cons_cons _
theorem rowOne_sub {f : Forest} {p x : Parts} (h : GoodP f p) (hs : Sub x p) {v : Nat} (hv : v < f.vars.length) {r : RowT} {y : Link} {r' : RowT} (h1 : rowOne f x v r y = some r') : rowOne f p v r y = some r' := by
  unfold rowOne at *
  by_cases hp : 0 ≤ par f v
  · rw [if_pos hp] at h1 ⊢
    by_cases hx : 0 ≤ linkOf f x v r y
    · rw [if_pos hx] at h1
      obtain ⟨m, e1, hm, e2, e3⟩ := findI_link hx
      have hpx : 0 ≤ linkOf f p v r y := findI_ge.2 ⟨_, (hs v).2.subset (List.getElem_mem hm), e2, e3⟩
      obtain ⟨m', e1', hm', e2', e3'⟩ := findI_link hpx
      rw [if_pos hpx]
      have e : (lk x v)[m] = (lk p v)[m'] := lk_uniq h hv ((hs v).2.subset (List.getElem_mem hm)) (List.getElem_mem hm') (by rw [e2, e2']) (by rw [e3, e3'])
      have g1 : (lk x v).getD (linkOf f x v r y).toNat dLink = (lk x v)[m] := by rw [show linkOf f x v r y = (m : Int) from e1, Int.toNat_natCast, List.getD_eq_getElem?_getD, List.getElem?_eq_getElem hm]; rfl
      have g2 : (lk p v).getD (linkOf f p v r y).toNat dLink = (lk p v)[m'] := by rw [show linkOf f p v r y = (m' : Int) from e1', Int.toNat_natCast, List.getD_eq_getElem?_getD, List.getElem?_eq_getElem hm']; rfl
      rw [g1, e] at h1
      rw [g2]
      exact h1
    · rw [if_neg hx] at h1; cases h1
  · rw [if_neg hp] at h1 ⊢; exact h1
theorem rows_sub {f : Forest} {p x : Parts} (h : GoodP f p) (hs : Sub x p) : ∀ i, i ≤ f.vars.length → (rowsK f x i).Sublist (rowsK f p i)
  | 0, _ => List.Sublist.refl _
  | i + 1, hi => flatMap_sub (rows_sub h hs i (by omega)) fun r _ => filterMap_sub (hs _).1 fun y _ b hb => rowOne_sub h hs (h.gf.vAt_lt (by omega)).1 hb
theorem rowOne_nodes {f : Forest} {p : Parts} {v : Nat} {r r' : RowT} {x : Link} (h : rowOne f p v r x = some r') : r'.nodes = r.nodes ++ [x.a] := by
  unfold rowOne at h
  split at h
  · split at h
    · injection h with h; subst h; rfl
    · cases h
  · injection h with h; subst h; rfl
theorem rows_ne {f : Forest} {p : Parts} (h : GoodP f p) : ∀ i, i ≤ f.vars.length → (rowsK f p i).Pairwise fun r s => r.nodes ≠ s.nodes
  | 0, _ => by simp [rowsK]
  | i + 1, hi => by
    show ((rowsK f p i).flatMap _).Pairwise _
    rw [List.pairwise_flatMap]
    refine ⟨fun r hr => ?_, (rows_ne h i (by omega)).imp_of_mem fun {a b} ha hb hne x hx y hy e => ?_⟩
    · rw [List.pairwise_filterMap]
      refine (goodL_ne (h.ok _ (h.gf.vAt_lt (s := i) (by omega)).1).1).imp_of_mem fun {x y} hx hy hne b hb b' hb' e => ?_
      rw [rowOne_nodes hb, rowOne_nodes hb'] at e
      have e2 : x.a = y.a := by have := (List.append_inj' e rfl).2; simpa using this
      have n1 := h.nb _ x hx
      have n2 := h.nb _ y hy
      rcases hne with hne | hne
      · exact hne e2
      · exact hne (by rw [← n1, ← n2]; exact e2)
    · obtain ⟨_, _, h1⟩ := List.mem_filterMap.1 hx
      obtain ⟨_, _, h2⟩ := List.mem_filterMap.1 hy
      rw [rowOne_nodes h1, rowOne_nodes h2] at e
      exact hne (List.append_inj' e rfl).1
/-- The rows are what they were. -/
theorem rows_same {f : Forest} {p : Parts} (h : GoodP f p) : rowsP f (ofP f p) = rowsP f p := by
  obtain ⟨k1, k2, k3, k4⟩ := ofP_all h
  have hsub : (rowsP f (ofP f p)).Sublist (rowsP f p) := by unfold rowsP; exact rows_sub h k2 _ (by rw [h.gf.l1]; exact Nat.le_refl _)
  have hne : (rowsP f p).Pairwise fun r s => r.nodes ≠ s.nodes := by unfold rowsP; exact rows_ne h _ (by rw [h.gf.l1]; exact Nat.le_refl _)
  have := sublist_filter (q := fun _ => true) hsub (hne.imp fun {a b} h e => h (by rw [e])) fun r hr => ⟨fun _ => ?_, fun _ => rfl⟩
  · rw [this]; simp
  · obtain ⟨r', hr', e⟩ := rows_mem h.gf (sat_ofP h (mem_rows h.gf hr))
    have : r = r' := pairwise_uniq (fun _ _ h => Ne.symm h) hne hr (hsub.subset hr') (by rw [e]; simp)
    rw [this]; exact hr'
end Go.Proofs.Ytnkjikpmgeknbaa.Am

namespace Go.Proofs.Ytnkjikpmgeknbaa.Am
open Go Go.RowKit
set_option maxRecDepth 100000
set_option linter.unusedVariables false
set_option linter.unusedSimpArgs false

theorem refOf_eq {f : Forest} {p : Parts} (h : GoodP f p) : refOf f p = ofP f p := by
  obtain ⟨k1, k2, k3, k4⟩ := ofP_all h
  obtain ⟨l1, l2⟩ := ofTo_len f p (rowsP f p) f.vars.length
  have hget : ∀ (g : Nat → List Link) v, v < f.vars.length → ((List.range f.vars.length).map g).getD v [] = g v := fun g v hv => by
    rw [List.getD_eq_getElem?_getD, List.getElem?_map, List.getElem?_range hv]; rfl
  refine parts_ext l1 l2 k1.1 k1.2 (fun v hv => ?_) (fun v hv => ?_)
  · show ((List.range f.vars.length).map (ofNodes f p (rowsP f p))).getD v [] = _
    rw [hget _ v hv]
    refine (sublist_filter (k2 v).1 (goodL_nodup (h.ok v hv).1) fun y hy => ?_).symm
    rw [← node_in h hv hy]
    unfold nodeIn
    rw [List.any_eq_true]
    exact ⟨fun ⟨r, hr, e⟩ => ⟨r, hr, of_decide_eq_true e⟩, fun ⟨r, hr, e⟩ => ⟨r, hr, decide_eq_true e⟩⟩
  · show ((List.range f.vars.length).map (ofLinks f p (rowsP f p))).getD v [] = _
    rw [hget _ v hv]
    refine (sublist_filter (k2 v).2 (goodL_nodup (h.ok v hv).2.1) fun y hy => ?_).symm
    rw [← link_in h hv hy]
    unfold linkIn
    rw [List.any_eq_true]
    constructor
    · intro ⟨r, hr, e⟩
      rw [Bool.and_eq_true, decide_eq_true_eq, decide_eq_true_eq] at e
      exact ⟨r, hr, e⟩
    · intro ⟨r, hr, e⟩
      exact ⟨r, hr, by rw [Bool.and_eq_true, decide_eq_true_eq, decide_eq_true_eq]; exact e⟩
/-- Nothing is left just where there are no rows. -/
theorem none_left {f : Forest} {p : Parts} (h : GoodP f p) (hn : 0 < f.vars.length) : (rowsP f p).length = 0 ↔ (∀ l ∈ (ofP f p).nodes, l.length = 0) ∧ (∀ l ∈ (ofP f p).links, l.length = 0) := by
  obtain ⟨k1, k2, k3, k4⟩ := ofP_all h
  constructor
  · intro he
    have he' : rowsP f p = [] := List.eq_nil_of_length_eq_zero he
    rw [← refOf_eq h]
    unfold refOf
    rw [he']
    constructor
    · intro l hl
      obtain ⟨v, _, rfl⟩ := List.mem_map.1 hl
      unfold ofNodes nodeIn; simp
    · intro l hl
      obtain ⟨v, _, rfl⟩ := List.mem_map.1 hl
      unfold ofLinks linkIn; simp
  · intro ⟨h1, _⟩
    cases hr : rowsP f p with
    | nil => rfl
    | cons r rs =>
      exfalso
      have hs := (sat_ofP h (mem_rows h.gf (r := r) (by rw [hr]; simp))).2 0 hn
      have hv := (h.gf.vAt_lt hn).1
      have h2 : nd (ofP f p) (vAt f 0) = [] := by
        unfold nd
        rw [getD_list (by rw [k1.1]; exact hv)]
        exact List.eq_nil_of_length_eq_zero (h1 _ (List.getElem_mem _))
      have h3 := hs.1
      rw [h2] at h3
      simp [firsts] at h3
end Go.Proofs.Ytnkjikpmgeknbaa.Am

namespace Go.Proofs.Ytnkjikpmgeknbaa.Am
open Go Go.RowKit
set_option maxRecDepth 100000
set_option linter.unusedVariables false
set_option linter.unusedSimpArgs false

theorem Grow_nil (n : Nat) (H : Hp) (hn : n ≤ 1000000000000) : ACalls Try.prog 194 #[.slice none 0 0, .int .i64 n] H (fun r H' => ∃ G', H.le G' ∧ OwnP (kSl kLink) G' H' r []) := by
  refine acalls_of_code Try.func194 rfl rfl rfl (by simp) ?_
  refine ac_seq ?_
  refine ac_region (by kernel_rfl) ?_
  first | refine aops_val (av_assign_sl rfl) ?_ | refine aops_val (av_assign rfl) ?_
  refine ac_seq ?_
  refine ac_seq ?_
  refine ac_region (by kernel_rfl) ?_
  first | refine aops_val (av_move_int rfl) ?_ | refine aops_val (av_move rfl) ?_
  refine aops_val (av_lt rfl rfl) ?_
  refine ac_split rfl rfl ?_ ?_
  · intro hc1
    exact absurd (of_decide_eq_true hc1) (by omega)
  · intro hc1
    (try simp only [decide_eq_true_eq, decide_eq_false_iff_not, Bool.not_eq_true', Bool.not_eq_false'] at hc1)
    refine ac_skip ?_
    refine ac_seq ?_
    refine ac_seq ?_
    refine ac_region (by kernel_rfl) ?_
    first | refine aops_val (av_move_int rfl) ?_ | refine aops_val (av_move rfl) ?_
    first | refine aops_val (av_move_sl rfl) ?_ | refine aops_val (av_move rfl) ?_
    refine aops_val (av_cap_nil rfl Try.underlying63) ?_
    first | refine aops_val (av_move_sl rfl) ?_ | refine aops_val (av_move rfl) ?_
    refine aops_val (av_len rfl Try.underlying63) ?_
    first | refine aops_val (av_sub64 rfl rfl t_fits) ?_ | refine aops_val (av_sub rfl rfl) ?_
    refine aops_val (av_sub_is (r := (n : Int)) rfl rfl (by simp) (by omega)) ?_
    first | refine aops_val (av_assign_int rfl) ?_ | refine aops_val (av_assign rfl) ?_
    refine ac_seq ?_
    refine ac_region (by kernel_rfl) ?_
    first | refine aops_val (av_move_int rfl) ?_ | refine aops_val (av_move rfl) ?_
    refine aops_val (av_gt rfl rfl) ?_
    refine ac_split rfl rfl ?_ ?_
    · intro hc2
      have hn0 : 0 < n := by have := of_decide_eq_true hc2; omega
      refine ac_region (by kernel_rfl) ?_
      first | refine aops_val (av_move_sl rfl) ?_ | refine aops_val (av_move rfl) ?_
      first | refine aops_val (av_move_sl rfl) ?_ | refine aops_val (av_move rfl) ?_
      refine aops_val (av_cap_nil rfl Try.underlying63) ?_
      refine aops_val (av_slice_nil rfl Try.underlying63 inf22.size (.inl ⟨rfl, rfl⟩) (.inr ⟨_, _, rfl, rfl⟩)) ?_
      first | refine aops_val (av_move_int rfl) ?_ | refine aops_val (av_move rfl) ?_
      refine aops_op (aop_append_make (m := n) Try.underlying63 Try.underlying3 inf22 rfl (by decide) rfl rfl rfl hn0 (by omega) (by omega) ?_)
      first | refine aops_val (av_move_sl rfl) ?_ | refine aops_val (av_move rfl) ?_
      refine aops_val (av_len rfl Try.underlying63) ?_
      refine aops_val (av_take (m := 0) rfl Try.underlying63 inf22.size rfl rfl (by omega) (.inr ⟨_, Hp.push_new _ _⟩)) ?_
      first | refine aops_val (av_assign_sl rfl) ?_ | refine aops_val (av_assign rfl) ?_
      refine ac_seq ?_
      refine ac_region (by kernel_rfl) ?_
      first | refine aops_val (av_move_sl rfl) ?_ | refine aops_val (av_move rfl) ?_
      first | refine aops_val (av_assign_sl rfl) ?_ | refine aops_val (av_assign rfl) ?_
      refine ac_ret ?_
      first
        | exact ⟨.slice (some ⟨H.size, 0, none⟩) 0 unk, aresult1 (ares_tmp rfl), (H.push (.own 1 (List.replicate n (Value.slice none 0 0).cells.toList).flatten)).put H.size .dead, Hp.le_put_new (H.le_push _) (Nat.le_refl _) _, own_lit (kSl kLink) (by simp) (Hp.push_new _ _)⟩
        | exact ⟨.slice none 0 0, aresult1 (ares_tmp rfl), H, Hp.le_refl _, OwnP.nil _ _⟩
    · intro hc2
      (try simp only [decide_eq_true_eq, decide_eq_false_iff_not, Bool.not_eq_true', Bool.not_eq_false'] at hc2)
      refine ac_skip ?_
      refine ac_seq ?_
      refine ac_region (by kernel_rfl) ?_
      first | refine aops_val (av_move_sl rfl) ?_ | refine aops_val (av_move rfl) ?_
      first | refine aops_val (av_assign_sl rfl) ?_ | refine aops_val (av_assign rfl) ?_
      refine ac_ret ?_
      first
        | exact ⟨.slice (some ⟨H.size, 0, none⟩) 0 unk, aresult1 (ares_tmp rfl), (H.push (.own 1 (List.replicate n (Value.slice none 0 0).cells.toList).flatten)).put H.size .dead, Hp.le_put_new (H.le_push _) (Nat.le_refl _) _, own_lit (kSl kLink) (by simp) (Hp.push_new _ _)⟩
        | exact ⟨.slice none 0 0, aresult1 (ares_tmp rfl), H, Hp.le_refl _, OwnP.nil _ _⟩
theorem Concat_lists (xs : List (List (List Link))) (v : Value) (H : Hp) (hs : Sl (kSl (kSl kLink)) H v xs) (hl : xs.length ≤ 100) (hx : ∀ l ∈ xs, l.length ≤ 1000000) :
    ACalls Try.prog 147 #[v] H (fun r H' => ∃ G', H.le G' ∧ OwnP (kSl kLink) G' H' r xs.flatten) := by
  obtain ⟨A, c, rfl⟩ := hs.shape
  have hsum : ∀ k, k ≤ xs.length → ((xs.take k).flatten).length ≤ 1000000 * k := fun k => by
    induction k with
    | zero => intro _; simp
    | succ k ih =>
      intro hk
      have h1 := ih (by omega)
      have h2 := hx _ (List.getElem_mem (by omega : k < xs.length))
      rw [List.take_succ_eq_append_getElem (by omega), List.flatten_append, List.length_append]
      simp only [List.flatten_cons, List.flatten_nil, List.append_nil]
      omega
  have hnx : ∀ k (h : k < xs.length), (xs.take (k + 1)).flatten = (xs.take k).flatten ++ xs[k] := fun k h => by rw [List.take_succ_eq_append_getElem h, List.flatten_append]; simp
  refine acalls_of_code Try.func147 rfl rfl rfl (by simp) ?_
  refine ac_seq ?_
  refine ac_region (by kernel_rfl) ?_
  first | refine aops_val (av_assign_sl rfl) ?_ | refine aops_val (av_assign rfl) ?_
  refine ac_seq ?_
  refine ac_region (by kernel_rfl) ?_
  first | refine aops_val (av_assign_int rfl) ?_ | refine aops_val (av_assign rfl) ?_
  refine ac_seq ?_
  refine ac_seq ?_
  refine ac_region (by kernel_rfl) ?_
  first | refine aops_val (av_move_sl rfl) ?_ | refine aops_val (av_move rfl) ?_
  refine aops_val (av_len rfl Try.underlying230) ?_
  first | refine aops_val (av_move_int rfl) ?_ | refine aops_val (av_move rfl) ?_
  refine ac_block ?_
  refine ac_loop (fun n t H' => ∃ k : Nat, k ≤ xs.length ∧ n = xs.length - k ∧ H' = H ∧ t 0 = .slice A xs.length c ∧ t 3 = .int .i64 ((xs.take k).flatten).length ∧ t 9 = .slice A xs.length c ∧ t 10 = .int .i64 xs.length ∧ t 11 = .int .i64 k) (xs.length) (⟨0, by omega, rfl, rfl, rfl, rfl, rfl, rfl, rfl⟩) ?_
  rintro n t H ⟨k, hk, rfl, rfl, e0, e3, e9, e10, e11⟩
  have hsk := hsum k hk
  refine ac_seq ?_
  refine ac_region (by kernel_rfl) ?_
  refine aops_val (av_lt (by first | assumption | rfl) (by first | assumption | rfl)) ?_
  refine ac_seq ?_
  refine ac_split rfl rfl ?_ ?_
  · intro hc1
    (try simp only [decide_eq_true_eq, decide_eq_false_iff_not, Bool.not_eq_true', Bool.not_eq_false'] at hc1)
    refine ac_skip ?_
    refine ac_seq ?_
    refine ac_block ?_
    refine ac_seq ?_
    refine ac_region (by kernel_rfl) ?_
    have hkx : k < xs.length := by omega
    obtain ⟨b, o, ks, eA, hb, ⟨w0, rfl, hw0⟩, hcell0⟩ := hs.elem_at hkx
    subst eA
    have hcell0' := hcell0.one
    obtain ⟨A6, c6, rfl⟩ := hw0.shape
    have hxk := hx _ (List.getElem_mem hkx)
    refine aops_val (av_indexAddr (by first | assumption | rfl) (by first | assumption | rfl) Try.underlying230 inf63.size t_idx t_idx) ?_
    refine aops_val (av_load1 rfl Try.underlying63 rfl t_cell) ?_
    first | refine aops_val (av_assign_sl rfl) ?_ | refine aops_val (av_assign rfl) ?_
    refine ac_seq ?_
    refine ac_region (by kernel_rfl) ?_
    first | refine aops_val (av_move_int (by first | assumption | rfl)) ?_ | refine aops_val (av_move (by first | assumption | rfl)) ?_
    first | refine aops_val (av_move_sl rfl) ?_ | refine aops_val (av_move rfl) ?_
    refine aops_val (av_len rfl Try.underlying63) ?_
    first | refine aops_val (av_add64 rfl rfl t_fits) ?_ | refine aops_val (av_add rfl rfl) ?_
    first | refine aops_val (av_assign_int rfl) ?_ | refine aops_val (av_assign rfl) ?_
    refine ac_seq ?_
    refine ac_region (by kernel_rfl) ?_
    first | refine aops_val (av_move_int rfl) ?_ | refine aops_val (av_move rfl) ?_
    refine aops_val (av_lt rfl rfl) ?_
    refine ac_split rfl rfl ?_ ?_
    · intro hc2
      exact absurd (of_decide_eq_true hc2) (by omega)
    · intro hc2
      (try simp only [decide_eq_true_eq, decide_eq_false_iff_not, Bool.not_eq_true', Bool.not_eq_false'] at hc2)
      refine ac_skip ?_
      refine ac_region (by kernel_rfl) ?_
      first | refine aops_val (av_add64 (by first | assumption | rfl) (by first | assumption | rfl) t_fits) ?_ | refine aops_val (av_add (by first | assumption | rfl) (by first | assumption | rfl)) ?_
      first | refine aops_val (av_move_int rfl) ?_ | refine aops_val (av_move rfl) ?_
      exact ⟨xs.length - (k + 1), by omega, k + 1, by omega, rfl, rfl, e0, by (refine congrArg (Value.int .i64) (?_ : ((xs.take k).flatten.length : Int) + xs[k].length = _); rw [hnx k hkx, List.length_append]; simp), e9, e10, rfl⟩
  · intro hc1
    (try simp only [decide_eq_true_eq, decide_eq_false_iff_not, Bool.not_eq_true', Bool.not_eq_false'] at hc1)
    refine ac_exit ?_
    refine ac_seq ?_
    have hk2 : k = xs.length := by omega
    subst hk2
    have hfl : ((xs.take xs.length).flatten).length ≤ 1000000000000 := by omega
    refine ac_region (by kernel_rfl) ?_
    first | refine aops_val (av_move_int (by first | assumption | rfl)) ?_ | refine aops_val (av_move (by first | assumption | rfl)) ?_
    refine aops_op (aop_call (Grow_nil _ _ hfl) rfl Try.func194 rfl rfl rfl ?_)
    rintro v5 H5 ⟨G5, hle5, hown5⟩; obtain ⟨A5, c5, rfl⟩ := hown5.shape
    first | refine aops_val (av_assign_sl rfl) ?_ | refine aops_val (av_assign rfl) ?_
    refine ac_seq ?_
    refine ac_seq ?_
    refine ac_region (by kernel_rfl) ?_
    first | refine aops_val (av_move_sl (by first | assumption | rfl)) ?_ | refine aops_val (av_move (by first | assumption | rfl)) ?_
    refine aops_val (av_len rfl Try.underlying230) ?_
    first | refine aops_val (av_move_int rfl) ?_ | refine aops_val (av_move rfl) ?_
    refine ac_block ?_
    refine ac_loop (fun n t H' => ∃ (k : Nat) (G : Hp) (B : Option Addr) (c8 : Nat), k ≤ xs.length ∧ n = xs.length - k ∧ H.le G ∧ OwnP (kSl kLink) G H' (.slice B ((xs.take k).flatten).length c8) (xs.take k).flatten ∧ t 6 = .slice B ((xs.take k).flatten).length c8 ∧ t 25 = .slice A xs.length c ∧ t 26 = .int .i64 xs.length ∧ t 27 = .int .i64 k) (xs.length) (⟨0, G5, A5, c5, by omega, rfl, hle5, hown5, rfl, rfl, rfl, rfl⟩) ?_
    rintro n t H6 ⟨k, G6, B, c8, hk, rfl, hle6, hown6, e6, e25, e26, e27⟩
    have hsk := hsum k hk
    have hz6 := hown6.size
    have hleH6 := Hp.le_trans hle6 hown6.le
    refine ac_seq ?_
    refine ac_region (by kernel_rfl) ?_
    refine aops_val (av_lt (by first | assumption | rfl) (by first | assumption | rfl)) ?_
    refine ac_seq ?_
    refine ac_split rfl rfl ?_ ?_
    · intro hc3
      (try simp only [decide_eq_true_eq, decide_eq_false_iff_not, Bool.not_eq_true', Bool.not_eq_false'] at hc3)
      refine ac_skip ?_
      refine ac_seq ?_
      refine ac_block ?_
      refine ac_seq ?_
      refine ac_region (by kernel_rfl) ?_
      have hkx : k < xs.length := by omega
      obtain ⟨b, o, ks, eA, hb, ⟨w0, rfl, hw0⟩, hcell0⟩ := hs.elem_at hkx
      subst eA
      have hcell0' := hleH6.cell1 hb hcell0.one
      obtain ⟨A6, c6, rfl⟩ := hw0.shape
      have hxk := hx _ (List.getElem_mem hkx)
      refine aops_val (av_indexAddr (by first | assumption | rfl) (by first | assumption | rfl) Try.underlying230 inf63.size t_idx t_idx) ?_
      refine aops_val (av_load1 rfl Try.underlying63 rfl t_cell) ?_
      first | refine aops_val (av_assign_sl rfl) ?_ | refine aops_val (av_assign rfl) ?_
      refine ac_region (by kernel_rfl) ?_
      first | refine aops_val (av_move_sl (by first | assumption | rfl)) ?_ | refine aops_val (av_move (by first | assumption | rfl)) ?_
      first | refine aops_val (av_move_sl rfl) ?_ | refine aops_val (av_move rfl) ?_
      refine aops_op (OwnP.append (ys := xs[k]) hown6 Try.underlying63 inf22 rfl rfl rfl (hw0.mono hle6.sees) (by omega) (by omega) ?_)
      rintro v7 G7 H7 hle7 hown7
      rw [← hnx k hkx] at hown7
      obtain ⟨B', c', e7⟩ := hown7.shape
      subst e7
      first | refine aops_val (av_assign_sl rfl) ?_ | refine aops_val (av_assign rfl) ?_
      refine ac_region (by kernel_rfl) ?_
      first | refine aops_val (av_add64 (by first | assumption | rfl) (by first | assumption | rfl) t_fits) ?_ | refine aops_val (av_add (by first | assumption | rfl) (by first | assumption | rfl)) ?_
      first | refine aops_val (av_move_int rfl) ?_ | refine aops_val (av_move rfl) ?_
      exact ⟨xs.length - (k + 1), by omega, k + 1, G7, B', c', by omega, rfl, Hp.le_trans hle6 hle7, hown7, rfl, e25, e26, rfl⟩
    · intro hc3
      (try simp only [decide_eq_true_eq, decide_eq_false_iff_not, Bool.not_eq_true', Bool.not_eq_false'] at hc3)
      refine ac_exit ?_
      refine ac_seq ?_
      refine ac_region (by kernel_rfl) ?_
      first | refine aops_val (av_move_sl (by first | assumption | rfl)) ?_ | refine aops_val (av_move (by first | assumption | rfl)) ?_
      first | refine aops_val (av_assign_sl rfl) ?_ | refine aops_val (av_assign rfl) ?_
      refine ac_ret ?_
      have h2 : (xs.take k).flatten = xs.flatten := by rw [List.take_of_length_le (by omega)]
      rw [h2] at hown6
      refine ⟨.slice B ((xs.take k).flatten).length c8, aresult1 (ares_tmp rfl), G6, hle6, ?_⟩
      rw [h2]; exact hown6
def sizeP (p : Parts) : Nat := ((p.nodes ++ p.links).map List.length).sum
theorem sum_le {xs : List Nat} {m : Nat} (h : ∀ x ∈ xs, x ≤ m) : xs.sum ≤ m * xs.length := by
  induction xs with
  | nil => simp
  | cons a xs ih =>
    have := ih fun x hx => h x (by simp [hx])
    have := h a (by simp)
    rw [List.sum_cons, List.length_cons, Nat.mul_succ]; omega
theorem Size_parts (p : Parts) (ds : List Value) (H : Hp) (hq : kParts.rep H p ds) (h1 : p.nodes.length ≤ 1000000) (h2 : p.links.length ≤ 1000000) (h3 : ∀ l ∈ p.nodes, l.length ≤ 1000000) (h4 : ∀ l ∈ p.links, l.length ≤ 1000000) :
    ACalls Try.prog 107 #[.agg ds.toArray] H (fun r H' => r = .int .i64 (sizeP p) ∧ H' = H) := by
  refine ACalls.pure (R := fun r => r = .int .i64 (sizeP p)) (fun v h => by rw [h]; rfl) ?_
  obtain ⟨u0, u1, rfl, hn0, hn1⟩ := kParts.mono H.sees_ro hq
  obtain ⟨B0, d0, rfl⟩ := hn0.shape
  obtain ⟨B1, d1, rfl⟩ := hn1.shape
  obtain ⟨xs, hxs⟩ : ∃ xs, xs = p.nodes ++ p.links := ⟨_, rfl⟩
  have hxl : ∀ l ∈ xs, l.length ≤ 1000000 := fun l hl => by rw [hxs] at hl; rcases List.mem_append.1 hl with h | h; exact h3 l h; exact h4 l h
  have hlen : xs.length ≤ 2000000 := by rw [hxs, List.length_append]; omega
  have hsum : ∀ k, ((xs.take k).map List.length).sum ≤ 1000000 * 2000000 := fun k => by
    have := sum_le (xs := (xs.take k).map List.length) (m := 1000000) (fun x hx => by obtain ⟨l, hl, rfl⟩ := List.mem_map.1 hx; exact hxl l (List.mem_of_mem_take hl))
    rw [List.length_map, List.length_take] at this
    omega
  refine acalls_of_code Try.func107 rfl rfl rfl (by simp) ?_
  refine ac_seq ?_
  refine ac_region (by kernel_rfl) ?_
  refine aops_make (am_box_agg rfl) ?_
  first | refine aops_val (av_assign_int rfl) ?_ | refine aops_val (av_assign rfl) ?_
  refine ac_seq ?_
  refine ac_region (by kernel_rfl) ?_
  first | refine aops_val (av_assign_int rfl) ?_ | refine aops_val (av_assign rfl) ?_
  refine ac_seq ?_
  refine ac_seq ?_
  refine ac_region (by kernel_rfl) ?_
  refine aops_val (av_fieldOff (off := 0) rfl Try.underlying65 rfl inf63.size (by decide) rfl) ?_
  refine aops_val (av_load1 rfl Try.underlying63 rfl t_cell) ?_
  refine aops_val (av_fieldOff (off := 1) rfl Try.underlying65 rfl inf63.size (by decide) rfl) ?_
  refine aops_val (av_load1 rfl Try.underlying63 rfl t_cell) ?_
  first | refine aops_make (am_buildSlice (r := [.slice _ _ _, .slice _ _ _]) Try.underlying230 inf63.size inf63.zero rfl (by decide) (by decide) (by decide) rfl) ?_ | refine aops_make (am_buildSlice (r := [_, _]) Try.underlying230 inf63.size inf63.zero rfl (by decide) (by decide) (by decide) rfl) ?_
  refine aops_op (aop_call (Concat_lists [p.nodes, p.links] _ _ (Els.sl (k := kSl (kSl kLink)) (cs := [_, _]) (Els.cons (c := [_]) ⟨_, rfl, hn0.mono t_sees⟩ (Els.cons (c := [_]) ⟨_, rfl, hn1.mono t_sees⟩ (Els.nil _ _ []))) (Hp.sees.refl _) (by simp) (Hp.push_new _ _) rfl) (by simp) (by intro l hl; simp at hl; rcases hl with rfl | rfl <;> omega)) rfl Try.func147 rfl rfl rfl ?_)
  rintro v5 H5 ⟨G5, hle5, hown5⟩; rw [show ([p.nodes, p.links].flatten) = xs by rw [hxs]; simp] at hown5; have hs5 := hown5.sl; obtain ⟨A5, c5, rfl⟩ := hs5.shape
  refine aops_val (av_len rfl Try.underlying63) ?_
  first | refine aops_val (av_move_int rfl) ?_ | refine aops_val (av_move rfl) ?_
  refine ac_block ?_
  refine ac_loop (fun n t H' => ∃ k : Nat, k ≤ xs.length ∧ n = xs.length - k ∧ H' = H5 ∧ t 3 = .int .i64 (((xs.take k).map List.length).sum : Nat) ∧ t 11 = .slice A5 xs.length c5 ∧ t 12 = .int .i64 xs.length ∧ t 13 = .int .i64 k) (xs.length) (⟨0, by omega, rfl, rfl, rfl, rfl, rfl, rfl⟩) ?_
  rintro n t H5 ⟨k, hk, rfl, rfl, e3, e11, e12, e13⟩
  have hsk := hsum k
  refine ac_seq ?_
  refine ac_region (by kernel_rfl) ?_
  refine aops_val (av_lt (by first | assumption | rfl) (by first | assumption | rfl)) ?_
  refine ac_seq ?_
  refine ac_split rfl rfl ?_ ?_
  · intro hc1
    (try simp only [decide_eq_true_eq, decide_eq_false_iff_not, Bool.not_eq_true', Bool.not_eq_false'] at hc1)
    refine ac_skip ?_
    refine ac_seq ?_
    refine ac_block ?_
    refine ac_seq ?_
    refine ac_region (by kernel_rfl) ?_
    have hkx : k < xs.length := by omega
    obtain ⟨b, o, ks, eA, hb, ⟨w0, rfl, hw0⟩, hcell0⟩ := hs5.elem_at hkx
    subst eA
    have hcell0' := hcell0.one
    obtain ⟨A6, c6, rfl⟩ := hw0.shape
    have hxk := hxl _ (List.getElem_mem hkx)
    refine aops_val (av_indexAddr (by first | assumption | rfl) (by first | assumption | rfl) Try.underlying63 inf22.size t_idx t_idx) ?_
    refine aops_val (av_load1 rfl Try.underlying22 rfl t_cell) ?_
    first | refine aops_val (av_assign_sl rfl) ?_ | refine aops_val (av_assign rfl) ?_
    refine ac_region (by kernel_rfl) ?_
    first | refine aops_val (av_move_int (by first | assumption | rfl)) ?_ | refine aops_val (av_move (by first | assumption | rfl)) ?_
    first | refine aops_val (av_move_sl rfl) ?_ | refine aops_val (av_move rfl) ?_
    refine aops_val (av_len rfl Try.underlying22) ?_
    first | refine aops_val (av_add64 rfl rfl t_fits) ?_ | refine aops_val (av_add rfl rfl) ?_
    first | refine aops_val (av_assign_int rfl) ?_ | refine aops_val (av_assign rfl) ?_
    refine ac_region (by kernel_rfl) ?_
    first | refine aops_val (av_add64 (by first | assumption | rfl) (by first | assumption | rfl) t_fits) ?_ | refine aops_val (av_add (by first | assumption | rfl) (by first | assumption | rfl)) ?_
    first | refine aops_val (av_move_int rfl) ?_ | refine aops_val (av_move rfl) ?_
    exact ⟨xs.length - (k + 1), by omega, k + 1, by omega, rfl, rfl, by (refine congrArg (Value.int .i64) (?_ : (((xs.take k).map List.length).sum : Int) + xs[k].length = _); rw [← take_next hkx, List.map_append, List.sum_append]; simp), e11, e12, rfl⟩
  · intro hc1
    (try simp only [decide_eq_true_eq, decide_eq_false_iff_not, Bool.not_eq_true', Bool.not_eq_false'] at hc1)
    refine ac_exit ?_
    refine ac_seq ?_
    refine ac_region (by kernel_rfl) ?_
    first | refine aops_val (av_move_int (by first | assumption | rfl)) ?_ | refine aops_val (av_move (by first | assumption | rfl)) ?_
    first | refine aops_val (av_assign_int rfl) ?_ | refine aops_val (av_assign rfl) ?_
    refine ac_ret ?_
    have h2 : xs.take k = xs := List.take_of_length_le (by omega)
    refine ⟨.int .i64 (((xs.take k).map List.length).sum : Nat), aresult1 (ares_tmp rfl), ?_⟩
    rw [h2, hxs]; rfl
theorem None_parts (f : Forest) (p : Parts) (cs ds : List Value) (H : Hp) (hp : kForest.rep H f cs) (hq : kParts.rep H p ds) (hsm : Small f p) :
    ACalls Try.prog 44 #[.agg cs.toArray, .agg ds.toArray] H (fun r H' => (∃ g, r = .bool g ∧ (g = true ↔ GoodP f p ∧ 0 < f.vars.length ∧ sizeP (ofP f p) = 0)) ∧ H' = H) := by
  refine ACalls.pure (R := fun r => ∃ g, r = .bool g ∧ (g = true ↔ GoodP f p ∧ 0 < f.vars.length ∧ sizeP (ofP f p) = 0)) (fun v ⟨g, h, _⟩ => by rw [h]; rfl) ?_
  have hp0 := kForest.mono H.sees_ro hp
  have hq0 := kParts.mono H.sees_ro hq
  have hp := hp0
  have hq := hq0
  obtain ⟨v0, v1, v2, v3, v4, rfl, hs0, hs1, hs2, hs3, hs4⟩ := hp
  obtain ⟨A0, c0, rfl⟩ := hs0.shape
  obtain ⟨A1, c1, rfl⟩ := hs1.shape
  obtain ⟨A2, c2, rfl⟩ := hs2.shape
  obtain ⟨A3, c3, rfl⟩ := hs3.shape
  obtain ⟨A4, c4, rfl⟩ := hs4.shape
  obtain ⟨u0, u1, rfl, hn0, hn1⟩ := hq
  obtain ⟨B0, d0, rfl⟩ := hn0.shape
  obtain ⟨B1, d1, rfl⟩ := hn1.shape
  refine acalls_of_code Try.func44 rfl rfl rfl (by simp) ?_
  refine ac_seq ?_
  refine ac_region (by kernel_rfl) ?_
  refine aops_make (am_box_agg rfl) ?_
  refine aops_make (am_box_agg rfl) ?_
  first | refine aops_val (av_assign_bool rfl) ?_ | refine aops_val (av_assign rfl) ?_
  refine ac_seq ?_
  refine ac_region (by kernel_rfl) ?_
  first | refine aops_val (av_loadN (cs := [.slice _ _ _, .slice _ _ _, .slice _ _ _, .slice _ _ _, .slice _ _ _]) rfl Try.underlying62 rfl inf62.size t_cells) ?_ | refine aops_val (av_loadN (cs := [_, _, _, _, _]) rfl Try.underlying62 rfl inf62.size t_cells) ?_
  first | refine aops_val (av_loadN (cs := [.slice _ _ _, .slice _ _ _]) rfl Try.underlying65 rfl inf65.size t_cells) ?_ | refine aops_val (av_loadN (cs := [_, _]) rfl Try.underlying65 rfl inf65.size t_cells) ?_
  refine aops_op (aop_call (GoodP_dom f p _ _ _ (kForest.mono t_sees hp0) (kParts.mono t_sees hq0) hsm) rfl Try.func96 rfl rfl rfl ?_)
  rintro v5 H5 ⟨⟨g, rfl, hg⟩, rfl⟩
  first | refine aops_val (av_move_bool rfl) ?_ | refine aops_val (av_move rfl) ?_
  refine aops_guard rfl rfl rfl ?_ ?_
  · intro hg1
    have hgt : g = true := hg1
    have hG := hg.1 hgt
    have hfo := (hsm.fits hG).of (p := p) rfl
    refine aops_wval (want_yes rfl rfl rfl hg1) (av_fieldOff (off := 0) rfl Try.underlying62 rfl inf59.size (by decide) rfl) ?_
    refine aops_wval (want_yes rfl rfl rfl hg1) (av_load1 rfl Try.underlying59 rfl t_cell) ?_
    refine aops_wval (want_yes rfl rfl rfl hg1) (av_len rfl Try.underlying59) ?_
    refine aops_wval (want_yes rfl rfl rfl hg1) (av_gt rfl rfl) ?_
    refine aops_val (av_pick_bool (congrArg Value.bool hg1) rfl) ?_
    first | refine aops_val (av_move_bool rfl) ?_ | refine aops_val (av_move rfl) ?_
    refine aops_guard rfl rfl rfl ?_ ?_
    · intro hg2
      have hpos : 0 < f.vars.length := by have := of_decide_eq_true hg2; omega
      first | refine aops_wval (want_yes rfl rfl rfl hg2) (av_loadN (cs := [.slice _ _ _, .slice _ _ _, .slice _ _ _, .slice _ _ _, .slice _ _ _]) rfl Try.underlying62 rfl inf62.size t_cells) ?_ | refine aops_wval (want_yes rfl rfl rfl hg2) (av_loadN (cs := [_, _, _, _, _]) rfl Try.underlying62 rfl inf62.size t_cells) ?_
      first | refine aops_wval (want_yes rfl rfl rfl hg2) (av_loadN (cs := [.slice _ _ _, .slice _ _ _]) rfl Try.underlying65 rfl inf65.size t_cells) ?_ | refine aops_wval (want_yes rfl rfl rfl hg2) (av_loadN (cs := [_, _]) rfl Try.underlying65 rfl inf65.size t_cells) ?_
      refine aops_want (want_yes rfl rfl rfl hg2) (aop_call (of_parts f p _ _ _ (kForest.mono t_sees hp0) (kParts.mono t_sees hq0) hG.gf (hsm.fits hG) hsm.s0) rfl Try.func97 rfl rfl rfl ?_)
      rintro v6 H6 ⟨es, rfl, hes, hle6⟩
      refine aops_want (want_yes rfl rfl rfl hg2) (aop_call (Size_parts (ofP f p) es _ hes (by have := hfo.n1; have := hsm.s0; omega) (by have := hfo.n2; have := hsm.s0; omega) hfo.s1 hfo.s2) rfl Try.func107 rfl rfl rfl ?_)
      rintro v7 H7 ⟨rfl, rfl⟩
      refine aops_wval (want_yes rfl rfl rfl hg2) (av_eq rfl rfl) ?_
      refine aops_val (av_pick_bool (congrArg Value.bool hg2) rfl) ?_
      first | refine aops_val (av_assign_bool rfl) ?_ | refine aops_val (av_assign rfl) ?_
      refine ac_ret ?_
      refine ⟨_, aresult1 (ares_tmp rfl), _, rfl, ?_⟩
      first
        | exact ⟨fun h => ⟨hG, hpos, by have := of_decide_eq_true h; omega⟩, fun h => decide_eq_true (by have := h.2.2; omega)⟩
        | exact ⟨fun h => by simp at h, fun h => absurd h.2.1 hzero⟩
        | exact ⟨fun h => by simp at h, fun h => by have := hg.2 h.1; rw [hgf] at this; cases this⟩
    · intro hg2
      have hzero : ¬ 0 < f.vars.length := by have := of_decide_eq_false hg2; omega
      refine aops_skip (want_no rfl rfl rfl hg2 rfl) ?_
      refine aops_skip (want_no rfl rfl rfl hg2 rfl) ?_
      refine aops_skip (want_no rfl rfl rfl hg2 rfl) ?_
      refine aops_skip (want_no rfl rfl rfl hg2 rfl) ?_
      refine aops_skip (want_no rfl rfl rfl hg2 rfl) ?_
      refine aops_val (av_pick_bool (congrArg Value.bool hg2) rfl) ?_
      first | refine aops_val (av_assign_bool rfl) ?_ | refine aops_val (av_assign rfl) ?_
      refine ac_ret ?_
      refine ⟨_, aresult1 (ares_tmp rfl), _, rfl, ?_⟩
      first
        | exact ⟨fun h => ⟨hG, hpos, by have := of_decide_eq_true h; omega⟩, fun h => decide_eq_true (by have := h.2.2; omega)⟩
        | exact ⟨fun h => by simp at h, fun h => absurd h.2.1 hzero⟩
        | exact ⟨fun h => by simp at h, fun h => by have := hg.2 h.1; rw [hgf] at this; cases this⟩
  · intro hg1
    have hgf : g = false := by simpa using hg1
    refine aops_skip (want_no rfl rfl rfl hg1 rfl) ?_
    refine aops_skip (want_no rfl rfl rfl hg1 rfl) ?_
    refine aops_skip (want_no rfl rfl rfl hg1 rfl) ?_
    refine aops_skip (want_no rfl rfl rfl hg1 rfl) ?_
    refine aops_val (av_pick_bool (congrArg Value.bool hg1) rfl) ?_
    first | refine aops_val (av_move_bool rfl) ?_ | refine aops_val (av_move rfl) ?_
    refine aops_skip (want_no rfl rfl rfl rfl rfl) ?_
    refine aops_skip (want_no rfl rfl rfl rfl rfl) ?_
    refine aops_skip (want_no rfl rfl rfl rfl rfl) ?_
    refine aops_skip (want_no rfl rfl rfl rfl rfl) ?_
    refine aops_skip (want_no rfl rfl rfl rfl rfl) ?_
    refine aops_val (av_pick_bool (congrArg Value.bool rfl) rfl) ?_
    first | refine aops_val (av_assign_bool rfl) ?_ | refine aops_val (av_assign rfl) ?_
    refine ac_ret ?_
    refine ⟨_, aresult1 (ares_tmp rfl), _, rfl, ?_⟩
    first
      | exact ⟨fun h => ⟨hG, hpos, by have := of_decide_eq_true h; omega⟩, fun h => decide_eq_true (by have := h.2.2; omega)⟩
      | exact ⟨fun h => by simp at h, fun h => absurd h.2.1 hzero⟩
      | exact ⟨fun h => by simp at h, fun h => by have := hg.2 h.1; rw [hgf] at this; cases this⟩
end Go.Proofs.Ytnkjikpmgeknbaa.Am

namespace Go.Proofs.Ytnkjikpmgeknbaa.Am
open Go Go.RowKit
set_option maxRecDepth 100000
set_option linter.unusedVariables false
set_option linter.unusedSimpArgs false

theorem Same_rows (xs : List RowT) (v u : Value) (H : Hp) (hs : Sl kRow H v xs) (hu : Sl kRow H u xs) (hl : xs.length ≤ 1000000) (hn : ∀ r ∈ xs, r.nodes.length ≤ 1000000) :
    ACalls Try.prog 48 #[v, u] H (fun r H' => r = .bool true ∧ H' = H) := by
  refine ACalls.pure (R := fun r => r = .bool true) (fun v h => by rw [h]; rfl) ?_
  have hs := hs.mono H.sees_ro
  have hu := hu.mono H.sees_ro
  obtain ⟨A, c, rfl⟩ := hs.shape
  obtain ⟨B, c2, rfl⟩ := hu.shape
  refine acalls_of_code Try.func48 rfl rfl rfl (by simp) ?_
  refine ac_seq ?_
  refine ac_region (by kernel_rfl) ?_
  first | refine aops_val (av_assign_bool rfl) ?_ | refine aops_val (av_assign rfl) ?_
  refine ac_seq ?_
  refine ac_seq ?_
  refine ac_region (by kernel_rfl) ?_
  first | refine aops_val (av_move_sl rfl) ?_ | refine aops_val (av_move rfl) ?_
  refine aops_val (av_len rfl Try.underlying74) ?_
  first | refine aops_val (av_move_sl rfl) ?_ | refine aops_val (av_move rfl) ?_
  refine aops_val (av_len rfl Try.underlying74) ?_
  refine aops_val (av_ne rfl rfl) ?_
  refine ac_split rfl rfl ?_ ?_
  · intro hc1
    exact absurd hc1 (by simp)
  · intro hc1
    (try simp only [decide_eq_true_eq, decide_eq_false_iff_not, Bool.not_eq_true', Bool.not_eq_false'] at hc1)
    refine ac_skip ?_
    refine ac_seq ?_
    refine ac_seq ?_
    refine ac_region (by kernel_rfl) ?_
    first | refine aops_val (av_assign_int rfl) ?_ | refine aops_val (av_assign rfl) ?_
    refine ac_block ?_
    refine ac_loop (fun n t H' => ∃ (i : Nat), i ≤ xs.length ∧ n = xs.length - i ∧ H' = H.ro ∧ t 0 = .slice A xs.length c ∧ t 1 = .slice B xs.length c2 ∧ t 5 = .int .i64 i) (xs.length) (⟨0, by omega, rfl, rfl, rfl, rfl, rfl⟩) ?_
    rintro n t _ ⟨i, hi, rfl, rfl, e0, e1, e5⟩
    refine ac_seq ?_
    refine ac_seq ?_
    refine ac_region (by kernel_rfl) ?_
    first | refine aops_val (av_move_int (by first | assumption | rfl)) ?_ | refine aops_val (av_move (by first | assumption | rfl)) ?_
    first | refine aops_val (av_move_sl (by first | assumption | rfl)) ?_ | refine aops_val (av_move (by first | assumption | rfl)) ?_
    refine aops_val (av_len rfl Try.underlying74) ?_
    refine aops_val (av_lt rfl rfl) ?_
    refine ac_split rfl rfl ?_ ?_
    · intro hc2
      (try simp only [decide_eq_true_eq, decide_eq_false_iff_not, Bool.not_eq_true', Bool.not_eq_false'] at hc2)
      refine ac_skip ?_
      refine ac_seq ?_
      refine ac_block ?_
      refine ac_seq ?_
      refine ac_seq ?_
      refine ac_draw (by kernel_rfl) (reg_of (B := [0, 0, 3, 7, 15, 0, 0, 96, 224, 480, 1023, 2047, 4095, 4095, 16383, 32767, 65535, 4095, 4095, 397311, 921599, 1970175, 4194303, 8388607, 16777215, 33554431, 33554431, 134217727, 268435455, 536870911, 1073741823, 33554431, 33554431, 6476005375, 15065939967, 32245809151, 66605547519, 137438953471, 274877906943]) (π := [0, 1, 2, 3, 4, 5, 6, 7, 8, 9, 10, 11, 12, 13, 14, 15, 16, 17, 18, 19, 20, 21, 22, 23, 24, 25, 26, 27, 28, 29, 30, 31, 32, 33, 34, 35, 36, 37, 38]) (by kernel_rfl)) ?_
      first | refine adr_val rfl rfl (av_move_sl (by first | assumption | rfl)) t_lt ?_ | refine adr_val rfl rfl (av_move (by first | assumption | rfl)) t_lt ?_
      first | refine adr_val rfl rfl (av_move_int (by first | assumption | rfl)) t_lt ?_ | refine adr_val rfl rfl (av_move (by first | assumption | rfl)) t_lt ?_
      have hix : i < xs.length := by omega
      obtain ⟨b, o, w, eA, hb, hcell, hw⟩ := hs.row_at hix
      obtain ⟨b2, o2, w2, eB, hb2, hcell2, hw2⟩ := hu.row_at hix
      subst eA eB
      have hc0 := hcell 0 _ rfl
      have hc1 := hcell 1 _ rfl
      have hc2 := hcell 2 _ rfl
      have hd0 := hcell2 0 _ rfl
      have hd1 := hcell2 1 _ rfl
      have hd2 := hcell2 2 _ rfl
      obtain ⟨A3, c3, rfl⟩ := hw.shape
      obtain ⟨B3, c4, rfl⟩ := hw2.shape
      have hnl := hn _ (List.getElem_mem hix)
      refine adr_val rfl rfl (av_indexAddr rfl rfl Try.underlying74 inf152.size t_idx t_idx) t_lt ?_
      refine adr_val rfl rfl (av_fieldOff (off := 1) rfl Try.underlying152 rfl inf3.size (by decide) rfl) t_lt ?_
      refine adr_val rfl rfl (av_load1 rfl Try.underlying3 rfl t_cell) t_lt ?_
      first | refine adr_val rfl rfl (av_move_sl (by first | assumption | rfl)) t_lt ?_ | refine adr_val rfl rfl (av_move (by first | assumption | rfl)) t_lt ?_
      first | refine adr_val rfl rfl (av_move_int (by first | assumption | rfl)) t_lt ?_ | refine adr_val rfl rfl (av_move (by first | assumption | rfl)) t_lt ?_
      refine adr_val rfl rfl (av_indexAddr rfl rfl Try.underlying74 inf152.size t_idx t_idx) t_lt ?_
      refine adr_val rfl rfl (av_fieldOff (off := 1) rfl Try.underlying152 rfl inf3.size (by decide) rfl) t_lt ?_
      refine adr_val rfl rfl (av_load1 rfl Try.underlying3 rfl t_cell) t_lt ?_
      refine adr_val rfl rfl (av_ne rfl rfl) t_lt ?_
      first | refine adr_val rfl rfl (av_move_bool rfl) t_lt ?_ | refine adr_val rfl rfl (av_move rfl) t_lt ?_
      refine adr_guard rfl rfl rfl rfl ?_ ?_
      · intro hg3
        exact absurd hg3 (by simp)
      · intro hg3
        have hp3 := hg3; try simp only [decide_eq_true_eq, decide_eq_false_iff_not, Bool.not_eq_true', Bool.not_eq_false'] at hp3
        first | refine adr_wval rfl (want_yes rfl rfl rfl hg3) rfl (av_move_sl (by first | assumption | rfl)) t_lt ?_ | refine adr_wval rfl (want_yes rfl rfl rfl hg3) rfl (av_move (by first | assumption | rfl)) t_lt ?_
        first | refine adr_wval rfl (want_yes rfl rfl rfl hg3) rfl (av_move_int (by first | assumption | rfl)) t_lt ?_ | refine adr_wval rfl (want_yes rfl rfl rfl hg3) rfl (av_move (by first | assumption | rfl)) t_lt ?_
        refine adr_wval rfl (want_yes rfl rfl rfl hg3) rfl (av_indexAddr rfl rfl Try.underlying74 inf152.size t_idx t_idx) t_lt ?_
        refine adr_wval rfl (want_yes rfl rfl rfl hg3) rfl (av_fieldOff (off := 2) rfl Try.underlying152 rfl inf26.size (by decide) rfl) t_lt ?_
        refine adr_wval rfl (want_yes rfl rfl rfl hg3) rfl (av_load1 rfl Try.underlying26 rfl t_cell) t_lt ?_
        first | refine adr_wval rfl (want_yes rfl rfl rfl hg3) rfl (av_move_sl (by first | assumption | rfl)) t_lt ?_ | refine adr_wval rfl (want_yes rfl rfl rfl hg3) rfl (av_move (by first | assumption | rfl)) t_lt ?_
        first | refine adr_wval rfl (want_yes rfl rfl rfl hg3) rfl (av_move_int (by first | assumption | rfl)) t_lt ?_ | refine adr_wval rfl (want_yes rfl rfl rfl hg3) rfl (av_move (by first | assumption | rfl)) t_lt ?_
        refine adr_wval rfl (want_yes rfl rfl rfl hg3) rfl (av_indexAddr rfl rfl Try.underlying74 inf152.size t_idx t_idx) t_lt ?_
        refine adr_wval rfl (want_yes rfl rfl rfl hg3) rfl (av_fieldOff (off := 2) rfl Try.underlying152 rfl inf26.size (by decide) rfl) t_lt ?_
        refine adr_wval rfl (want_yes rfl rfl rfl hg3) rfl (av_load1 rfl Try.underlying26 rfl t_cell) t_lt ?_
        refine adr_wval rfl (want_yes rfl rfl rfl hg3) rfl (av_ne rfl rfl) t_lt ?_
        refine adr_val rfl rfl (av_pick_bool (congrArg Value.bool hg3) rfl) t_lt ?_
        first | refine adr_val rfl rfl (av_move_bool rfl) t_lt ?_ | refine adr_val rfl rfl (av_move rfl) t_lt ?_
        refine adr_guard rfl rfl rfl rfl ?_ ?_
        · intro hg4
          exact absurd hg4 (by simp)
        · intro hg4
          have hp4 := hg4; try simp only [decide_eq_true_eq, decide_eq_false_iff_not, Bool.not_eq_true', Bool.not_eq_false'] at hp4
          first | refine adr_wval rfl (want_yes rfl rfl rfl hg4) rfl (av_move_sl (by first | assumption | rfl)) t_lt ?_ | refine adr_wval rfl (want_yes rfl rfl rfl hg4) rfl (av_move (by first | assumption | rfl)) t_lt ?_
          first | refine adr_wval rfl (want_yes rfl rfl rfl hg4) rfl (av_move_int (by first | assumption | rfl)) t_lt ?_ | refine adr_wval rfl (want_yes rfl rfl rfl hg4) rfl (av_move (by first | assumption | rfl)) t_lt ?_
          refine adr_wval rfl (want_yes rfl rfl rfl hg4) rfl (av_indexAddr rfl rfl Try.underlying74 inf152.size t_idx t_idx) t_lt ?_
          refine adr_wval rfl (want_yes rfl rfl rfl hg4) rfl (av_fieldOff (off := 0) rfl Try.underlying152 rfl inf29.size (by decide) rfl) t_lt ?_
          refine adr_wval rfl (want_yes rfl rfl rfl hg4) rfl (av_load1 rfl Try.underlying29 rfl t_cell) t_lt ?_
          refine adr_wval rfl (want_yes rfl rfl rfl hg4) rfl (av_len rfl Try.underlying29) t_lt ?_
          first | refine adr_wval rfl (want_yes rfl rfl rfl hg4) rfl (av_move_sl (by first | assumption | rfl)) t_lt ?_ | refine adr_wval rfl (want_yes rfl rfl rfl hg4) rfl (av_move (by first | assumption | rfl)) t_lt ?_
          first | refine adr_wval rfl (want_yes rfl rfl rfl hg4) rfl (av_move_int (by first | assumption | rfl)) t_lt ?_ | refine adr_wval rfl (want_yes rfl rfl rfl hg4) rfl (av_move (by first | assumption | rfl)) t_lt ?_
          refine adr_wval rfl (want_yes rfl rfl rfl hg4) rfl (av_indexAddr rfl rfl Try.underlying74 inf152.size t_idx t_idx) t_lt ?_
          refine adr_wval rfl (want_yes rfl rfl rfl hg4) rfl (av_fieldOff (off := 0) rfl Try.underlying152 rfl inf29.size (by decide) rfl) t_lt ?_
          refine adr_wval rfl (want_yes rfl rfl rfl hg4) rfl (av_load1 rfl Try.underlying29 rfl t_cell) t_lt ?_
          refine adr_wval rfl (want_yes rfl rfl rfl hg4) rfl (av_len rfl Try.underlying29) t_lt ?_
          refine adr_wval rfl (want_yes rfl rfl rfl hg4) rfl (av_ne rfl rfl) t_lt ?_
          refine adr_val rfl rfl (av_pick_bool (congrArg Value.bool hg4) rfl) t_lt ?_
          refine ac_split rfl rfl ?_ ?_
          · intro hc5
            exact absurd hc5 (by simp)
          · intro hc5
            (try simp only [decide_eq_true_eq, decide_eq_false_iff_not, Bool.not_eq_true', Bool.not_eq_false'] at hc5)
            refine ac_skip ?_
            refine ac_seq ?_
            refine ac_region (by kernel_rfl) ?_
            first | refine aops_val (av_assign_int rfl) ?_ | refine aops_val (av_assign rfl) ?_
            refine ac_block ?_
            refine ac_loop (fun n t H' => ∃ (k : Nat), k ≤ xs[i].nodes.length ∧ n = xs[i].nodes.length - k ∧ H' = H.ro ∧ t 0 = .slice (some ⟨b, o, none⟩) xs.length c ∧ t 1 = .slice (some ⟨b2, o2, none⟩) xs.length c2 ∧ t 5 = .int .i64 i ∧ t 6 = .int .i64 k) (xs[i].nodes.length) (⟨0, by omega, rfl, rfl, e0, e1, e5, rfl⟩) ?_
            rintro n t _ ⟨k, hk, rfl, rfl, e0, e1, e5, e6⟩
            refine ac_seq ?_
            refine ac_seq ?_
            refine ac_region (by kernel_rfl) ?_
            first | refine aops_val (av_move_int (by first | assumption | rfl)) ?_ | refine aops_val (av_move (by first | assumption | rfl)) ?_
            first | refine aops_val (av_move_sl (by first | assumption | rfl)) ?_ | refine aops_val (av_move (by first | assumption | rfl)) ?_
            first | refine aops_val (av_move_int (by first | assumption | rfl)) ?_ | refine aops_val (av_move (by first | assumption | rfl)) ?_
            refine aops_val (av_indexAddr rfl rfl Try.underlying74 inf152.size t_idx t_idx) ?_
            refine aops_val (av_fieldOff (off := 0) rfl Try.underlying152 rfl inf29.size (by decide) rfl) ?_
            refine aops_val (av_load1 rfl Try.underlying29 rfl t_cell) ?_
            refine aops_val (av_len rfl Try.underlying29) ?_
            refine aops_val (av_lt rfl rfl) ?_
            refine ac_split rfl rfl ?_ ?_
            · intro hc6
              (try simp only [decide_eq_true_eq, decide_eq_false_iff_not, Bool.not_eq_true', Bool.not_eq_false'] at hc6)
              refine ac_skip ?_
              refine ac_seq ?_
              refine ac_block ?_
              refine ac_seq ?_
              refine ac_draw (by kernel_rfl) (reg_of (B := [0, 0, 3, 7, 15, 0, 63, 127, 0, 0, 768, 1792, 3840, 0, 16128, 32512, 65535]) (π := [0, 1, 2, 3, 4, 5, 6, 7, 8, 9, 10, 11, 12, 13, 14, 15, 16]) (by kernel_rfl)) ?_
              first | refine adr_val rfl rfl (av_move_sl (by first | assumption | rfl)) t_lt ?_ | refine adr_val rfl rfl (av_move (by first | assumption | rfl)) t_lt ?_
              first | refine adr_val rfl rfl (av_move_int (by first | assumption | rfl)) t_lt ?_ | refine adr_val rfl rfl (av_move (by first | assumption | rfl)) t_lt ?_
              refine adr_val rfl rfl (av_indexAddr rfl rfl Try.underlying74 inf152.size t_idx t_idx) t_lt ?_
              refine adr_val rfl rfl (av_fieldOff (off := 0) rfl Try.underlying152 rfl inf29.size (by decide) rfl) t_lt ?_
              refine adr_val rfl rfl (av_load1 rfl Try.underlying29 rfl t_cell) t_lt ?_
              have hkx : k < xs[i].nodes.length := by omega
              obtain ⟨b5, o5, e5', hb5, hcell5⟩ := hw.int_at (i := (k : Int)) (by omega) (by omega)
              obtain ⟨b6, o6, e6', hb6, hcell6⟩ := hw2.int_at (i := (k : Int)) (by omega) (by omega)
              subst e5' e6'
              first | refine adr_val rfl rfl (av_move_int (by first | assumption | rfl)) t_lt ?_ | refine adr_val rfl rfl (av_move (by first | assumption | rfl)) t_lt ?_
              refine adr_val rfl rfl (av_indexAddr rfl rfl Try.underlying29 inf3.size t_idx t_idx) t_lt ?_
              refine adr_val rfl rfl (av_load1 rfl Try.underlying3 rfl t_cell) t_lt ?_
              first | refine adr_val rfl rfl (av_move_sl (by first | assumption | rfl)) t_lt ?_ | refine adr_val rfl rfl (av_move (by first | assumption | rfl)) t_lt ?_
              first | refine adr_val rfl rfl (av_move_int (by first | assumption | rfl)) t_lt ?_ | refine adr_val rfl rfl (av_move (by first | assumption | rfl)) t_lt ?_
              refine adr_val rfl rfl (av_indexAddr rfl rfl Try.underlying74 inf152.size t_idx t_idx) t_lt ?_
              refine adr_val rfl rfl (av_fieldOff (off := 0) rfl Try.underlying152 rfl inf29.size (by decide) rfl) t_lt ?_
              refine adr_val rfl rfl (av_load1 rfl Try.underlying29 rfl t_cell) t_lt ?_
              first | refine adr_val rfl rfl (av_move_int (by first | assumption | rfl)) t_lt ?_ | refine adr_val rfl rfl (av_move (by first | assumption | rfl)) t_lt ?_
              refine adr_val rfl rfl (av_indexAddr rfl rfl Try.underlying29 inf3.size t_idx t_idx) t_lt ?_
              refine adr_val rfl rfl (av_load1 rfl Try.underlying3 rfl t_cell) t_lt ?_
              refine adr_val rfl rfl (av_ne rfl rfl) t_lt ?_
              refine ac_split rfl rfl ?_ ?_
              · intro hc7
                exact absurd hc7 (by simp)
              · intro hc7
                (try simp only [decide_eq_true_eq, decide_eq_false_iff_not, Bool.not_eq_true', Bool.not_eq_false'] at hc7)
                refine ac_skip ?_
                refine ac_region (by kernel_rfl) ?_
                first | refine aops_val (av_move_int (by first | assumption | rfl)) ?_ | refine aops_val (av_move (by first | assumption | rfl)) ?_
                first | refine aops_val (av_add64 rfl rfl t_fits) ?_ | refine aops_val (av_add rfl rfl) ?_
                first | refine aops_val (av_assign_int rfl) ?_ | refine aops_val (av_assign rfl) ?_
                exact ⟨xs[i].nodes.length - (k + 1), by omega, k + 1, by omega, rfl, rfl, e0, e1, e5, rfl⟩
            · intro hc6
              (try simp only [decide_eq_true_eq, decide_eq_false_iff_not, Bool.not_eq_true', Bool.not_eq_false'] at hc6)
              refine ac_exit ?_
              refine ac_region (by kernel_rfl) ?_
              first | refine aops_val (av_move_int (by first | assumption | rfl)) ?_ | refine aops_val (av_move (by first | assumption | rfl)) ?_
              first | refine aops_val (av_add64 rfl rfl t_fits) ?_ | refine aops_val (av_add rfl rfl) ?_
              first | refine aops_val (av_assign_int rfl) ?_ | refine aops_val (av_assign rfl) ?_
              exact ⟨xs.length - (i + 1), by omega, i + 1, by omega, rfl, rfl, e0, e1, rfl⟩
    · intro hc2
      (try simp only [decide_eq_true_eq, decide_eq_false_iff_not, Bool.not_eq_true', Bool.not_eq_false'] at hc2)
      refine ac_exit ?_
      refine ac_seq ?_
      refine ac_region (by kernel_rfl) ?_
      first | refine aops_val (av_assign_bool rfl) ?_ | refine aops_val (av_assign rfl) ?_
      refine ac_ret ?_
      exact ⟨.bool true, aresult1 (ares_tmp rfl), rfl⟩
theorem small_forest (f : Forest) (cs : List Value) (H : Hp) (hp : kForest.rep H f cs) : ACalls Try.prog 45 #[.agg cs.toArray] H (fun r H' => r = .bool (decide (f.vars.length < 6)) ∧ H' = H) := by
  refine ACalls.pure (R := fun r => r = .bool (decide (f.vars.length < 6))) (fun v h => by rw [h]; rfl) ?_
  obtain ⟨v0, v1, v2, v3, v4, rfl, hs0, hs1, hs2, hs3, hs4⟩ := kForest.mono H.sees_ro hp
  obtain ⟨A0, c0, rfl⟩ := hs0.shape
  obtain ⟨A1, c1, rfl⟩ := hs1.shape
  obtain ⟨A2, c2, rfl⟩ := hs2.shape
  obtain ⟨A3, c3, rfl⟩ := hs3.shape
  obtain ⟨A4, c4, rfl⟩ := hs4.shape
  refine acalls_of_code Try.func45 rfl rfl rfl (by simp) ?_
  refine ac_seq ?_
  refine ac_region (by kernel_rfl) ?_
  refine aops_make (am_box_agg rfl) ?_
  first | refine aops_val (av_assign_bool rfl) ?_ | refine aops_val (av_assign rfl) ?_
  refine ac_seq ?_
  refine ac_region (by kernel_rfl) ?_
  refine aops_val (av_fieldOff (off := 0) rfl Try.underlying62 rfl inf59.size (by decide) rfl) ?_
  refine aops_val (av_load1 rfl Try.underlying59 rfl t_cell) ?_
  refine aops_val (av_len rfl Try.underlying59) ?_
  refine aops_val (av_lt rfl rfl) ?_
  first | refine aops_val (av_assign_bool rfl) ?_ | refine aops_val (av_assign rfl) ?_
  refine ac_ret ?_
  refine ⟨.bool (decide ((f.vars.length : Int) < 6)), aresult1 (ares_tmp rfl), ?_⟩
  congr 1
  exact decide_eq_decide.2 (by omega)
end Go.Proofs.Ytnkjikpmgeknbaa.Am

namespace Go.Proofs.Ytnkjikpmgeknbaa.Am
open Go Go.RowKit
set_option maxRecDepth 100000
set_option linter.unusedVariables false
set_option linter.unusedSimpArgs false

theorem few_cost (x : Link) : x.few.cost ≤ 1000000000 := by
  unfold Link.few
  by_cases h : 1000000000 < x.cost
  · rw [if_pos h]; simp
  · rw [if_neg h]; omega
theorem fewL_cost {xs : List Link} {x : Link} (h : x ∈ fewL xs) : x.cost ≤ 1000000000 := by
  unfold fewL at h
  obtain ⟨y, _, rfl⟩ := List.mem_map.1 h
  exact few_cost y
theorem tiny_few {f : Forest} {p : Parts} (hg : GoodP f.few p.few4) (hs : f.few.vars.length < 6) : Tiny f.few p.few4 := by
  have getn : ∀ v, ∀ x ∈ nd p.few4 v, v < f.few.vars.length := fun v x hx => by
    rcases Nat.lt_or_ge v f.few.vars.length with h | h
    · exact h
    · unfold nd at hx
      rw [List.getD_eq_getElem?_getD, List.getElem?_eq_none (by have := hg.n1; omega)] at hx; simp at hx
  have getl : ∀ v, ∀ x ∈ lk p.few4 v, v < f.few.vars.length := fun v x hx => by
    rcases Nat.lt_or_ge v f.few.vars.length with h | h
    · exact h
    · unfold lk at hx
      rw [List.getD_eq_getElem?_getD, List.getElem?_eq_none (by have := hg.n2; omega)] at hx; simp at hx
  refine ⟨by omega, fun v => ?_, fun v x hx => ?_, fun v x hx => ?_⟩
  · unfold nd
    by_cases h : v < p.few4.nodes.length
    · rw [getD_list h]
      obtain ⟨l, _, e⟩ := List.mem_map.1 (show p.few4.nodes[v] ∈ (p.few.nodes.map (·.take 4)) from List.getElem_mem h)
      rw [← e, List.length_take]; omega
    · rw [List.getD_eq_getElem?_getD, List.getElem?_eq_none (by omega)]; simp
  · have hv := getn v x hx
    obtain ⟨k1, _⟩ := goodL_iff.1 (hg.ok v hv).1
    obtain ⟨a1, a2, a3, a4, a5, a6, a7⟩ := k1 x hx
    refine ⟨a5, ?_, by omega, a7⟩
    have h : v < p.few4.nodes.length := by rw [hg.n1]; exact hv
    unfold nd at hx
    rw [getD_list h] at hx
    obtain ⟨l, hl, e⟩ := List.mem_map.1 (show p.few4.nodes[v] ∈ (p.few.nodes.map (·.take 4)) from List.getElem_mem h)
    rw [← e] at hx
    obtain ⟨l2, _, rfl⟩ := List.mem_map.1 hl
    exact fewL_cost (List.mem_of_mem_take hx)
  · have hv := getl v x hx
    obtain ⟨k1, _⟩ := goodL_iff.1 (hg.ok v hv).2.1
    obtain ⟨a1, a2, a3, a4, a5, a6, a7⟩ := k1 x hx
    refine ⟨a5, ?_, by omega, a7⟩
    have h : v < p.few4.links.length := by rw [hg.n2]; exact hv
    unfold lk at hx
    rw [getD_list h] at hx
    obtain ⟨l, hl, e⟩ := List.mem_map.1 (show p.few4.links[v] ∈ ((p.links.take 8).map fewL) from List.getElem_mem h)
    rw [← e] at hx
    exact fewL_cost hx
theorem Tiny.sub {f : Forest} {p q : Parts} (h : Tiny f p) (hs : Sub q p) : Tiny f q :=
  ⟨h.vars, fun v => Nat.le_trans (hs v).1.length_le (h.nodes v), fun v x hx => h.costN v x ((hs v).1.subset hx), fun v x hx => h.costL v x ((hs v).2.subset hx)⟩
theorem sum_zero {xs : List Nat} : xs.sum = 0 ↔ ∀ x ∈ xs, x = 0 := by
  induction xs with
  | nil => simp
  | cons a xs ih => rw [List.sum_cons, Nat.add_eq_zero_iff, ih]; simp
theorem sizeP_zero (p : Parts) : sizeP p = 0 ↔ (∀ l ∈ p.nodes, l.length = 0) ∧ (∀ l ∈ p.links, l.length = 0) := by
  unfold sizeP
  rw [sum_zero]
  constructor
  · intro h
    exact ⟨fun l hl => h _ (List.mem_map.2 ⟨l, List.mem_append.2 (.inl hl), rfl⟩), fun l hl => h _ (List.mem_map.2 ⟨l, List.mem_append.2 (.inr hl), rfl⟩)⟩
  · intro ⟨h1, h2⟩ x hx
    obtain ⟨l, hl, rfl⟩ := List.mem_map.1 hx
    rcases List.mem_append.1 hl with h | h
    · exact h1 l h
    · exact h2 l h
theorem bool_iff {a b : Bool} {p q : Prop} (ha : a = true ↔ p) (hb : b = true ↔ q) (h : p ↔ q) : a = b := by
  cases a <;> cases b <;> simp_all
set_option maxHeartbeats 4000000 in
theorem ReduceRows_ok (f : Forest) (p : Parts) (cs ds : List Value) (H : Hp) (hp : kForest.rep H f cs) (hq : kParts.rep H p ds) (hbf : BigF f) (hbp : BigP p) :
    ACalls Try.prog 7 #[.agg cs.toArray, .agg ds.toArray] H (fun r H' => r = .bool true ∧ H.le H') := by
  have hp0 := hp
  have hq0 := hq
  obtain ⟨v0, v1, v2, v3, v4, rfl, hs0, hs1, hs2, hs3, hs4⟩ := hp
  obtain ⟨A0, c0, rfl⟩ := hs0.shape
  obtain ⟨A1, c1, rfl⟩ := hs1.shape
  obtain ⟨A2, c2, rfl⟩ := hs2.shape
  obtain ⟨A3, c3, rfl⟩ := hs3.shape
  obtain ⟨A4, c4, rfl⟩ := hs4.shape
  obtain ⟨u0, u1, rfl, hn0, hn1⟩ := hq
  obtain ⟨B0, d0, rfl⟩ := hn0.shape
  obtain ⟨B1, d1, rfl⟩ := hn1.shape
  have hsm := small_few f p
  have hbq := bigP_few p
  have hbg := bigF_few f
  have hpp := few4_few4 p
  have hff := ffew_ffew f
  have htn : GoodP f.few p.few4 → f.few.vars.length < 6 → Tiny f.few p.few4 := tiny_few
  obtain ⟨F, hF⟩ : ∃ F, F = f.few := ⟨_, rfl⟩
  obtain ⟨Q, hQ⟩ : ∃ Q, Q = p.few4 := ⟨_, rfl⟩
  rw [← hF, ← hQ] at hsm htn
  rw [← hQ] at hpp hbq
  rw [← hF] at hff hbg
  refine acalls_of_code Try.func7 rfl rfl rfl (by simp) ?_
  refine ac_seq ?_
  refine ac_region (by kernel_rfl) ?_
  refine aops_make (am_box_agg rfl) ?_
  refine aops_make (am_box_agg rfl) ?_
  first | refine aops_val (av_assign_bool rfl) ?_ | refine aops_val (av_assign rfl) ?_
  refine ac_seq ?_
  refine ac_draw (by kernel_rfl) (reg_of (B := [0, 1, 0, 7, 15, 31]) (π := [0, 2, 1, 3, 4, 5]) (by kernel_rfl)) ?_
  first | refine adr_val rfl rfl (av_loadN (cs := [.slice _ _ _, .slice _ _ _, .slice _ _ _, .slice _ _ _, .slice _ _ _]) rfl Try.underlying62 rfl inf62.size t_cells) t_lt ?_ | refine adr_val rfl rfl (av_loadN (cs := [_, _, _, _, _]) rfl Try.underlying62 rfl inf62.size t_cells) t_lt ?_
  first | refine adr_val rfl rfl (av_loadN (cs := [.slice _ _ _, .slice _ _ _]) rfl Try.underlying65 rfl inf65.size t_cells) t_lt ?_ | refine adr_val rfl rfl (av_loadN (cs := [_, _]) rfl Try.underlying65 rfl inf65.size t_cells) t_lt ?_
  refine adr_op rfl rfl (aop_call (Forest_28 f _ _ (kForest.mono t_sees hp0) hbf) rfl Try.func33 rfl rfl rfl ?_)
  rintro v5 H5 ⟨hle5, es, rfl, hes⟩; rw [← hF] at hes; have hf5 := hes; obtain ⟨a0, a1, a2, a3, a4, rfl, ht0, ht1, ht2, ht3, ht4⟩ := hes; obtain ⟨C0, k0, rfl⟩ := ht0.shape; obtain ⟨C1, k1, rfl⟩ := ht1.shape; obtain ⟨C2, k2, rfl⟩ := ht2.shape; obtain ⟨C3, k3, rfl⟩ := ht3.shape; obtain ⟨C4, k4, rfl⟩ := ht4.shape; have hz5 := hle5.1; simp only [Hp.push_size] at hz5
  refine ⟨t_pend, ?_⟩
  refine adr_op rfl rfl (aop_call (Few4_parts p _ _ (kParts.mono t_sees hq0) hbp.l0 hbp.l1 hbp.s0 hbp.s1) rfl Try.func34 rfl rfl rfl ?_)
  rintro v6 H6 ⟨hle6, es, rfl, hes⟩; rw [← hQ] at hes; have hq6 := hes; obtain ⟨b0, b1, rfl, hm0, hm1⟩ := hes; obtain ⟨D0, m0, rfl⟩ := hm0.shape; obtain ⟨D1, m1, rfl⟩ := hm1.shape; have hz6 := hle6.1; have hf6 := kForest.mono hle6.sees hf5; have h60 : H6.get H.size = .own 0 [.slice A0 f.vars.length c0, .slice A1 f.order.length c1, .slice A2 f.parent.length c2, .slice A3 f.links.length c3, .slice A4 f.loops.length c4] := le_got (Hp.le_trans hle5 hle6) (by simp <;> omega) (by intro e; cases e) t_get; have h61 : H6.get (H.size + 1) = .own 0 [.slice B0 p.nodes.length d0, .slice B1 p.links.length d1] := le_got (Hp.le_trans hle5 hle6) (by simp <;> omega) (by intro e; cases e) t_get
  refine ⟨t_pend, ?_⟩
  first | refine adr_op rfl rfl (aop_putN (vs := [.slice _ _ _, .slice _ _ _, .slice _ _ _, .slice _ _ _, .slice _ _ _]) rfl rfl inf62.size t_get t_room rfl rfl ?_) | refine adr_op rfl rfl (aop_putN (vs := [_, _, _, _, _]) rfl rfl inf62.size t_get t_room rfl rfl ?_)
  refine ⟨t_pend, ?_⟩
  first | refine adr_op rfl rfl (aop_putN (vs := [.slice _ _ _, .slice _ _ _]) rfl rfl inf65.size t_get t_room rfl rfl ?_) | refine adr_op rfl rfl (aop_putN (vs := [_, _]) rfl rfl inf65.size t_get t_room rfl rfl ?_)
  refine ⟨t_pend, ?_⟩
  refine ac_seq ?_
  obtain ⟨HA, hHA⟩ : ∃ HA, HA = (H6.put H.size (.own 0 [.slice C0 F.vars.length k0, .slice C1 F.order.length k1, .slice C2 F.parent.length k2, .slice C3 F.links.length k3, .slice C4 F.loops.length k4])).put (H.size + 1) (.own 0 [.slice D0 Q.nodes.length m0, .slice D1 Q.links.length m1]) := ⟨_, rfl⟩
  have g5 : H6.sees (H6.put H.size (.own 0 [.slice C0 F.vars.length k0, .slice C1 F.order.length k1, .slice C2 F.parent.length k2, .slice C3 F.links.length k3, .slice C4 F.loops.length k4])) := Hp.sees_box _ h60
  have g6 : (H6.put H.size (.own 0 [.slice C0 F.vars.length k0, .slice C1 F.order.length k1, .slice C2 F.parent.length k2, .slice C3 F.links.length k3, .slice C4 F.loops.length k4])).sees HA := by rw [hHA]; exact Hp.sees_box _ (by rw [Hp.put_other _ _ (by omega)]; exact h61)
  have fA := kForest.mono (g5.trans g6) hf6
  have qA := kParts.mono (g5.trans g6) hq6
  have leA : H.le HA := by rw [hHA]; exact Hp.le_put_new (Hp.le_put_new (Hp.le_trans (Hp.le_trans (Hp.le_push' (H.le_push _) _) hle5) hle6) (by omega) _) (by omega) _
  have zA : H.size + 2 ≤ HA.size := by rw [hHA]; simp; omega
  have A0' : HA.get H.size = .own 0 [.slice C0 F.vars.length k0, .slice C1 F.order.length k1, .slice C2 F.parent.length k2, .slice C3 F.links.length k3, .slice C4 F.loops.length k4] := by rw [hHA, Hp.put_other _ _ (by omega)]; exact Hp.put_same _ _ _
  have A1' : HA.get (H.size + 1) = .own 0 [.slice D0 Q.nodes.length m0, .slice D1 Q.links.length m1] := by rw [hHA]; exact Hp.put_same _ _ _
  change ACode true _ _ _ _ _ ((H6.put H.size (.own 0 [.slice C0 F.vars.length k0, .slice C1 F.order.length k1, .slice C2 F.parent.length k2, .slice C3 F.links.length k3, .slice C4 F.loops.length k4])).put (H.size + 1) (.own 0 [.slice D0 Q.nodes.length m0, .slice D1 Q.links.length m1]))
  rw [← hHA]
  clear hHA g5 g6 h60 h61 hf6 hq6 hle5 hle6 hz5 hz6 hf5
  refine ac_draw (by kernel_rfl) (reg_of (B := [0, 1, 0, 7, 15, 31, 63, 63, 0, 383, 1023]) (π := [0, 2, 8, 1, 3, 4, 5, 6, 7, 9, 10]) (by kernel_rfl)) ?_
  first | refine adr_val rfl rfl (av_loadN (cs := [.slice _ _ _, .slice _ _ _, .slice _ _ _, .slice _ _ _, .slice _ _ _]) rfl Try.underlying62 rfl inf62.size t_cells) t_lt ?_ | refine adr_val rfl rfl (av_loadN (cs := [_, _, _, _, _]) rfl Try.underlying62 rfl inf62.size t_cells) t_lt ?_
  first | refine adr_val rfl rfl (av_loadN (cs := [.slice _ _ _, .slice _ _ _]) rfl Try.underlying65 rfl inf65.size t_cells) t_lt ?_ | refine adr_val rfl rfl (av_loadN (cs := [_, _]) rfl Try.underlying65 rfl inf65.size t_cells) t_lt ?_
  refine adr_make rfl rfl (am_zero (l := [.slice none 0 0, .slice none 0 0]) inf65.zero rfl (by decide)) ?_
  refine adr_op rfl rfl (aop_call (Forest_28 F _ _ (kForest.mono t_sees fA) hbg) rfl Try.func33 rfl rfl rfl ?_)
  rintro v7 H7 ⟨hle7, es, rfl, hes⟩; rw [hff] at hes; have f7 := hes; obtain ⟨a5, a6, a7, a8, a9, rfl, hu0, hu1, hu2, hu3, hu4⟩ := hes; obtain ⟨E0, l0, rfl⟩ := hu0.shape; obtain ⟨E1, l1, rfl⟩ := hu1.shape; obtain ⟨E2, l2, rfl⟩ := hu2.shape; obtain ⟨E3, l3, rfl⟩ := hu3.shape; obtain ⟨E4, l4, rfl⟩ := hu4.shape; have hz7 := hle7.1; simp only [Hp.push_size] at hz7
  refine ⟨t_pend, ?_⟩
  refine adr_op rfl rfl (aop_call (Few4_parts Q _ _ (kParts.mono (Hp.sees.trans (Hp.le_push _ _).sees hle7.sees) qA) hbq.l0 hbq.l1 hbq.s0 hbq.s1) rfl Try.func34 rfl rfl rfl ?_)
  rintro v8 H8 ⟨hle8, es, rfl, hes⟩; rw [hpp] at hes; have q8 := hes; obtain ⟨b2, b3, rfl, hm2, hm3⟩ := hes; obtain ⟨D2, m2, rfl⟩ := hm2.shape; obtain ⟨D3, m3, rfl⟩ := hm3.shape; have hz8 := hle8.1; have h85 : H8.get HA.size = .own 0 [.slice none 0 0, .slice none 0 0] := le_got (Hp.le_trans hle7 hle8) (by simp) (by intro e; cases e) t_get
  refine ⟨t_pend, ?_⟩
  refine adr_op rfl rfl (aop_call (Of_parts F Q _ _ _ (kForest.mono hle8.sees f7) q8 hsm) rfl Try.func35 rfl rfl rfl ?_)
  rintro v9 H9 ⟨g, es, hg, rfl, hes, hle9⟩; have x9 := hes; obtain ⟨b4, b5, rfl, hm4, hm5⟩ := hes; obtain ⟨D4, m4, rfl⟩ := hm4.shape; obtain ⟨D5, m5, rfl⟩ := hm5.shape; have le79 := Hp.le_trans hle7 (Hp.le_trans hle8 hle9); have h95 : H9.get HA.size = .own 0 [.slice none 0 0, .slice none 0 0] := le_got le79 (by simp) (by intro e; cases e) t_get
  refine ⟨t_pend, ?_⟩
  refine adr_val rfl rfl (av_move rfl) t_lt ?_
  refine adr_val rfl rfl (av_extract rfl rfl) t_lt ?_
  refine adr_val rfl rfl (av_extract rfl rfl) t_lt ?_
  first | refine adr_op rfl rfl (aop_putN (vs := [.slice _ _ _, .slice _ _ _]) rfl rfl inf65.size t_get t_room rfl rfl ?_) | refine adr_op rfl rfl (aop_putN (vs := [_, _]) rfl rfl inf65.size t_get t_room rfl rfl ?_)
  refine ⟨t_pend, ?_⟩
  first | refine adr_val rfl rfl (av_assign_int rfl) t_lt ?_ | refine adr_val rfl rfl (av_assign rfl) t_lt ?_
  refine ac_seq ?_
  refine ac_seq ?_
  obtain ⟨HB, hHB⟩ : ∃ HB, HB = H9.put HA.size (.own 0 [.slice D4 (if g = true then ofP F Q else noParts).nodes.length m4, .slice D5 (if g = true then ofP F Q else noParts).links.length m5]) := ⟨_, rfl⟩
  have leAB : HA.le HB := by rw [hHB]; exact Hp.le_put_new (Hp.le_trans (Hp.le_push _ _) le79) (Nat.le_refl _) _
  have leB := Hp.le_trans leA leAB
  have zB : HA.size + 1 ≤ HB.size := by rw [hHB]; have := le79.1; simp at *; omega
  have fB := kForest.mono leAB.sees fA
  have qB := kParts.mono leAB.sees qA
  have sB : H9.sees HB := by rw [hHB]; exact Hp.sees_box _ h95
  have xB := kParts.mono sB x9
  have B0' := le_got leAB (by omega) (by intro e; cases e) A0'
  have B1' := le_got leAB (by omega) (by intro e; cases e) A1'
  have B5' : HB.get HA.size = .own 0 [.slice D4 (if g = true then ofP F Q else noParts).nodes.length m4, .slice D5 (if g = true then ofP F Q else noParts).links.length m5] := by rw [hHB]; exact Hp.put_same _ _ _
  change ACode true _ _ _ _ _ (H9.put HA.size (.own 0 [.slice D4 (if g = true then ofP F Q else noParts).nodes.length m4, .slice D5 (if g = true then ofP F Q else noParts).links.length m5]))
  rw [← hHB]
  clear hHB le79 hle7 hle8 hle9
  refine ac_region (by kernel_rfl) ?_
  first | refine aops_val (av_loadN (cs := [.slice _ _ _, .slice _ _ _, .slice _ _ _, .slice _ _ _, .slice _ _ _]) rfl Try.underlying62 rfl inf62.size t_cells) ?_ | refine aops_val (av_loadN (cs := [_, _, _, _, _]) rfl Try.underlying62 rfl inf62.size t_cells) ?_
  first | refine aops_val (av_loadN (cs := [.slice _ _ _, .slice _ _ _]) rfl Try.underlying65 rfl inf65.size t_cells) ?_ | refine aops_val (av_loadN (cs := [_, _]) rfl Try.underlying65 rfl inf65.size t_cells) ?_
  refine aops_op (aop_call (GoodP_ref F Q _ _ _ fB qB hsm) rfl Try.func36 rfl rfl rfl ?_)
  rintro v13 HB ⟨⟨g2, rfl, hg2⟩, rfl⟩
  refine aops_val (av_not rfl) ?_
  refine ac_split rfl rfl ?_ ?_
  · intro hc1
    obtain rfl : g2 = false := by simpa using hc1
    have hbad : ¬ GoodP F Q := fun h => by have := hg2.2 h; cases this
    obtain rfl : g = false := by cases g with | false => rfl | true => exact absurd (hg.1 rfl) hbad
    refine ac_seq ?_
    refine ac_region (by kernel_rfl) ?_
    first | refine aops_val (av_loadN (cs := [.slice _ _ _, .slice _ _ _]) rfl Try.underlying65 rfl inf65.size t_cells) ?_ | refine aops_val (av_loadN (cs := [_, _]) rfl Try.underlying65 rfl inf65.size t_cells) ?_
    first | refine aops_val (av_build (pl := [(0, 1), (1, 1)]) (r := [.slice _ _ _, .slice _ _ _]) Try.underlying65 inf65.zero (by decide) rfl rfl) ?_ | refine aops_val (av_build (pl := [(0, 1), (1, 1)]) (r := [_, _]) Try.underlying65 inf65.zero (by decide) rfl rfl) ?_
    refine aops_op (aop_call (Same_true noParts noParts _ [_, _] _ xB (noParts_rep _) (by simp [noParts]) (by simp [noParts]) (by simp [noParts]) (by simp [noParts]) rfl) rfl Try.func38 rfl rfl rfl ?_)
    rintro v14 HB ⟨rfl, rfl⟩
    first | refine aops_val (av_move_bool rfl) ?_ | refine aops_val (av_move rfl) ?_
    refine aops_guard rfl rfl rfl ?_ ?_
    · intro hg2
      have hp2 := hg2; try simp only [decide_eq_true_eq, decide_eq_false_iff_not, Bool.not_eq_true', Bool.not_eq_false'] at hp2
      first | refine aops_wval (want_yes rfl rfl rfl hg2) (av_move_int rfl) ?_ | refine aops_wval (want_yes rfl rfl rfl hg2) (av_move rfl) ?_
      refine aops_wval (want_yes rfl rfl rfl hg2) (av_eq rfl rfl) ?_
      refine aops_val (av_pick_bool (congrArg Value.bool hg2) rfl) ?_
      first | refine aops_val (av_move_bool rfl) ?_ | refine aops_val (av_move rfl) ?_
      refine aops_guard rfl rfl rfl ?_ ?_
      · intro hg3
        have hp3 := hg3; try simp only [decide_eq_true_eq, decide_eq_false_iff_not, Bool.not_eq_true', Bool.not_eq_false'] at hp3
        first | refine aops_wval (want_yes rfl rfl rfl hg3) (av_loadN (cs := [.slice _ _ _, .slice _ _ _, .slice _ _ _, .slice _ _ _, .slice _ _ _]) rfl Try.underlying62 rfl inf62.size t_cells) ?_ | refine aops_wval (want_yes rfl rfl rfl hg3) (av_loadN (cs := [_, _, _, _, _]) rfl Try.underlying62 rfl inf62.size t_cells) ?_
        first | refine aops_wval (want_yes rfl rfl rfl hg3) (av_loadN (cs := [.slice _ _ _, .slice _ _ _]) rfl Try.underlying65 rfl inf65.size t_cells) ?_ | refine aops_wval (want_yes rfl rfl rfl hg3) (av_loadN (cs := [_, _]) rfl Try.underlying65 rfl inf65.size t_cells) ?_
        refine aops_want (want_yes rfl rfl rfl hg3) (aop_call (Is_parts F Q _ _ _ fB qB hsm) rfl Try.func39 rfl rfl rfl ?_)
        rintro v15 HB ⟨⟨g4, rfl, hg4⟩, rfl⟩; obtain rfl : g4 = false := (by cases g4 with | false => rfl | true => exact absurd (hg4.1 rfl).1 hbad)
        refine aops_wval (want_yes rfl rfl rfl hg3) (av_not rfl) ?_
        refine aops_val (av_pick_bool (congrArg Value.bool hg3) rfl) ?_
        first | refine aops_val (av_move_bool rfl) ?_ | refine aops_val (av_move rfl) ?_
        refine aops_guard rfl rfl rfl ?_ ?_
        · intro hg4
          have hp4 := hg4; try simp only [decide_eq_true_eq, decide_eq_false_iff_not, Bool.not_eq_true', Bool.not_eq_false'] at hp4
          first | refine aops_wval (want_yes rfl rfl rfl hg4) (av_loadN (cs := [.slice _ _ _, .slice _ _ _, .slice _ _ _, .slice _ _ _, .slice _ _ _]) rfl Try.underlying62 rfl inf62.size t_cells) ?_ | refine aops_wval (want_yes rfl rfl rfl hg4) (av_loadN (cs := [_, _, _, _, _]) rfl Try.underlying62 rfl inf62.size t_cells) ?_
          first | refine aops_wval (want_yes rfl rfl rfl hg4) (av_loadN (cs := [.slice _ _ _, .slice _ _ _]) rfl Try.underlying65 rfl inf65.size t_cells) ?_ | refine aops_wval (want_yes rfl rfl rfl hg4) (av_loadN (cs := [_, _]) rfl Try.underlying65 rfl inf65.size t_cells) ?_
          refine aops_want (want_yes rfl rfl rfl hg4) (aop_call (None_parts F Q _ _ _ fB qB hsm) rfl Try.func44 rfl rfl rfl ?_)
          rintro v16 HB ⟨⟨g5, rfl, hg5⟩, rfl⟩; obtain rfl : g5 = false := (by cases g5 with | false => rfl | true => exact absurd (hg5.1 rfl).1 hbad)
          refine aops_wval (want_yes rfl rfl rfl hg4) (av_not rfl) ?_
          refine aops_val (av_pick_bool (congrArg Value.bool hg4) rfl) ?_
          first | refine aops_val (av_move_bool rfl) ?_ | refine aops_val (av_move rfl) ?_
          refine aops_guard rfl rfl rfl ?_ ?_
          · intro hg5
            have hp5 := hg5; try simp only [decide_eq_true_eq, decide_eq_false_iff_not, Bool.not_eq_true', Bool.not_eq_false'] at hp5
            refine aops_want (want_yes rfl rfl rfl hg5) (aop_call (lives28_ok _) rfl Try.func37 rfl rfl rfl ?_)
            rintro v H' ⟨rfl, hlv⟩
            refine aops_val (av_pick_bool (congrArg Value.bool hg5) rfl) ?_
            first | refine aops_val (av_assign_bool rfl) ?_ | refine aops_val (av_assign rfl) ?_
            refine ac_ret ?_
            exact ⟨.bool true, aresult1 (ares_tmp rfl), rfl, Hp.le_trans leB hlv⟩
          · intro hg5
            exact absurd hg5 (by decide)
        · intro hg4
          exact absurd hg4 (by decide)
      · intro hg3
        exact absurd hg3 (by decide)
    · intro hg2
      exact absurd hg2 (by decide)
  · intro hc1
    obtain rfl : g2 = true := by simpa using hc1
    have hG := hg2.1 rfl
    obtain rfl : g = true := hg.2 hG
    obtain ⟨k1, k2, k3, k4⟩ := ofP_all hG
    have hX := ofP_good hG
    have hsx := small_sub hsm k1 k2
    simp only [if_true] at xB B5'
    have hrows := rows_same hG
    have hwant := refOf_eq hG
    have hnone := none_left hG
    obtain ⟨X, hXe⟩ : ∃ X, X = ofP F Q := ⟨_, rfl⟩
    rw [← hXe] at hX hsx xB B5' hrows hwant hnone k2
    refine ac_skip ?_
    refine ac_seq ?_
    refine ac_seq ?_
    refine ac_region (by kernel_rfl) ?_
    first | refine aops_val (av_loadN (cs := [.slice _ _ _, .slice _ _ _, .slice _ _ _, .slice _ _ _, .slice _ _ _]) rfl Try.underlying62 rfl inf62.size t_cells) ?_ | refine aops_val (av_loadN (cs := [_, _, _, _, _]) rfl Try.underlying62 rfl inf62.size t_cells) ?_
    refine aops_op (aop_call (small_forest F _ _ fB) rfl Try.func45 rfl rfl rfl ?_)
    rintro v17 HB ⟨rfl, rfl⟩
    refine aops_val (av_not rfl) ?_
    refine ac_split rfl rfl ?_ ?_
    · intro hc6
      (try simp only [decide_eq_true_eq, decide_eq_false_iff_not, Bool.not_eq_true', Bool.not_eq_false'] at hc6)
      refine ac_seq ?_
      refine ac_region (by kernel_rfl) ?_
      first | refine aops_val (av_move_int rfl) ?_ | refine aops_val (av_move rfl) ?_
      refine aops_val (av_eq rfl rfl) ?_
      first | refine aops_val (av_move_bool rfl) ?_ | refine aops_val (av_move rfl) ?_
      refine aops_guard rfl rfl rfl ?_ ?_
      · intro hg7
        have hp7 := hg7; try simp only [decide_eq_true_eq, decide_eq_false_iff_not, Bool.not_eq_true', Bool.not_eq_false'] at hp7
        refine aops_want (want_yes rfl rfl rfl hg7) (aop_call (lives28_ok _) rfl Try.func37 rfl rfl rfl ?_)
        rintro v H' ⟨rfl, hlv⟩
        refine aops_val (av_pick_bool (congrArg Value.bool hg7) rfl) ?_
        first | refine aops_val (av_assign_bool rfl) ?_ | refine aops_val (av_assign rfl) ?_
        refine ac_ret ?_
        exact ⟨.bool true, aresult1 (ares_tmp rfl), rfl, Hp.le_trans leB hlv⟩
      · intro hg7
        exact absurd hg7 (by decide)
    · intro hc6
      have hlt : F.vars.length < 6 := by simpa using hc6
      have ht := htn hG hlt
      refine ac_skip ?_
      refine ac_seq ?_
      refine ac_region (by kernel_rfl) ?_
      first | refine aops_val (av_loadN (cs := [.slice _ _ _, .slice _ _ _, .slice _ _ _, .slice _ _ _, .slice _ _ _]) rfl Try.underlying62 rfl inf62.size t_cells) ?_ | refine aops_val (av_loadN (cs := [_, _, _, _, _]) rfl Try.underlying62 rfl inf62.size t_cells) ?_
      first | refine aops_val (av_loadN (cs := [.slice _ _ _, .slice _ _ _]) rfl Try.underlying65 rfl inf65.size t_cells) ?_ | refine aops_val (av_loadN (cs := [_, _]) rfl Try.underlying65 rfl inf65.size t_cells) ?_
      refine aops_op (aop_call (Of_ref F Q _ _ _ fB qB hG hsm ht) rfl Try.func46 rfl rfl rfl ?_)
      rintro v18 H18 ⟨G18, N18, L18, hle18, rfl, hpp18⟩; rw [hwant] at hpp18; have hleC18 := Hp.le_trans hle18 hpp18.le; obtain ⟨D8, m8, rfl⟩ := hpp18.slN.shape; obtain ⟨D9, m9, rfl⟩ := hpp18.slL.shape
      refine aops_make (am_zero (l := [.slice none 0 0, .slice none 0 0]) inf65.zero rfl (by decide)) ?_
      first | refine aops_op (aop_putN (vs := [.slice _ _ _, .slice _ _ _]) rfl rfl inf65.size t_get t_room rfl rfl ?_) | refine aops_op (aop_putN (vs := [_, _]) rfl rfl inf65.size t_get t_room rfl rfl ?_)
      refine ac_seq ?_
      obtain ⟨HC', hHC⟩ : ∃ HC', HC' = (H18.push (.own 0 [.slice none 0 0, .slice none 0 0])).put H18.size (.own 0 [.slice D8 X.nodes.length m8, .slice D9 X.links.length m9]) := ⟨_, rfl⟩
      have le18 : H18.le HC' := by rw [hHC]; exact Hp.le_put_new (H18.le_push _) (Nat.le_refl _) _
      have leBC := Hp.le_trans hleC18 le18
      have leC := Hp.le_trans leB leBC
      have z18 := hleC18.1
      have zC : HC'.size = H18.size + 1 := by rw [hHC]; simp
      have fC := kForest.mono leBC.sees fB
      have qC := kParts.mono leBC.sees qB
      have xC := kParts.mono leBC.sees xB
      have wC : kParts.rep HC' X [.slice D8 X.nodes.length m8, .slice D9 X.links.length m9] := ⟨_, _, rfl, hpp18.slN.mono le18.sees, hpp18.slL.mono le18.sees⟩
      have C0' := le_got leBC (by omega) (by intro e; cases e) B0'
      have C1' := le_got leBC (by omega) (by intro e; cases e) B1'
      have C5' := le_got leBC (by omega) (by intro e; cases e) B5'
      have C7' : HC'.get H18.size = .own 0 [.slice D8 X.nodes.length m8, .slice D9 X.links.length m9] := by rw [hHC]; exact Hp.put_same _ _ _
      change ACode true _ _ _ _ _ ((H18.push (.own 0 [.slice none 0 0, .slice none 0 0])).put H18.size (.own 0 [.slice D8 X.nodes.length m8, .slice D9 X.links.length m9]))
      rw [← hHC]
      clear hHC
      refine ac_region (by kernel_rfl) ?_
      refine aops_val (av_fieldOff (off := 0) rfl Try.underlying62 rfl inf59.size (by decide) rfl) ?_
      refine aops_val (av_load1 rfl Try.underlying59 rfl t_cell) ?_
      refine aops_val (av_len rfl Try.underlying59) ?_
      refine aops_val (av_gt rfl rfl) ?_
      first | refine aops_val (av_move_bool rfl) ?_ | refine aops_val (av_move rfl) ?_
      refine aops_guard rfl rfl rfl ?_ ?_
      · intro hg8
        have hpos : 0 < F.vars.length := by have := of_decide_eq_true hg8; omega
        first | refine aops_wval (want_yes rfl rfl rfl hg8) (av_loadN (cs := [.slice _ _ _, .slice _ _ _, .slice _ _ _, .slice _ _ _, .slice _ _ _]) rfl Try.underlying62 rfl inf62.size t_cells) ?_ | refine aops_wval (want_yes rfl rfl rfl hg8) (av_loadN (cs := [_, _, _, _, _]) rfl Try.underlying62 rfl inf62.size t_cells) ?_
        first | refine aops_wval (want_yes rfl rfl rfl hg8) (av_loadN (cs := [.slice _ _ _, .slice _ _ _]) rfl Try.underlying65 rfl inf65.size t_cells) ?_ | refine aops_wval (want_yes rfl rfl rfl hg8) (av_loadN (cs := [_, _]) rfl Try.underlying65 rfl inf65.size t_cells) ?_
        refine aops_want (want_yes rfl rfl rfl hg8) (aop_call (Rows_ref F Q _ _ _ fC qC hG hsm ht) rfl Try.func47 rfl rfl rfl ?_)
        rintro v19 H19 ⟨hle19, hsr19⟩; obtain ⟨D19, m19, rfl⟩ := hsr19.shape
        refine aops_wval (want_yes rfl rfl rfl hg8) (av_len rfl Try.underlying74) ?_
        refine aops_wval (want_yes rfl rfl rfl hg8) (av_eq rfl rfl) ?_
        refine aops_val (av_pick_bool (congrArg Value.bool hg8) rfl) ?_
        first | refine aops_val (av_assign_bool rfl) ?_ | refine aops_val (av_assign rfl) ?_
        refine ac_seq ?_
        first
          | (obtain ⟨HD, hHD⟩ : ∃ HD, HD = H19 := ⟨_, rfl⟩
             have leCD : HC'.le HD := by rw [hHD]; exact hle19
             rw [← hHD])
          | (obtain ⟨HD, hHD⟩ : ∃ HD, HD = HC' := ⟨_, rfl⟩
             have leCD : HC'.le HD := by rw [hHD]; exact Hp.le_refl _
             rw [← hHD])
        have zCD := leCD.1
        have leD := Hp.le_trans leC leCD
        have fD := kForest.mono leCD.sees fC
        have qD := kParts.mono leCD.sees qC
        have xD := kParts.mono leCD.sees xC
        have wD := kParts.mono leCD.sees wC
        have D0' := le_got leCD (by omega) (by intro e; cases e) C0'
        have D1' := le_got leCD (by omega) (by intro e; cases e) C1'
        have D5' := le_got leCD (by omega) (by intro e; cases e) C5'
        have D7' := le_got leCD (by omega) (by intro e; cases e) C7'
        refine ac_draw (by kernel_rfl) (reg_of (B := [0, 1, 3, 7, 7, 31, 63, 127, 255, 255, 1023, 255, 255, 8191, 16383, 32767, 65535, 131071, 262143, 131071, 1048575, 2097151, 131071, 131071, 16777215, 33554431, 67108863, 134217727, 268435455, 536870911, 268435455, 2147483647, 4294967295, 268435455, 17179869183, 34359738367, 68719476735, 137438953471, 274877906943, 549755813887]) (π := [0, 1, 2, 3, 4, 5, 6, 7, 8, 9, 11, 12, 10, 13, 14, 15, 16, 17, 19, 22, 23, 18, 20, 21, 24, 25, 26, 27, 28, 30, 33, 29, 31, 32, 34, 35, 36, 37, 38, 39]) (by kernel_rfl)) ?_
        first | refine adr_val rfl rfl (av_move_int rfl) t_lt ?_ | refine adr_val rfl rfl (av_move rfl) t_lt ?_
        refine adr_val rfl rfl (av_eq rfl rfl) t_lt ?_
        first | refine adr_val rfl rfl (av_move_bool rfl) t_lt ?_ | refine adr_val rfl rfl (av_move rfl) t_lt ?_
        refine adr_guard rfl rfl rfl rfl ?_ ?_
        · intro hg9
          have hp9 := hg9; try simp only [decide_eq_true_eq, decide_eq_false_iff_not, Bool.not_eq_true', Bool.not_eq_false'] at hp9
          first | refine adr_wval rfl (want_yes rfl rfl rfl hg9) rfl (av_loadN (cs := [.slice _ _ _, .slice _ _ _]) rfl Try.underlying65 rfl inf65.size t_cells) t_lt ?_ | refine adr_wval rfl (want_yes rfl rfl rfl hg9) rfl (av_loadN (cs := [_, _]) rfl Try.underlying65 rfl inf65.size t_cells) t_lt ?_
          first | refine adr_wval rfl (want_yes rfl rfl rfl hg9) rfl (av_loadN (cs := [.slice _ _ _, .slice _ _ _]) rfl Try.underlying65 rfl inf65.size t_cells) t_lt ?_ | refine adr_wval rfl (want_yes rfl rfl rfl hg9) rfl (av_loadN (cs := [_, _]) rfl Try.underlying65 rfl inf65.size t_cells) t_lt ?_
          refine adr_wop rfl (want_yes rfl rfl rfl hg9) rfl (aop_call (Same_true X X _ _ _ xD wD hsx.s3 hsx.s4 hsx.s5 hsx.s6 rfl) rfl Try.func38 rfl rfl rfl ?_)
          rintro v20 HD ⟨rfl, rfl⟩
          refine ⟨t_pend, ?_⟩
          refine adr_val rfl rfl (av_pick_bool (congrArg Value.bool hg9) rfl) t_lt ?_
          first | refine adr_val rfl rfl (av_move_bool rfl) t_lt ?_ | refine adr_val rfl rfl (av_move rfl) t_lt ?_
          refine adr_guard rfl rfl rfl rfl ?_ ?_
          · intro hg10
            have hp10 := hg10; try simp only [decide_eq_true_eq, decide_eq_false_iff_not, Bool.not_eq_true', Bool.not_eq_false'] at hp10
            first | refine adr_wval rfl (want_yes rfl rfl rfl hg10) rfl (av_loadN (cs := [.slice _ _ _, .slice _ _ _, .slice _ _ _, .slice _ _ _, .slice _ _ _]) rfl Try.underlying62 rfl inf62.size t_cells) t_lt ?_ | refine adr_wval rfl (want_yes rfl rfl rfl hg10) rfl (av_loadN (cs := [_, _, _, _, _]) rfl Try.underlying62 rfl inf62.size t_cells) t_lt ?_
            first | refine adr_wval rfl (want_yes rfl rfl rfl hg10) rfl (av_loadN (cs := [.slice _ _ _, .slice _ _ _]) rfl Try.underlying65 rfl inf65.size t_cells) t_lt ?_ | refine adr_wval rfl (want_yes rfl rfl rfl hg10) rfl (av_loadN (cs := [_, _]) rfl Try.underlying65 rfl inf65.size t_cells) t_lt ?_
            first | refine adr_wval rfl (want_yes rfl rfl rfl hg10) rfl (av_loadN (cs := [.slice _ _ _, .slice _ _ _, .slice _ _ _, .slice _ _ _, .slice _ _ _]) rfl Try.underlying62 rfl inf62.size t_cells) t_lt ?_ | refine adr_wval rfl (want_yes rfl rfl rfl hg10) rfl (av_loadN (cs := [_, _, _, _, _]) rfl Try.underlying62 rfl inf62.size t_cells) t_lt ?_
            first | refine adr_wval rfl (want_yes rfl rfl rfl hg10) rfl (av_loadN (cs := [.slice _ _ _, .slice _ _ _]) rfl Try.underlying65 rfl inf65.size t_cells) t_lt ?_ | refine adr_wval rfl (want_yes rfl rfl rfl hg10) rfl (av_loadN (cs := [_, _]) rfl Try.underlying65 rfl inf65.size t_cells) t_lt ?_
            refine adr_wop rfl (want_yes rfl rfl rfl hg10) rfl (aop_call (Rows_ref F X _ _ _ fD xD hX hsx (ht.sub k2)) rfl Try.func47 rfl rfl rfl ?_)
            rintro v21 H21 ⟨hle21, hsr21⟩; rw [hrows] at hsr21; have z21 := hle21.1; have Z210' := le_got hle21 (by omega) (by intro e; cases e) D0'; have Z211' := le_got hle21 (by omega) (by intro e; cases e) D1'; have Z215' := le_got hle21 (by omega) (by intro e; cases e) D5'; have Z217' := le_got hle21 (by omega) (by intro e; cases e) D7'; obtain ⟨D21, m21, rfl⟩ := hsr21.shape
            refine ⟨t_pend, ?_⟩
            refine adr_wop rfl (want_yes rfl rfl rfl hg10) rfl (aop_call (Rows_ref F Q _ _ _ (kForest.mono hle21.sees fD) (kParts.mono hle21.sees qD) hG hsm ht) rfl Try.func47 rfl rfl rfl ?_)
            rintro v22 H22 ⟨hle22, hsr22⟩; have z22 := hle22.1; have Z220' := le_got hle22 (by omega) (by intro e; cases e) Z210'; have Z221' := le_got hle22 (by omega) (by intro e; cases e) Z211'; have Z225' := le_got hle22 (by omega) (by intro e; cases e) Z215'; have Z227' := le_got hle22 (by omega) (by intro e; cases e) Z217'; have le22 := Hp.le_trans hle21 hle22; obtain ⟨D22, m22, rfl⟩ := hsr22.shape
            refine ⟨t_pend, ?_⟩
            refine adr_wop rfl (want_yes rfl rfl rfl hg10) rfl (aop_call (Same_rows (rowsP F Q) _ _ _ (hsr21.mono hle22.sees) hsr22 (by have := rowsK_len ht F.order.length; have h4 := Nat.pow_le_pow_right (n := 4) (by omega) (by have := hG.gf.l1; omega : F.order.length ≤ 5); show (rowsK F Q F.order.length).length ≤ _; omega) (fun r hr => by have := (rowsK_ok ht F.order.length r hr).len; have := hG.gf.l1; omega)) rfl Try.func48 rfl rfl rfl ?_)
            rintro v23 H22 ⟨rfl, rfl⟩
            refine ⟨t_pend, ?_⟩
            refine adr_val rfl rfl (av_pick_bool (congrArg Value.bool hg10) rfl) t_lt ?_
            first | refine adr_val rfl rfl (av_move_bool rfl) t_lt ?_ | refine adr_val rfl rfl (av_move rfl) t_lt ?_
            refine adr_guard rfl rfl rfl rfl ?_ ?_
            · intro hg11
              have hp11 := hg11; try simp only [decide_eq_true_eq, decide_eq_false_iff_not, Bool.not_eq_true', Bool.not_eq_false'] at hp11
              first | refine adr_wval rfl (want_yes rfl rfl rfl hg11) rfl (av_loadN (cs := [.slice _ _ _, .slice _ _ _, .slice _ _ _, .slice _ _ _, .slice _ _ _]) rfl Try.underlying62 rfl inf62.size t_cells) t_lt ?_ | refine adr_wval rfl (want_yes rfl rfl rfl hg11) rfl (av_loadN (cs := [_, _, _, _, _]) rfl Try.underlying62 rfl inf62.size t_cells) t_lt ?_
              first | refine adr_wval rfl (want_yes rfl rfl rfl hg11) rfl (av_loadN (cs := [.slice _ _ _, .slice _ _ _]) rfl Try.underlying65 rfl inf65.size t_cells) t_lt ?_ | refine adr_wval rfl (want_yes rfl rfl rfl hg11) rfl (av_loadN (cs := [_, _]) rfl Try.underlying65 rfl inf65.size t_cells) t_lt ?_
              first | refine adr_wval rfl (want_yes rfl rfl rfl hg11) rfl (av_loadN (cs := [.slice _ _ _, .slice _ _ _]) rfl Try.underlying65 rfl inf65.size t_cells) t_lt ?_ | refine adr_wval rfl (want_yes rfl rfl rfl hg11) rfl (av_loadN (cs := [_, _]) rfl Try.underlying65 rfl inf65.size t_cells) t_lt ?_
              first | refine adr_wval rfl (want_yes rfl rfl rfl hg11) rfl (av_loadN (cs := [.slice _ _ _, .slice _ _ _]) rfl Try.underlying65 rfl inf65.size t_cells) t_lt ?_ | refine adr_wval rfl (want_yes rfl rfl rfl hg11) rfl (av_loadN (cs := [_, _]) rfl Try.underlying65 rfl inf65.size t_cells) t_lt ?_
              refine adr_wop rfl (want_yes rfl rfl rfl hg11) rfl (aop_call (Forest_28 F _ _ (kForest.mono le22.sees fD) hbg) rfl Try.func33 rfl rfl rfl ?_)
              rintro v24 H24 ⟨hle24, es, rfl, hes⟩; rw [hff] at hes; have f24 := hes; obtain ⟨a240, a241, a242, a243, a244, rfl, hu240, hu241, hu242, hu243, hu244⟩ := hes; obtain ⟨E240, l240, rfl⟩ := hu240.shape; obtain ⟨E241, l241, rfl⟩ := hu241.shape; obtain ⟨E242, l242, rfl⟩ := hu242.shape; obtain ⟨E243, l243, rfl⟩ := hu243.shape; obtain ⟨E244, l244, rfl⟩ := hu244.shape; have z24 := hle24.1; have Z240' := le_got hle24 (by omega) (by intro e; cases e) Z220'; have Z241' := le_got hle24 (by omega) (by intro e; cases e) Z221'; have Z245' := le_got hle24 (by omega) (by intro e; cases e) Z225'; have Z247' := le_got hle24 (by omega) (by intro e; cases e) Z227'; have le24 := Hp.le_trans le22 hle24
              refine ⟨t_pend, ?_⟩
              refine adr_wop rfl (want_yes rfl rfl rfl hg11) rfl (aop_call (Few4_parts Q _ _ (kParts.mono le24.sees qD) hbq.l0 hbq.l1 hbq.s0 hbq.s1) rfl Try.func34 rfl rfl rfl ?_)
              rintro v25 H25 ⟨hle25, es, rfl, hes⟩; rw [hpp] at hes; have q25 := hes; obtain ⟨b250, b251, rfl, hm250, hm251⟩ := hes; obtain ⟨D250, m250, rfl⟩ := hm250.shape; obtain ⟨D251, m251, rfl⟩ := hm251.shape; have z25 := hle25.1; have Z250' := le_got hle25 (by omega) (by intro e; cases e) Z240'; have Z251' := le_got hle25 (by omega) (by intro e; cases e) Z241'; have Z255' := le_got hle25 (by omega) (by intro e; cases e) Z245'; have Z257' := le_got hle25 (by omega) (by intro e; cases e) Z247'; have le25 := Hp.le_trans le24 hle25
              refine ⟨t_pend, ?_⟩
              refine adr_wop rfl (want_yes rfl rfl rfl hg11) rfl (aop_call (Is_parts F Q _ _ _ (kForest.mono hle25.sees f24) q25 hsm) rfl Try.func39 rfl rfl rfl ?_)
              rintro v26 H25 ⟨⟨g6, rfl, hg6⟩, rfl⟩
              refine ⟨t_pend, ?_⟩
              refine adr_wop rfl (want_yes rfl rfl rfl hg11) rfl (aop_call (Same_parts X Q _ _ _ (kParts.mono le25.sees wD) (kParts.mono le25.sees qD) hsx.s3 hsx.s4 hsx.s5 hsx.s6) rfl Try.func38 rfl rfl rfl ?_)
              rintro v27 H25 ⟨⟨g7, rfl, hg7⟩, rfl⟩; obtain rfl : g6 = g7 := bool_iff hg6 hg7 ⟨fun h => by rw [hXe]; exact h.2, fun h => ⟨hG, by rw [← hXe]; exact h⟩⟩
              refine ⟨t_pend, ?_⟩
              refine adr_wval rfl (want_yes rfl rfl rfl hg11) rfl (av_beq rfl rfl Try.underlying4) t_lt ?_
              refine adr_val rfl rfl (av_pick_bool (congrArg Value.bool hg11) rfl) t_lt ?_
              first | refine adr_val rfl rfl (av_move_bool rfl) t_lt ?_ | refine adr_val rfl rfl (av_move rfl) t_lt ?_
              refine adr_guard rfl rfl rfl rfl ?_ ?_
              · intro hg12
                have hp12 := hg12; try simp only [decide_eq_true_eq, decide_eq_false_iff_not, Bool.not_eq_true', Bool.not_eq_false'] at hp12
                first | refine adr_wval rfl (want_yes rfl rfl rfl hg12) rfl (av_loadN (cs := [.slice _ _ _, .slice _ _ _, .slice _ _ _, .slice _ _ _, .slice _ _ _]) rfl Try.underlying62 rfl inf62.size t_cells) t_lt ?_ | refine adr_wval rfl (want_yes rfl rfl rfl hg12) rfl (av_loadN (cs := [_, _, _, _, _]) rfl Try.underlying62 rfl inf62.size t_cells) t_lt ?_
                first | refine adr_wval rfl (want_yes rfl rfl rfl hg12) rfl (av_loadN (cs := [.slice _ _ _, .slice _ _ _]) rfl Try.underlying65 rfl inf65.size t_cells) t_lt ?_ | refine adr_wval rfl (want_yes rfl rfl rfl hg12) rfl (av_loadN (cs := [_, _]) rfl Try.underlying65 rfl inf65.size t_cells) t_lt ?_
                first | refine adr_wval rfl (want_yes rfl rfl rfl hg12) rfl (av_move_bool rfl) t_lt ?_ | refine adr_wval rfl (want_yes rfl rfl rfl hg12) rfl (av_move rfl) t_lt ?_
                refine adr_wop rfl (want_yes rfl rfl rfl hg12) rfl (aop_call (Forest_28 F _ _ (kForest.mono le25.sees fD) hbg) rfl Try.func33 rfl rfl rfl ?_)
                rintro v28 H28 ⟨hle28, es, rfl, hes⟩; rw [hff] at hes; have f28 := hes; obtain ⟨a280, a281, a282, a283, a284, rfl, hu280, hu281, hu282, hu283, hu284⟩ := hes; obtain ⟨E280, l280, rfl⟩ := hu280.shape; obtain ⟨E281, l281, rfl⟩ := hu281.shape; obtain ⟨E282, l282, rfl⟩ := hu282.shape; obtain ⟨E283, l283, rfl⟩ := hu283.shape; obtain ⟨E284, l284, rfl⟩ := hu284.shape; have z28 := hle28.1; have Z280' := le_got hle28 (by omega) (by intro e; cases e) Z250'; have Z281' := le_got hle28 (by omega) (by intro e; cases e) Z251'; have Z285' := le_got hle28 (by omega) (by intro e; cases e) Z255'; have Z287' := le_got hle28 (by omega) (by intro e; cases e) Z257'; have le28 := Hp.le_trans le25 hle28
                refine ⟨t_pend, ?_⟩
                refine adr_wop rfl (want_yes rfl rfl rfl hg12) rfl (aop_call (Few4_parts Q _ _ (kParts.mono le28.sees qD) hbq.l0 hbq.l1 hbq.s0 hbq.s1) rfl Try.func34 rfl rfl rfl ?_)
                rintro v29 H29 ⟨hle29, es, rfl, hes⟩; rw [hpp] at hes; have q29 := hes; obtain ⟨b290, b291, rfl, hm290, hm291⟩ := hes; obtain ⟨D290, m290, rfl⟩ := hm290.shape; obtain ⟨D291, m291, rfl⟩ := hm291.shape; have z29 := hle29.1; have Z290' := le_got hle29 (by omega) (by intro e; cases e) Z280'; have Z291' := le_got hle29 (by omega) (by intro e; cases e) Z281'; have Z295' := le_got hle29 (by omega) (by intro e; cases e) Z285'; have Z297' := le_got hle29 (by omega) (by intro e; cases e) Z287'; have le29 := Hp.le_trans le28 hle29
                refine ⟨t_pend, ?_⟩
                refine adr_wop rfl (want_yes rfl rfl rfl hg12) rfl (aop_call (None_parts F Q _ _ _ (kForest.mono hle29.sees f28) q29 hsm) rfl Try.func44 rfl rfl rfl ?_)
                rintro v30 H29 ⟨⟨g8, rfl, hg8⟩, rfl⟩; rw [← hXe, sizeP_zero] at hg8
                refine ⟨t_pend, ?_⟩
                refine adr_wval rfl (want_yes rfl rfl rfl hg12) rfl (av_beq rfl rfl Try.underlying4) t_lt ?_
                refine adr_val rfl rfl (av_pick_bool (congrArg Value.bool hg12) rfl) t_lt ?_
                first | refine adr_val rfl rfl (av_move_bool rfl) t_lt ?_ | refine adr_val rfl rfl (av_move rfl) t_lt ?_
                refine adr_guard rfl rfl rfl rfl ?_ ?_
                · intro hg13
                  have hp13 := hg13; try simp only [decide_eq_true_eq, decide_eq_false_iff_not, Bool.not_eq_true', Bool.not_eq_false'] at hp13
                  refine adr_wop rfl (want_yes rfl rfl rfl hg13) rfl (aop_call (lives28_ok _) rfl Try.func37 rfl rfl rfl ?_)
                  rintro v H' ⟨rfl, hlv⟩
                  refine ⟨t_pend, ?_⟩
                  refine adr_val rfl rfl (av_pick_bool (congrArg Value.bool hg13) rfl) t_lt ?_
                  first | refine adr_val rfl rfl (av_assign_bool rfl) t_lt ?_ | refine adr_val rfl rfl (av_assign rfl) t_lt ?_
                  refine ac_ret ?_
                  exact ⟨.bool true, aresult1 (ares_tmp rfl), rfl, Hp.le_trans leD (Hp.le_trans le29 hlv)⟩
                · intro hg13
                  first
                    | (have hh : g8 = decide (((rowsP F Q).length : Int) = 0) := bool_iff hg8 (by rw [decide_eq_true_eq]) ⟨fun h => by have := (hnone hpos).2 h.2.2; omega, fun h => ⟨hG, hpos, (hnone hpos).1 (by omega)⟩⟩
                       rw [hh] at hg13; simp at hg13)
                    | (have hh : g8 = false := by cases g8 with | false => rfl | true => exact absurd (hg8.1 rfl).2.1 hzero
                       rw [hh] at hg13; simp at hg13)
              · intro hg12
                exact absurd hg12 (by simp)
            · intro hg11
              exact absurd hg11 (by decide)
          · intro hg10
            exact absurd hg10 (by decide)
        · intro hg9
          exact absurd hg9 (by decide)
      · intro hg8
        have hzero : ¬ 0 < F.vars.length := by have := of_decide_eq_false hg8; omega
        refine aops_skip (want_no rfl rfl rfl hg8 rfl) ?_
        refine aops_skip (want_no rfl rfl rfl hg8 rfl) ?_
        refine aops_skip (want_no rfl rfl rfl hg8 rfl) ?_
        refine aops_skip (want_no rfl rfl rfl hg8 rfl) ?_
        refine aops_skip (want_no rfl rfl rfl hg8 rfl) ?_
        refine aops_val (av_pick_bool (congrArg Value.bool hg8) rfl) ?_
        first | refine aops_val (av_assign_bool rfl) ?_ | refine aops_val (av_assign rfl) ?_
        refine ac_seq ?_
        first
          | (obtain ⟨HD, hHD⟩ : ∃ HD, HD = H19 := ⟨_, rfl⟩
             have leCD : HC'.le HD := by rw [hHD]; exact hle19
             rw [← hHD])
          | (obtain ⟨HD, hHD⟩ : ∃ HD, HD = HC' := ⟨_, rfl⟩
             have leCD : HC'.le HD := by rw [hHD]; exact Hp.le_refl _
             rw [← hHD])
        have zCD := leCD.1
        have leD := Hp.le_trans leC leCD
        have fD := kForest.mono leCD.sees fC
        have qD := kParts.mono leCD.sees qC
        have xD := kParts.mono leCD.sees xC
        have wD := kParts.mono leCD.sees wC
        have D0' := le_got leCD (by omega) (by intro e; cases e) C0'
        have D1' := le_got leCD (by omega) (by intro e; cases e) C1'
        have D5' := le_got leCD (by omega) (by intro e; cases e) C5'
        have D7' := le_got leCD (by omega) (by intro e; cases e) C7'
        refine ac_draw (by kernel_rfl) (reg_of (B := [0, 1, 3, 7, 7, 31, 63, 127, 255, 255, 1023, 255, 255, 8191, 16383, 32767, 65535, 131071, 262143, 131071, 1048575, 2097151, 131071, 131071, 16777215, 33554431, 67108863, 134217727, 268435455, 536870911, 268435455, 2147483647, 4294967295, 268435455, 17179869183, 34359738367, 68719476735, 137438953471, 274877906943, 549755813887]) (π := [0, 1, 2, 3, 4, 5, 6, 7, 8, 9, 11, 12, 10, 13, 14, 15, 16, 17, 19, 22, 23, 18, 20, 21, 24, 25, 26, 27, 28, 30, 33, 29, 31, 32, 34, 35, 36, 37, 38, 39]) (by kernel_rfl)) ?_
        first | refine adr_val rfl rfl (av_move_int rfl) t_lt ?_ | refine adr_val rfl rfl (av_move rfl) t_lt ?_
        refine adr_val rfl rfl (av_eq rfl rfl) t_lt ?_
        first | refine adr_val rfl rfl (av_move_bool rfl) t_lt ?_ | refine adr_val rfl rfl (av_move rfl) t_lt ?_
        refine adr_guard rfl rfl rfl rfl ?_ ?_
        · intro hg14
          have hp14 := hg14; try simp only [decide_eq_true_eq, decide_eq_false_iff_not, Bool.not_eq_true', Bool.not_eq_false'] at hp14
          first | refine adr_wval rfl (want_yes rfl rfl rfl hg14) rfl (av_loadN (cs := [.slice _ _ _, .slice _ _ _]) rfl Try.underlying65 rfl inf65.size t_cells) t_lt ?_ | refine adr_wval rfl (want_yes rfl rfl rfl hg14) rfl (av_loadN (cs := [_, _]) rfl Try.underlying65 rfl inf65.size t_cells) t_lt ?_
          first | refine adr_wval rfl (want_yes rfl rfl rfl hg14) rfl (av_loadN (cs := [.slice _ _ _, .slice _ _ _]) rfl Try.underlying65 rfl inf65.size t_cells) t_lt ?_ | refine adr_wval rfl (want_yes rfl rfl rfl hg14) rfl (av_loadN (cs := [_, _]) rfl Try.underlying65 rfl inf65.size t_cells) t_lt ?_
          refine adr_wop rfl (want_yes rfl rfl rfl hg14) rfl (aop_call (Same_true X X _ _ _ xD wD hsx.s3 hsx.s4 hsx.s5 hsx.s6 rfl) rfl Try.func38 rfl rfl rfl ?_)
          rintro v20 HD ⟨rfl, rfl⟩
          refine ⟨t_pend, ?_⟩
          refine adr_val rfl rfl (av_pick_bool (congrArg Value.bool hg14) rfl) t_lt ?_
          first | refine adr_val rfl rfl (av_move_bool rfl) t_lt ?_ | refine adr_val rfl rfl (av_move rfl) t_lt ?_
          refine adr_guard rfl rfl rfl rfl ?_ ?_
          · intro hg15
            have hp15 := hg15; try simp only [decide_eq_true_eq, decide_eq_false_iff_not, Bool.not_eq_true', Bool.not_eq_false'] at hp15
            first | refine adr_wval rfl (want_yes rfl rfl rfl hg15) rfl (av_loadN (cs := [.slice _ _ _, .slice _ _ _, .slice _ _ _, .slice _ _ _, .slice _ _ _]) rfl Try.underlying62 rfl inf62.size t_cells) t_lt ?_ | refine adr_wval rfl (want_yes rfl rfl rfl hg15) rfl (av_loadN (cs := [_, _, _, _, _]) rfl Try.underlying62 rfl inf62.size t_cells) t_lt ?_
            first | refine adr_wval rfl (want_yes rfl rfl rfl hg15) rfl (av_loadN (cs := [.slice _ _ _, .slice _ _ _]) rfl Try.underlying65 rfl inf65.size t_cells) t_lt ?_ | refine adr_wval rfl (want_yes rfl rfl rfl hg15) rfl (av_loadN (cs := [_, _]) rfl Try.underlying65 rfl inf65.size t_cells) t_lt ?_
            first | refine adr_wval rfl (want_yes rfl rfl rfl hg15) rfl (av_loadN (cs := [.slice _ _ _, .slice _ _ _, .slice _ _ _, .slice _ _ _, .slice _ _ _]) rfl Try.underlying62 rfl inf62.size t_cells) t_lt ?_ | refine adr_wval rfl (want_yes rfl rfl rfl hg15) rfl (av_loadN (cs := [_, _, _, _, _]) rfl Try.underlying62 rfl inf62.size t_cells) t_lt ?_
            first | refine adr_wval rfl (want_yes rfl rfl rfl hg15) rfl (av_loadN (cs := [.slice _ _ _, .slice _ _ _]) rfl Try.underlying65 rfl inf65.size t_cells) t_lt ?_ | refine adr_wval rfl (want_yes rfl rfl rfl hg15) rfl (av_loadN (cs := [_, _]) rfl Try.underlying65 rfl inf65.size t_cells) t_lt ?_
            refine adr_wop rfl (want_yes rfl rfl rfl hg15) rfl (aop_call (Rows_ref F X _ _ _ fD xD hX hsx (ht.sub k2)) rfl Try.func47 rfl rfl rfl ?_)
            rintro v21 H21 ⟨hle21, hsr21⟩; rw [hrows] at hsr21; have z21 := hle21.1; have Z210' := le_got hle21 (by omega) (by intro e; cases e) D0'; have Z211' := le_got hle21 (by omega) (by intro e; cases e) D1'; have Z215' := le_got hle21 (by omega) (by intro e; cases e) D5'; have Z217' := le_got hle21 (by omega) (by intro e; cases e) D7'; obtain ⟨D21, m21, rfl⟩ := hsr21.shape
            refine ⟨t_pend, ?_⟩
            refine adr_wop rfl (want_yes rfl rfl rfl hg15) rfl (aop_call (Rows_ref F Q _ _ _ (kForest.mono hle21.sees fD) (kParts.mono hle21.sees qD) hG hsm ht) rfl Try.func47 rfl rfl rfl ?_)
            rintro v22 H22 ⟨hle22, hsr22⟩; have z22 := hle22.1; have Z220' := le_got hle22 (by omega) (by intro e; cases e) Z210'; have Z221' := le_got hle22 (by omega) (by intro e; cases e) Z211'; have Z225' := le_got hle22 (by omega) (by intro e; cases e) Z215'; have Z227' := le_got hle22 (by omega) (by intro e; cases e) Z217'; have le22 := Hp.le_trans hle21 hle22; obtain ⟨D22, m22, rfl⟩ := hsr22.shape
            refine ⟨t_pend, ?_⟩
            refine adr_wop rfl (want_yes rfl rfl rfl hg15) rfl (aop_call (Same_rows (rowsP F Q) _ _ _ (hsr21.mono hle22.sees) hsr22 (by have := rowsK_len ht F.order.length; have h4 := Nat.pow_le_pow_right (n := 4) (by omega) (by have := hG.gf.l1; omega : F.order.length ≤ 5); show (rowsK F Q F.order.length).length ≤ _; omega) (fun r hr => by have := (rowsK_ok ht F.order.length r hr).len; have := hG.gf.l1; omega)) rfl Try.func48 rfl rfl rfl ?_)
            rintro v23 H22 ⟨rfl, rfl⟩
            refine ⟨t_pend, ?_⟩
            refine adr_val rfl rfl (av_pick_bool (congrArg Value.bool hg15) rfl) t_lt ?_
            first | refine adr_val rfl rfl (av_move_bool rfl) t_lt ?_ | refine adr_val rfl rfl (av_move rfl) t_lt ?_
            refine adr_guard rfl rfl rfl rfl ?_ ?_
            · intro hg16
              have hp16 := hg16; try simp only [decide_eq_true_eq, decide_eq_false_iff_not, Bool.not_eq_true', Bool.not_eq_false'] at hp16
              first | refine adr_wval rfl (want_yes rfl rfl rfl hg16) rfl (av_loadN (cs := [.slice _ _ _, .slice _ _ _, .slice _ _ _, .slice _ _ _, .slice _ _ _]) rfl Try.underlying62 rfl inf62.size t_cells) t_lt ?_ | refine adr_wval rfl (want_yes rfl rfl rfl hg16) rfl (av_loadN (cs := [_, _, _, _, _]) rfl Try.underlying62 rfl inf62.size t_cells) t_lt ?_
              first | refine adr_wval rfl (want_yes rfl rfl rfl hg16) rfl (av_loadN (cs := [.slice _ _ _, .slice _ _ _]) rfl Try.underlying65 rfl inf65.size t_cells) t_lt ?_ | refine adr_wval rfl (want_yes rfl rfl rfl hg16) rfl (av_loadN (cs := [_, _]) rfl Try.underlying65 rfl inf65.size t_cells) t_lt ?_
              first | refine adr_wval rfl (want_yes rfl rfl rfl hg16) rfl (av_loadN (cs := [.slice _ _ _, .slice _ _ _]) rfl Try.underlying65 rfl inf65.size t_cells) t_lt ?_ | refine adr_wval rfl (want_yes rfl rfl rfl hg16) rfl (av_loadN (cs := [_, _]) rfl Try.underlying65 rfl inf65.size t_cells) t_lt ?_
              first | refine adr_wval rfl (want_yes rfl rfl rfl hg16) rfl (av_loadN (cs := [.slice _ _ _, .slice _ _ _]) rfl Try.underlying65 rfl inf65.size t_cells) t_lt ?_ | refine adr_wval rfl (want_yes rfl rfl rfl hg16) rfl (av_loadN (cs := [_, _]) rfl Try.underlying65 rfl inf65.size t_cells) t_lt ?_
              refine adr_wop rfl (want_yes rfl rfl rfl hg16) rfl (aop_call (Forest_28 F _ _ (kForest.mono le22.sees fD) hbg) rfl Try.func33 rfl rfl rfl ?_)
              rintro v24 H24 ⟨hle24, es, rfl, hes⟩; rw [hff] at hes; have f24 := hes; obtain ⟨a240, a241, a242, a243, a244, rfl, hu240, hu241, hu242, hu243, hu244⟩ := hes; obtain ⟨E240, l240, rfl⟩ := hu240.shape; obtain ⟨E241, l241, rfl⟩ := hu241.shape; obtain ⟨E242, l242, rfl⟩ := hu242.shape; obtain ⟨E243, l243, rfl⟩ := hu243.shape; obtain ⟨E244, l244, rfl⟩ := hu244.shape; have z24 := hle24.1; have Z240' := le_got hle24 (by omega) (by intro e; cases e) Z220'; have Z241' := le_got hle24 (by omega) (by intro e; cases e) Z221'; have Z245' := le_got hle24 (by omega) (by intro e; cases e) Z225'; have Z247' := le_got hle24 (by omega) (by intro e; cases e) Z227'; have le24 := Hp.le_trans le22 hle24
              refine ⟨t_pend, ?_⟩
              refine adr_wop rfl (want_yes rfl rfl rfl hg16) rfl (aop_call (Few4_parts Q _ _ (kParts.mono le24.sees qD) hbq.l0 hbq.l1 hbq.s0 hbq.s1) rfl Try.func34 rfl rfl rfl ?_)
              rintro v25 H25 ⟨hle25, es, rfl, hes⟩; rw [hpp] at hes; have q25 := hes; obtain ⟨b250, b251, rfl, hm250, hm251⟩ := hes; obtain ⟨D250, m250, rfl⟩ := hm250.shape; obtain ⟨D251, m251, rfl⟩ := hm251.shape; have z25 := hle25.1; have Z250' := le_got hle25 (by omega) (by intro e; cases e) Z240'; have Z251' := le_got hle25 (by omega) (by intro e; cases e) Z241'; have Z255' := le_got hle25 (by omega) (by intro e; cases e) Z245'; have Z257' := le_got hle25 (by omega) (by intro e; cases e) Z247'; have le25 := Hp.le_trans le24 hle25
              refine ⟨t_pend, ?_⟩
              refine adr_wop rfl (want_yes rfl rfl rfl hg16) rfl (aop_call (Is_parts F Q _ _ _ (kForest.mono hle25.sees f24) q25 hsm) rfl Try.func39 rfl rfl rfl ?_)
              rintro v26 H25 ⟨⟨g6, rfl, hg6⟩, rfl⟩
              refine ⟨t_pend, ?_⟩
              refine adr_wop rfl (want_yes rfl rfl rfl hg16) rfl (aop_call (Same_parts X Q _ _ _ (kParts.mono le25.sees wD) (kParts.mono le25.sees qD) hsx.s3 hsx.s4 hsx.s5 hsx.s6) rfl Try.func38 rfl rfl rfl ?_)
              rintro v27 H25 ⟨⟨g7, rfl, hg7⟩, rfl⟩; obtain rfl : g6 = g7 := bool_iff hg6 hg7 ⟨fun h => by rw [hXe]; exact h.2, fun h => ⟨hG, by rw [← hXe]; exact h⟩⟩
              refine ⟨t_pend, ?_⟩
              refine adr_wval rfl (want_yes rfl rfl rfl hg16) rfl (av_beq rfl rfl Try.underlying4) t_lt ?_
              refine adr_val rfl rfl (av_pick_bool (congrArg Value.bool hg16) rfl) t_lt ?_
              first | refine adr_val rfl rfl (av_move_bool rfl) t_lt ?_ | refine adr_val rfl rfl (av_move rfl) t_lt ?_
              refine adr_guard rfl rfl rfl rfl ?_ ?_
              · intro hg17
                have hp17 := hg17; try simp only [decide_eq_true_eq, decide_eq_false_iff_not, Bool.not_eq_true', Bool.not_eq_false'] at hp17
                first | refine adr_wval rfl (want_yes rfl rfl rfl hg17) rfl (av_loadN (cs := [.slice _ _ _, .slice _ _ _, .slice _ _ _, .slice _ _ _, .slice _ _ _]) rfl Try.underlying62 rfl inf62.size t_cells) t_lt ?_ | refine adr_wval rfl (want_yes rfl rfl rfl hg17) rfl (av_loadN (cs := [_, _, _, _, _]) rfl Try.underlying62 rfl inf62.size t_cells) t_lt ?_
                first | refine adr_wval rfl (want_yes rfl rfl rfl hg17) rfl (av_loadN (cs := [.slice _ _ _, .slice _ _ _]) rfl Try.underlying65 rfl inf65.size t_cells) t_lt ?_ | refine adr_wval rfl (want_yes rfl rfl rfl hg17) rfl (av_loadN (cs := [_, _]) rfl Try.underlying65 rfl inf65.size t_cells) t_lt ?_
                first | refine adr_wval rfl (want_yes rfl rfl rfl hg17) rfl (av_move_bool rfl) t_lt ?_ | refine adr_wval rfl (want_yes rfl rfl rfl hg17) rfl (av_move rfl) t_lt ?_
                refine adr_wop rfl (want_yes rfl rfl rfl hg17) rfl (aop_call (Forest_28 F _ _ (kForest.mono le25.sees fD) hbg) rfl Try.func33 rfl rfl rfl ?_)
                rintro v28 H28 ⟨hle28, es, rfl, hes⟩; rw [hff] at hes; have f28 := hes; obtain ⟨a280, a281, a282, a283, a284, rfl, hu280, hu281, hu282, hu283, hu284⟩ := hes; obtain ⟨E280, l280, rfl⟩ := hu280.shape; obtain ⟨E281, l281, rfl⟩ := hu281.shape; obtain ⟨E282, l282, rfl⟩ := hu282.shape; obtain ⟨E283, l283, rfl⟩ := hu283.shape; obtain ⟨E284, l284, rfl⟩ := hu284.shape; have z28 := hle28.1; have Z280' := le_got hle28 (by omega) (by intro e; cases e) Z250'; have Z281' := le_got hle28 (by omega) (by intro e; cases e) Z251'; have Z285' := le_got hle28 (by omega) (by intro e; cases e) Z255'; have Z287' := le_got hle28 (by omega) (by intro e; cases e) Z257'; have le28 := Hp.le_trans le25 hle28
                refine ⟨t_pend, ?_⟩
                refine adr_wop rfl (want_yes rfl rfl rfl hg17) rfl (aop_call (Few4_parts Q _ _ (kParts.mono le28.sees qD) hbq.l0 hbq.l1 hbq.s0 hbq.s1) rfl Try.func34 rfl rfl rfl ?_)
                rintro v29 H29 ⟨hle29, es, rfl, hes⟩; rw [hpp] at hes; have q29 := hes; obtain ⟨b290, b291, rfl, hm290, hm291⟩ := hes; obtain ⟨D290, m290, rfl⟩ := hm290.shape; obtain ⟨D291, m291, rfl⟩ := hm291.shape; have z29 := hle29.1; have Z290' := le_got hle29 (by omega) (by intro e; cases e) Z280'; have Z291' := le_got hle29 (by omega) (by intro e; cases e) Z281'; have Z295' := le_got hle29 (by omega) (by intro e; cases e) Z285'; have Z297' := le_got hle29 (by omega) (by intro e; cases e) Z287'; have le29 := Hp.le_trans le28 hle29
                refine ⟨t_pend, ?_⟩
                refine adr_wop rfl (want_yes rfl rfl rfl hg17) rfl (aop_call (None_parts F Q _ _ _ (kForest.mono hle29.sees f28) q29 hsm) rfl Try.func44 rfl rfl rfl ?_)
                rintro v30 H29 ⟨⟨g8, rfl, hg8⟩, rfl⟩; rw [← hXe, sizeP_zero] at hg8
                refine ⟨t_pend, ?_⟩
                refine adr_wval rfl (want_yes rfl rfl rfl hg17) rfl (av_beq rfl rfl Try.underlying4) t_lt ?_
                refine adr_val rfl rfl (av_pick_bool (congrArg Value.bool hg17) rfl) t_lt ?_
                first | refine adr_val rfl rfl (av_move_bool rfl) t_lt ?_ | refine adr_val rfl rfl (av_move rfl) t_lt ?_
                refine adr_guard rfl rfl rfl rfl ?_ ?_
                · intro hg18
                  have hp18 := hg18; try simp only [decide_eq_true_eq, decide_eq_false_iff_not, Bool.not_eq_true', Bool.not_eq_false'] at hp18
                  refine adr_wop rfl (want_yes rfl rfl rfl hg18) rfl (aop_call (lives28_ok _) rfl Try.func37 rfl rfl rfl ?_)
                  rintro v H' ⟨rfl, hlv⟩
                  refine ⟨t_pend, ?_⟩
                  refine adr_val rfl rfl (av_pick_bool (congrArg Value.bool hg18) rfl) t_lt ?_
                  first | refine adr_val rfl rfl (av_assign_bool rfl) t_lt ?_ | refine adr_val rfl rfl (av_assign rfl) t_lt ?_
                  refine ac_ret ?_
                  exact ⟨.bool true, aresult1 (ares_tmp rfl), rfl, Hp.le_trans leD (Hp.le_trans le29 hlv)⟩
                · intro hg18
                  first
                    | (have hh : g8 = decide (((rowsP F Q).length : Int) = 0) := bool_iff hg8 (by rw [decide_eq_true_eq]) ⟨fun h => by have := (hnone hpos).2 h.2.2; omega, fun h => ⟨hG, hpos, (hnone hpos).1 (by omega)⟩⟩
                       rw [hh] at hg18; simp at hg18)
                    | (have hh : g8 = false := by cases g8 with | false => rfl | true => exact absurd (hg8.1 rfl).2.1 hzero
                       rw [hh] at hg18; simp at hg18)
              · intro hg17
                exact absurd hg17 (by simp)
            · intro hg16
              exact absurd hg16 (by decide)
          · intro hg15
            exact absurd hg15 (by decide)
        · intro hg14
          exact absurd hg14 (by decide)
end Go.Proofs.Ytnkjikpmgeknbaa.Am

namespace Go.Proofs.Ytnkjikpmgeknbaa.Am
open Go Go.RowKit
set_option maxRecDepth 100000
theorem cells_i64 : Try.prog.cellsOf 3 = 1 := by kernel_rfl
theorem cells_u64 : Try.prog.cellsOf 26 = 1 := by kernel_rfl
theorem cells_link : Try.prog.cellsOf 28 = 4 := by kernel_rfl
theorem opens_ints : Opens Try.prog (kSl (kInt .i64)) 29 (fun xs => xs.length ≤ maxLen ∧ ∀ x ∈ xs, fits .i64 x) := opens_sl Try.underlying29 cells_i64 (opens_int Try.underlying3)
theorem opens_link : Opens Try.prog kLink 28 (fun x => fits .i64 x.a ∧ fits .i64 x.b ∧ fits .i64 x.cost ∧ fits .u64 x.n) := fun Hh enc W fuel cs x h => by
  obtain ⟨xs, n, _, _, hl, hxs, hf⟩ := DataW.trod_struct Try.underlying28 h
  rw [cells_link] at hl
  have hxs : xs.length = 4 := hxs
  match cs, hl with
  | [c0, c1, c2, c3], _ =>
    have f0 : DataW.trod enc Try.prog W 0 (fun _ => true) true n 3 (([c0, c1, c2, c3].drop 0).take (Try.prog.cellsOf 3)) = xs[0]? := hf 0 _ rfl
    have f1 : DataW.trod enc Try.prog W 0 (fun _ => true) true n 3 (([c0, c1, c2, c3].drop 1).take (Try.prog.cellsOf 3)) = xs[1]? := hf 1 _ rfl
    have f2 : DataW.trod enc Try.prog W 0 (fun _ => true) true n 3 (([c0, c1, c2, c3].drop 2).take (Try.prog.cellsOf 3)) = xs[2]? := hf 2 _ rfl
    have f3 : DataW.trod enc Try.prog W 0 (fun _ => true) true n 26 (([c0, c1, c2, c3].drop 3).take (Try.prog.cellsOf 26)) = xs[3]? := hf 3 _ rfl
    rw [cells_i64, List.getElem?_eq_getElem (show 0 < xs.length by omega)] at f0
    rw [cells_i64, List.getElem?_eq_getElem (show 1 < xs.length by omega)] at f1
    rw [cells_i64, List.getElem?_eq_getElem (show 2 < xs.length by omega)] at f2
    rw [cells_u64, List.getElem?_eq_getElem (show 3 < xs.length by omega)] at f3
    obtain ⟨y0, r0, b0, v0⟩ := opens_int (P := Try.prog) Try.underlying3 Hh enc W n _ _ f0
    obtain ⟨y1, r1, b1, v1⟩ := opens_int (P := Try.prog) Try.underlying3 Hh enc W n _ _ f1
    obtain ⟨y2, r2, b2, v2⟩ := opens_int (P := Try.prog) Try.underlying3 Hh enc W n _ _ f2
    obtain ⟨y3, r3, b3, v3⟩ := opens_int (P := Try.prog) Try.underlying26 Hh enc W n _ _ f3
    refine ⟨⟨y0, y1, y2, y3⟩, ?_, ⟨b0, b1, b2, b3⟩, fun v hv => ?_⟩
    · have e0 : [absV W c0] = [Value.int .i64 y0] := r0
      have e1 : [absV W c1] = [Value.int .i64 y1] := r1
      have e2 : [absV W c2] = [Value.int .i64 y2] := r2
      have e3 : [absV W c3] = [Value.int .u64 y3] := r3
      simp only [List.cons.injEq, and_true] at e0 e1 e2 e3
      simp [kLink, e0, e1, e2, e3]
    · simp at hv
      rcases hv with rfl | rfl | rfl | rfl
      · exact v0 _ (List.mem_singleton.2 rfl)
      · exact v1 _ (List.mem_singleton.2 rfl)
      · exact v2 _ (List.mem_singleton.2 rfl)
      · exact v3 _ (List.mem_singleton.2 rfl)
theorem opens_links : Opens Try.prog (kSl kLink) 22 (fun xs => xs.length ≤ maxLen ∧ ∀ x ∈ xs, fits .i64 x.a ∧ fits .i64 x.b ∧ fits .i64 x.cost ∧ fits .u64 x.n) := opens_sl Try.underlying22 cells_link opens_link
end Go.Proofs.Ytnkjikpmgeknbaa.Am

namespace Go.Proofs.Ytnkjikpmgeknbaa.Am
open Go Go.RowKit
set_option maxRecDepth 100000
theorem cells_links : Try.prog.cellsOf 22 = 1 := by kernel_rfl
theorem cells_ints : Try.prog.cellsOf 29 = 1 := by kernel_rfl
theorem cells_str : Try.prog.cellsOf 9 = 1 := by kernel_rfl
theorem cells_strs : Try.prog.cellsOf 59 = 1 := by kernel_rfl
theorem cells_intss : Try.prog.cellsOf 60 = 1 := by kernel_rfl
theorem cells_linkss : Try.prog.cellsOf 63 = 1 := by kernel_rfl
theorem cells_parts : Try.prog.cellsOf 65 = 2 := by kernel_rfl
theorem cells_forest : Try.prog.cellsOf 62 = 5 := by kernel_rfl
theorem opens_strs : Opens Try.prog (kSl kStr) 59 (fun xs => xs.length ≤ maxLen ∧ ∀ x ∈ xs, x.size ≤ maxLen) := opens_sl Try.underlying59 cells_str (opens_str Try.underlying9)
theorem opens_intss : Opens Try.prog (kSl (kSl (kInt .i64))) 60 (fun xs => xs.length ≤ maxLen ∧ ∀ x ∈ xs, x.length ≤ maxLen ∧ ∀ n ∈ x, fits .i64 n) := opens_sl Try.underlying60 cells_ints opens_ints
theorem opens_linkss : Opens Try.prog (kSl (kSl kLink)) 63 (fun xs : List (List Link) => xs.length ≤ maxLen ∧ ∀ l ∈ xs, l.length ≤ maxLen ∧ ∀ x ∈ l, fits .i64 x.a ∧ fits .i64 x.b ∧ fits .i64 x.cost ∧ fits .u64 x.n) := opens_sl Try.underlying63 cells_links opens_links
theorem opens_parts : Opens Try.prog kParts 65 BigP := fun Hh enc W fuel cs x h => by
  obtain ⟨xs, n, _, _, hl, hxs, hf⟩ := DataW.trod_struct Try.underlying65 h
  rw [cells_parts] at hl
  have hxs : xs.length = 2 := hxs
  match cs, hl with
  | [c0, c1], _ =>
    have f0 : DataW.trod enc Try.prog W 0 (fun _ => true) true n 63 (([c0, c1].drop 0).take (Try.prog.cellsOf 63)) = xs[0]? := hf 0 _ rfl
    have f1 : DataW.trod enc Try.prog W 0 (fun _ => true) true n 63 (([c0, c1].drop 1).take (Try.prog.cellsOf 63)) = xs[1]? := hf 1 _ rfl
    rw [cells_linkss, List.getElem?_eq_getElem (show 0 < xs.length by omega)] at f0
    rw [cells_linkss, List.getElem?_eq_getElem (show 1 < xs.length by omega)] at f1
    obtain ⟨y0, ⟨w0, r0, s0⟩, b0, v0⟩ := opens_linkss Hh enc W n _ _ f0
    obtain ⟨y1, ⟨w1, r1, s1⟩, b1, v1⟩ := opens_linkss Hh enc W n _ _ f1
    refine ⟨⟨y0, y1⟩, ⟨w0, w1, ?_, s0, s1⟩, ⟨b0.1, b1.1, fun l hl => (b0.2 l hl).1, fun l hl => (b1.2 l hl).1⟩, fun v hv => ?_⟩
    · have e0 : [absV W c0] = [w0] := r0
      have e1 : [absV W c1] = [w1] := r1
      simp only [List.cons.injEq, and_true] at e0 e1
      simp [e0, e1]
    · simp at hv
      rcases hv with rfl | rfl
      · exact v0 _ (List.mem_singleton.2 rfl)
      · exact v1 _ (List.mem_singleton.2 rfl)
theorem opens_forest : Opens Try.prog kForest 62 BigF := fun Hh enc W fuel cs x h => by
  obtain ⟨xs, n, _, _, hl, hxs, hf⟩ := DataW.trod_struct Try.underlying62 h
  rw [cells_forest] at hl
  have hxs : xs.length = 5 := hxs
  match cs, hl with
  | [c0, c1, c2, c3, c4], _ =>
    have f0 : DataW.trod enc Try.prog W 0 (fun _ => true) true n 59 (([c0, c1, c2, c3, c4].drop 0).take (Try.prog.cellsOf 59)) = xs[0]? := hf 0 _ rfl
    have f1 : DataW.trod enc Try.prog W 0 (fun _ => true) true n 29 (([c0, c1, c2, c3, c4].drop 1).take (Try.prog.cellsOf 29)) = xs[1]? := hf 1 _ rfl
    have f2 : DataW.trod enc Try.prog W 0 (fun _ => true) true n 29 (([c0, c1, c2, c3, c4].drop 2).take (Try.prog.cellsOf 29)) = xs[2]? := hf 2 _ rfl
    have f3 : DataW.trod enc Try.prog W 0 (fun _ => true) true n 60 (([c0, c1, c2, c3, c4].drop 3).take (Try.prog.cellsOf 60)) = xs[3]? := hf 3 _ rfl
    have f4 : DataW.trod enc Try.prog W 0 (fun _ => true) true n 60 (([c0, c1, c2, c3, c4].drop 4).take (Try.prog.cellsOf 60)) = xs[4]? := hf 4 _ rfl
    rw [cells_strs, List.getElem?_eq_getElem (show 0 < xs.length by omega)] at f0
    rw [cells_ints, List.getElem?_eq_getElem (show 1 < xs.length by omega)] at f1
    rw [cells_ints, List.getElem?_eq_getElem (show 2 < xs.length by omega)] at f2
    rw [cells_intss, List.getElem?_eq_getElem (show 3 < xs.length by omega)] at f3
    rw [cells_intss, List.getElem?_eq_getElem (show 4 < xs.length by omega)] at f4
    obtain ⟨y0, ⟨w0, r0, s0⟩, b0, v0⟩ := opens_strs Hh enc W n _ _ f0
    obtain ⟨y1, ⟨w1, r1, s1⟩, b1, v1⟩ := opens_ints Hh enc W n _ _ f1
    obtain ⟨y2, ⟨w2, r2, s2⟩, b2, v2⟩ := opens_ints Hh enc W n _ _ f2
    obtain ⟨y3, ⟨w3, r3, s3⟩, b3, v3⟩ := opens_intss Hh enc W n _ _ f3
    obtain ⟨y4, ⟨w4, r4, s4⟩, b4, v4⟩ := opens_intss Hh enc W n _ _ f4
    refine ⟨⟨y0, y1, y2, y3, y4⟩, ⟨w0, w1, w2, w3, w4, ?_, s0, s1, s2, s3, s4⟩, ⟨b0.1, b1.1, b2.1, b3.1, b4.1, fun l hl => (b3.2 l hl).1, fun l hl => (b4.2 l hl).1⟩, fun v hv => ?_⟩
    · have e0 : [absV W c0] = [w0] := r0
      have e1 : [absV W c1] = [w1] := r1
      have e2 : [absV W c2] = [w2] := r2
      have e3 : [absV W c3] = [w3] := r3
      have e4 : [absV W c4] = [w4] := r4
      simp only [List.cons.injEq, and_true] at e0 e1 e2 e3 e4
      simp [e0, e1, e2, e3, e4]
    · simp at hv
      rcases hv with rfl | rfl | rfl | rfl | rfl
      · exact v0 _ (List.mem_singleton.2 rfl)
      · exact v1 _ (List.mem_singleton.2 rfl)
      · exact v2 _ (List.mem_singleton.2 rfl)
      · exact v3 _ (List.mem_singleton.2 rfl)
      · exact v4 _ (List.mem_singleton.2 rfl)
end Go.Proofs.Ytnkjikpmgeknbaa.Am
