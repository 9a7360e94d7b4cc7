/- Texts that the proof rests on, part 3: lemmas for every heap that is related to a world, no condition beyond each lemma's own. -/
import Derived.Test.YtmakkmcjocjgmaaAo2
import Derived.Test.YtmakkmcjocjgmaaAoMaps2
import Derived.Test.YtmakkmcjocjgmaaAo1
import Derived.Test.YtmakkmcjocjgmaaAoTy

/- The tree that is made, place by place. -/
namespace Go.Proofs.Ytmakkmcjocjgmaa.Am
open Go Go.RowKit
set_option maxRecDepth 100000
set_option linter.unusedVariables false
set_option linter.unusedSimpArgs false

structure Cheap (p : Parts) : Prop where
  nodes : ∀ v, ∀ x ∈ nd p v, 0 ≤ x.cost ∧ x.cost ≤ 1000000000 ∧ 0 ≤ x.n
  links : ∀ v, ∀ x ∈ lk p v, 0 ≤ x.cost ∧ x.cost ≤ 1000000000 ∧ 0 ≤ x.n
theorem Cheap.sub {p q : Parts} (h : Cheap p) (hs : Sub q p) : Cheap q := ⟨fun v x hx => h.nodes v x ((hs v).1.subset hx), fun v x hx => h.links v x ((hs v).2.subset hx)⟩
theorem goodL_strict {xs : List Link} (h : GoodL xs) (hb : ∀ x ∈ xs, x.a = x.b) : xs.Pairwise fun x y => x.a < y.a := by
  refine List.Pairwise.imp_of_mem (R := fun x y => lessL x y = true) (fun {x y} hx hy hl => ?_) (goodL_iff.1 h).2
  have e1 := hb x hx
  have e2 := hb y hy
  simp only [lessL, Bool.or_eq_true, Bool.and_eq_true, decide_eq_true_eq] at hl
  omega
theorem rise_weigh {ns ls : List Link} (h : RiseA ls) : RiseA (ls.map (Ua ns)) := by
  intro i j hi hj hij
  rw [List.getElem_map, List.getElem_map]
  exact h i j (by simpa using hi) (by simpa using hj) hij
theorem V4 {f : Forest} (x : Parts) : (Yr f x).vars.length = f.order.length ∧ (Yr f x).parent.length = f.order.length ∧ (Yr f x).links.length = f.order.length := by simp [Yr]
theorem vAt_get {f : Forest} {i : Nat} (hi : i < f.order.length) : Z0 f i = f.order[i].toNat := by unfold Z0; rw [Zc hi]
theorem treeOf_at {f : Forest} (x : Parts) {i : Nat} (hi : i < f.order.length) : (Yr f x).vars[i]? = some (f.vars.getD (Z0 f i) ⟨#[]⟩) ∧ (Yr f x).parent[i]? = some (atI f.order (par f (Z0 f i))) ∧ (Yr f x).links[i]? = some (Yq f x (Z0 f i)) := by
  have e := vAt_get hi
  refine ⟨?_, ?_, ?_⟩ <;> simp [Yr, List.getElem?_eq_getElem hi, e]
theorem take_at {α : Type} {xs : List α} {i : Nat} {y : α} (h : xs[i]? = some y) : xs.take i ++ [y] = xs.take (i + 1) := by
  obtain ⟨hi, rfl⟩ := List.getElem?_eq_some_iff.1 h
  exact Y2 hi
theorem mapGet_nil (k : Value) : Yl [] k = none := mapGet_none fun e h => by cases h
theorem Spots.zero (T : TreeT) : Spots T 0 [] := ⟨fun e h => (by cases h), fun i h => (by omega), fun _ _ _ => mapGet_nil _⟩
theorem Spots.step {T : TreeT} {i : Nat} {es es' : List (Value × Value)} (h : Spots T i es)
    (hres : if T.parent.getD i 0 = -1 then es' = Zy es (Yu i (-1)) (spanV 0 (T.links.getD i []).length) else Noted (T.links.getD i []) i (T.links.getD i []).length es es') : Spots T (i + 1) es' := by
  have other : ∀ (j : Nat) above, j ≠ i → Yl es' (Yu j above) = Yl es (Yu j above) := fun j above hj => by
    split at hres
    · subst hres
      exact Zi fun e => hj (by have := (Zx e).1; omega)
    · exact hres.other j above hj
  refine ⟨?_, fun j hj above hroot => ?_, fun j above hj => by rw [other j above (by omega)]; exact h.none j above (by omega)⟩
  · split at hres
    · subst hres; exact mapPut_keys h.keys ⟨_, _, rfl⟩
    · exact hres.keys
  · by_cases hji : j = i
    · subst hji
      split at hres
      · rename_i hr
        have := hroot hr
        subst this
        subst hres
        refine ⟨0, (T.links.getD j []).length, by rw [Vd]; rfl, by omega, Nat.le_refl _, ?_⟩
        unfold TreeT.row
        rw [if_pos hr, List.drop_zero, List.take_length]
      · rename_i hr
        have hrow : T.row j above = (T.links.getD j []).filter fun l => decide (l.a = above) := by unfold TreeT.row; rw [if_neg hr]
        by_cases hex : ∃ (k : Nat) (h : k < (T.links.getD j []).length), k < (T.links.getD j []).length ∧ (T.links.getD j [])[k].a = above
        · obtain ⟨fr, to, h1, h2, h3, h4⟩ := hres.yes above hex
          exact ⟨fr, to, by rw [h1]; rfl, h2, h3, by rw [hrow]; exact h4⟩
        · refine ⟨0, 0, by rw [hres.no above hex]; rfl, Nat.le_refl _, Nat.zero_le _, ?_⟩
          rw [hrow, List.filter_eq_nil_iff.2]
          · rfl
          · intro l hl e
            obtain ⟨k, hk, rfl⟩ := List.getElem_of_mem hl
            exact hex ⟨k, hk, hk, of_decide_eq_true e⟩
    · rw [other j above hji]
      exact h.at_ j (by omega) above hroot
theorem stable_ints (st : Nat) : Vn (Yy .i64) st := Plain.stable (plain_int .i64) st
theorem stable_strs (st : Nat) : Vn kStr st := Plain.stable (fun _ _ _ _ h => h) st
theorem Za (st : Nat) : Vn kLink st := Plain.stable plain_link st
theorem stable_lists : Vn (kSl kLink) 1 := stable_sl (Za 1) (by decide)
end Go.Proofs.Ytmakkmcjocjgmaa.Am


/- All rows of good parts, by the document's words. -/
namespace Go.Proofs.Ytmakkmcjocjgmaa.Am
open Go Go.RowKit
set_option maxRecDepth 100000
set_option linter.unusedVariables false
set_option linter.unusedSimpArgs false

end Go.Proofs.Ytmakkmcjocjgmaa.Am


/- The nodes and links that are in rows, by the document's words. -/
namespace Go.Proofs.Ytmakkmcjocjgmaa.Am
open Go Go.RowKit
set_option maxRecDepth 100000
set_option linter.unusedVariables false
set_option linter.unusedSimpArgs false

theorem OwnP.get_new {α : Type} {k : Kd α} {G H G' H' : Hp} {v : Value} {xs ys : List α} (h0 : OwnP k G H v xs) (h : OwnP k G' H' v ys) {c : Nat} (hc : G.size ≤ c) : G'.get c = H'.get c := by
  rcases h with ⟨rfl, rfl, rfl⟩ | ⟨b, cs, d, rfl, hb, hd, rfl, _⟩
  · rfl
  · rcases h0 with ⟨h, _⟩ | ⟨b', cs', d', e, hb', _⟩
    · cases h
    · simp only [Value.slice.injEq, Option.some.injEq, Addr.mk.injEq, and_true] at e
      obtain ⟨rfl, _⟩ := e
      rw [Hp.put_other _ _ (by omega)]
end Go.Proofs.Ytmakkmcjocjgmaa.Am


/- Rows in plain words: which lists of nodes are a row; that what was reduced has the same rows; that each of its nodes and links is in some row. -/
namespace Go.Proofs.Ytmakkmcjocjgmaa.Am
open Go Go.RowKit
set_option maxRecDepth 100000
set_option linter.unusedVariables false
set_option linter.unusedSimpArgs false

def Zz (f : Forest) (v : Int) : Nat := (atI f.order v).toNat
theorem GoodF.vAt_lt {f : Forest} (h : GoodF f) {s : Nat} (hs : s < f.vars.length) : Z0 f s < f.vars.length ∧ ((Z0 f s : Nat) : Int) = f.order.getD s 0 := by
  have h1 := h.ok s hs
  have h2 := h1.1
  have h3 := h1.2.1
  unfold Z0
  omega
theorem GoodF.pos_vAt {f : Forest} (h : GoodF f) {s : Nat} (hs : s < f.vars.length) : Zz f (Z0 f s) = s := by
  have hl := h.l1
  rw [(h.vAt_lt hs).2]
  unfold Zz
  have h1 := (h.ok s hs).2.2.1
  rw [atI_some (i := s) (by omega) (by rw [Zc (by omega)]) h1]; rfl
theorem GoodF.pos_par {f : Forest} (h : GoodF f) {s : Nat} (hs : s < f.vars.length) (hp : 0 ≤ par f (Z0 f s)) : Zz f (par f (Z0 f s)) < s ∧ ((Z0 f (Zz f (par f (Z0 f s))) : Nat) : Int) = par f (Z0 f s) := by
  have h1 := (h.ok s hs).2.2.2
  have h2 : (f.order.getD s 0).toNat = Z0 f s := rfl
  rw [h2] at h1
  obtain ⟨q, hq1, hq2, hq3, hq4⟩ := atI_take (xs := f.order) (v := par f (Z0 f s)) (i := s) (h1.resolve_left (by unfold par at hp; omega))
  have hq : Zz f (par f (Z0 f s)) = q := by unfold Zz; rw [hq1]; rfl
  rw [hq]
  refine ⟨hq2, ?_⟩
  rw [(h.vAt_lt (by omega)).2, Zc hq3, hq4]
theorem GoodF.vAt_pos {f : Forest} (h : GoodF f) {v : Nat} (hv : v < f.vars.length) : Zz f v < f.vars.length ∧ Z0 f (Zz f v) = v := by
  have hl := h.l1
  obtain ⟨q, h1, _, h3, h4⟩ := atI_take (xs := f.order) (v := (v : Int)) (i := f.order.length) (by rw [List.take_length]; exact h.in_order hv)
  have hq : Zz f v = q := by unfold Zz; rw [h1]; rfl
  rw [hq]
  refine ⟨by omega, ?_⟩
  unfold Z0
  rw [Zc h3, h4]; rfl
def SatAt (f : Forest) (p : Parts) (ns : List Int) (s : Nat) : Prop :=
  ns.getD s 0 ∈ Vl (nd p (Z0 f s)) ∧ (0 ≤ par f (Z0 f s) → ∃ l ∈ lk p (Z0 f s), l.a = ns.getD (Zz f (par f (Z0 f s))) 0 ∧ l.b = ns.getD s 0)
def Sat (f : Forest) (p : Parts) (i : Nat) (ns : List Int) : Prop := ns.length = i ∧ ∀ s, s < i → SatAt f p ns s
theorem getD_app {ns : List Int} {a : Int} {s : Nat} (h : s < ns.length) : (ns ++ [a]).getD s 0 = ns.getD s 0 := by
  rw [List.getD_eq_getElem?_getD, List.getD_eq_getElem?_getD, List.getElem?_append_left h]
theorem Vg {ns : List Int} {a : Int} : (ns ++ [a]).getD ns.length 0 = a := by
  rw [List.getD_eq_getElem?_getD, List.getElem?_append_right (Nat.le_refl _)]; simp
theorem SatAt.app {f : Forest} {p : Parts} {ns : List Int} {a : Int} {s : Nat} (hg : GoodF f) (hs : s < ns.length) (hn : ns.length < f.vars.length) : SatAt f p (ns ++ [a]) s ↔ SatAt f p ns s := by
  unfold SatAt
  rw [getD_app hs]
  constructor
  · intro ⟨h1, h2⟩
    refine ⟨h1, fun hp => ?_⟩
    obtain ⟨l, hl, e1, e2⟩ := h2 hp
    rw [getD_app (by have := (hg.pos_par (by omega) hp).1; omega)] at e1
    exact ⟨l, hl, e1, e2⟩
  · intro ⟨h1, h2⟩
    refine ⟨h1, fun hp => ?_⟩
    obtain ⟨l, hl, e1, e2⟩ := h2 hp
    exact ⟨l, hl, by rw [getD_app (by have := (hg.pos_par (by omega) hp).1; omega)]; exact e1, e2⟩
theorem sat_succ {f : Forest} {p : Parts} {ns : List Int} {a : Int} {i : Nat} (hg : GoodF f) (hl : ns.length = i) (hi : i < f.vars.length) : Sat f p (i + 1) (ns ++ [a]) ↔ Sat f p i ns ∧ SatAt f p (ns ++ [a]) i := by
  subst hl
  constructor
  · intro ⟨h1, h2⟩
    exact ⟨⟨rfl, fun s hs => (SatAt.app hg hs hi).1 (h2 s (by omega))⟩, h2 _ (by omega)⟩
  · intro ⟨⟨_, h1⟩, h2⟩
    refine ⟨by simp, fun s hs => ?_⟩
    rcases Nat.lt_or_ge s ns.length with h | h
    · exact (SatAt.app hg h hi).2 (h1 s h)
    · obtain rfl : s = ns.length := by omega
      exact h2
theorem rowOne_sat {f : Forest} {p : Parts} {r r' : RowT} {x : Link} {i : Nat} (hg : GoodF f) (hi : i < f.vars.length) (hr : r.nodes.length = i) (hx : x ∈ nd p (Z0 f i)) (h : V5 f p (Z0 f i) r x = some r') : r'.nodes = r.nodes ++ [x.a] ∧ SatAt f p r'.nodes i := by
  subst hr
  have hfirst : x.a ∈ Vl (nd p (Z0 f r.nodes.length)) := List.mem_map.2 ⟨x, hx, rfl⟩
  unfold V5 at h
  split at h
  · rename_i hp
    split at h
    · rename_i hlo
      injection h with h
      subst h
      refine ⟨rfl, by rw [Vg]; exact hfirst, fun _ => ?_⟩
      obtain ⟨l, hl, e1, e2⟩ := findI_ge.1 hlo
      have := (hg.pos_par hi hp).1
      exact ⟨l, hl, by rw [getD_app this]; exact e1, by rw [Vg]; exact e2⟩
    · cases h
  · rename_i hp
    injection h with h
    subst h
    exact ⟨rfl, by rw [Vg]; exact hfirst, fun h => absurd h hp⟩
theorem rowOne_some {f : Forest} {p : Parts} {r : RowT} {x : Link} {i : Nat} (hg : GoodF f) (hi : i < f.vars.length) (hr : r.nodes.length = i) (hs : SatAt f p (r.nodes ++ [x.a]) i) : ∃ r', V5 f p (Z0 f i) r x = some r' ∧ r'.nodes = r.nodes ++ [x.a] := by
  subst hr
  unfold V5
  by_cases hp : 0 ≤ par f (Z0 f r.nodes.length)
  · obtain ⟨l, hl, e1, e2⟩ := hs.2 hp
    rw [getD_app (hg.pos_par hi hp).1] at e1
    rw [Vg] at e2
    have hlo : 0 ≤ linkOf f p (Z0 f r.nodes.length) r x := findI_ge.2 ⟨l, hl, e1, e2⟩
    rw [if_pos hp, if_pos hlo]
    exact ⟨_, rfl, rfl⟩
  · rw [if_neg hp]; exact ⟨_, rfl, rfl⟩
theorem rows_len {f : Forest} {p : Parts} : ∀ (i : Nat), ∀ r ∈ Uc f p i, r.nodes.length = i
  | 0, r, h => by simp [Uc] at h; subst h; rfl
  | i + 1, r, h => by
    obtain ⟨r0, h0, h1⟩ := List.mem_flatMap.1 h
    obtain ⟨x, hx, h2⟩ := List.mem_filterMap.1 h1
    have h3 := rows_len i r0 h0
    unfold V5 at h2
    split at h2
    · split at h2
      · injection h2 with h2; subst h2; simp [h3]
      · cases h2
    · injection h2 with h2; subst h2; simp [h3]
theorem rows_sat {f : Forest} {p : Parts} (hg : GoodF f) : ∀ (i : Nat), i ≤ f.vars.length → ∀ r ∈ Uc f p i, Sat f p i r.nodes
  | 0, _, r, h => by simp [Uc] at h; subst h; exact ⟨rfl, fun s hs => by omega⟩
  | i + 1, hi, r, h => by
    obtain ⟨r0, h0, h1⟩ := List.mem_flatMap.1 h
    obtain ⟨x, hx, h2⟩ := List.mem_filterMap.1 h1
    have h3 := rows_len i r0 h0
    obtain ⟨e, hs⟩ := rowOne_sat hg (by omega) h3 hx h2
    rw [e] at hs ⊢
    exact (sat_succ hg h3 (by omega)).2 ⟨rows_sat hg i (by omega) r0 h0, hs⟩
theorem sat_rows {f : Forest} {p : Parts} (hg : GoodF f) : ∀ (i : Nat), i ≤ f.vars.length → ∀ ns, Sat f p i ns → ∃ r ∈ Uc f p i, r.nodes = ns
  | 0, _, ns, ⟨h, _⟩ => ⟨⟨[], 0, 1⟩, by simp [Uc], by rw [List.eq_nil_of_length_eq_zero h]⟩
  | i + 1, hi, ns, h => by
    obtain ⟨ns0, a, rfl⟩ : ∃ ns0 a, ns = ns0 ++ [a] := ⟨ns.dropLast, ns.getLast (by intro e; rw [e] at h; have := h.1; simp at this), (List.dropLast_concat_getLast _).symm⟩
    have hl : ns0.length = i := by have := h.1; simp at this; exact this
    obtain ⟨h1, h2⟩ := (sat_succ hg hl (by omega)).1 h
    obtain ⟨r0, h3, h4⟩ := sat_rows hg i (by omega) ns0 h1
    have h5 := h2.1
    rw [← hl, Vg, hl] at h5
    obtain ⟨x, hx, e⟩ := List.mem_map.1 h5
    subst e
    rw [← h4] at h2 hl
    obtain ⟨r', h6, h7⟩ := rowOne_some hg (by omega) hl h2
    exact ⟨r', List.mem_flatMap.2 ⟨r0, h3, List.mem_filterMap.2 ⟨x, hx, h6⟩⟩, by rw [h7, h4]⟩
theorem Sat.sub {f : Forest} {p q : Parts} {i : Nat} {ns : List Int} (h : Sat f q i ns) (hs : Sub q p) : Sat f p i ns :=
  ⟨h.1, fun s hi => by
    obtain ⟨h1, h2⟩ := h.2 s hi
    refine ⟨?_, fun hp => ?_⟩
    · obtain ⟨x, hx, e⟩ := List.mem_map.1 h1
      exact List.mem_map.2 ⟨x, (hs _).1.subset hx, e⟩
    · obtain ⟨l, hl, e⟩ := h2 hp
      exact ⟨l, (hs _).2.subset hl, e⟩⟩
end Go.Proofs.Ytmakkmcjocjgmaa.Am


/- What was reduced has the same rows, and each of its nodes and links is in some row. -/
namespace Go.Proofs.Ytmakkmcjocjgmaa.Am
open Go Go.RowKit
set_option maxRecDepth 100000
set_option linter.unusedVariables false
set_option linter.unusedSimpArgs false

theorem sat_up {f : Forest} {p : Parts} {w : Nat} {ns : List Int} (hg : GoodF f) (hl : Lens f.vars.length p) (hw : w < f.vars.length) (h : Sat f p f.vars.length ns) : Sat f (upC f p w) f.vars.length ns ∧ Sat f (Z1 f p w) f.vars.length ns := by
  have hge : -1 ≤ par f w ∧ par f w < f.vars.length := hg.parent_ge hw
  have hu : (par f w).toNat < f.vars.length := by omega
  have hnn : par f w ≠ -1 → 0 ≤ par f w := fun h => by omega
  have hlink : par f w ≠ -1 → ∃ l ∈ left p w (par f w).toNat, l.a = ns.getD (Zz f (par f w)) 0 ∧ l.b = ns.getD (Zz f w) 0 := fun hp => by
    obtain ⟨k1, k2⟩ := hg.vAt_pos hw
    have hp0 : 0 ≤ par f w := hnn hp
    obtain ⟨h1, h2⟩ := h.2 (Zz f w) k1
    rw [k2] at h1 h2
    obtain ⟨l, hl1, e1, e2⟩ := h2 hp0
    have hpn : ((par f w).toNat : Int) = par f w := Int.toNat_of_nonneg hp0
    obtain ⟨k3, k4⟩ := hg.vAt_pos (v := (par f w).toNat) hu
    rw [hpn] at k3 k4
    have h3 := (h.2 _ k3).1
    rw [k4] at h3
    exact ⟨l, left_mem.2 ⟨hl1, by rw [e1]; exact h3, by rw [e2]; exact h1⟩, e1, e2⟩
  constructor
  · refine ⟨h.1, fun s hs => ?_⟩
    obtain ⟨h1, h2⟩ := h.2 s hs
    refine ⟨?_, fun hp => ?_⟩
    · rw [nd_up hl hu]
      split
      · rename_i hc
        obtain ⟨l, hl1, e1, e2⟩ := hlink hc.1
        obtain ⟨x, hx, e⟩ := List.mem_map.1 h1
        refine List.mem_map.2 ⟨x, List.mem_filter.2 ⟨hx, ?_⟩, e⟩
        rw [decide_eq_true_eq, e]
        have hps : Zz f (par f w) = s := by
          have := hg.pos_vAt hs
          rw [hc.2, show ((par f w).toNat : Int) = par f w from Int.toNat_of_nonneg (hnn hc.1)] at this
          exact this
        rw [hps] at e1
        exact List.mem_map.2 ⟨l, hl1, e1⟩
      · exact h1
    · rw [lk_up hl hw]
      split
      · rename_i hc
        obtain ⟨l, hl1, e1, e2⟩ := hlink hc.1
        have hps : Zz f w = s := by rw [← hc.2]; exact hg.pos_vAt hs
        rw [hps] at e2
        exact ⟨l, hl1, by rw [hc.2]; exact e1, e2⟩
      · exact h2 hp
  · refine ⟨h.1, fun s hs => ?_⟩
    obtain ⟨h1, h2⟩ := h.2 s hs
    refine ⟨?_, fun hp => ?_⟩
    · rw [nd_down hl hw]
      split
      · rename_i hc
        obtain ⟨l, hl1, e1, e2⟩ := hlink hc.1
        rw [hc.2] at h1
        obtain ⟨x, hx, e⟩ := List.mem_map.1 h1
        refine List.mem_map.2 ⟨x, List.mem_filter.2 ⟨hx, ?_⟩, e⟩
        rw [decide_eq_true_eq, e]
        have hps : Zz f w = s := by rw [← hc.2]; exact hg.pos_vAt hs
        rw [hps] at e2
        exact List.mem_map.2 ⟨l, hl1, e2⟩
      · exact h1
    · rw [lk_down hl hw]
      split
      · rename_i hc
        obtain ⟨l, hl1, e1, e2⟩ := hlink hc.1
        have hps : Zz f w = s := by rw [← hc.2]; exact hg.pos_vAt hs
        rw [hps] at e2
        exact ⟨l, hl1, by rw [hc.2]; exact e1, e2⟩
      · exact h2 hp
theorem sat_up_fold {f : Forest} {ns : List Int} (hg : GoodF f) : ∀ (vs : List Int) (p : Parts), (∀ v ∈ vs, v.toNat < f.vars.length) → Lens f.vars.length p → Sat f p f.vars.length ns → Sat f (vs.foldl (fun p v => upC f p v.toNat) p) f.vars.length ns
  | [], _, _, _, h => h
  | v :: vs, p, hv, hl, h => sat_up_fold hg vs _ (fun w hw => hv w (by simp [hw])) (hl.up _) (sat_up hg hl (hv v (by simp)) h).1
theorem sat_down_fold {f : Forest} {ns : List Int} (hg : GoodF f) : ∀ (vs : List Int) (p : Parts), (∀ v ∈ vs, v.toNat < f.vars.length) → Lens f.vars.length p → Sat f p f.vars.length ns → Sat f (vs.foldl (fun p v => Z1 f p v.toNat) p) f.vars.length ns
  | [], _, _, _, h => h
  | v :: vs, p, hv, hl, h => sat_down_fold hg vs _ (fun w hw => hv w (by simp [hw])) (hl.down _) (sat_up hg hl (hv v (by simp)) h).2
theorem sat_ofP {f : Forest} {p : Parts} {ns : List Int} (h : GoodP f p) (hs : Sat f p f.vars.length ns) : Sat f (V1 f p) f.vars.length ns := by
  obtain ⟨k1, k2, k3, k4⟩ := up_all h.gf f.order.reverse [] p rfl h.lens h.nb (fun v hv => by simp at hv)
  have e1 : upP f p = f.order.reverse.foldl (fun p v => upC f p v.toNat) p := k4
  rw [← e1] at k1 k2
  have e2 : downP f (upP f p) = f.order.foldl (fun p v => Z1 f p v.toNat) (upP f p) := down_fold _ _ (fun v hv => by have := h.gf.order_in hv; omega) k1 (h.nb.sub k2)
  have s1 : Sat f (upP f p) f.vars.length ns := by rw [e1]; exact sat_up_fold h.gf _ _ (fun v hv => by have := h.gf.order_in (List.mem_reverse.1 hv); omega) h.lens hs
  have s2 : Sat f (downP f (upP f p)) f.vars.length ns := by rw [e2]; exact sat_down_fold h.gf _ _ (fun v hv => by have := h.gf.order_in hv; omega) k1 s1
  unfold V1
  split
  · rename_i hr
    exfalso
    obtain ⟨v, hv, hr2⟩ := List.any_eq_true.1 hr
    have hvv := h.gf.order_in hv
    obtain ⟨m, rfl⟩ : ∃ m : Nat, v = m := ⟨v.toNat, by omega⟩
    obtain ⟨q1, q2⟩ := h.gf.vAt_pos (v := m) (by omega)
    have h3 := (s2.2 _ q1).1
    rw [q2] at h3
    unfold Zv at hr2
    rw [Bool.and_eq_true, decide_eq_true_eq, decide_eq_true_eq, Int.toNat_natCast] at hr2
    rw [show nd (downP f (upP f p)) m = [] from List.eq_nil_of_length_eq_zero hr2.2] at h3
    simp [Vl] at h3
  · exact s2
def Pinned (f : Forest) (x : Parts) (pin : Nat → Option Int) : Prop := ∀ s a, pin s = some a → s < f.vars.length ∧ a ∈ Vl (nd x (Z0 f s)) ∧ (0 ≤ par f (Z0 f s) → ∃ l ∈ lk x (Z0 f s), pin (Zz f (par f (Z0 f s))) = some l.a ∧ l.b = a)
structure Fit (f : Forest) (x : Parts) : Prop where
  gf : GoodF f
  full : ∀ v : Nat, v < f.vars.length → par f v ≠ -1 → Full f x v
  root : ∀ v : Nat, v < f.vars.length → par f v = -1 → nd x v ≠ []
theorem mem_par {f : Forest} {x : Parts} {s : Nat} (hg : GoodF f) (hs : s < f.vars.length) (hp : 0 ≤ par f (Z0 f s)) : (par f (Z0 f s)).toNat = Z0 f (Zz f (par f (Z0 f s))) := by
  have := (hg.pos_par hs hp).2; omega
theorem pinned_row {f : Forest} {x : Parts} (hx : Fit f x) {pin : Nat → Option Int} (hpin : Pinned f x pin) : ∀ i, i ≤ f.vars.length → ∃ ns, Sat f x i ns ∧ ∀ s a, s < i → pin s = some a → ns.getD s 0 = a
  | 0, _ => ⟨[], ⟨rfl, fun s hs => by omega⟩, fun s a hs => by omega⟩
  | i + 1, hi => by
    obtain ⟨ns, h1, h2⟩ := pinned_row hx hpin i (by omega)
    have hlen := h1.1
    have key : ∃ a, SatAt f x (ns ++ [a]) i ∧ ∀ a', pin i = some a' → a = a' := by
      have hvl := (hx.gf.vAt_lt (s := i) (by omega)).1
      have hge : -1 ≤ par f (Z0 f i) ∧ par f (Z0 f i) < f.vars.length := hx.gf.parent_ge hvl
      cases hpi : pin i with
      | some a =>
        obtain ⟨k1, k2, k3⟩ := hpin i a hpi
        refine ⟨a, ⟨by rw [← hlen, Vg, hlen]; exact k2, fun hp => ?_⟩, fun a' e => by injection e⟩
        obtain ⟨l, hl, e1, e2⟩ := k3 hp
        have hq := (hx.gf.pos_par (by omega) hp).1
        refine ⟨l, hl, ?_, ?_⟩
        · rw [getD_app (by omega)]; exact (h2 _ _ hq e1).symm
        · rw [← hlen, Vg]; exact e2
      | none =>
        by_cases hp : par f (Z0 f i) = -1
        · obtain ⟨y, hy⟩ := List.exists_mem_of_ne_nil _ (hx.root _ hvl hp)
          exact ⟨y.a, ⟨by rw [← hlen, Vg, hlen]; exact List.mem_map.2 ⟨y, hy, rfl⟩, fun h => by omega⟩, fun a' e => by cases e⟩
        · have hp0 : 0 ≤ par f (Z0 f i) := by omega
          have hF := hx.full _ hvl hp
          have hq := (hx.gf.pos_par (by omega) hp0).1
          have h3 := (h1.2 _ hq).1
          rw [← mem_par (x := x) hx.gf (by omega) hp0] at h3
          obtain ⟨y, hy, e⟩ := List.mem_map.1 h3
          obtain ⟨l, hl, e1⟩ := List.mem_map.1 (hF.up y hy)
          refine ⟨l.b, ⟨by rw [← hlen, Vg, hlen]; exact (hF.ends l hl).2, fun _ => ⟨l, hl, ?_, by rw [← hlen, Vg]⟩⟩, fun a' e => by cases e⟩
          rw [getD_app (by omega), ← e]; exact e1
    obtain ⟨a, k1, k2⟩ := key
    refine ⟨ns ++ [a], (sat_succ hx.gf hlen (by omega)).2 ⟨h1, k1⟩, fun s a' hs hp => ?_⟩
    rcases Nat.lt_or_ge s i with h | h
    · rw [getD_app (by omega)]; exact h2 s a' h hp
    · obtain rfl : s = i := by omega
      rw [← hlen, Vg]; exact k2 a' hp
theorem pin_node {f : Forest} {x : Parts} (hx : Fit f x) : ∀ (s0 : Nat), s0 < f.vars.length → ∀ a0 ∈ Vl (nd x (Z0 f s0)), ∃ pin, Pinned f x pin ∧ pin s0 = some a0 ∧ ∀ s, s0 < s → pin s = none := by
  intro s0
  induction s0 using Nat.strongRecOn with
  | ind s0 ih =>
    intro hs a0 ha
    have hvl := (hx.gf.vAt_lt hs).1
    have hge : -1 ≤ par f (Z0 f s0) ∧ par f (Z0 f s0) < f.vars.length := hx.gf.parent_ge hvl
    by_cases hp : par f (Z0 f s0) = -1
    · refine ⟨fun s => if s = s0 then some a0 else none, fun s a e => ?_, by simp, fun s h => if_neg (by omega)⟩
      by_cases hss : s = s0
      · subst hss; simp at e; subst e; exact ⟨hs, ha, fun h => by omega⟩
      · simp [hss] at e
    · have hp0 : 0 ≤ par f (Z0 f s0) := by omega
      have hF := hx.full _ hvl hp
      have hq := (hx.gf.pos_par hs hp0).1
      obtain ⟨y, hy, e⟩ := List.mem_map.1 ha
      obtain ⟨l, hl, e1⟩ := List.mem_map.1 (hF.down y hy)
      have h3 := (hF.ends l hl).1
      rw [mem_par (x := x) hx.gf hs hp0] at h3
      obtain ⟨pin, k1, k2, k3⟩ := ih _ hq (by omega) l.a h3
      refine ⟨fun s => if s = s0 then some a0 else pin s, fun s a ee => ?_, by simp, fun s h => (if_neg (by omega)).trans (k3 s (by omega))⟩
      by_cases hss : s = s0
      · subst hss
        simp at ee
        subst ee
        exact ⟨hs, ha, fun _ => ⟨l, hl, (if_neg (by omega)).trans k2, by rw [e1]; exact e⟩⟩
      · simp only [hss, if_false] at ee
        obtain ⟨j1, j2, j3⟩ := k1 s a ee
        refine ⟨j1, j2, fun h => ?_⟩
        obtain ⟨l', hl', e3, e4⟩ := j3 h
        refine ⟨l', hl', ?_, e4⟩
        have hsq : ¬ Zz f (par f (Z0 f s0)) < s := fun h => by rw [k3 s h] at ee; cases ee
        have := (hx.gf.pos_par j1 h).1
        exact (if_neg (by omega)).trans e3
theorem pin_link {f : Forest} {x : Parts} (hx : Fit f x) {s0 : Nat} (hs : s0 < f.vars.length) (hp : par f (Z0 f s0) ≠ -1) {l : Link} (hl : l ∈ lk x (Z0 f s0)) : ∃ pin, Pinned f x pin ∧ pin s0 = some l.b ∧ pin (Zz f (par f (Z0 f s0))) = some l.a := by
  have hvl := (hx.gf.vAt_lt hs).1
  have hge : -1 ≤ par f (Z0 f s0) ∧ par f (Z0 f s0) < f.vars.length := hx.gf.parent_ge hvl
  have hp0 : 0 ≤ par f (Z0 f s0) := by omega
  have hF := hx.full _ hvl hp
  have hq := (hx.gf.pos_par hs hp0).1
  obtain ⟨h3, h4⟩ := hF.ends l hl
  rw [mem_par (x := x) hx.gf hs hp0] at h3
  obtain ⟨pin, k1, k2, k3⟩ := pin_node hx _ (by omega) l.a h3
  refine ⟨fun s => if s = s0 then some l.b else pin s, fun s a ee => ?_, by simp, (if_neg (by omega)).trans k2⟩
  by_cases hss : s = s0
  · subst hss
    simp at ee
    subst ee
    exact ⟨hs, h4, fun _ => ⟨l, hl, (if_neg (by omega)).trans k2, rfl⟩⟩
  · simp only [hss, if_false] at ee
    obtain ⟨j1, j2, j3⟩ := k1 s a ee
    refine ⟨j1, j2, fun h => ?_⟩
    obtain ⟨l', hl', e3, e4⟩ := j3 h
    refine ⟨l', hl', ?_, e4⟩
    have hsq : ¬ Zz f (par f (Z0 f s0)) < s := fun h => by rw [k3 s h] at ee; cases ee
    have := (hx.gf.pos_par j1 h).1
    exact (if_neg (by omega)).trans e3
end Go.Proofs.Ytmakkmcjocjgmaa.Am


/- Just those nodes and links are left that are in some row, and the rows are what they were. -/
namespace Go.Proofs.Ytmakkmcjocjgmaa.Am
open Go Go.RowKit
set_option maxRecDepth 100000
set_option linter.unusedVariables false
set_option linter.unusedSimpArgs false

theorem findI_link {xs : List Link} {a b : Int} (h : 0 ≤ findI xs a b) : ∃ m : Nat, findI xs a b = m ∧ ∃ hm : m < xs.length, xs[m].a = a ∧ xs[m].b = b := by
  unfold findI at *
  cases hf : xs.findIdx? (isAt a b) with
  | none => rw [hf] at h; simp at h
  | some i =>
    obtain ⟨hi, h1, _⟩ := List.findIdx?_eq_some_iff_getElem.1 hf
    unfold isAt at h1
    rw [Bool.and_eq_true, decide_eq_true_eq, decide_eq_true_eq] at h1
    exact ⟨i, rfl, hi, h1⟩
theorem goodL_ne {xs : List Link} (h : GoodL xs) : xs.Pairwise fun x y => x.a ≠ y.a ∨ x.b ≠ y.b :=
  (goodL_iff.1 h).2.imp fun {x y} h => by
    simp only [lessL, Bool.or_eq_true, Bool.and_eq_true, decide_eq_true_eq] at h
    omega
theorem pairwise_uniq {α : Type} {R : α → α → Prop} (sy : ∀ x y, R x y → R y x) {xs : List α} (h : xs.Pairwise R) {x y : α} (hx : x ∈ xs) (hy : y ∈ xs) (hne : ¬ R x y) : x = y := by
  obtain ⟨i, hi, rfl⟩ := List.getElem_of_mem hx
  obtain ⟨j, hj, rfl⟩ := List.getElem_of_mem hy
  rw [List.pairwise_iff_getElem] at h
  rcases Nat.lt_trichotomy i j with h1 | h1 | h1
  · exact absurd (h i j hi hj h1) hne
  · subst h1; rfl
  · exact absurd (sy _ _ (h j i hj hi h1)) hne
theorem goodL_uniq {xs : List Link} (h : GoodL xs) {x y : Link} (hx : x ∈ xs) (hy : y ∈ xs) (ha : x.a = y.a) (hb : x.b = y.b) : x = y :=
  pairwise_uniq (R := fun x y => x.a ≠ y.a ∨ x.b ≠ y.b) (fun x y h => h.elim (fun h => .inl (Ne.symm h)) (fun h => .inr (Ne.symm h))) (goodL_ne h) hx hy (by rw [ha, hb]; simp)
theorem sublist_filter {α : Type} {xs ys : List α} {q : α → Bool} (h : xs.Sublist ys) : ys.Nodup → (∀ y ∈ ys, q y = true ↔ y ∈ xs) → xs = ys.filter q := by
  induction h with
  | slnil => intro _ _; rfl
  | @cons xs ys a hs ih =>
    intro hn hq
    obtain ⟨h1, h2⟩ := List.nodup_cons.1 hn
    have hqa : ¬ q a = true := fun h => h1 (hs.subset ((hq a (by simp)).1 h))
    rw [List.filter_cons_of_neg hqa]
    exact ih h2 fun y hy => hq y (by simp [hy])
  | @cons_cons xs ys a hs ih =>
    intro hn hq
    obtain ⟨h1, h2⟩ := List.nodup_cons.1 hn
    rw [List.filter_cons_of_pos ((hq a (by simp)).2 (by simp)), ← ih h2 fun y hy => ?_]
    rw [hq y (by simp [hy])]
    constructor
    · intro h
      rcases List.mem_cons.1 h with h | h
      · exact absurd (h ▸ hy) h1
      · exact h
    · intro h; simp [h]
theorem nd_uniq {f : Forest} {p : Parts} (h : GoodP f p) {v : Nat} (hv : v < f.vars.length) {x y : Link} (hx : x ∈ nd p v) (hy : y ∈ nd p v) (ha : x.a = y.a) : x = y :=
  goodL_uniq (h.ok v hv).1 hx hy ha (by rw [← h.nb v x hx, ← h.nb v y hy, ha])
theorem lk_uniq {f : Forest} {p : Parts} (h : GoodP f p) {v : Nat} (hv : v < f.vars.length) {x y : Link} (hx : x ∈ lk p v) (hy : y ∈ lk p v) (ha : x.a = y.a) (hb : x.b = y.b) : x = y := goodL_uniq (h.ok v hv).2.1 hx hy ha hb
theorem fit_of {f : Forest} {p : Parts} (h : GoodP f p) (hr : ¬ f.order.any (Zv f (V1 f p)) = true) : Fit f (V1 f p) := by
  obtain ⟨k1, k2, k3, k4⟩ := Vv h
  refine ⟨h.gf, k3, fun v hv hp he => hr (List.any_eq_true.2 ⟨v, h.gf.in_order hv, ?_⟩)⟩
  unfold Zv
  rw [Int.toNat_natCast, Bool.and_eq_true, decide_eq_true_eq, decide_eq_true_eq]
  exact ⟨hp, by rw [show (V1 f p).nodes.getD v [] = [] from he]; rfl⟩
theorem rows_mem {f : Forest} {p : Parts} (hg : GoodF f) {ns : List Int} (h : Sat f p f.vars.length ns) : ∃ r ∈ rowsP f p, r.nodes = ns := by
  unfold rowsP
  rw [hg.l1]
  exact sat_rows hg _ (Nat.le_refl _) ns h
theorem mem_rows {f : Forest} {p : Parts} (hg : GoodF f) {r : RowT} (h : r ∈ rowsP f p) : Sat f p f.vars.length r.nodes := by
  unfold rowsP at h
  rw [hg.l1] at h
  exact rows_sat hg _ (Nat.le_refl _) r h
theorem node_in {f : Forest} {p : Parts} (h : GoodP f p) {v : Nat} (hv : v < f.vars.length) {y : Link} (hy : y ∈ nd p v) : (∃ r ∈ rowsP f p, r.nodes.getD (Zz f v) 0 = y.a) ↔ y ∈ nd (V1 f p) v := by
  obtain ⟨k1, k2, k3, k4⟩ := Vv h
  obtain ⟨q1, q2⟩ := h.gf.vAt_pos hv
  constructor
  · intro ⟨r, hr, e⟩
    have h1 := ((sat_ofP h (mem_rows h.gf hr)).2 _ q1).1
    rw [q2, e] at h1
    obtain ⟨z, hz, e2⟩ := List.mem_map.1 h1
    rw [nd_uniq h hv hy ((k2 v).1.subset hz) e2.symm]
    exact hz
  · intro hx
    have hr : ¬ f.order.any (Zv f (V1 f p)) = true := fun hr => by
      rw [k4 hr, nd_empties] at hx; simp at hx
    have hF := fit_of h hr
    obtain ⟨pin, j1, j2, _⟩ := pin_node hF (Zz f v) q1 y.a (by rw [q2]; exact List.mem_map.2 ⟨y, hx, rfl⟩)
    obtain ⟨ns, j4, j5⟩ := pinned_row hF j1 _ (Nat.le_refl _)
    obtain ⟨r, hr1, hr2⟩ := rows_mem h.gf (j4.sub k2)
    exact ⟨r, hr1, by rw [hr2]; exact j5 _ _ q1 j2⟩
theorem link_in {f : Forest} {p : Parts} (h : GoodP f p) {v : Nat} (hv : v < f.vars.length) {l : Link} (hl : l ∈ lk p v) : (∃ r ∈ rowsP f p, r.nodes.getD (Zz f v) 0 = l.b ∧ r.nodes.getD (Zz f (par f v)) 0 = l.a) ↔ l ∈ lk (V1 f p) v := by
  obtain ⟨k1, k2, k3, k4⟩ := Vv h
  obtain ⟨q1, q2⟩ := h.gf.vAt_pos hv
  have hge : -1 ≤ par f v ∧ par f v < f.vars.length := h.gf.parent_ge hv
  have hpar : par f v ≠ -1 := fun e => by
    have h4 := (h.ok v hv).2.2.2 e
    unfold lk at hl
    rw [h4] at hl; simp at hl
  have hp0 : 0 ≤ par f v := by omega
  constructor
  · intro ⟨r, hr, e1, e2⟩
    have h1 := ((sat_ofP h (mem_rows h.gf hr)).2 _ q1).2
    rw [q2, e1, e2] at h1
    obtain ⟨z, hz, e3, e4⟩ := h1 hp0
    rw [lk_uniq h hv hl ((k2 v).2.subset hz) e3.symm e4.symm]
    exact hz
  · intro hx
    have hr : ¬ f.order.any (Zv f (V1 f p)) = true := fun hr => by
      rw [k4 hr, lk_empties] at hx; simp at hx
    have hF := fit_of h hr
    obtain ⟨pin, j1, j2, j3⟩ := pin_link hF q1 (by rw [q2]; exact hpar) (l := l) (by rw [q2]; exact hx)
    rw [q2] at j3
    obtain ⟨ns, j4, j5⟩ := pinned_row hF j1 _ (Nat.le_refl _)
    obtain ⟨r, hr1, hr2⟩ := rows_mem h.gf (j4.sub k2)
    have hq := (h.gf.pos_par q1 (by rw [q2]; exact hp0)).1
    rw [q2] at hq
    exact ⟨r, hr1, by rw [hr2]; exact j5 _ _ q1 j2, by rw [hr2]; exact j5 _ _ (by omega) j3⟩
theorem flatMap_sub {α β : Type} {g k : α → List β} {xs ys : List α} (h : xs.Sublist ys) : (∀ a ∈ xs, (g a).Sublist (k a)) → (xs.flatMap g).Sublist (ys.flatMap k) := by
  induction h with
  | slnil => intro _; simp
  | @cons xs ys a hs ih =>
    intro hg
    rw [List.flatMap_cons]
    exact (ih hg).trans (List.sublist_append_right _ _)
  | @cons_cons xs ys a hs ih =>
    intro hg
    rw [List.flatMap_cons, List.flatMap_cons]
    exact (hg a (by simp)).append (ih fun b hb => hg b (by simp [hb]))
theorem filterMap_sub {α β : Type} {g k : α → Option β} {xs ys : List α} (h : xs.Sublist ys) : (∀ a ∈ xs, ∀ b, g a = some b → k a = some b) → (xs.filterMap g).Sublist (ys.filterMap k) := by
  induction h with
  | slnil => intro _; simp
  | @cons xs ys a hs ih =>
    intro hg
    rw [List.filterMap_cons]
    split
    · exact ih hg
    · exact (ih hg).trans (List.sublist_cons_self _ _)
  | @cons_cons xs ys a hs ih =>
    intro hg
    have ih' := ih fun b hb => hg b (by simp [hb])
    rw [List.filterMap_cons]
    split
    · rw [List.filterMap_cons]
      split
      · exact ih'
      · exact ih'.trans (List.sublist_cons_self _ _)
    · rename_i b hb
      rw [List.filterMap_cons, hg a (by simp) b hb]
      exact ih'.cons_cons _
theorem rowOne_sub {f : Forest} {p x : Parts} (h : GoodP f p) (hs : Sub x p) {v : Nat} (hv : v < f.vars.length) {r : RowT} {y : Link} {r' : RowT} (h1 : V5 f x v r y = some r') : V5 f p v r y = some r' := by
  unfold V5 at *
  by_cases hp : 0 ≤ par f v
  · rw [if_pos hp] at h1 ⊢
    by_cases hx : 0 ≤ linkOf f x v r y
    · rw [if_pos hx] at h1
      obtain ⟨m, e1, hm, e2, e3⟩ := findI_link hx
      have hpx : 0 ≤ linkOf f p v r y := findI_ge.2 ⟨_, (hs v).2.subset (List.getElem_mem hm), e2, e3⟩
      obtain ⟨m', e1', hm', e2', e3'⟩ := findI_link hpx
      rw [if_pos hpx]
      have e : (lk x v)[m] = (lk p v)[m'] := lk_uniq h hv ((hs v).2.subset (List.getElem_mem hm)) (List.getElem_mem hm') (by rw [e2, e2']) (by rw [e3, e3'])
      have g1 : (lk x v).getD (linkOf f x v r y).toNat Vo = (lk x v)[m] := by rw [show linkOf f x v r y = (m : Int) from e1, Int.toNat_natCast, List.getD_eq_getElem?_getD, List.getElem?_eq_getElem hm]; rfl
      have g2 : (lk p v).getD (linkOf f p v r y).toNat Vo = (lk p v)[m'] := by rw [show linkOf f p v r y = (m' : Int) from e1', Int.toNat_natCast, List.getD_eq_getElem?_getD, List.getElem?_eq_getElem hm']; rfl
      rw [g1, e] at h1
      rw [g2]
      exact h1
    · rw [if_neg hx] at h1; cases h1
  · rw [if_neg hp] at h1 ⊢; exact h1
theorem rows_sub {f : Forest} {p x : Parts} (h : GoodP f p) (hs : Sub x p) : ∀ i, i ≤ f.vars.length → (Uc f x i).Sublist (Uc f p i)
  | 0, _ => List.Sublist.refl _
  | i + 1, hi => flatMap_sub (rows_sub h hs i (by omega)) fun r _ => filterMap_sub (hs _).1 fun y _ b hb => rowOne_sub h hs (h.gf.vAt_lt (by omega)).1 hb
theorem Uf {f : Forest} {p : Parts} {v : Nat} {r r' : RowT} {x : Link} (h : V5 f p v r x = some r') : r'.nodes = r.nodes ++ [x.a] := by
  unfold V5 at h
  split at h
  · split at h
    · injection h with h; subst h; rfl
    · cases h
  · injection h with h; subst h; rfl
theorem rows_ne {f : Forest} {p : Parts} (h : GoodP f p) : ∀ i, i ≤ f.vars.length → (Uc f p i).Pairwise fun r s => r.nodes ≠ s.nodes
  | 0, _ => by simp [Uc]
  | i + 1, hi => by
    show ((Uc f p i).flatMap _).Pairwise _
    rw [List.pairwise_flatMap]
    refine ⟨fun r hr => ?_, (rows_ne h i (by omega)).imp_of_mem fun {a b} ha hb hne x hx y hy e => ?_⟩
    · rw [List.pairwise_filterMap]
      refine (goodL_ne (h.ok _ (h.gf.vAt_lt (s := i) (by omega)).1).1).imp_of_mem fun {x y} hx hy hne b hb b' hb' e => ?_
      rw [Uf hb, Uf hb'] at e
      have e2 : x.a = y.a := by have := (List.append_inj' e rfl).2; simpa using this
      have n1 := h.nb _ x hx
      have n2 := h.nb _ y hy
      rcases hne with hne | hne
      · exact hne e2
      · exact hne (by rw [← n1, ← n2]; exact e2)
    · obtain ⟨_, _, h1⟩ := List.mem_filterMap.1 hx
      obtain ⟨_, _, h2⟩ := List.mem_filterMap.1 hy
      rw [Uf h1, Uf h2] at e
      exact hne (List.append_inj' e rfl).1
theorem rows_same {f : Forest} {p : Parts} (h : GoodP f p) : rowsP f (V1 f p) = rowsP f p := by
  obtain ⟨k1, k2, k3, k4⟩ := Vv h
  have hsub : (rowsP f (V1 f p)).Sublist (rowsP f p) := by unfold rowsP; exact rows_sub h k2 _ (by rw [h.gf.l1]; exact Nat.le_refl _)
  have hne : (rowsP f p).Pairwise fun r s => r.nodes ≠ s.nodes := by unfold rowsP; exact rows_ne h _ (by rw [h.gf.l1]; exact Nat.le_refl _)
  have := sublist_filter (q := fun _ => true) hsub (hne.imp fun {a b} h e => h (by rw [e])) fun r hr => ⟨fun _ => ?_, fun _ => rfl⟩
  · rw [this]; simp
  · obtain ⟨r', hr', e⟩ := rows_mem h.gf (sat_ofP h (mem_rows h.gf hr))
    have : r = r' := pairwise_uniq (fun _ _ h => Ne.symm h) hne hr (hsub.subset hr') (by rw [e]; simp)
    rw [this]; exact hr'
end Go.Proofs.Ytmakkmcjocjgmaa.Am


/- What the document calls reduced is what is left. -/
namespace Go.Proofs.Ytmakkmcjocjgmaa.Am
open Go Go.RowKit
set_option maxRecDepth 100000
set_option linter.unusedVariables false
set_option linter.unusedSimpArgs false

end Go.Proofs.Ytmakkmcjocjgmaa.Am


/- Places of parents, groups and rows, by the document's words. -/
namespace Go.Proofs.Ytmakkmcjocjgmaa.Am
open Go Go.RowKit
set_option maxRecDepth 100000
set_option linter.unusedVariables false
set_option linter.unusedSimpArgs false

def Z4 (f : Forest) (x : Parts) (v : Nat) (above : Int) (y : Link) : Option Link :=
  if 0 ≤ par f v then
    if 0 ≤ findI (lk x v) above y.a then some ⟨above, y.a, y.cost + ((lk x v).getD (findI (lk x v) above y.a).toNat Vo).cost, Yh y.n ((lk x v).getD (findI (lk x v) above y.a).toNat Vo).n⟩ else none
  else some y
def groupR (f : Forest) (x : Parts) (i above : Int) : List Link := if 0 ≤ i ∧ i < f.order.length then (nd x (Z0 f i.toNat)).filterMap (Z4 f x (Z0 f i.toNat) above) else []
end Go.Proofs.Ytmakkmcjocjgmaa.Am


/- What is asked of a tree holds of the trees that are made; their groups are those of the document's words. -/
namespace Go.Proofs.Ytmakkmcjocjgmaa.Am
open Go Go.RowKit
set_option maxRecDepth 100000
set_option linter.unusedVariables false
set_option linter.unusedSimpArgs false

theorem timesI_comm (a b : Int) : Yh a b = Yh b a := by unfold Yh; rw [Int.mul_comm]
theorem nodeOf_or (ns : List Link) (b : Int) : nodeOf ns b ∈ ns ∨ nodeOf ns b = Vo := by
  unfold nodeOf
  cases h : ns.find? (fun y => decide (y.a = b)) with
  | none => exact .inr rfl
  | some y => exact .inl (List.mem_of_find?_eq_some h)
theorem nodeOf_mem {ns : List Link} {y : Link} (hy : y ∈ ns) (hu : ∀ x ∈ ns, ∀ z ∈ ns, x.a = z.a → x = z) : nodeOf ns y.a = y := by
  unfold nodeOf
  cases h : ns.find? (fun z => decide (z.a = y.a)) with
  | none =>
    rw [List.find?_eq_none] at h
    have := h y hy
    simp at this
  | some z =>
    have h1 := List.find?_some h
    have h2 := List.mem_of_find?_eq_some h
    exact hu z h2 y hy (of_decide_eq_true h1)
theorem rise_ext : ∀ {xs ys : List Link}, xs.Pairwise (fun x y => x.b < y.b) → ys.Pairwise (fun x y => x.b < y.b) → (∀ l, l ∈ xs ↔ l ∈ ys) → xs = ys
  | [], [], _, _, _ => rfl
  | [], y :: ys, _, _, h => by have := (h y).2 (by simp); simp at this
  | x :: xs, [], _, _, h => by have := (h x).1 (by simp); simp at this
  | x :: xs, y :: ys, h1, h2, h => by
    obtain ⟨a1, a2⟩ := List.pairwise_cons.1 h1
    obtain ⟨b1, b2⟩ := List.pairwise_cons.1 h2
    have e : x = y := by
      have hx := (h x).1 (by simp)
      have hy := (h y).2 (by simp)
      rcases List.mem_cons.1 hx with hx | hx
      · exact hx
      · rcases List.mem_cons.1 hy with hy | hy
        · exact hy.symm
        · have := a1 y hy
          have := b1 x hx
          omega
    subst e
    rw [rise_ext a2 b2 fun l => ?_]
    constructor
    · intro hl
      rcases List.mem_cons.1 ((h l).1 (List.mem_cons_of_mem _ hl)) with e | e
      · subst e; have := a1 l hl; omega
      · exact e
    · intro hl
      rcases List.mem_cons.1 ((h l).2 (List.mem_cons_of_mem _ hl)) with e | e
      · subst e; have := b1 l hl; omega
      · exact e
theorem nd_rise {f : Forest} {x : Parts} (h : GoodP f x) {v : Nat} (hv : v < f.vars.length) : (nd x v).Pairwise fun y z => y.b < z.b :=
  List.Pairwise.imp_of_mem (R := fun y z => y.a < z.a) (fun {y z} hy hz hl => by have := (h.ok v hv).2.2.1 y hy; have := (h.ok v hv).2.2.1 z hz; omega) (goodL_strict (h.ok v hv).1 (h.ok v hv).2.2.1)
theorem tree_par {f : Forest} (x : Parts) (hg : GoodF f) {i : Nat} (hi : i < f.vars.length) : (Yr f x).parent.getD i 0 = atI f.order (par f (Z0 f i)) := by
  rw [List.getD_eq_getElem?_getD, (treeOf_at x (by rw [hg.l1]; exact hi)).2.1]; rfl
theorem tree_links {f : Forest} (x : Parts) (hg : GoodF f) {i : Nat} (hi : i < f.vars.length) : (Yr f x).links.getD i [] = Yq f x (Z0 f i) := by
  rw [List.getD_eq_getElem?_getD, (treeOf_at x (by rw [hg.l1]; exact hi)).2.2]; rfl
theorem at_root {f : Forest} (hg : GoodF f) {i : Nat} (hi : i < f.vars.length) : (par f (Z0 f i) = -1 ∧ atI f.order (par f (Z0 f i)) = -1) ∨ (0 ≤ par f (Z0 f i) ∧ 0 ≤ atI f.order (par f (Z0 f i)) ∧ atI f.order (par f (Z0 f i)) = Zz f (par f (Z0 f i)) ∧ Zz f (par f (Z0 f i)) < i) := by
  have hge := hg.parent_ge (hg.vAt_lt hi).1
  change -1 ≤ par f (Z0 f i) ∧ par f (Z0 f i) < _ at hge
  by_cases h : par f (Z0 f i) = -1
  · refine .inl ⟨h, ?_⟩
    rw [h]
    exact atI_none fun hm => by have := hg.order_in hm; omega
  · have h0 : 0 ≤ par f (Z0 f i) := by omega
    obtain ⟨p1, p2⟩ := hg.pos_par hi h0
    have hm : par f (Z0 f i) ∈ f.order := by
      have := hg.in_order (v := (par f (Z0 f i)).toNat) (by omega)
      rwa [Int.toNat_of_nonneg h0] at this
    obtain ⟨q, hq, _⟩ := atI_take (i := f.order.length) (by rw [List.take_length]; exact hm)
    exact .inr ⟨h0, by omega, by unfold Zz; omega, p1⟩
theorem place_row {f : Forest} {x : Parts} (hG : GoodP f x) {i : Nat} (hi : i < f.vars.length) (above : Int) : (Yr f x).row i above = if par f (Z0 f i) = -1 then nd x (Z0 f i) else ((lk x (Z0 f i)).map (Ua (nd x (Z0 f i)))).filter fun l => decide (l.a = above) := by
  unfold TreeT.row
  rw [tree_par x hG.gf hi, tree_links x hG.gf hi]
  unfold Yq
  rcases at_root hG.gf hi with ⟨h1, h2⟩ | ⟨h1, h2, _⟩
  · rw [if_pos h2, if_pos h1, if_pos h1]
  · rw [if_neg (by omega), if_neg (by omega), if_neg (by omega)]
theorem row_rise {f : Forest} {x : Parts} (hG : GoodP f x) {i : Nat} (hi : i < f.vars.length) (above : Int) : ((Yr f x).row i above).Pairwise fun y z => y.b < z.b := by
  have hv := (hG.gf.vAt_lt hi).1
  rw [place_row hG hi]
  split
  · exact nd_rise hG hv
  · have h1 := (goodL_iff.1 (hG.ok _ hv).2.1).2
    refine List.Pairwise.imp_of_mem (R := fun y z => lessL y z = true) (fun {y z} hy hz hl => ?_) ((List.Pairwise.map (R := fun y z => lessL y z = true) (Ua (nd x (Z0 f i))) (fun a b h => h) h1).filter _)
    have e1 := of_decide_eq_true (List.mem_filter.1 hy).2
    have e2 := of_decide_eq_true (List.mem_filter.1 hz).2
    simp only [lessL, Bool.or_eq_true, Bool.and_eq_true, decide_eq_true_eq] at hl
    omega
theorem weigh_ok {f : Forest} {x : Parts} (hch : Cheap x) {v : Nat} {l : Link} (hl : l ∈ lk x v) : 0 ≤ (Ua (nd x v) l).cost ∧ (Ua (nd x v) l).cost ≤ 2000000000 ∧ 0 ≤ (Ua (nd x v) l).n := by
  obtain ⟨a1, a2, a3⟩ := hch.links v l hl
  have hb : 0 ≤ (nodeOf (nd x v) l.b).cost ∧ (nodeOf (nd x v) l.b).cost ≤ 1000000000 ∧ 0 ≤ (nodeOf (nd x v) l.b).n := by
    rcases nodeOf_or (nd x v) l.b with h | h
    · exact hch.nodes v _ h
    · rw [h]; decide
  exact ⟨by show 0 ≤ _ + _; omega, by show _ + _ ≤ _; omega, (Vi a3 hb.2.2).1⟩
theorem good_tree {f : Forest} {x : Parts} (hG : GoodP f x) (hs : Small f x) (hch : Cheap x) (hv : f.vars.length ≤ 1000) : GoodT (Yr f x) := by
  obtain ⟨t1, t2, t3⟩ := V4 (f := f) x
  have hol : f.order.length = f.vars.length := hG.gf.l1
  have mem : ∀ l ∈ (Yr f x).links, ∃ v, l = Yq f x v := fun l hl => by
    obtain ⟨v, _, rfl⟩ := List.mem_map.1 hl
    exact ⟨_, rfl⟩
  refine ⟨by omega, by omega, by omega, fun l hl => ?_, fun i hi => ?_, fun i above => ?_, fun l hl y hy => ?_⟩
  · obtain ⟨v, rfl⟩ := mem l hl
    unfold Yq
    split
    · exact Ve hs.s5 v
    · rw [List.length_map]; exact Ve hs.s6 v
  · rw [tree_par x hG.gf (by omega)]
    rcases at_root hG.gf (i := i) (by omega) with ⟨_, h2⟩ | ⟨_, h2, h3, h4⟩
    · exact .inl h2
    · exact .inr ⟨h2, by omega⟩
  · unfold TreeT.group
    split
    · exact row_rise hG (by omega) _
    · exact List.Pairwise.nil
  · obtain ⟨v, rfl⟩ := mem l hl
    unfold Yq at hy
    split at hy
    · obtain ⟨a1, a2, a3⟩ := hch.nodes v y hy
      exact ⟨a1, by omega, a3⟩
    · obtain ⟨l, hl, rfl⟩ := List.mem_map.1 hy
      exact weigh_ok (f := f) hch hl
theorem filterMap_id {α : Type} {g : α → Option α} : ∀ {xs : List α}, (∀ y ∈ xs, g y = some y) → xs.filterMap g = xs
  | [], _ => rfl
  | x :: xs, h => by rw [List.filterMap_cons, h x (by simp)]; simp only; rw [filterMap_id fun y hy => h y (by simp [hy])]
theorem group_same {f : Forest} {x : Parts} (hG : GoodP f x) (hF : ∀ v : Nat, v < f.vars.length → par f v ≠ -1 → Full f x v) (i above : Int) : (Yr f x).group i above = groupR f x i above := by
  have hol : f.order.length = f.vars.length := hG.gf.l1
  unfold TreeT.group groupR
  rw [(V4 x).1]
  split
  · rename_i hi
    have hi' : i.toNat < f.vars.length := by omega
    have hv := (hG.gf.vAt_lt hi').1
    rw [place_row hG hi']
    obtain ⟨w, hw⟩ : ∃ w, w = Z0 f i.toNat := ⟨_, rfl⟩
    rw [← hw] at hv
    rw [← hw]
    have hge := hG.gf.parent_ge hv
    change -1 ≤ par f w ∧ _ at hge
    by_cases hp : par f w = -1
    · rw [if_pos hp]
      have : ∀ y ∈ nd x w, Z4 f x w above y = some y := fun y _ => by unfold Z4; rw [if_neg (by omega)]
      exact (filterMap_id this).symm
    · rw [if_neg hp]
      have hful := hF w hv hp
      have huq : ∀ y ∈ nd x w, ∀ z ∈ nd x w, y.a = z.a → y = z := fun y hy z hz e => nd_uniq hG hv hy hz e
      have hr := row_rise hG hi' above
      rw [place_row hG hi', ← hw, if_neg hp] at hr
      have hone : ∀ y ∈ nd x w, ∀ m ∈ lk x w, m.a = above → m.b = y.a → Z4 f x w above y = some (Ua (nd x w) m) := fun y hy m hm ha hb => by
        unfold Z4
        have hpos : 0 ≤ findI (lk x w) above y.a := findI_ge.2 ⟨m, hm, ha, hb⟩
        obtain ⟨j, hj, hjl, hja, hjb⟩ := findI_link hpos
        have em : (lk x w)[j] = m := lk_uniq hG hv (List.getElem_mem hjl) hm (by omega) (by omega)
        rw [if_pos (by omega), if_pos hpos, hj, Int.toNat_natCast, List.getD_eq_getElem?_getD, List.getElem?_eq_getElem hjl, em]
        unfold Ua
        rw [hb, nodeOf_mem hy huq]
        simp only [Option.getD_some, Option.some.injEq]
        refine Link.ext' ha.symm rfl ?_ (timesI_comm _ _)
        show _ + _ = _ + _
        omega
      refine rise_ext hr ?_ fun l => ?_
      · have h1 := goodL_strict (hG.ok w hv).1 (hG.ok w hv).2.2.1
        refine List.Pairwise.filterMap _ (R := fun y z => y.a < z.a) (fun a a' h b hb b' hb' => ?_) h1
        have key : ∀ (y l : Link), Z4 f x w above y = some l → l.b = y.a := fun y l h => by
          unfold Z4 at h
          rw [if_pos (by omega)] at h
          split at h
          · injection h with h; rw [← h]
          · cases h
        rw [key _ _ hb, key _ _ hb']; exact h
      · rw [List.mem_filter, List.mem_map, List.mem_filterMap]
        constructor
        · rintro ⟨⟨m, hm, rfl⟩, ha⟩
          have ha : m.a = above := of_decide_eq_true ha
          obtain ⟨_, he⟩ := hful.ends m hm
          obtain ⟨y, hy, hya⟩ := List.mem_map.1 he
          exact ⟨y, hy, hone y hy m hm ha hya.symm⟩
        · rintro ⟨y, hy, h⟩
          have hpos : 0 ≤ findI (lk x w) above y.a := by
            unfold Z4 at h
            rw [if_pos (by omega)] at h
            by_cases hh : 0 ≤ findI (lk x w) above y.a
            · exact hh
            · rw [if_neg hh] at h; cases h
          obtain ⟨m, hm, ha, hb⟩ := findI_ge.1 hpos
          rw [hone y hy m hm ha hb] at h
          injection h with h
          exact ⟨⟨m, hm, h⟩, by rw [← h]; exact decide_eq_true ha⟩
  · rfl
end Go.Proofs.Ytmakkmcjocjgmaa.Am


/- The rows of a tree are all rows; each of a group is in some row. -/
namespace Go.Proofs.Ytmakkmcjocjgmaa.Am
open Go Go.RowKit
set_option maxRecDepth 100000
set_option linter.unusedVariables false
set_option linter.unusedSimpArgs false

theorem findB_iff {g : List Link} (hr : g.Pairwise fun x y => x.b < y.b) {node : Int} {z : Link} : Zt g node = some z ↔ z ∈ g ∧ z.b = node := by
  constructor
  · intro h
    unfold Zt at h
    exact ⟨List.mem_of_find?_eq_some h, of_decide_eq_true (List.find?_some (p := fun (l : Link) => decide (l.b = node)) h)⟩
  · intro ⟨h1, h2⟩
    obtain ⟨i, hi, rfl⟩ := List.getElem_of_mem h1
    refine findB_some hi h2 fun j hj hl e => ?_
    have := List.pairwise_iff_getElem.1 hr j i hl hi hj
    omega
theorem row_group {f : Forest} {x : Parts} {v : Nat} {r : RowT} {y : Link} {above : Int} (h : 0 ≤ par f v → above = r.nodes.getD (atI f.order (par f v)).toNat 0) :
    V5 f x v r y = (Z4 f x v above y).map fun z => ⟨r.nodes ++ [y.a], r.cost + z.cost, Yh r.n z.n⟩ := by
  unfold V5 Z4 linkOf
  by_cases h1 : 0 ≤ par f v
  · rw [if_pos h1, if_pos h1, ← h h1]
    by_cases h2 : 0 ≤ findI (lk x v) above y.a
    · rw [if_pos h2, if_pos h2]; rfl
    · rw [if_neg h2, if_neg h2]; rfl
  · rw [if_neg h1, if_neg h1]; rfl
theorem groupOne_b {f : Forest} {x : Parts} (hG : GoodP f x) {v : Nat} (hv : v < f.vars.length) {above : Int} {y z : Link} (hy : y ∈ nd x v) (h : Z4 f x v above y = some z) : z.b = y.a := by
  unfold Z4 at h
  split at h
  · split at h
    · injection h with h; rw [← h]
    · cases h
  · injection h with h
    rw [← h]; exact ((hG.ok v hv).2.2.1 y hy).symm
theorem group_rise {f : Forest} {x : Parts} (hG : GoodP f x) (i above : Int) : ((Yr f x).group i above).Pairwise fun y z => y.b < z.b := by
  unfold TreeT.group
  split
  · rename_i h
    have := (V4 (f := f) x).1
    have := hG.gf.l1
    exact row_rise hG (by omega) _
  · exact List.Pairwise.nil
theorem above_of {f : Forest} {x : Parts} (hG : GoodP f x) {i : Nat} (hi : i < f.vars.length) {ns : List Int} : Yc (Yr f x) ns i = if par f (Z0 f i) = -1 then -1 else ns.getD (Zz f (par f (Z0 f i))) 0 := by
  unfold Yc
  rw [tree_par x hG.gf hi]
  rcases at_root hG.gf hi with ⟨h1, h2⟩ | ⟨h1, h2, h3, h4⟩
  · rw [if_pos h2, if_pos h1]
  · rw [if_neg (by omega), if_neg (by omega), h3, Int.toNat_natCast]
theorem acc_rows {f : Forest} {x : Parts} (hG : GoodP f x) (hF : ∀ v : Nat, v < f.vars.length → par f v ≠ -1 → Full f x v) {ns : List Int} (hl : ns.length = f.vars.length) : ∀ i, i ≤ f.vars.length → ∀ c m : Int, Va (Yr f x) ns i = some (c, m) ↔ (⟨ns.take i, c, m⟩ : RowT) ∈ Uc f x i
  | 0, _, c, m => by
    simp only [Va, Uc, List.take_zero, List.mem_singleton, Option.some.injEq, Prod.mk.injEq, RowT.mk.injEq, true_and]
    constructor
    · rintro ⟨rfl, rfl⟩; exact ⟨rfl, rfl⟩
    · rintro ⟨rfl, rfl⟩; exact ⟨rfl, rfl⟩
  | i + 1, hi, c, m => by
    have ih := acc_rows hG hF hl i (by omega)
    have hv := (hG.gf.vAt_lt (s := i) (by omega)).1
    have hin : (0 : Int) ≤ (i : Int) ∧ (i : Int) < f.order.length := ⟨by omega, by have := hG.gf.l1; omega⟩
    have hgrp : (Yr f x).group (i : Int) (Yc (Yr f x) ns i) = (nd x (Z0 f i)).filterMap (Z4 f x (Z0 f i) (Yc (Yr f x) ns i)) := by
      rw [group_same hG hF]
      unfold groupR
      rw [if_pos hin, Int.toNat_natCast]
    have hri := group_rise hG (i : Int) (Yc (Yr f x) ns i)
    have habv : ∀ r : RowT, r.nodes = ns.take i → 0 ≤ par f (Z0 f i) → Yc (Yr f x) ns i = r.nodes.getD (atI f.order (par f (Z0 f i))).toNat 0 := fun r hr hp => by
      rw [above_of hG (by omega), if_neg (by omega)]
      rcases at_root hG.gf (i := i) (by omega) with ⟨h1, _⟩ | ⟨_, h2, h3, h4⟩
      · omega
      · rw [hr, h3, Int.toNat_natCast, List.getD_eq_getElem?_getD, List.getD_eq_getElem?_getD, List.getElem?_take, if_pos h4]
    have hns : ns.take (i + 1) = ns.take i ++ [ns.getD i 0] := by rw [Zc (by omega)]; exact (Y2 (by omega)).symm
    show ((Va (Yr f x) ns i).bind fun cn => (Zt ((Yr f x).group i (Yc (Yr f x) ns i)) (ns.getD i 0)).map fun y => (cn.1 + y.cost, Yh cn.2 y.n)) = some (c, m) ↔ _ ∈ (Uc f x i).flatMap fun r => (nd x (Z0 f i)).filterMap (V5 f x (Z0 f i) r)
    rw [List.mem_flatMap]
    constructor
    · intro h
      obtain ⟨⟨c0, m0⟩, h1, h2⟩ := Option.bind_eq_some_iff.1 h
      obtain ⟨z, h3, h4⟩ := Option.map_eq_some_iff.1 h2
      obtain ⟨h5, h6⟩ := (findB_iff hri).1 h3
      rw [hgrp] at h5
      obtain ⟨y, hy, h7⟩ := List.mem_filterMap.1 h5
      have hya := groupOne_b hG hv hy h7
      refine ⟨_, (ih c0 m0).1 h1, List.mem_filterMap.2 ⟨y, hy, ?_⟩⟩
      rw [row_group (above := Yc (Yr f x) ns i) (habv _ rfl), h7, hns]
      simp only [Prod.mk.injEq] at h4
      simp only [Option.map_some, Option.some.injEq, RowT.mk.injEq]
      exact ⟨by rw [← hya, h6], h4.1, h4.2⟩
    · rintro ⟨r, hr, hm⟩
      obtain ⟨y, hy, h7⟩ := List.mem_filterMap.1 hm
      have hnod := Uf h7
      have hnod : ns.take (i + 1) = r.nodes ++ [y.a] := hnod
      rw [hns] at hnod
      obtain ⟨e1, e2⟩ := List.append_inj' hnod rfl
      have e2 : ns.getD i 0 = y.a := by simpa using e2
      rw [row_group (above := Yc (Yr f x) ns i) (habv r e1.symm)] at h7
      obtain ⟨z, h8, h9⟩ := Option.map_eq_some_iff.1 h7
      simp only [RowT.mk.injEq] at h9
      have hmem : (⟨ns.take i, r.cost, r.n⟩ : RowT) ∈ Uc f x i := by rw [e1]; exact hr
      have h1 := (ih r.cost r.n).2 hmem
      have hz := groupOne_b hG hv hy h8
      have h3 : Zt ((Yr f x).group i (Yc (Yr f x) ns i)) (ns.getD i 0) = some z := (findB_iff hri).2 ⟨by rw [hgrp]; exact List.mem_filterMap.2 ⟨y, hy, h8⟩, by rw [hz, e2]⟩
      rw [h1]
      simp only [Option.bind_some, h3, Option.map_some, Option.some.injEq, Prod.mk.injEq]
      exact ⟨h9.2.1, h9.2.2⟩
theorem group_row {f : Forest} {p : Parts} (hG : GoodP f p) {i : Nat} (hi : i < f.vars.length) {above : Int} {l : Link} (hl : l ∈ (Yr f (V1 f p)).group i above) :
    ∃ r ∈ rowsP f p, r.nodes.getD i 0 = l.b ∧ ((Yr f (V1 f p)).parent.getD i 0 < 0 ∨ r.nodes.getD ((Yr f (V1 f p)).parent.getD i 0).toNat 0 = above) := by
  obtain ⟨k1, k2, k3, k4⟩ := Vv hG
  have hX := ofP_good hG
  have hol : f.order.length = f.vars.length := hG.gf.l1
  have hv := (hG.gf.vAt_lt hi).1
  rw [tree_par _ hG.gf hi]
  unfold TreeT.group at hl
  rw [(V4 _).1, if_pos ⟨by omega, by omega⟩, Int.toNat_natCast, place_row hX hi] at hl
  have hpos := hG.gf.pos_vAt hi
  rcases at_root hG.gf hi with ⟨h1, h2⟩ | ⟨h1, h2, h3, h4⟩
  · rw [if_pos h1] at hl
    obtain ⟨r, hr, e⟩ := (node_in hG hv ((k2 _).1.subset hl)).2 hl
    rw [hpos] at e
    exact ⟨r, hr, by rw [e]; exact (hX.ok _ hv).2.2.1 l hl, .inl (by omega)⟩
  · rw [if_neg (by omega)] at hl
    obtain ⟨hm0, ha⟩ := List.mem_filter.1 hl
    obtain ⟨m, hm, rfl⟩ := List.mem_map.1 hm0
    obtain ⟨r, hr, e1, e2⟩ := (link_in hG hv ((k2 _).2.subset hm)).2 hm
    rw [hpos] at e1
    refine ⟨r, hr, e1, .inr ?_⟩
    rw [h3, Int.toNat_natCast, e2]
    exact of_decide_eq_true ha
end Go.Proofs.Ytmakkmcjocjgmaa.Am


/- Walks over a tree's rows, in plain words. -/
namespace Go.Proofs.Ytmakkmcjocjgmaa.Am
open Go Go.RowKit
set_option maxRecDepth 100000
set_option linter.unusedVariables false
set_option linter.unusedSimpArgs false

structure WalkS where
  nodes : List Int
  back : Bool
  over : Bool
  steps : Int
def rowT (T : TreeT) (ns : List Int) : Option RowT := if ns.length = T.vars.length then (Va T ns T.vars.length).map fun cn => ⟨ns, cn.1, cn.2⟩ else none
def extN (T : TreeT) : Nat → List Int → List (List Int)
  | 0, ns => [ns]
  | d + 1, ns => (T.group ns.length (Yc T ns ns.length)).flatMap fun l => extN T d (ns ++ [l.b])
def Path (T : TreeT) (ns : List Int) : Prop := ∀ i, i < ns.length → ∃ l ∈ T.group i (Yc T ns i), l.b = ns.getD i 0
theorem getD_left {ns ms : List Int} {i : Nat} (h : i < ns.length) : (ns ++ ms).getD i 0 = ns.getD i 0 := by
  rw [List.getD_eq_getElem?_getD, List.getD_eq_getElem?_getD, List.getElem?_append_left h]
section
variable {T : TreeT} (hT : GoodT T)
include hT
theorem above_ext {ns ms : List Int} {i : Nat} (hi : i < T.vars.length) (h : ∀ j, j < i → ns.getD j 0 = ms.getD j 0) : Yc T ns i = Yc T ms i := by
  unfold Yc
  rcases hT.par i hi with h1 | h1
  · rw [if_pos h1, if_pos h1]
  · rw [if_neg (by omega), if_neg (by omega), h _ (by omega)]
theorem path_snoc {ns : List Int} (h : Path T ns) (hl : ns.length < T.vars.length) {l : Link} (hm : l ∈ T.group ns.length (Yc T ns ns.length)) : Path T (ns ++ [l.b]) := fun i hi => by
  rw [List.length_append, List.length_singleton] at hi
  have e : ∀ {i}, i ≤ ns.length → Yc T (ns ++ [l.b]) i = Yc T ns i := fun {i} hi => above_ext hT (by omega) (fun j hj => getD_left (by omega))
  rw [e (by omega)]
  by_cases h1 : i < ns.length
  · obtain ⟨l2, h3, h4⟩ := h i h1
    exact ⟨l2, h3, by rw [h4, getD_left h1]⟩
  · obtain rfl : i = ns.length := by omega
    exact ⟨l, hm, by rw [Vg]⟩
structure ValS (T : TreeT) (S : WalkS) : Prop where
  len : S.nodes.length ≤ T.vars.length
  path : Path T S.nodes
theorem row_path_le {ns : List Int} (hl : ns.length ≤ T.vars.length) (hp : Path T ns) : ∀ i, i ≤ ns.length → (Va T ns i).isSome = true
  | 0, _ => rfl
  | i + 1, hi => by
    have ih := row_path_le hl hp i (by omega)
    obtain ⟨cn, hcn⟩ := Option.isSome_iff_exists.1 ih
    obtain ⟨l, h1, h2⟩ := hp i (by omega)
    have hf := (findB_iff (hT.sort i (Yc T ns i))).2 ⟨h1, h2⟩
    show ((Va T ns i).bind _).isSome = true
    rw [hcn]
    simp only [Option.bind_some, hf, Option.map_some, Option.isSome_some]
theorem rowT_path {ns : List Int} (hl : ns.length = T.vars.length) (hp : Path T ns) : ∃ r, rowT T ns = some r ∧ r.nodes = ns := by
  obtain ⟨cn, hcn⟩ := Option.isSome_iff_exists.1 (row_path_le hT (by omega) hp T.vars.length (by omega))
  exact ⟨⟨ns, cn.1, cn.2⟩, by unfold rowT; rw [if_pos hl, hcn]; rfl, rfl⟩
end
end Go.Proofs.Ytmakkmcjocjgmaa.Am


/- Links by the nodes at which they begin. -/
namespace Go.Proofs.Ytmakkmcjocjgmaa.Am
open Go Go.RowKit
set_option maxRecDepth 100000
set_option linter.unusedVariables false
set_option linter.unusedSimpArgs false

theorem flatMap_ext {α β : Type} {l : List α} {f g : α → List β} (h : ∀ e ∈ l, f e = g e) : l.flatMap f = l.flatMap g := by
  induction l with
  | nil => rfl
  | cons a l ih => rw [List.flatMap_cons, List.flatMap_cons, h a List.mem_cons_self, ih fun e he => h e (List.mem_cons_of_mem _ he)]
theorem goodL_rise {xs : List Link} (h : GoodL xs) : RiseA xs := by
  intro i j hi hj hij
  obtain ⟨d, rfl⟩ : ∃ d, j = i + d := ⟨j - i, by omega⟩
  clear hij
  induction d with
  | zero => exact Int.le_refl _
  | succ d ih =>
    have h1 := ih (by omega)
    have h2 := (h (i + (d + 1)) hj).2 (by omega)
    have e : i + (d + 1) - 1 = i + d := by omega
    simp only [e] at h2
    simp only [lessL, Bool.or_eq_true, Bool.and_eq_true, decide_eq_true_eq] at h2
    omega
theorem few_few (x : Link) : x.few.few = x.few := by
  unfold Link.few
  split
  · simp
  · first | rfl | (rename_i h; rw [if_neg h])
end Go.Proofs.Ytmakkmcjocjgmaa.Am


/- How many steps a walk takes; that its rows are all rows. -/
namespace Go.Proofs.Ytmakkmcjocjgmaa.Am
open Go Go.RowKit
set_option maxRecDepth 100000
set_option linter.unusedVariables false
set_option linter.unusedSimpArgs false

theorem filterMap_ext {α β : Type} {g k : α → Option β} : ∀ {xs : List α}, (∀ y ∈ xs, g y = k y) → xs.filterMap g = xs.filterMap k
  | [], _ => rfl
  | x :: xs, h => by rw [List.filterMap_cons, List.filterMap_cons, h x (by simp), filterMap_ext fun y hy => h y (by simp [hy])]
theorem rows_ext {f : Forest} {p : Parts} (hG : GoodP f p) : (rowsP f p).map RowT.nodes = extN (Yr f (V1 f p)) f.vars.length [] ∧ ∀ r ∈ rowsP f p, rowT (Yr f (V1 f p)) r.nodes = some r := by
  obtain ⟨k1, k2, k3, k4⟩ := Vv hG
  have hX := ofP_good hG
  have hol : f.order.length = f.vars.length := hG.gf.l1
  have hlen : (Yr f (V1 f p)).vars.length = f.vars.length := (V4 _).1.trans hol
  have hsame := rows_same hG
  constructor
  · have key : ∀ i, i ≤ f.vars.length → ((Uc f (V1 f p) i).map RowT.nodes).flatMap (extN (Yr f (V1 f p)) (f.vars.length - i)) = extN (Yr f (V1 f p)) f.vars.length [] := by
      intro i
      induction i with
      | zero => intro _; simp [Uc]
      | succ i ih =>
        intro hi
        rw [← ih (by omega)]
        show (((Uc f (V1 f p) i).flatMap _).map _).flatMap _ = _
        rw [List.map_flatMap, List.flatMap_assoc, List.flatMap_map]
        refine flatMap_ext fun r hr => ?_
        have hrl := rows_len i r hr
        have hv := (hG.gf.vAt_lt (s := i) (by omega)).1
        have habv : 0 ≤ par f (Z0 f i) → Yc (Yr f (V1 f p)) r.nodes i = r.nodes.getD (atI f.order (par f (Z0 f i))).toNat 0 := fun hp => by
          rw [above_of hX (by omega), if_neg (by omega)]
          rcases at_root hG.gf (i := i) (by omega) with ⟨h1, _⟩ | ⟨_, h2, h3, h4⟩
          · omega
          · rw [h3, Int.toNat_natCast]
        have e : ((nd (V1 f p) (Z0 f i)).filterMap (V5 f (V1 f p) (Z0 f i) r)).map RowT.nodes = ((Yr f (V1 f p)).group i (Yc (Yr f (V1 f p)) r.nodes i)).map fun l => r.nodes ++ [l.b] := by
          rw [group_same hX k3]
          unfold groupR
          rw [if_pos ⟨by omega, by omega⟩, Int.toNat_natCast, List.map_filterMap, List.map_filterMap]
          refine filterMap_ext fun y hy => ?_
          rw [row_group (above := Yc (Yr f (V1 f p)) r.nodes i) habv]
          cases hg : Z4 f (V1 f p) (Z0 f i) (Yc (Yr f (V1 f p)) r.nodes i) y with
          | none => rfl
          | some z => simp [groupOne_b hX hv hy hg]
        rw [e, List.flatMap_map, show f.vars.length - i = (f.vars.length - (i + 1)) + 1 by omega, extN, hrl]
    have h := key f.vars.length (Nat.le_refl _)
    rw [Nat.sub_self] at h
    rw [← h]
    have e0 : extN (Yr f (V1 f p)) 0 = fun ns => [ns] := by funext ns; rfl
    rw [e0]
    unfold rowsP at hsame ⊢
    rw [hol] at hsame ⊢
    rw [hsame]; simp
  · intro r hr
    unfold rowsP at hr hsame
    rw [hol] at hr hsame
    have hrl := rows_len f.vars.length r hr
    unfold rowT
    rw [if_pos (by omega), hlen]
    have := (acc_rows hX k3 hrl _ (Nat.le_refl _) r.cost r.n).2 (by rw [hsame, List.take_of_length_le (by omega)]; exact hr)
    rw [this]; rfl
end Go.Proofs.Ytmakkmcjocjgmaa.Am


/- How many there are, plain. -/
namespace Go.Proofs.Ytmakkmcjocjgmaa.Am
open Go Go.RowKit
set_option maxRecDepth 100000
set_option linter.unusedVariables false
set_option linter.unusedSimpArgs false

def kidsT (T : TreeT) (i : Nat) : List Nat := (List.range T.parent.length).filter fun k => decide (T.parent.getD k 0 = (i : Int))
def Vx (T : TreeT) : Nat → Nat → Int → Int
  | 0, _, _ => 0
  | d + 1, i, a => (T.group i a).foldl (fun s x => addI s (Yh x.n ((kidsT T i).foldl (fun n k => Yh n (Vx T d k x.b)) 1))) 0
def Vu (T : TreeT) (d i : Nat) (b : Int) : Int := (kidsT T i).foldl (fun n k => Yh n (Vx T d k b)) 1
theorem sumT_succ (T : TreeT) (d i : Nat) (a : Int) : Vx T (d + 1) i a = (T.group i a).foldl (fun s x => addI s (Yh x.n (Vu T d i x.b))) 0 := rfl
def onceT (out : List Int) (xs : List Int) : List Int := xs.foldl (fun out x => if x ∈ out then out else out ++ [x]) out
def Zp (T : TreeT) : Nat → Nat → List Int
  | 0, _ => [-1]
  | d + 1, i => if T.parent.getD i 0 = -1 then [-1] else onceT [] ((Zp T d (T.parent.getD i 0).toNat).flatMap fun a => (T.group (T.parent.getD i 0) a).map (·.b))
theorem onceT_append (out xs ys : List Int) : onceT out (xs ++ ys) = onceT (onceT out xs) ys := List.foldl_append
theorem onceT_len : ∀ (xs out : List Int), (onceT out xs).length ≤ out.length + xs.length
  | [], out => Nat.le_refl _
  | x :: xs, out => by
    have := onceT_len xs (if x ∈ out then out else out ++ [x])
    have h2 : (if x ∈ out then out else out ++ [x]).length ≤ out.length + 1 := by split <;> simp
    show (onceT (if x ∈ out then out else out ++ [x]) xs).length ≤ _
    rw [List.length_cons]
    omega
theorem kids_lt {T : TreeT} (hT : GoodT T) {i k : Nat} (h : k ∈ kidsT T i) : i < k ∧ k < T.vars.length := by
  unfold kidsT at h
  rw [List.mem_filter, List.mem_range, decide_eq_true_eq] at h
  obtain ⟨h1, h2⟩ := h
  rw [hT.l1] at h1
  rcases hT.par k h1 with h3 | h3
  · rw [h2] at h3; omega
  · rw [h2] at h3; exact ⟨by omega, h1⟩
theorem foldl_same {α β : Type} {f g : α → β → α} : ∀ {xs : List β} {a : α}, (∀ a x, x ∈ xs → f a x = g a x) → xs.foldl f a = xs.foldl g a
  | [], _, _ => rfl
  | x :: xs, a, h => by rw [List.foldl_cons, List.foldl_cons, h a x (by simp)]; exact foldl_same fun a y hy => h a y (by simp [hy])
theorem sumT_deep {T : TreeT} (hT : GoodT T) : ∀ (d i : Nat) (a : Int), i < T.vars.length → T.vars.length ≤ d + i → Vx T d i a = Vx T (d + 1) i a
  | 0, i, a, h, h2 => by omega
  | d + 1, i, a, h, h2 => by
    rw [sumT_succ, sumT_succ]
    refine foldl_same fun s x hx => ?_
    have : Vu T d i x.b = Vu T (d + 1) i x.b := foldl_same fun n k hk => by
      obtain ⟨h3, h4⟩ := kids_lt hT hk
      rw [sumT_deep hT d k x.b h4 (by omega)]
    rw [this]
end Go.Proofs.Ytmakkmcjocjgmaa.Am


/- Whether two parts are one, as the program judges it. -/
namespace Go.Proofs.Ytmakkmcjocjgmaa.Am
open Go Go.RowKit
set_option maxRecDepth 100000
set_option linter.unusedVariables false
set_option linter.unusedSimpArgs false

end Go.Proofs.Ytmakkmcjocjgmaa.Am


/- The exported functions of reducing. -/
namespace Go.Proofs.Ytmakkmcjocjgmaa.Am
open Go Go.RowKit
set_option maxRecDepth 100000
set_option linter.unusedVariables false
set_option linter.unusedSimpArgs false

theorem Small.fits {f : Forest} {p : Parts} (h : Small f p) (hg : GoodP f p) : Fits f.vars.length p := ⟨hg.n1, hg.n2, h.s5, h.s6⟩
def noParts : Parts := ⟨[], []⟩
theorem noParts_rep (H : Hp) : kParts.rep H noParts [.slice none 0 0, .slice none 0 0] := ⟨_, _, rfl, Sl.nil _ _, Sl.nil _ _⟩
theorem Of_parts (f : Forest) (p : Parts) (cs ds : List Value) (H : Hp) (hp : kForest.rep H f cs) (hq : kParts.rep H p ds) (hsm : Small f p) :
    ACalls Try.prog 30 #[.agg cs.toArray, .agg ds.toArray] H (fun r H' => ∃ (g : Bool) (es : List Value), (g = true ↔ GoodP f p) ∧ r = .tuple #[.agg es.toArray, .int .i64 (if g = true then 0 else 1)] ∧ kParts.rep H' (if g = true then V1 f p else noParts) es ∧ H.le H') := by
  have hp0 := hp
  have hq0 := hq
  obtain ⟨v0, v1, v2, v3, v4, rfl, hs0, hs1, hs2, hs3, hs4⟩ := hp
  obtain ⟨A0, c0, rfl⟩ := hs0.shape
  obtain ⟨A1, c1, rfl⟩ := hs1.shape
  obtain ⟨A2, c2, rfl⟩ := hs2.shape
  obtain ⟨A3, c3, rfl⟩ := hs3.shape
  obtain ⟨A4, c4, rfl⟩ := hs4.shape
  obtain ⟨u0, u1, rfl, hn0, hn1⟩ := hq
  obtain ⟨B0, d0, rfl⟩ := hn0.shape
  obtain ⟨B1, d1, rfl⟩ := hn1.shape
  refine Xr Try.func30 rfl rfl rfl (by simp) ?_
  refine Xd ?_
  refine Xb (by kernel_rfl) ?_
  refine X5 (Yx rfl) ?_
  refine X5 (Yx rfl) ?_
  refine X5 (Y3 (l := [.slice none 0 0, .slice none 0 0]) inf50.zero rfl (by decide)) ?_
  refine Xa (Xf rfl) ?_
  refine Xd ?_
  refine Xd ?_
  refine Xb (by kernel_rfl) ?_
  refine Xa (Yp (cs := [.slice _ _ _, .slice _ _ _, .slice _ _ _, .slice _ _ _, .slice _ _ _]) rfl Try.underlying47 rfl inf47.size Yf) ?_
  refine Xa (Yp (cs := [.slice _ _ _, .slice _ _ _]) rfl Try.underlying50 rfl inf50.size Yf) ?_
  refine X0 (Xy (GoodP_dom f p _ _ _ (kForest.mono Zs hp0) (kParts.mono Zs hq0) hsm) rfl Try.func45 rfl rfl rfl ?_)
  rintro v5 H5 ⟨⟨g, rfl, hg⟩, rfl⟩
  refine Xa (Vm rfl) ?_
  refine X6 rfl rfl ?_ ?_
  intro hc1
  have hgf : g = false := by simpa using hc1
  refine Xd ?_
  refine Xb (by kernel_rfl) ?_
  refine Xa (Y0 (pl := [(0, 1), (1, 1)]) (r := [.slice _ _ _, .slice _ _ _]) Try.underlying50 inf50.zero (by decide) rfl rfl) ?_
  refine X0 (Ym (vs := [.slice _ _ _, .slice _ _ _]) rfl rfl inf50.size Ye Yk rfl rfl ?_)
  refine Xa (Xf rfl) ?_
  refine X8 ?_
  subst hgf
  exact ⟨_, Zl (Zg Xl (Ze (cs := [_, _]) Try.underlying50 rfl inf50.size Yf)) (Xv rfl), false, [_, _], hg, rfl, noParts_rep _, Hp.le_put_new (Hp.le_push' (Hp.le_push' (H.le_push _) _) _) (by simp <;> omega) _⟩
  intro hc1
  have hgt : g = true := by simpa using hc1
  refine X9 ?_
  refine Xd ?_
  refine Xb (by kernel_rfl) ?_
  refine Xa (Yp (cs := [.slice _ _ _, .slice _ _ _, .slice _ _ _, .slice _ _ _, .slice _ _ _]) rfl Try.underlying47 rfl inf47.size Yf) ?_
  refine Xa (Yp (cs := [.slice _ _ _, .slice _ _ _]) rfl Try.underlying50 rfl inf50.size Yf) ?_
  refine X0 (Xy (of_parts f p _ _ _ (kForest.mono Zs hp0) (kParts.mono Zs hq0) (hg.1 hgt).gf (hsm.fits (hg.1 hgt)) hsm.s0) rfl Try.func46 rfl rfl rfl ?_)
  rintro v6 H6 ⟨es, rfl, hes, hle6⟩; have hz6 := hle6.1; simp only [Hp.push_size] at hz6; obtain ⟨w0, w1, rfl, hm0, hm1⟩ := hes; obtain ⟨C0, k0, rfl⟩ := hm0.shape; obtain ⟨C1, k1, rfl⟩ := hm1.shape
  refine X0 (Ym (vs := [.slice _ _ _, .slice _ _ _]) rfl rfl inf50.size Ye Yk rfl rfl ?_)
  refine Xa (Xf rfl) ?_
  refine X8 ?_
  subst hgt
  have k2 : H6.get (H.size + 2) = .own 0 [.slice none 0 0, .slice none 0 0] := Xz hle6 (by simp) (by intro e; cases e) Ye
  exact ⟨_, Zl (Zg Xl (Ze (cs := [_, _]) Try.underlying50 rfl inf50.size Yf)) (Xv rfl), true, [_, _], hg, rfl, ⟨_, _, rfl, hm0.mono (Hp.sees_box _ k2), hm1.mono (Hp.sees_box _ k2)⟩, Hp.le_put_new (Hp.le_trans (Hp.le_push' (Hp.le_push' (H.le_push _) _) _) hle6) (by simp <;> omega) _⟩
end Go.Proofs.Ytmakkmcjocjgmaa.Am


/- A tree is made. -/
namespace Go.Proofs.Ytmakkmcjocjgmaa.Am
open Go Go.RowKit
set_option maxRecDepth 100000
set_option linter.unusedVariables false
set_option linter.unusedSimpArgs false

set_option maxHeartbeats 4000000 in
theorem New_tree (f : Forest) (p : Parts) (cs ds : List Value) (H : Hp) (hp : kForest.rep H f cs) (hq : kParts.rep H p ds) (hsm : Small f p) (hch : GoodP f p → Cheap p) :
    ACalls Try.prog 20 #[.agg cs.toArray, .agg ds.toArray] H (fun r H' => H.le H' ∧ ∃ (g : Bool) (v : Value), (g = true ↔ GoodP f p) ∧ r = .tuple #[v, .int .i64 (if g = true then 0 else 1)] ∧ (if g = true then TreeR H' v (Yr f (V1 f p)) else v = .pointer none)) := by
  have hp0 := hp
  have hq0 := hq
  obtain ⟨v0, v1, v2, v3, v4, rfl, hs0, hs1, hs2, hs3, hs4⟩ := hp
  obtain ⟨A0, c0, rfl⟩ := hs0.shape
  obtain ⟨A1, c1, rfl⟩ := hs1.shape
  obtain ⟨A2, c2, rfl⟩ := hs2.shape
  obtain ⟨A3, c3, rfl⟩ := hs3.shape
  obtain ⟨A4, c4, rfl⟩ := hs4.shape
  obtain ⟨u0, u1, rfl, hn0, hn1⟩ := hq
  obtain ⟨B0, d0, rfl⟩ := hn0.shape
  obtain ⟨B1, d1, rfl⟩ := hn1.shape
  refine Xr Try.func20 rfl rfl rfl (by simp) ?_
  refine Xd ?_
  refine Xb (by kernel_rfl) ?_
  refine X5 (Yx rfl) ?_
  refine X5 (Yx rfl) ?_
  refine Xa (Zd rfl) ?_
  refine Xa (Xf rfl) ?_
  refine Xd ?_
  refine Xb (by kernel_rfl) ?_
  refine Xa (Yp (cs := [.slice _ _ _, .slice _ _ _, .slice _ _ _, .slice _ _ _, .slice _ _ _]) rfl Try.underlying47 rfl inf47.size Yf) ?_
  refine Xa (Yp (cs := [.slice _ _ _, .slice _ _ _]) rfl Try.underlying50 rfl inf50.size Yf) ?_
  refine X0 (Xy (Of_parts f p _ _ _ (kForest.mono Zs hp0) (kParts.mono Zs hq0) hsm) rfl Try.func30 rfl rfl rfl ?_)
  rintro v5 H5 ⟨g, es, hg, rfl, hes, hle5⟩; obtain ⟨w0, w1, rfl, hm0, hm1⟩ := hes; obtain ⟨C0, k0, rfl⟩ := hm0.shape; obtain ⟨C1, k1, rfl⟩ := hm1.shape; have hz5 := hle5.1; simp only [Hp.push_size] at hz5; have g51 : H5.get (H.size + 1) = .own 0 [.slice B0 p.nodes.length d0, .slice B1 p.links.length d1] := Xz hle5 (by simp) (by intro e; cases e) Ye
  refine Xa (Zo rfl) ?_
  refine Xa (Yo rfl rfl) ?_
  refine Xa (Yo rfl rfl) ?_
  refine X0 (Ym (vs := [.slice _ _ _, .slice _ _ _]) rfl rfl inf50.size Ye Yk rfl rfl ?_)
  refine Xa (Xf rfl) ?_
  refine Xd ?_
  refine Xd ?_
  refine Xb (by kernel_rfl) ?_
  refine Xa (Xc rfl) ?_
  refine Xa (Vy rfl rfl) ?_
  refine X6 rfl rfl ?_ ?_
  intro hc1
  obtain rfl : g = false := by cases g with | false => rfl | true => exact absurd hc1 (by simp)
  refine Xd ?_
  refine Xb (by kernel_rfl) ?_
  refine Xa (Xc rfl) ?_
  refine Xa (Zd rfl) ?_
  refine Xa (Xf rfl) ?_
  refine X8 ?_
  exact ⟨_, Zl (Xv rfl) (Xv rfl), Hp.le_put_new (Hp.le_trans (Hp.le_push' (H.le_push _) _) hle5) (Nat.le_succ _) _, false, .pointer none, hg, rfl, by simp⟩
  intro hc1
  obtain rfl : g = true := by cases g with | true => rfl | false => exact absurd hc1 (by simp)
  refine X9 ?_
  refine Xd ?_
  have hG := hg.1 rfl
  obtain ⟨k1', k2', k3', k4'⟩ := Vv hG
  have hXg := ofP_good hG
  have hcx := (hch hG).sub k2'
  simp only [if_true] at hm0 hm1
  obtain ⟨X, hX⟩ : ∃ X, X = V1 f p := ⟨_, rfl⟩
  rw [← hX] at k1' k2' k3' hXg hcx hm0 hm1
  rw [← hX]
  have hlens5 : ∀ l ∈ X.nodes, l.length ≤ 1000000 := fun l hm => by
    obtain ⟨i, hi, rfl⟩ := List.getElem_of_mem hm
    have h1 := (k2' i).1.length_le
    unfold nd at h1
    rw [Y6 hi] at h1
    exact Nat.le_trans h1 (Ve hsm.s5 i)
  have hlens6 : ∀ l ∈ X.links, l.length ≤ 1000000 := fun l hm => by
    obtain ⟨i, hi, rfl⟩ := List.getElem_of_mem hm
    have h1 := (k2' i).2.length_le
    unfold lk at h1
    rw [Y6 hi] at h1
    exact Nat.le_trans h1 (Ve hsm.s6 i)
  obtain ⟨T, hT⟩ : ∃ T, T = Yr f X := ⟨_, rfl⟩
  obtain ⟨tl1, tl2, tl3⟩ := V4 (f := f) X
  have tat := fun {i : Nat} (hi : i < f.order.length) => treeOf_at (f := f) X hi
  rw [← hT] at tl1 tl2 tl3
  simp only [← hT] at tat
  rw [← hT]
  obtain ⟨K, hK⟩ : ∃ K, K = H5.put (H.size + 1) (.own 0 [.slice C0 X.nodes.length k0, .slice C1 X.links.length k1]) := ⟨_, rfl⟩
  have s5K : H5.sees K := by rw [hK]; exact Hp.sees_box _ g51
  have leK : H.le K := by rw [hK]; exact Hp.le_put_new (Hp.le_trans (Hp.le_push' (H.le_push _) _) hle5) (by omega) _
  have zK : H.size + 2 ≤ K.size := by rw [hK]; simp; omega
  have gK0 : K.get H.size = .own 0 [.slice A0 f.vars.length c0, .slice A1 f.order.length c1, .slice A2 f.parent.length c2, .slice A3 f.links.length c3, .slice A4 f.loops.length c4] := by rw [hK, Hp.put_other _ _ (by omega)]; exact Xz hle5 (by simp; omega) (by intro e; cases e) Ye
  have gK1 : K.get (H.size + 1) = .own 0 [.slice C0 X.nodes.length k0, .slice C1 X.links.length k1] := by rw [hK]; exact Hp.put_same _ _ _
  have m0K := hm0.mono s5K
  have m1K := hm1.mono s5K
  have s0K := hs0.mono leK.sees
  have s1K := hs1.mono leK.sees
  have s2K := hs2.mono leK.sees
  have hol : f.order.length = f.vars.length := hG.gf.l1
  have hpl : f.parent.length = f.vars.length := hG.gf.l2
  have hs0' := hsm.s0
  have hxn := k1'.1
  have hxl := k1'.2
  change ACode true _ _ _ _ _ (H5.put (H.size + 1) (.own 0 [.slice C0 X.nodes.length k0, .slice C1 X.links.length k1]))
  rw [← hK]
  clear hK s5K hm0 hm1 hle5 g51 hz5 hn0 hn1 hq0 hp0 hs3 hs4
  refine Xb (by kernel_rfl) ?_
  refine X5 (am_makeMap) ?_
  refine Xa (Y0 (pl := [(0, 1), (1, 1), (2, 1), (3, 1)]) (r := [.slice _ _ _, .slice _ _ _, .slice _ _ _, .map _]) Try.underlying75 inf75.zero (by decide) rfl rfl) ?_
  refine X5 (Yx rfl) ?_
  refine Xa (Zd rfl) ?_
  refine Xd ?_
  refine Xd ?_
  refine Xb (by kernel_rfl) ?_
  refine Xa (Xg (off := 1) rfl Try.underlying47 rfl inf33.size (by decide) rfl) ?_
  refine Xa (Xi rfl Try.underlying33 rfl Xs) ?_
  refine Xa (Ys rfl Try.underlying33) ?_
  refine Xa (Xc rfl) ?_
  refine Ya ?_
  refine Y9 (fun n t H' => ∃ (i : Nat) (G : Hp) (A B C : Value) (es : List (Value × Value)), i ≤ f.order.length ∧ n = f.order.length - i ∧ K.le G ∧ K.size + 2 ≤ G.size ∧ G.get K.size = .map es ∧ G.get (K.size + 1) = .own 0 [A, B, C, .map (some K.size)] ∧ Own3 kStr (Yy .i64) (kSl kLink) G H' A B C (T.vars.take i) (T.parent.take i) (T.links.take i) ∧ Spots T i es ∧ t 2 = .pointer (some ⟨H.size, 0, none⟩) ∧ t 3 = .pointer (some ⟨H.size + 1, 0, none⟩) ∧ t 7 = .pointer (some ⟨K.size + 1, 0, none⟩) ∧ t 24 = .slice A1 f.order.length c1 ∧ t 25 = .int .i64 f.order.length ∧ t 26 = .int .i64 i) (f.order.length) (⟨0, _, _, _, _, [], by omega, rfl, Hp.le_push' (K.le_push _) _, by simp, Ye, Ye, ⟨_, _, OwnP.nil _ _, OwnP.nil _ _, OwnP.nil _ _⟩, Spots.zero T, rfl, rfl, rfl, rfl, rfl, rfl⟩) ?_
  rintro n t H1 ⟨i, G, A, B, C, es, hi, rfl, leG, zG, gm, gt, hown, hsp, e2, e3, e7, e24, e25, e26⟩
  have leK1 := Hp.le_trans leG hown.le
  have zH1 := hown.size
  have zK1 := leK1.1
  refine Xd ?_
  refine Xb (by kernel_rfl) ?_
  refine Xa (Zj Xl Xl) ?_
  refine Xd ?_
  refine X6 rfl rfl ?_ ?_
  intro hc2
  (try simp only [decide_eq_true_eq, decide_eq_false_iff_not, Bool.not_eq_true', Bool.not_eq_false'] at hc2)
  refine X9 ?_
  refine Xd ?_
  refine Ya ?_
  refine Xd ?_
  have hix : i < f.order.length := by omega
  obtain ⟨b1, o1, rfl, hb1, hcell1⟩ := s1K.int_at (i := (i : Int)) (by omega) (by omega)
  rw [Int.toNat_natCast] at hcell1
  have hcell1' := leK1.cell1 hb1 hcell1
  obtain ⟨hwn, hwv⟩ := hG.gf.vAt_lt (s := i) (by omega)
  obtain ⟨w, hw⟩ : ∃ w : Nat, w = Z0 f i := ⟨_, rfl⟩
  rw [← hw] at hwn hwv
  rw [← hwv] at hcell1'
  obtain ⟨tv, tp, tl⟩ := tat hix
  rw [← hw] at tv tp tl
  refine Xb (by kernel_rfl) ?_
  refine Xa (Xc Xl) ?_
  refine Xa (Xt Xl Xl Try.underlying33 inf3.size X7 X7) ?_
  refine Xa (Xi rfl Try.underlying3 rfl Xs) ?_
  refine Xa (Xf rfl) ?_
  refine Xa (Xf rfl) ?_
  refine Xd ?_
  obtain ⟨bn, on, ks, eN, hbn, ⟨wn, rfl, hwN⟩, hcellN⟩ := m0K.elem_at (i := w) (by have := k1'.1; omega)
  subst eN
  have hcellN' := leK1.cell1 hbn hcellN.one
  have ndw : nd X w = X.nodes[w]'(by have := k1'.1; omega) := Y6 _
  rw [← ndw] at hwN
  obtain ⟨An, cn, rfl⟩ := hwN.shape
  have hnl : (nd X w).length ≤ 1000000 := by rw [ndw]; exact hlens5 _ (List.getElem_mem _)
  have gH0 := Xz leK1 (by omega) (by intro e; cases e) gK0
  have gH1 := Xz leK1 (by omega) (by intro e; cases e) gK1
  refine Xb (by kernel_rfl) ?_
  refine Xa (Xg (off := 0) Xl Try.underlying50 Xl inf48.size (by decide) Xl) ?_
  refine Xa (Xi rfl Try.underlying48 rfl Xs) ?_
  refine Xa (Xc rfl) ?_
  refine Xa (Xt rfl rfl Try.underlying48 inf68.size X7 X7) ?_
  refine Xa (Xi rfl Try.underlying68 rfl Xs) ?_
  refine Xa (X3 rfl) ?_
  refine Xd ?_
  refine Xd ?_
  obtain ⟨b2, o2, rfl, hb2, hcell2⟩ := s2K.int_at (i := (w : Int)) (by omega) (by omega)
  rw [Int.toNat_natCast] at hcell2
  have hcell2' := leK1.cell1 hb2 hcell2
  refine Xb (by kernel_rfl) ?_
  refine Xa (Xg (off := 2) Xl Try.underlying47 Xl inf33.size (by decide) Xl) ?_
  refine Xa (Xi rfl Try.underlying33 rfl Xs) ?_
  refine Xa (Xc rfl) ?_
  refine Xa (Xt rfl rfl Try.underlying33 inf3.size X7 X7) ?_
  refine Xa (Xi rfl Try.underlying3 rfl Xs) ?_
  refine Xa (Vy rfl rfl) ?_
  refine X6 rfl rfl ?_ ?_
  intro hc3
  have hpar : par f w ≠ -1 := of_decide_eq_true hc3
  obtain ⟨bl, ol, ks, eL, hbl, ⟨wl, rfl, hwL⟩, hcellL⟩ := m1K.elem_at (i := w) (by have := k1'.2; omega)
  subst eL
  have hcellL' := leK1.cell1 hbl hcellL.one
  have lkw : lk X w = X.links[w]'(by have := k1'.2; omega) := Y6 _
  rw [← lkw] at hwL
  obtain ⟨Al, cl, rfl⟩ := hwL.shape
  have hll : (lk X w).length ≤ 1000000 := by rw [lkw]; exact hlens6 _ (List.getElem_mem _)
  have hpk : Yq f X w = (lk X w).map (Ua (nd X w)) := by unfold Yq; rw [if_neg hpar]
  have hpll : (Yq f X w).length ≤ 1000000 := by rw [hpk, List.length_map]; exact hll
  have hrise : RiseA (Yq f X w) := by rw [hpk]; exact rise_weigh (goodL_rise (hXg.ok w hwn).2.1)
  refine Yw (by kernel_rfl) (Zb (B := [0, 1, 0, 7, 15, 0, 32, 0, 224, 480, 1023, 2047]) (π := [0, 1, 2, 3, 4, 5, 6, 7, 8, 9, 10, 11]) (by kernel_rfl)) ?_
  refine Xe rfl rfl (Xg (off := 1) Xl Try.underlying50 Xl inf48.size (by decide) Xl) Xp ?_
  refine Xe rfl rfl (Xi rfl Try.underlying48 rfl Xs) Xp ?_
  refine Xe rfl rfl (Xc rfl) Xp ?_
  refine Xe rfl rfl (Xt rfl rfl Try.underlying48 inf68.size X7 X7) Xp ?_
  refine Xe rfl rfl (Xi rfl Try.underlying68 rfl Xs) Xp ?_
  refine Xe rfl rfl (Xg (off := 0) Xl Try.underlying50 Xl inf48.size (by decide) Xl) Xp ?_
  refine Xe rfl rfl (Xi rfl Try.underlying48 rfl Xs) Xp ?_
  refine Xe rfl rfl (Xc rfl) Xp ?_
  refine Xe rfl rfl (Xt rfl rfl Try.underlying48 inf68.size X7 X7) Xp ?_
  refine Xe rfl rfl (Xi rfl Try.underlying68 rfl Xs) Xp ?_
  refine Yi rfl rfl (Xy (weighed_links (lk X w) (nd X w) _ _ _ (hwL.mono leK1.sees) (hwN.mono leK1.sees) hll hnl (goodL_strict (hXg.ok w hwn).1 (hXg.ok w hwn).2.2.1) (fun l hl => ((k3' w hwn hpar).ends l hl).2) (fun l hl => hcx.links w l hl) (fun l hl => hcx.nodes w l hl)) rfl Try.func31 rfl rfl rfl ?_)
  rintro v10 H2 ⟨Gw, hleW, hownW⟩; rw [← hpk] at hownW; obtain ⟨Aw, cw, rfl⟩ := hownW.shape; have hsl2 := hownW.sl; have hle2 := Hp.le_trans hleW hownW.le
  refine ⟨Yg, ?_⟩
  refine Xe rfl rfl (X3 rfl) Xp ?_
  refine Xd ?_
  obtain ⟨G2, hleG2, hown2⟩ := hown.later hle2
  have leG2 := Hp.le_trans leG hleG2
  have leK2 := Hp.le_trans leK1 hle2
  have g2m := Xz hleG2 (by omega) (by intro e; cases e) gm
  have g2t := Xz hleG2 (by omega) (by intro e; cases e) gt
  have z2 := hleG2.1
  have zz2 := hown2.size
  obtain ⟨Ga, hleGa, hoA, backA⟩ := (hown2.rot (stable_ints _) stable_lists).open3
  obtain ⟨AA, cA, rfl⟩ := hoA.shape
  obtain ⟨slA, slB, slC⟩ := hown2.sls
  obtain ⟨AB, cB, rfl⟩ := slB.shape
  obtain ⟨AC, cC, rfl⟩ := slC.shape
  have lenA : (T.vars.take i).length = i := by rw [List.length_take]; omega
  have lenB : (T.parent.take i).length = i := by rw [List.length_take]; omega
  have lenC : (T.links.take i).length = i := by rw [List.length_take]; omega
  have h2t := Xz hown2.le (by omega) (by intro e; cases e) g2t
  have h20 := Xz leK2 (by omega) (by intro e; cases e) gK0
  obtain ⟨bs, os, ks, eS, hbs, rfl, hcellS⟩ := s0K.elem_at (i := w) hwn
  subst eS
  have hcellS' := leK2.cell1 hbs hcellS.one
  have zoA := hoA.size
  have za := hleGa.1
  have slG2 := hown2.below (Za _) (Za _) (Za _) (by decide) (by decide) (by decide) hsl2
  refine Yw (by kernel_rfl) (Zb (B := [0, 0, 2, 6, 14, 0, 32, 0, 224, 480, 992, 2046, 4095, 8191, 16383]) (π := [0, 1, 2, 3, 4, 5, 6, 7, 8, 9, 10, 11, 12, 13, 14]) (by kernel_rfl)) ?_
  refine Xe rfl rfl (Xq Xl) Xp ?_
  refine Xe rfl rfl (Xq Xl) Xp ?_
  refine Xe rfl rfl (X4 rfl) Xp ?_
  refine Xe rfl rfl (Xg (off := 0) rfl Try.underlying75 rfl inf44.size (by decide) rfl) Xp ?_
  refine Xe rfl rfl (Xi rfl Try.underlying44 rfl Xs) Xp ?_
  refine Xe rfl rfl (Xg (off := 0) Xl Try.underlying47 Xl inf44.size (by decide) Xl) Xp ?_
  refine Xe rfl rfl (Xi rfl Try.underlying44 rfl Xs) Xp ?_
  refine Xe rfl rfl (Xc rfl) Xp ?_
  refine Xe rfl rfl (Xt rfl rfl Try.underlying44 inf9.size X7 X7) Xp ?_
  refine Xe rfl rfl (Xi rfl Try.underlying9 rfl Xs) Xp ?_
  first | refine Zk rfl rfl (Yb (r := [.string _]) Try.underlying44 inf9.size inf9.zero rfl (by decide) (by decide) (by decide) rfl) ?_
  refine Yi rfl rfl (OwnP.append (ys := [f.vars[w]]) (hoA.push _) Try.underlying44 inf9 rfl rfl rfl (V3 (k := kStr) rfl rfl hoA.size rfl) (by rw [lenA]; simp only [List.length_singleton]; omega) (by rw [lenA]; simp only [List.length_singleton]; omega) ?_)
  rintro v3 G3 H3 hle3 hown3
  have hsameO := OwnP.sameO (hoA.push _) hle3 hown3
  have ev : f.vars.getD w ⟨#[]⟩ = f.vars[w] := by rw [List.getD_eq_getElem?_getD, List.getElem?_eq_getElem hwn]; rfl
  rw [← ev, take_at tv] at hown3
  obtain ⟨AA', cA', rfl⟩ := hown3.shape
  have hle3' := Hp.le_trans (Hp.le_push _ _) hle3
  obtain ⟨G4, hleG4, hown4⟩ := backA G3 H3 _ _ hle3' hown3
  have g4t := Xz hleG4 (by omega) (by intro e; cases e) g2t
  have h3t := Xz hown4.le (by have := hleG4.1; omega) (by intro e; cases e) g4t
  refine ⟨Yg, ?_⟩
  refine Xe rfl rfl (X4 rfl) Xp ?_
  refine Xe rfl rfl (Xg (off := 0) rfl Try.underlying75 rfl inf44.size (by decide) rfl) Xp ?_
  first | refine Yi rfl rfl (Y8 rfl rfl rfl inf44.size Ye Yk rfl ?_)
  refine ⟨Yg, ?_⟩
  refine Xd ?_
  obtain ⟨H5, hH5⟩ : ∃ H5, H5 = H3.put (K.size + 1) (.own 0 [.slice AA' (T.vars.take (i + 1)).length cA', .slice AB (T.parent.take i).length cB, .slice AC (T.links.take i).length cC, .map (some K.size)]) := ⟨_, rfl⟩
  obtain ⟨G5, hG5⟩ : ∃ G5, G5 = G4.put (K.size + 1) (.own 0 [.slice AA' (T.vars.take (i + 1)).length cA', .slice AB (T.parent.take i).length cB, .slice AC (T.links.take i).length cC, .map (some K.size)]) := ⟨_, rfl⟩
  have z4 := hleG4.1
  have hown5 := hown4.put_box (by omega) g4t [.slice AA' (T.vars.take (i + 1)).length cA', .slice AB (T.parent.take i).length cB, .slice AC (T.links.take i).length cC, .map (some K.size)]
  rw [← hG5, ← hH5] at hown5
  have leG5 : K.le G5 := by rw [hG5]; exact Hp.le_put_new (Hp.le_trans leG2 hleG4) (by omega) _
  have g5m : G5.get K.size = .map es := by rw [hG5, Hp.put_other _ _ (by omega)]; exact Xz hleG4 (by omega) (by intro e; cases e) g2m
  have g5t : G5.get (K.size + 1) = .own 0 [.slice AA' (T.vars.take (i + 1)).length cA', .slice AB (T.parent.take i).length cB, .slice AC (T.links.take i).length cC, .map (some K.size)] := by rw [hG5]; exact Hp.put_same _ _ _
  have z5 : K.size + 2 ≤ G5.size := by rw [hG5]; simp; omega
  change ACode true _ _ _ _ _ (H3.put (K.size + 1) (.own 0 [.slice AA' (T.vars.take (i + 1)).length cA', .slice AB (T.parent.take i).length cB, .slice AC (T.links.take i).length cC, .map (some K.size)]))
  rw [← hH5]
  have slG5 : Sl kLink G5 (.slice Aw (Yq f X w).length cw) (Yq f X w) := by
    rw [hG5]
    exact (slG2.mono hleG4.sees).mono (Hp.sees_box _ g4t)
  obtain ⟨Gb, hleGb, hoB, backB⟩ := (hown5.rot stable_lists (stable_strs _)).open3
  have leK5 := Hp.le_trans leG5 hown5.le
  have h5t := Xz hown5.le (by omega) (by intro e; cases e) g5t
  have h50 := Xz leK5 (by omega) (by intro e; cases e) gK0
  have hcell25 := leK5.cell1 hb2 hcell2
  have zoB := hoB.size
  have zz5 := hown5.size
  have zb := hleGb.1
  clear hH5 hG5 hsameO
  refine Yw (by kernel_rfl) (Zb (B := [0, 0, 2, 6, 14, 0, 32, 0, 128, 0, 896, 1920, 4064, 8160, 16382, 32767, 65535, 131071]) (π := [0, 1, 2, 3, 4, 5, 6, 7, 8, 9, 10, 11, 12, 13, 14, 15, 16, 17]) (by kernel_rfl)) ?_
  refine Xe rfl rfl (Xq Xl) Xp ?_
  refine Xe rfl rfl (Xq Xl) Xp ?_
  refine Xe rfl rfl (X4 rfl) Xp ?_
  refine Xe rfl rfl (Xg (off := 1) rfl Try.underlying75 rfl inf33.size (by decide) rfl) Xp ?_
  refine Xe rfl rfl (Xi rfl Try.underlying33 rfl Xs) Xp ?_
  refine Xe rfl rfl (Xg (off := 1) Xl Try.underlying47 Xl inf33.size (by decide) Xl) Xp ?_
  refine Xe rfl rfl (Xi rfl Try.underlying33 rfl Xs) Xp ?_
  refine Xe rfl rfl (Xg (off := 2) Xl Try.underlying47 Xl inf33.size (by decide) Xl) Xp ?_
  refine Xe rfl rfl (Xi rfl Try.underlying33 rfl Xs) Xp ?_
  refine Xe rfl rfl (Xc rfl) Xp ?_
  refine Xe rfl rfl (Xt rfl rfl Try.underlying33 inf3.size X7 X7) Xp ?_
  refine Xe rfl rfl (Xi rfl Try.underlying3 rfl Xs) Xp ?_
  refine Yi rfl rfl (Xy (Index_ints f.order _ (par f w) _ (s1K.mono leK5.sees) (by omega)) rfl Try.func32 rfl rfl rfl ?_)
  rintro v6 H5 ⟨rfl, rfl⟩
  refine ⟨Yg, ?_⟩
  first | refine Zk rfl rfl (Yb (r := [.int .i64 _]) Try.underlying33 inf3.size inf3.zero rfl (by decide) (by decide) (by decide) rfl) ?_
  refine Yi rfl rfl (OwnP.append (ys := [atI f.order (par f w)]) (hoB.push _) Try.underlying33 inf3 rfl rfl rfl (V3 (k := Yy .i64) rfl rfl hoB.size rfl) (by rw [lenB]; simp only [List.length_singleton]; omega) (by rw [lenB]; simp only [List.length_singleton]; omega) ?_)
  rintro v7 G7 H7 hle7 hown7
  have hsameO := OwnP.sameO (hoB.push _) hle7 hown7
  rw [take_at tp] at hown7
  obtain ⟨AB', cB', rfl⟩ := hown7.shape
  have hle7' := Hp.le_trans (Hp.le_push _ _) hle7
  obtain ⟨G8, hleG8, hown8⟩ := backB G7 H7 _ _ hle7' hown7
  have g8t := Xz hleG8 (by omega) (by intro e; cases e) g5t
  have h7t := Xz hown8.le (by have := hleG8.1; omega) (by intro e; cases e) g8t
  refine ⟨Yg, ?_⟩
  refine Xe rfl rfl (X4 rfl) Xp ?_
  refine Xe rfl rfl (Xg (off := 1) rfl Try.underlying75 rfl inf33.size (by decide) rfl) Xp ?_
  first | refine Yi rfl rfl (Y8 rfl rfl rfl inf33.size Ye Yk rfl ?_)
  refine ⟨Yg, ?_⟩
  refine Xd ?_
  obtain ⟨H9, hH9⟩ : ∃ H9, H9 = H7.put (K.size + 1) (.own 0 [.slice AA' (T.vars.take (i + 1)).length cA', .slice AB' (T.parent.take (i + 1)).length cB', .slice AC (T.links.take i).length cC, .map (some K.size)]) := ⟨_, rfl⟩
  obtain ⟨G9, hG9⟩ : ∃ G9, G9 = G8.put (K.size + 1) (.own 0 [.slice AA' (T.vars.take (i + 1)).length cA', .slice AB' (T.parent.take (i + 1)).length cB', .slice AC (T.links.take i).length cC, .map (some K.size)]) := ⟨_, rfl⟩
  have z8 := hleG8.1
  have hown9 := hown8.put_box (by omega) g8t [.slice AA' (T.vars.take (i + 1)).length cA', .slice AB' (T.parent.take (i + 1)).length cB', .slice AC (T.links.take i).length cC, .map (some K.size)]
  rw [← hG9, ← hH9] at hown9
  have leG9 : K.le G9 := by rw [hG9]; exact Hp.le_put_new (Hp.le_trans leG5 hleG8) (by omega) _
  have g9m : G9.get K.size = .map es := by rw [hG9, Hp.put_other _ _ (by omega)]; exact Xz hleG8 (by omega) (by intro e; cases e) g5m
  have g9t : G9.get (K.size + 1) = .own 0 [.slice AA' (T.vars.take (i + 1)).length cA', .slice AB' (T.parent.take (i + 1)).length cB', .slice AC (T.links.take i).length cC, .map (some K.size)] := by rw [hG9]; exact Hp.put_same _ _ _
  have z9 : K.size + 2 ≤ G9.size := by rw [hG9]; simp; omega
  change ACode true _ _ _ _ _ (H7.put (K.size + 1) (.own 0 [.slice AA' (T.vars.take (i + 1)).length cA', .slice AB' (T.parent.take (i + 1)).length cB', .slice AC (T.links.take i).length cC, .map (some K.size)]))
  rw [← hH9]
  have slG9 : Sl kLink G9 (.slice Aw (Yq f X w).length cw) (Yq f X w) := by
    rw [hG9]
    exact (slG5.mono hleG8.sees).mono (Hp.sees_box _ g8t)
  have hsl9 := slG9.mono hown9.le.sees
  have h9t := Xz hown9.le (by omega) (by intro e; cases e) g9t
  have zz9 := hown9.size
  clear hH9 hG9 hsameO
  refine Yw (by kernel_rfl) (Zb (B := [0, 0, 2, 6, 14, 0, 32, 96, 254, 511, 1023, 2047]) (π := [0, 1, 2, 3, 4, 5, 6, 7, 8, 9, 10, 11]) (by kernel_rfl)) ?_
  refine Xe rfl rfl (Xq Xl) Xp ?_
  refine Xe rfl rfl (Xq Xl) Xp ?_
  refine Xe rfl rfl (X4 rfl) Xp ?_
  refine Xe rfl rfl (Xg (off := 2) rfl Try.underlying75 rfl inf48.size (by decide) rfl) Xp ?_
  refine Xe rfl rfl (Xi rfl Try.underlying48 rfl Xs) Xp ?_
  refine Xe rfl rfl (Xx rfl) Xp ?_
  refine Yi rfl rfl (Xy (Clone_links _ _ _ hsl9 hpll) rfl Try.func33 rfl rfl rfl ?_)
  rintro v10 H10 ⟨G10', hle10, hownL⟩; obtain ⟨AL, cL, rfl⟩ := hownL.shape; have hle10' := Hp.le_trans hle10 hownL.le; obtain ⟨G10, hleG10, hown10⟩ := hown9.later hle10'; have slL := hown10.below (Za _) (Za _) (Za _) (by decide) (by decide) (by decide) hownL.sl; obtain ⟨Gc, hleGc, hoC, backC⟩ := (hown10.rot (stable_strs _) (stable_ints _)).open3; have slLc := slL.mono hleGc.sees; have zoC := hoC.size; have h10t := Xz hle10' (by omega) (by intro e; cases e) h9t; have z10 := hleG10.1; have zc := hleGc.1
  refine ⟨Yg, ?_⟩
  refine Zk rfl rfl (Yb (r := [.slice _ _ _]) Try.underlying48 inf68.size inf68.zero rfl (by decide) (by decide) (by decide) rfl) ?_
  refine Yi rfl rfl (OwnP.append (ys := [Yq f X w]) (hoC.push _) Try.underlying48 inf68 rfl rfl rfl (V3 (k := kSl kLink) ⟨_, rfl, slLc⟩ rfl hoC.size rfl) (by rw [lenC]; simp only [List.length_singleton]; omega) (by rw [lenC]; simp only [List.length_singleton]; omega) ?_)
  rintro v11 G11 H11 hle11 hown11
  have hsameO := OwnP.sameO (hoC.push _) hle11 hown11
  rw [take_at tl] at hown11
  obtain ⟨AC', cC', rfl⟩ := hown11.shape
  have hle11' := Hp.le_trans (Hp.le_push _ _) hle11
  obtain ⟨G12, hleG12, hown12⟩ := backC G11 H11 _ _ hle11' hown11
  have g10t := Xz hleG10 (by omega) (by intro e; cases e) g9t
  have g12t := Xz hleG12 (by omega) (by intro e; cases e) g10t
  have h11t := Xz hown12.le (by have := hleG12.1; omega) (by intro e; cases e) g12t
  refine ⟨Yg, ?_⟩
  refine Xe rfl rfl (X4 rfl) Xp ?_
  refine Xe rfl rfl (Xg (off := 2) rfl Try.underlying75 rfl inf48.size (by decide) rfl) Xp ?_
  first | refine Yi rfl rfl (Y8 rfl rfl rfl inf48.size Ye Yk rfl ?_)
  refine ⟨Yg, ?_⟩
  obtain ⟨H13, hH13⟩ : ∃ H13, H13 = H11.put (K.size + 1) (.own 0 [.slice AA' (T.vars.take (i + 1)).length cA', .slice AB' (T.parent.take (i + 1)).length cB', .slice AC' (T.links.take (i + 1)).length cC', .map (some K.size)]) := ⟨_, rfl⟩
  obtain ⟨G13, hG13⟩ : ∃ G13, G13 = G12.put (K.size + 1) (.own 0 [.slice AA' (T.vars.take (i + 1)).length cA', .slice AB' (T.parent.take (i + 1)).length cB', .slice AC' (T.links.take (i + 1)).length cC', .map (some K.size)]) := ⟨_, rfl⟩
  have z12 := hleG12.1
  have hown13 := hown12.put_box (by omega) g12t [.slice AA' (T.vars.take (i + 1)).length cA', .slice AB' (T.parent.take (i + 1)).length cB', .slice AC' (T.links.take (i + 1)).length cC', .map (some K.size)]
  rw [← hG13, ← hH13] at hown13
  have leG13 : K.le G13 := by rw [hG13]; exact Hp.le_put_new (Hp.le_trans leG9 (Hp.le_trans hleG10 hleG12)) (by omega) _
  have g13m : G13.get K.size = .map es := by rw [hG13, Hp.put_other _ _ (by omega)]; exact Xz (Hp.le_trans hleG10 hleG12) (by omega) (by intro e; cases e) g9m
  have g13t : G13.get (K.size + 1) = .own 0 [.slice AA' (T.vars.take (i + 1)).length cA', .slice AB' (T.parent.take (i + 1)).length cB', .slice AC' (T.links.take (i + 1)).length cC', .map (some K.size)] := by rw [hG13]; exact Hp.put_same _ _ _
  have z13 : K.size + 2 ≤ G13.size := by rw [hG13]; simp; omega
  change ACode true _ _ _ _ _ (H11.put (K.size + 1) (.own 0 [.slice AA' (T.vars.take (i + 1)).length cA', .slice AB' (T.parent.take (i + 1)).length cB', .slice AC' (T.links.take (i + 1)).length cC', .map (some K.size)]))
  rw [← hH13]
  have h13t := Xz hown13.le (by omega) (by intro e; cases e) g13t
  have h13m := Xz hown13.le (by omega) (by intro e; cases e) g13m
  have zz13 := hown13.size
  obtain ⟨sl1, sl2, sl3⟩ := hown13.sls
  clear hH13 hG13 hsameO
  have eP : (T.parent.take (i + 1)).getD i 0 = T.parent.getD i 0 := by rw [List.getD_eq_getElem?_getD, List.getD_eq_getElem?_getD, List.getElem?_take, if_pos (by omega)]
  have hiL : i < (T.links.take (i + 1)).length := by rw [List.length_take]; omega
  have eL : (T.links.take (i + 1))[i]'hiL = Yq f X w := by
    rw [List.getElem_take]
    exact (List.getElem?_eq_some_iff.1 tl).2
  have eL2 : T.links.getD i [] = Yq f X w := by rw [List.getD_eq_getElem?_getD, tl]; rfl
  refine Xb (by kernel_rfl) ?_
  refine Xa (Xq Xl) ?_
  refine Xa (Xc rfl) ?_
  refine X0 (Xy (group_tree (b := K.size + 1) (mb := K.size) (by omega) (by omega) h13t sl2 sl3 h13m i hiL (by rw [List.length_take]; omega) (by rw [eL]; exact hpll) (fun _ => by rw [eL]; exact hrise) hsp.keys (fun a => hsp.none i a (Nat.le_refl _))) rfl Try.func34 rfl rfl rfl ?_)
  rintro v14 H14 ⟨es', rfl, hes'⟩
  refine Xb (by kernel_rfl) ?_
  refine Xa (Yj Xl Xl Yv) ?_
  refine Xa (Xc rfl) ?_
  refine ⟨f.order.length - (i + 1), by omega, i + 1, G13.put K.size (.map es'), _, _, _, es', by omega, rfl, Hp.le_put_new leG13 (Nat.le_refl _) _, by simp; omega, Hp.put_same _ _ _, by rw [Hp.put_other _ _ (by omega)]; exact g13t, hown13.put_map (by omega) g13m es', hsp.step ?_, e2, e3, e7, e24, e25, rfl⟩
  rw [eP, eL] at hes'
  rw [eL2]
  exact hes'
  intro hc3
  have hpar : par f w = -1 := Decidable.not_not.1 (of_decide_eq_false hc3)
  have hpk : Yq f X w = nd X w := by unfold Yq; rw [if_pos hpar]
  have hpll : (Yq f X w).length ≤ 1000000 := by rw [hpk]; exact hnl
  have hrise : RiseA (Yq f X w) := by rw [hpk]; exact goodL_rise (hXg.ok w hwn).1
  obtain ⟨w10, hw10⟩ : ∃ w10, w10 = Value.slice An (nd X w).length cn := ⟨_, rfl⟩
  have hle2 := Hp.le_refl H1
  have hsl2 : Sl kLink H1 (.slice An (Yq f X w).length cn) (Yq f X w) := by rw [hpk]; exact hwN.mono leK1.sees
  rw [← hpk]
  obtain ⟨H2, e2'⟩ : ∃ H2, H2 = H1 := ⟨_, rfl⟩
  subst e2'
  obtain ⟨Aw, cw, eAw, eCw⟩ : ∃ Aw cw, Aw = An ∧ cw = cn := ⟨_, _, rfl, rfl⟩
  subst eAw
  subst eCw
  refine X9 ?_
  refine Xd ?_
  obtain ⟨G2, hleG2, hown2⟩ := hown.later hle2
  have leG2 := Hp.le_trans leG hleG2
  have leK2 := Hp.le_trans leK1 hle2
  have g2m := Xz hleG2 (by omega) (by intro e; cases e) gm
  have g2t := Xz hleG2 (by omega) (by intro e; cases e) gt
  have z2 := hleG2.1
  have zz2 := hown2.size
  obtain ⟨Ga, hleGa, hoA, backA⟩ := (hown2.rot (stable_ints _) stable_lists).open3
  obtain ⟨AA, cA, rfl⟩ := hoA.shape
  obtain ⟨slA, slB, slC⟩ := hown2.sls
  obtain ⟨AB, cB, rfl⟩ := slB.shape
  obtain ⟨AC, cC, rfl⟩ := slC.shape
  have lenA : (T.vars.take i).length = i := by rw [List.length_take]; omega
  have lenB : (T.parent.take i).length = i := by rw [List.length_take]; omega
  have lenC : (T.links.take i).length = i := by rw [List.length_take]; omega
  have h2t := Xz hown2.le (by omega) (by intro e; cases e) g2t
  have h20 := Xz leK2 (by omega) (by intro e; cases e) gK0
  obtain ⟨bs, os, ks, eS, hbs, rfl, hcellS⟩ := s0K.elem_at (i := w) hwn
  subst eS
  have hcellS' := leK2.cell1 hbs hcellS.one
  have zoA := hoA.size
  have za := hleGa.1
  have slG2 := hown2.below (Za _) (Za _) (Za _) (by decide) (by decide) (by decide) hsl2
  refine Yw (by kernel_rfl) (Zb (B := [0, 0, 2, 6, 14, 0, 32, 0, 224, 480, 992, 2046, 4095, 8191, 16383]) (π := [0, 1, 2, 3, 4, 5, 6, 7, 8, 9, 10, 11, 12, 13, 14]) (by kernel_rfl)) ?_
  refine Xe rfl rfl (Xq Xl) Xp ?_
  refine Xe rfl rfl (Xq Xl) Xp ?_
  refine Xe rfl rfl (X4 rfl) Xp ?_
  refine Xe rfl rfl (Xg (off := 0) rfl Try.underlying75 rfl inf44.size (by decide) rfl) Xp ?_
  refine Xe rfl rfl (Xi rfl Try.underlying44 rfl Xs) Xp ?_
  refine Xe rfl rfl (Xg (off := 0) Xl Try.underlying47 Xl inf44.size (by decide) Xl) Xp ?_
  refine Xe rfl rfl (Xi rfl Try.underlying44 rfl Xs) Xp ?_
  refine Xe rfl rfl (Xc rfl) Xp ?_
  refine Xe rfl rfl (Xt rfl rfl Try.underlying44 inf9.size X7 X7) Xp ?_
  refine Xe rfl rfl (Xi rfl Try.underlying9 rfl Xs) Xp ?_
  first | refine Zk rfl rfl (Yb (r := [.string _]) Try.underlying44 inf9.size inf9.zero rfl (by decide) (by decide) (by decide) rfl) ?_
  refine Yi rfl rfl (OwnP.append (ys := [f.vars[w]]) (hoA.push _) Try.underlying44 inf9 rfl rfl rfl (V3 (k := kStr) rfl rfl hoA.size rfl) (by rw [lenA]; simp only [List.length_singleton]; omega) (by rw [lenA]; simp only [List.length_singleton]; omega) ?_)
  rintro v3 G3 H3 hle3 hown3
  have hsameO := OwnP.sameO (hoA.push _) hle3 hown3
  have ev : f.vars.getD w ⟨#[]⟩ = f.vars[w] := by rw [List.getD_eq_getElem?_getD, List.getElem?_eq_getElem hwn]; rfl
  rw [← ev, take_at tv] at hown3
  obtain ⟨AA', cA', rfl⟩ := hown3.shape
  have hle3' := Hp.le_trans (Hp.le_push _ _) hle3
  obtain ⟨G4, hleG4, hown4⟩ := backA G3 H3 _ _ hle3' hown3
  have g4t := Xz hleG4 (by omega) (by intro e; cases e) g2t
  have h3t := Xz hown4.le (by have := hleG4.1; omega) (by intro e; cases e) g4t
  refine ⟨Yg, ?_⟩
  refine Xe rfl rfl (X4 rfl) Xp ?_
  refine Xe rfl rfl (Xg (off := 0) rfl Try.underlying75 rfl inf44.size (by decide) rfl) Xp ?_
  first | refine Yi rfl rfl (Y8 rfl rfl rfl inf44.size Ye Yk rfl ?_)
  refine ⟨Yg, ?_⟩
  refine Xd ?_
  obtain ⟨H5, hH5⟩ : ∃ H5, H5 = H3.put (K.size + 1) (.own 0 [.slice AA' (T.vars.take (i + 1)).length cA', .slice AB (T.parent.take i).length cB, .slice AC (T.links.take i).length cC, .map (some K.size)]) := ⟨_, rfl⟩
  obtain ⟨G5, hG5⟩ : ∃ G5, G5 = G4.put (K.size + 1) (.own 0 [.slice AA' (T.vars.take (i + 1)).length cA', .slice AB (T.parent.take i).length cB, .slice AC (T.links.take i).length cC, .map (some K.size)]) := ⟨_, rfl⟩
  have z4 := hleG4.1
  have hown5 := hown4.put_box (by omega) g4t [.slice AA' (T.vars.take (i + 1)).length cA', .slice AB (T.parent.take i).length cB, .slice AC (T.links.take i).length cC, .map (some K.size)]
  rw [← hG5, ← hH5] at hown5
  have leG5 : K.le G5 := by rw [hG5]; exact Hp.le_put_new (Hp.le_trans leG2 hleG4) (by omega) _
  have g5m : G5.get K.size = .map es := by rw [hG5, Hp.put_other _ _ (by omega)]; exact Xz hleG4 (by omega) (by intro e; cases e) g2m
  have g5t : G5.get (K.size + 1) = .own 0 [.slice AA' (T.vars.take (i + 1)).length cA', .slice AB (T.parent.take i).length cB, .slice AC (T.links.take i).length cC, .map (some K.size)] := by rw [hG5]; exact Hp.put_same _ _ _
  have z5 : K.size + 2 ≤ G5.size := by rw [hG5]; simp; omega
  change ACode true _ _ _ _ _ (H3.put (K.size + 1) (.own 0 [.slice AA' (T.vars.take (i + 1)).length cA', .slice AB (T.parent.take i).length cB, .slice AC (T.links.take i).length cC, .map (some K.size)]))
  rw [← hH5]
  have slG5 : Sl kLink G5 (.slice Aw (Yq f X w).length cw) (Yq f X w) := by
    rw [hG5]
    exact (slG2.mono hleG4.sees).mono (Hp.sees_box _ g4t)
  obtain ⟨Gb, hleGb, hoB, backB⟩ := (hown5.rot stable_lists (stable_strs _)).open3
  have leK5 := Hp.le_trans leG5 hown5.le
  have h5t := Xz hown5.le (by omega) (by intro e; cases e) g5t
  have h50 := Xz leK5 (by omega) (by intro e; cases e) gK0
  have hcell25 := leK5.cell1 hb2 hcell2
  have zoB := hoB.size
  have zz5 := hown5.size
  have zb := hleGb.1
  clear hH5 hG5 hsameO
  refine Yw (by kernel_rfl) (Zb (B := [0, 0, 2, 6, 14, 0, 32, 0, 128, 0, 896, 1920, 4064, 8160, 16382, 32767, 65535, 131071]) (π := [0, 1, 2, 3, 4, 5, 6, 7, 8, 9, 10, 11, 12, 13, 14, 15, 16, 17]) (by kernel_rfl)) ?_
  refine Xe rfl rfl (Xq Xl) Xp ?_
  refine Xe rfl rfl (Xq Xl) Xp ?_
  refine Xe rfl rfl (X4 rfl) Xp ?_
  refine Xe rfl rfl (Xg (off := 1) rfl Try.underlying75 rfl inf33.size (by decide) rfl) Xp ?_
  refine Xe rfl rfl (Xi rfl Try.underlying33 rfl Xs) Xp ?_
  refine Xe rfl rfl (Xg (off := 1) Xl Try.underlying47 Xl inf33.size (by decide) Xl) Xp ?_
  refine Xe rfl rfl (Xi rfl Try.underlying33 rfl Xs) Xp ?_
  refine Xe rfl rfl (Xg (off := 2) Xl Try.underlying47 Xl inf33.size (by decide) Xl) Xp ?_
  refine Xe rfl rfl (Xi rfl Try.underlying33 rfl Xs) Xp ?_
  refine Xe rfl rfl (Xc rfl) Xp ?_
  refine Xe rfl rfl (Xt rfl rfl Try.underlying33 inf3.size X7 X7) Xp ?_
  refine Xe rfl rfl (Xi rfl Try.underlying3 rfl Xs) Xp ?_
  refine Yi rfl rfl (Xy (Index_ints f.order _ (par f w) _ (s1K.mono leK5.sees) (by omega)) rfl Try.func32 rfl rfl rfl ?_)
  rintro v6 H5 ⟨rfl, rfl⟩
  refine ⟨Yg, ?_⟩
  first | refine Zk rfl rfl (Yb (r := [.int .i64 _]) Try.underlying33 inf3.size inf3.zero rfl (by decide) (by decide) (by decide) rfl) ?_
  refine Yi rfl rfl (OwnP.append (ys := [atI f.order (par f w)]) (hoB.push _) Try.underlying33 inf3 rfl rfl rfl (V3 (k := Yy .i64) rfl rfl hoB.size rfl) (by rw [lenB]; simp only [List.length_singleton]; omega) (by rw [lenB]; simp only [List.length_singleton]; omega) ?_)
  rintro v7 G7 H7 hle7 hown7
  have hsameO := OwnP.sameO (hoB.push _) hle7 hown7
  rw [take_at tp] at hown7
  obtain ⟨AB', cB', rfl⟩ := hown7.shape
  have hle7' := Hp.le_trans (Hp.le_push _ _) hle7
  obtain ⟨G8, hleG8, hown8⟩ := backB G7 H7 _ _ hle7' hown7
  have g8t := Xz hleG8 (by omega) (by intro e; cases e) g5t
  have h7t := Xz hown8.le (by have := hleG8.1; omega) (by intro e; cases e) g8t
  refine ⟨Yg, ?_⟩
  refine Xe rfl rfl (X4 rfl) Xp ?_
  refine Xe rfl rfl (Xg (off := 1) rfl Try.underlying75 rfl inf33.size (by decide) rfl) Xp ?_
  first | refine Yi rfl rfl (Y8 rfl rfl rfl inf33.size Ye Yk rfl ?_)
  refine ⟨Yg, ?_⟩
  refine Xd ?_
  obtain ⟨H9, hH9⟩ : ∃ H9, H9 = H7.put (K.size + 1) (.own 0 [.slice AA' (T.vars.take (i + 1)).length cA', .slice AB' (T.parent.take (i + 1)).length cB', .slice AC (T.links.take i).length cC, .map (some K.size)]) := ⟨_, rfl⟩
  obtain ⟨G9, hG9⟩ : ∃ G9, G9 = G8.put (K.size + 1) (.own 0 [.slice AA' (T.vars.take (i + 1)).length cA', .slice AB' (T.parent.take (i + 1)).length cB', .slice AC (T.links.take i).length cC, .map (some K.size)]) := ⟨_, rfl⟩
  have z8 := hleG8.1
  have hown9 := hown8.put_box (by omega) g8t [.slice AA' (T.vars.take (i + 1)).length cA', .slice AB' (T.parent.take (i + 1)).length cB', .slice AC (T.links.take i).length cC, .map (some K.size)]
  rw [← hG9, ← hH9] at hown9
  have leG9 : K.le G9 := by rw [hG9]; exact Hp.le_put_new (Hp.le_trans leG5 hleG8) (by omega) _
  have g9m : G9.get K.size = .map es := by rw [hG9, Hp.put_other _ _ (by omega)]; exact Xz hleG8 (by omega) (by intro e; cases e) g5m
  have g9t : G9.get (K.size + 1) = .own 0 [.slice AA' (T.vars.take (i + 1)).length cA', .slice AB' (T.parent.take (i + 1)).length cB', .slice AC (T.links.take i).length cC, .map (some K.size)] := by rw [hG9]; exact Hp.put_same _ _ _
  have z9 : K.size + 2 ≤ G9.size := by rw [hG9]; simp; omega
  change ACode true _ _ _ _ _ (H7.put (K.size + 1) (.own 0 [.slice AA' (T.vars.take (i + 1)).length cA', .slice AB' (T.parent.take (i + 1)).length cB', .slice AC (T.links.take i).length cC, .map (some K.size)]))
  rw [← hH9]
  have slG9 : Sl kLink G9 (.slice Aw (Yq f X w).length cw) (Yq f X w) := by
    rw [hG9]
    exact (slG5.mono hleG8.sees).mono (Hp.sees_box _ g8t)
  have hsl9 := slG9.mono hown9.le.sees
  have h9t := Xz hown9.le (by omega) (by intro e; cases e) g9t
  have zz9 := hown9.size
  clear hH9 hG9 hsameO
  refine Yw (by kernel_rfl) (Zb (B := [0, 0, 2, 6, 14, 0, 32, 96, 254, 511, 1023, 2047]) (π := [0, 1, 2, 3, 4, 5, 6, 7, 8, 9, 10, 11]) (by kernel_rfl)) ?_
  refine Xe rfl rfl (Xq Xl) Xp ?_
  refine Xe rfl rfl (Xq Xl) Xp ?_
  refine Xe rfl rfl (X4 rfl) Xp ?_
  refine Xe rfl rfl (Xg (off := 2) rfl Try.underlying75 rfl inf48.size (by decide) rfl) Xp ?_
  refine Xe rfl rfl (Xi rfl Try.underlying48 rfl Xs) Xp ?_
  refine Xe rfl rfl (Xx rfl) Xp ?_
  refine Yi rfl rfl (Xy (Clone_links _ _ _ hsl9 hpll) rfl Try.func33 rfl rfl rfl ?_)
  rintro v10 H10 ⟨G10', hle10, hownL⟩; obtain ⟨AL, cL, rfl⟩ := hownL.shape; have hle10' := Hp.le_trans hle10 hownL.le; obtain ⟨G10, hleG10, hown10⟩ := hown9.later hle10'; have slL := hown10.below (Za _) (Za _) (Za _) (by decide) (by decide) (by decide) hownL.sl; obtain ⟨Gc, hleGc, hoC, backC⟩ := (hown10.rot (stable_strs _) (stable_ints _)).open3; have slLc := slL.mono hleGc.sees; have zoC := hoC.size; have h10t := Xz hle10' (by omega) (by intro e; cases e) h9t; have z10 := hleG10.1; have zc := hleGc.1
  refine ⟨Yg, ?_⟩
  refine Zk rfl rfl (Yb (r := [.slice _ _ _]) Try.underlying48 inf68.size inf68.zero rfl (by decide) (by decide) (by decide) rfl) ?_
  refine Yi rfl rfl (OwnP.append (ys := [Yq f X w]) (hoC.push _) Try.underlying48 inf68 rfl rfl rfl (V3 (k := kSl kLink) ⟨_, rfl, slLc⟩ rfl hoC.size rfl) (by rw [lenC]; simp only [List.length_singleton]; omega) (by rw [lenC]; simp only [List.length_singleton]; omega) ?_)
  rintro v11 G11 H11 hle11 hown11
  have hsameO := OwnP.sameO (hoC.push _) hle11 hown11
  rw [take_at tl] at hown11
  obtain ⟨AC', cC', rfl⟩ := hown11.shape
  have hle11' := Hp.le_trans (Hp.le_push _ _) hle11
  obtain ⟨G12, hleG12, hown12⟩ := backC G11 H11 _ _ hle11' hown11
  have g10t := Xz hleG10 (by omega) (by intro e; cases e) g9t
  have g12t := Xz hleG12 (by omega) (by intro e; cases e) g10t
  have h11t := Xz hown12.le (by have := hleG12.1; omega) (by intro e; cases e) g12t
  refine ⟨Yg, ?_⟩
  refine Xe rfl rfl (X4 rfl) Xp ?_
  refine Xe rfl rfl (Xg (off := 2) rfl Try.underlying75 rfl inf48.size (by decide) rfl) Xp ?_
  first | refine Yi rfl rfl (Y8 rfl rfl rfl inf48.size Ye Yk rfl ?_)
  refine ⟨Yg, ?_⟩
  obtain ⟨H13, hH13⟩ : ∃ H13, H13 = H11.put (K.size + 1) (.own 0 [.slice AA' (T.vars.take (i + 1)).length cA', .slice AB' (T.parent.take (i + 1)).length cB', .slice AC' (T.links.take (i + 1)).length cC', .map (some K.size)]) := ⟨_, rfl⟩
  obtain ⟨G13, hG13⟩ : ∃ G13, G13 = G12.put (K.size + 1) (.own 0 [.slice AA' (T.vars.take (i + 1)).length cA', .slice AB' (T.parent.take (i + 1)).length cB', .slice AC' (T.links.take (i + 1)).length cC', .map (some K.size)]) := ⟨_, rfl⟩
  have z12 := hleG12.1
  have hown13 := hown12.put_box (by omega) g12t [.slice AA' (T.vars.take (i + 1)).length cA', .slice AB' (T.parent.take (i + 1)).length cB', .slice AC' (T.links.take (i + 1)).length cC', .map (some K.size)]
  rw [← hG13, ← hH13] at hown13
  have leG13 : K.le G13 := by rw [hG13]; exact Hp.le_put_new (Hp.le_trans leG9 (Hp.le_trans hleG10 hleG12)) (by omega) _
  have g13m : G13.get K.size = .map es := by rw [hG13, Hp.put_other _ _ (by omega)]; exact Xz (Hp.le_trans hleG10 hleG12) (by omega) (by intro e; cases e) g9m
  have g13t : G13.get (K.size + 1) = .own 0 [.slice AA' (T.vars.take (i + 1)).length cA', .slice AB' (T.parent.take (i + 1)).length cB', .slice AC' (T.links.take (i + 1)).length cC', .map (some K.size)] := by rw [hG13]; exact Hp.put_same _ _ _
  have z13 : K.size + 2 ≤ G13.size := by rw [hG13]; simp; omega
  change ACode true _ _ _ _ _ (H11.put (K.size + 1) (.own 0 [.slice AA' (T.vars.take (i + 1)).length cA', .slice AB' (T.parent.take (i + 1)).length cB', .slice AC' (T.links.take (i + 1)).length cC', .map (some K.size)]))
  rw [← hH13]
  have h13t := Xz hown13.le (by omega) (by intro e; cases e) g13t
  have h13m := Xz hown13.le (by omega) (by intro e; cases e) g13m
  have zz13 := hown13.size
  obtain ⟨sl1, sl2, sl3⟩ := hown13.sls
  clear hH13 hG13 hsameO
  have eP : (T.parent.take (i + 1)).getD i 0 = T.parent.getD i 0 := by rw [List.getD_eq_getElem?_getD, List.getD_eq_getElem?_getD, List.getElem?_take, if_pos (by omega)]
  have hiL : i < (T.links.take (i + 1)).length := by rw [List.length_take]; omega
  have eL : (T.links.take (i + 1))[i]'hiL = Yq f X w := by
    rw [List.getElem_take]
    exact (List.getElem?_eq_some_iff.1 tl).2
  have eL2 : T.links.getD i [] = Yq f X w := by rw [List.getD_eq_getElem?_getD, tl]; rfl
  refine Xb (by kernel_rfl) ?_
  refine Xa (Xq Xl) ?_
  refine Xa (Xc rfl) ?_
  refine X0 (Xy (group_tree (b := K.size + 1) (mb := K.size) (by omega) (by omega) h13t sl2 sl3 h13m i hiL (by rw [List.length_take]; omega) (by rw [eL]; exact hpll) (fun _ => by rw [eL]; exact hrise) hsp.keys (fun a => hsp.none i a (Nat.le_refl _))) rfl Try.func34 rfl rfl rfl ?_)
  rintro v14 H14 ⟨es', rfl, hes'⟩
  refine Xb (by kernel_rfl) ?_
  refine Xa (Yj Xl Xl Yv) ?_
  refine Xa (Xc rfl) ?_
  refine ⟨f.order.length - (i + 1), by omega, i + 1, G13.put K.size (.map es'), _, _, _, es', by omega, rfl, Hp.le_put_new leG13 (Nat.le_refl _) _, by simp; omega, Hp.put_same _ _ _, by rw [Hp.put_other _ _ (by omega)]; exact g13t, hown13.put_map (by omega) g13m es', hsp.step ?_, e2, e3, e7, e24, e25, rfl⟩
  rw [eP, eL] at hes'
  rw [eL2]
  exact hes'
  intro hc2
  (try simp only [decide_eq_true_eq, decide_eq_false_iff_not, Bool.not_eq_true', Bool.not_eq_false'] at hc2)
  refine Y5 ?_
  refine Xd ?_
  refine Xb (by kernel_rfl) ?_
  refine Xa (Xq Xl) ?_
  refine Xa (Zd rfl) ?_
  refine Xa (Xf rfl) ?_
  refine X8 ?_
  obtain rfl : i = f.order.length := by omega
  obtain ⟨sl1, sl2, sl3⟩ := hown.sls
  rw [List.take_of_length_le (by omega)] at sl1 sl2 sl3
  have zz := hown.size
  exact ⟨_, Zl (Xv rfl) (Xv rfl), Hp.le_trans leK leK1, true, .pointer (some ⟨K.size + 1, 0, none⟩), hg, rfl, by
    rw [if_pos rfl]
    exact ⟨K.size + 1, K.size, A, B, C, es, rfl, by omega, by omega, Xz hown.le (by omega) (by intro e; cases e) gt, sl1, sl2, sl3, Xz hown.le (by omega) (by intro e; cases e) gm, by rw [tl3]; exact hsp⟩⟩
end Go.Proofs.Ytmakkmcjocjgmaa.Am


/- Two variables, of which one link leads from the one to the other; the small living call of the statements on reducing. -/
namespace Go.Proofs.Ytmakkmcjocjgmaa.Am
open Go Go.RowKit
set_option maxRecDepth 100000
set_option linter.unusedVariables false
set_option linter.unusedSimpArgs false

theorem sl_two {α : Type} {k : Kd α} {H : Hp} {b c st : Nat} {x y : α} {u v : Value} (hg : H.get b = .own st [u, v]) (hb : b < H.size) (h1 : k.rep H x [u]) (h2 : k.rep H y [v]) (hst : k.sz = st) : Sl k H (.slice (some ⟨b, 0, none⟩) 2 c) [x, y] :=
  Els.sl (xs := [x, y]) (cs := [u, v]) (Els.cons (c := [u]) h1 (Els.cons (c := [v]) h2 (Els.nil _ _ []))) (Hp.sees.refl _) hb hg hst
end Go.Proofs.Ytmakkmcjocjgmaa.Am


/- Whether two lists of rows are one; whether a forest is small. -/
namespace Go.Proofs.Ytmakkmcjocjgmaa.Am
open Go Go.RowKit
set_option maxRecDepth 100000
set_option linter.unusedVariables false
set_option linter.unusedSimpArgs false

end Go.Proofs.Ytmakkmcjocjgmaa.Am


/- The small living call of the statements on trees. -/
namespace Go.Proofs.Ytmakkmcjocjgmaa.Am
open Go Go.RowKit
set_option maxRecDepth 100000
set_option linter.unusedVariables false
set_option linter.unusedSimpArgs false

theorem New_good (f : Forest) (p : Parts) (cs ds : List Value) (H : Hp) (hp : kForest.rep H f cs) (hq : kParts.rep H p ds) (hsm : Small f p) (hch : Cheap p) (hG : GoodP f p) :
    ACalls Try.prog 20 #[.agg cs.toArray, .agg ds.toArray] H (fun r H' => H.le H' ∧ ∃ b, r = .tuple #[.pointer (some ⟨b, 0, none⟩), .int .i64 0] ∧ TreeR H' (.pointer (some ⟨b, 0, none⟩)) (Yr f (V1 f p))) :=
  (New_tree f p cs ds H hp hq hsm fun _ => hch).mono fun r H' ⟨hle, g, v, hg, hr, hv⟩ => by
    obtain rfl : g = true := hg.2 hG
    rw [if_pos rfl] at hv
    obtain ⟨b, _, _, _, _, _, rfl, _⟩ := id hv
    exact ⟨hle, b, hr, hv⟩
end Go.Proofs.Ytmakkmcjocjgmaa.Am


/- Walks in memory: made, asked. -/
namespace Go.Proofs.Ytmakkmcjocjgmaa.Am
open Go Go.RowKit
set_option maxRecDepth 100000
set_option linter.unusedVariables false
set_option linter.unusedSimpArgs false

def Away (wb : Nat) (G G' : Hp) : Prop := (G.put wb .dead).le (G'.put wb .dead)
theorem Away.refl (wb : Nat) (G : Hp) : Away wb G G := Hp.le_refl _
theorem Away.trans {wb : Nat} {G G1 G2 : Hp} (h : Away wb G G1) (k : Away wb G1 G2) : Away wb G G2 := Hp.le_trans h k
theorem Away.of_le {wb : Nat} {G G' : Hp} (h : G.le G') : Away wb G G' := Hp.le_put_both h wb .dead
theorem Away.put {wb : Nat} {G G' : Hp} (h : Away wb G G') (x : Blk) : Away wb G (G'.put wb x) := by
  unfold Away at h ⊢
  rw [Hp.put_put]; exact h
theorem Away.size {wb : Nat} {G G' : Hp} (h : Away wb G G') : G.size ≤ G'.size := h.1
theorem Away.keep {wb : Nat} {G G' : Hp} (h : Away wb G G') {b : Nat} {x : Blk} (hb : b < G.size) (hne : b ≠ wb) (hd : x ≠ .dead) (hg : G.get b = x) : G'.get b = x := by
  have := h.2 b hb (by rw [Hp.put_other _ _ hne, hg]; exact hd)
  rw [Hp.put_other _ _ hne, Hp.put_other _ _ hne] at this
  rw [this, hg]
theorem Away.base {wb : Nat} {K G G' : Hp} (h : Away wb G G') (hk : K.le G) (hw : K.size ≤ wb) : K.le G' :=
  ⟨Nat.le_trans hk.1 h.1, fun b hb hd => h.keep (Nat.lt_of_lt_of_le hb hk.1) (by omega) hd (hk.2 b hb hd)⟩
theorem Away.sees {wb : Nat} {G G' : Hp} (h : Away wb G G') {cs : List Value} (hg : G.get wb = .own 0 cs) : G.sees G' := by
  have h1 := (Hp.sees_any G hg .dead).trans (Hp.le.sees h)
  have h2 := h1.dead (Hp.put_same _ _ _) (G'.get wb)
  rwa [Hp.put_put, Hp.put_self _ rfl] at h2
theorem Away.tree {wb : Nat} {G G' : Hp} (h : Away wb G G') {a b c d e : Value} (hg : G.get wb = .own 0 [a, b, c, d, e]) {v : Value} {T : TreeT} (ht : TreeR G v T) : TreeR G' v T := by
  have hs := h.sees hg
  obtain ⟨tb, mb, s0, s1, s2, es, rfl, h1, h2, h3, h4, h5, h6, h7, h8⟩ := ht
  have n1 : tb ≠ wb := fun e => by rw [e, hg] at h3; simp at h3
  have n2 : mb ≠ wb := fun e => by rw [e, hg] at h7; cases h7
  exact ⟨tb, mb, s0, s1, s2, es, rfl, Nat.lt_of_lt_of_le h1 h.size, Nat.lt_of_lt_of_le h2 h.size, h.keep h1 n1 (by intro e; cases e) h3, h4.mono hs, h5.mono hs, h6.mono hs, h.keep h2 n2 (by intro e; cases e) h7, h8⟩
def rowN (o : Option RowT) : List Int := (o.map RowT.nodes).getD []
def rowC (o : Option RowT) : Int := (o.map RowT.cost).getD 0
def rowM (o : Option RowT) : Int := (o.map RowT.n).getD 0
theorem Row_rowT {T : TreeT} {v u : Value} {ns : List Int} {H : Hp} (ht : TreeR H v T) (hT : GoodT T) (hs : Sl (Yy .i64) H u ns) (hl : ns.length ≤ 1000000) :
    ACalls Try.prog 25 #[v, u] H (fun r H' => ∃ G1 A c, H.le G1 ∧ r = .tuple #[.agg #[.slice A (rowN (rowT T ns)).length c, .int .i64 (rowC (rowT T ns)), .int .u64 (rowM (rowT T ns))], .bool (rowT T ns).isSome] ∧ OwnP (Yy .i64) G1 H' (.slice A (rowN (rowT T ns)).length c) (rowN (rowT T ns))) :=
  (Row_tree ht hT hs hl).mono fun r H' ⟨hle, w, hr⟩ => by
    unfold rowT
    split at hr
    · rename_i h
      rw [if_pos h]
      cases hc : Va T ns T.vars.length with
      | none => rw [hc] at hr; exact ⟨H', none, 0, hle, hr, OwnP.nil _ _⟩
      | some cn =>
        rw [hc] at hr
        obtain ⟨rfl, G1, l1, o1⟩ := hr
        obtain ⟨A, c, rfl⟩ := o1.shape
        exact ⟨G1, A, c, l1, rfl, o1⟩
    · rename_i h
      rw [if_neg h]
      exact ⟨H', none, 0, hle, hr, OwnP.nil _ _⟩
end Go.Proofs.Ytmakkmcjocjgmaa.Am


/- A walk goes one place on. -/
namespace Go.Proofs.Ytmakkmcjocjgmaa.Am
open Go Go.RowKit
set_option maxRecDepth 100000
set_option linter.unusedVariables false
set_option linter.unusedSimpArgs false

theorem Away.push {wb : Nat} {G G' : Hp} (h : Away wb G G') (hw : wb < G'.size) (x : Blk) : Away wb G (G'.push x) := h.trans (.of_le (G'.le_push x))
end Go.Proofs.Ytmakkmcjocjgmaa.Am


/- Who may be above a place. -/
namespace Go.Proofs.Ytmakkmcjocjgmaa.Am
open Go Go.RowKit
set_option maxRecDepth 100000
set_option linter.unusedVariables false
set_option linter.unusedSimpArgs false

theorem Away.sees_map {wb : Nat} {G G' : Hp} (h : Away wb G G') {es : List (Value × Value)} (hg : G.get wb = .map es) : G.sees G' := by
  have h1 := (Hp.sees_map G hg .dead).trans (Hp.le.sees h)
  have h2 := h1.dead (Hp.put_same _ _ _) (G'.get wb)
  rwa [Hp.put_put, Hp.put_self _ rfl] at h2
structure SeenM (es : List (Value × Value)) (out : List Int) : Prop where
  keys : ∀ e ∈ es, MapKept.IsKey (.int .i64) e.1
  at_ : ∀ x : Int, Yl es (.int .i64 x) = if x ∈ out then some (.int .i64 1) else none
theorem SeenM.nil : SeenM [] [] := ⟨fun e h => (by cases h), fun x => by rw [if_neg (by simp)]; rfl⟩
theorem SeenM.put {es : List (Value × Value)} {out : List Int} (h : SeenM es out) (x : Int) : SeenM (Zy es (.int .i64 x) (.int .i64 1)) (out ++ [x]) :=
  ⟨mapPut_keys h.keys rfl, fun y => by
    by_cases he : y = x
    · subst he
      rw [Vd, if_pos (by simp)]
    · rw [Zi (fun e => he (by injection e)), h.at_]
      simp [he]⟩
theorem av_lookup_is {P : Program} {t : Fr} {H : Hp} {d : Option Tmp} {ty : TypeId} {pos : String} {after : Array Edge} {guard : Option (Nat × Bool)} {mt kt et : TypeId} {K : Value → Prop} {x y : Operand} {b : Nat} {es : List (Value × Value)} {k z v : Value} (hv : (Yl es k).getD z = v) (hu : P.underlying mt = some (.map kt et)) (hK : KeyTy P kt K) (hz : (P.info? et).map (·.zero) = some (some z)) (hp : ∀ φ : Inj, VRel φ z z)
    (hx : t.eval x = .map (some b)) (hy : t.eval y = k) (hk : K k) (hb : H.get b = .map es ∨ H.get b = .romap es) (hes : ∀ e ∈ es, K e.1) :
    AVal P ⟨d, .lookup mt x y false, ty, pos, after, guard⟩ t [b] H v := by
  subst hv
  exact av_lookup hu hK hz hp hx hy hk hb hes
def FewA (T : TreeT) : Prop := ∀ (d i : Nat), ((Zp T d (T.parent.getD i 0).toNat).flatMap fun a => (T.group (T.parent.getD i 0) a).map (·.b)).length ≤ 1000000 ∧ (Zp T d i).length ≤ 1000000
set_option maxHeartbeats 2000000 in
theorem above_cnt {T : TreeT} (hT : GoodT T) (hF : FewA T) {tb cb mb ms : Nat} (d : Nat) : ∀ (i : Nat), i < d → i < T.vars.length → ∀ H : Hp, H.get cb = .own 0 [.pointer (some ⟨tb, 0, none⟩), .map (some mb), .map (some ms)] → cb < H.size → TreeR H (.pointer (some ⟨tb, 0, none⟩)) T →
    ACalls Try.prog 49 #[.pointer (some ⟨cb, 0, none⟩), .int .i64 i] H (fun r H' => H.le H' ∧ Sl (Yy .i64) H' r (Zp T d i)) := by
  induction d with
  | zero => intro i h; omega
  | succ d ih =>
  intro i hid hiv H hc hcb ht
  have hpar := hT.par i hiv
  refine Xr Try.func49 rfl rfl rfl (by simp) ?_
  refine Xd ?_
  refine Xb (by kernel_rfl) ?_
  refine Xa (X3 rfl) ?_
  refine Xd ?_
  refine Xb (by kernel_rfl) ?_
  refine Xa (Xq rfl) ?_
  refine Xa (X4 rfl) ?_
  refine Xa (Xg (off := 0) rfl Try.underlying82 rfl inf53.size (by decide) rfl) ?_
  refine Xa (Xi rfl Try.underlying53 rfl Xs) ?_
  refine Xa (Xc rfl) ?_
  refine X0 (Xy (Parent_tree ht hT.l1 (i : Int)) rfl Try.func53 rfl rfl rfl ?_)
  rintro v6 H ⟨rfl, rfl⟩; rw [if_pos ⟨by omega, by omega⟩, Int.toNat_natCast]
  refine Xa (Xf rfl) ?_
  refine Xd ?_
  refine Xd ?_
  refine Xb (by kernel_rfl) ?_
  refine Xa (Xc rfl) ?_
  refine Xa (Vr rfl rfl) ?_
  refine X6 rfl rfl ?_ ?_
  intro hc1
  have hroot : T.parent.getD i 0 = -1 := of_decide_eq_true hc1
  refine Xd ?_
  refine Xb (by kernel_rfl) ?_
  first | refine X5 (Yb (r := [.int .i64 _]) Try.underlying33 inf3.size inf3.zero rfl (by decide) (by decide) (by decide) rfl) ?_
  refine Xa (X3 rfl) ?_
  refine X8 ?_
  exact ⟨_, X1 (Xv rfl), Hp.le_push _ _, by rw [Zp, if_pos hroot]; exact sl_int1⟩
  intro hc1
  have hroot : T.parent.getD i 0 ≠ -1 := of_decide_eq_false hc1
  obtain ⟨p, hp⟩ : ∃ p : Nat, T.parent.getD i 0 = p := ⟨(T.parent.getD i 0).toNat, by omega⟩
  rw [hp]
  refine X9 ?_
  refine Xd ?_
  refine Xb (by kernel_rfl) ?_
  refine Xa (X3 rfl) ?_
  refine Xd ?_
  refine Xb (by kernel_rfl) ?_
  refine X5 (am_makeMap) ?_
  refine Xa (av_assign_map rfl) ?_
  refine Xd ?_
  refine Xd ?_
  refine Xb (by kernel_rfl) ?_
  refine Xa (Xq rfl) ?_
  refine Xa (Xc rfl) ?_
  refine X0 (Xy (ih p (by omega) (by omega) _ ((Hp.push_old _ _ hcb).trans hc) (by simp; omega) (ht.mono (H.le_push _))) rfl Try.func49 rfl rfl rfl ?_)
  rintro v24 H2 ⟨le2, sl2⟩; obtain ⟨L, hL⟩ : ∃ L, L = Zp T d p := ⟨_, rfl⟩; rw [← hL] at sl2; obtain ⟨AA, cA, rfl⟩ := sl2.shape; have hm2 : H2.get H.size = .map [] := Xz le2 (by simp) (by intro e; cases e) (Hp.push_new _ _); have z2 := le2.1; simp only [Hp.push_size] at z2; have leH2 := Hp.le_trans (H.le_push _) le2; have hfl := (hF d i).1; rw [hp, Int.toNat_natCast, ← hL] at hfl; have hLl := (hF d p).2; rw [← hL] at hLl
  refine Xa (Ys rfl Try.underlying33) ?_
  refine Xa (Xc rfl) ?_
  refine Ya ?_
  refine Y9 (fun n t H' => ∃ (j : Nat) (G : Hp) (es : List (Value × Value)) (A6 : Option Addr) (c6 : Nat) (out : List Int), n = L.length - j ∧ j ≤ L.length ∧ Away H.size H2 G ∧ G.get H.size = .map es ∧ OwnP (Yy .i64) G H' (.slice A6 out.length c6) out ∧ out = onceT [] ((L.take j).flatMap fun a => (T.group p a).map (·.b)) ∧ SeenM es out ∧ t 0 = .pointer (some ⟨cb, 0, none⟩) ∧ t 5 = .int .i64 p ∧ t 6 = .slice A6 out.length c6 ∧ t 7 = .map (some H.size) ∧ t 24 = .slice AA L.length cA ∧ t 25 = .int .i64 L.length ∧ t 26 = .int .i64 j) (L.length) (⟨0, H2, [], none, 0, [], rfl, Nat.zero_le _, .refl _ _, hm2, OwnP.nil _ _, rfl, .nil, rfl, rfl, rfl, rfl, rfl, rfl, rfl⟩) ?_
  rintro n t H3 ⟨j, G, es, A6, c6, out, rfl, hj, aw, gm, hown, hout, hseen, e0, e5, e6, e7, e24, e25, e26⟩
  have slG := sl2.mono (aw.sees_map hm2)
  have leG : H.le G := aw.base leH2 (Nat.le_refl _)
  have hcG := Xz leG hcb (by intro e; cases e) hc
  have htG := ht.mono leG
  have hcH := Xz hown.le (Nat.lt_of_lt_of_le hcb leG.1) (by intro e; cases e) hcG
  have zG := aw.size
  refine Xd ?_
  refine Xb (by kernel_rfl) ?_
  refine Xa (Zj Xl Xl) ?_
  refine Xd ?_
  refine X6 rfl rfl ?_ ?_
  intro hc2
  have hjl : j < L.length := by have := of_decide_eq_true hc2; omega
  obtain ⟨bA, oA, eA, hbA, hcA⟩ := (slG.mono hown.le.sees).int_at (i := (j : Int)) (by omega) (by omega)
  rw [Int.toNat_natCast] at hcA
  obtain ⟨a, ha⟩ : ∃ a, a = L.getD j 0 := ⟨_, rfl⟩
  rw [← ha] at hcA
  subst eA
  refine X9 ?_
  refine Xd ?_
  refine Ya ?_
  refine Xd ?_
  refine Xb (by kernel_rfl) ?_
  refine Xa (Xt Xl Xl Try.underlying33 inf3.size X7 X7) ?_
  refine Xa (Xi rfl Try.underlying3 rfl Xs) ?_
  refine Xa (Xf rfl) ?_
  refine Xd ?_
  refine Xb (by kernel_rfl) ?_
  refine Xa (Xq Xl) ?_
  refine Xa (X4 rfl) ?_
  refine Xa (Xg (off := 0) rfl Try.underlying82 rfl inf53.size (by decide) rfl) ?_
  refine Xa (Xi rfl Try.underlying53 rfl Xs) ?_
  refine Xa (Xc Xl) ?_
  refine Xa (Xc rfl) ?_
  refine X0 (Xy (Group_tree (htG.mono hown.le) hT.l1 hT.l2 hT.lens (p : Int) _) rfl Try.func50 rfl rfl rfl ?_)
  rintro v36 H5 ⟨GL, leL, hownL⟩; obtain ⟨g, hg⟩ : ∃ g, g = T.group p a := ⟨_, rfl⟩; rw [← hg] at hownL; have slL := hownL.sl; obtain ⟨AG, cG, rfl⟩ := slL.shape; have le35 := Hp.le_trans leL hownL.le; obtain ⟨G5, le5, hown5⟩ := hown.later le35; have slg := hown5.below (Za _) (by decide) slL; have aw5 := aw.trans (.of_le le5); have gm5 := Xz le5 (by omega) (by intro e; cases e) gm; have z5 := le5.1; have hgl := group_len hT.lens (p : Int) a; rw [← hg] at hgl
  refine Xa (Ys rfl Try.underlying68) ?_
  refine Xa (Xc rfl) ?_
  refine Ya ?_
  refine Y9 (fun n t H' => ∃ (m : Nat) (G : Hp) (es : List (Value × Value)) (A6 : Option Addr) (c6 : Nat) (out2 : List Int), n = g.length - m ∧ m ≤ g.length ∧ Away H.size G5 G ∧ G.get H.size = .map es ∧ OwnP (Yy .i64) G H' (.slice A6 out2.length c6) out2 ∧ out2 = onceT out ((g.take m).map (·.b)) ∧ SeenM es out2 ∧ t 0 = .pointer (some ⟨cb, 0, none⟩) ∧ t 5 = .int .i64 p ∧ t 6 = .slice A6 out2.length c6 ∧ t 7 = .map (some H.size) ∧ t 24 = .slice (some ⟨bA, oA, none⟩) L.length cA ∧ t 25 = .int .i64 L.length ∧ t 26 = .int .i64 j ∧ t 36 = .slice AG g.length cG ∧ t 37 = .int .i64 g.length ∧ t 38 = .int .i64 m) (g.length) (⟨0, G5, es, A6, c6, out, rfl, Nat.zero_le _, .refl _ _, gm5, hown5, rfl, hseen, e0, e5, e6, e7, e24, e25, e26, rfl, rfl, rfl⟩) ?_
  rintro n t H6 ⟨m, G6, es6, A7, c7, out6, rfl, hm, aw6, gm6, hown6, hout6, hseen6, e0, e5, e6, e7, e24, e25, e26, e36, e37, e38⟩
  have slg6 := slg.mono (aw6.sees_map gm5)
  have z6 := aw6.size
  have zz6 := hown6.size
  have hol : out6.length ≤ 2000000 := by
    have h1 := onceT_len ((g.take m).map (·.b)) out
    have h2 := onceT_len ((L.take j).flatMap fun a => (T.group p a).map (·.b)) []
    have h3 : ((L.take j).flatMap fun a => (T.group p a).map (·.b)).length ≤ (L.flatMap fun a => (T.group p a).map (·.b)).length := by
      conv => rhs; rw [← List.take_append_drop j L, List.flatMap_append, List.length_append]
      omega
    rw [← hout6, List.length_map, List.length_take] at h1
    rw [← hout] at h2
    simp only [List.length_nil] at h2
    omega
  refine Xd ?_
  refine Xb (by kernel_rfl) ?_
  refine Xa (Zj Xl Xl) ?_
  refine Xd ?_
  refine X6 rfl rfl ?_ ?_
  intro hc3
  have hml : m < g.length := by have := of_decide_eq_true hc3; omega
  obtain ⟨bg, og, eg, hbg, hcg⟩ := (slg6.mono hown6.le.sees).link_at hml
  obtain ⟨l, hl⟩ : ∃ l, l = g[m] := ⟨_, rfl⟩
  rw [← hl] at hcg
  subst eg
  refine X9 ?_
  refine Xd ?_
  refine Ya ?_
  refine Xd ?_
  refine Xb (by kernel_rfl) ?_
  refine Xa (Xt Xl Xl Try.underlying68 inf70.size X7 X7) ?_
  refine Xa (Yp (cs := [.int .i64 _, .int .i64 _, .int .i64 _, .int .u64 _]) rfl Try.underlying70 rfl inf70.size Yf) ?_
  refine X5 (Y3 (l := [.int .i64 0, .int .i64 0, .int .i64 0, .int .u64 0]) inf70.zero rfl (by decide)) ?_
  first | refine X0 (Ym (vs := [.int .i64 _, .int .i64 _, .int .i64 _, .int .u64 _]) rfl rfl inf70.size Ye Yk rfl rfl ?_)
  refine Xd ?_
  obtain ⟨H7, hH7⟩ : ∃ H7, H7 = (H6.push (.own 0 [.int .i64 0, .int .i64 0, .int .i64 0, .int .u64 0])).put H6.size (.own 0 [.int .i64 l.a, .int .i64 l.b, .int .i64 l.cost, .int .u64 l.n]) := ⟨_, rfl⟩
  obtain ⟨G7, hG7⟩ : ∃ G7, G7 = (G6.push (.own 0 [.int .i64 0, .int .i64 0, .int .i64 0, .int .u64 0])).put H6.size (.own 0 [.int .i64 l.a, .int .i64 l.b, .int .i64 l.cost, .int .u64 l.n]) := ⟨_, rfl⟩
  have hown7 := hown6.boxed [.int .i64 0, .int .i64 0, .int .i64 0, .int .u64 0] [.int .i64 l.a, .int .i64 l.b, .int .i64 l.cost, .int .u64 l.n]
  rw [← hH7, ← hG7] at hown7
  have le67 : G6.le G7 := by rw [hG7]; exact Hp.le_put_new (G6.le_push _) (by omega) _
  have gb7 : G7.get H6.size = .own 0 [.int .i64 l.a, .int .i64 l.b, .int .i64 l.cost, .int .u64 l.n] := by rw [hG7]; exact Hp.put_same _ _ _
  have z7 : G7.size = G6.size + 1 := by rw [hG7]; simp
  have gm7 := Xz le67 (by omega) (by intro e; cases e) gm6
  have hb7 := Xz hown7.le (by omega) (by intro e; cases e) gb7
  have hm7 := Xz hown7.le (by omega) (by intro e; cases e) gm7
  have zz7 := hown7.size
  change ACode true _ _ _ _ _ ((H6.push (.own 0 [.int .i64 0, .int .i64 0, .int .i64 0, .int .u64 0])).put H6.size (.own 0 [.int .i64 l.a, .int .i64 l.b, .int .i64 l.cost, .int .u64 l.n]))
  rw [← hH7]
  clear hH7 hG7
  have aw7 := aw6.trans (.of_le le67)
  have hget : (Yl es6 (.int .i64 l.b)).getD (.int .i64 0) = .int .i64 (if l.b ∈ out6 then 1 else 0) := by rw [hseen6.at_]; split <;> rfl
  have hnext : onceT out ((g.take (m + 1)).map (·.b)) = if l.b ∈ out6 then out6 else out6 ++ [l.b] := by
    rw [← Y2 hml, List.map_append, onceT_append, ← hout6, ← hl]; rfl
  refine Xb (by kernel_rfl) ?_
  refine Xa (av_move_map Xl) ?_
  refine Xa (Xg (off := 1) rfl Try.underlying70 rfl inf3.size (by decide) rfl) ?_
  refine Xa (Xi rfl Try.underlying3 rfl Xs) ?_
  refine Xa (av_lookup_is hget Try.underlying114 (keyTy_plain Try.underlying3) inf3.zero (fun φ => .int _ _) Xl Xl rfl (.inl hm7) hseen6.keys) ?_
  refine Xa (Vr rfl rfl) ?_
  refine X6 rfl rfl ?_ ?_
  intro hc4
  have hnew : ¬ l.b ∈ out6 := fun h => by have h2 := of_decide_eq_true hc4; rw [if_pos h] at h2; exact absurd h2 (by decide)
  rw [if_neg hnew] at hnext
  refine Yw (by kernel_rfl) (Zb (B := [0, 0, 2, 0, 0, 16, 48, 120, 255, 511]) (π := [0, 1, 2, 3, 4, 5, 6, 7, 8, 9]) (by kernel_rfl)) ?_
  refine Xe rfl rfl (av_move_map Xl) Xp ?_
  refine Xe rfl rfl (Xg (off := 1) rfl Try.underlying70 rfl inf3.size (by decide) rfl) Xp ?_
  refine Xe rfl rfl (Xi rfl Try.underlying3 rfl Xs) Xp ?_
  refine Xe rfl rfl (Xx Xl) Xp ?_
  refine Xe rfl rfl (Xg (off := 1) rfl Try.underlying70 rfl inf3.size (by decide) rfl) Xp ?_
  refine Xe rfl rfl (Xi rfl Try.underlying3 rfl Xs) Xp ?_
  first | refine Zk rfl rfl (Yb (r := [.int .i64 _]) Try.underlying33 inf3.size inf3.zero rfl (by decide) (by decide) (by decide) rfl) ?_
  refine Yi rfl rfl (OwnP.append (ys := [l.b]) (hown7.push _) Try.underlying33 inf3 rfl rfl rfl (V3 (k := Yy .i64) rfl rfl hown7.size rfl) (by simp only [List.length_singleton]; omega) (by simp only [List.length_singleton]; omega) ?_)
  rintro v8 G8 H8 hle8 hown8
  have hsameO := OwnP.sameO (hown7.push _) hle8 hown8
  obtain ⟨B8, c8, rfl⟩ := hown8.shape
  have le78 := Hp.le_trans (Hp.le_push _ _) hle8
  have z8 := le78.1
  have zz8 := hown8.size
  have gm8 := Xz le78 (by omega) (by intro e; cases e) gm7
  have gb8 := Xz le78 (by omega) (by intro e; cases e) gb7
  have hm8 := Xz hown8.le (by omega) (by intro e; cases e) gm8
  have hb8 := Xz hown8.le (by omega) (by intro e; cases e) gb8
  refine ⟨Yg, ?_⟩
  refine Yi rfl rfl (Vk Try.underlying114 (keyTy_plain Try.underlying3) rfl rfl rfl rfl hm8 hseen6.keys ?_)
  refine ⟨Yg, ?_⟩
  refine Xe rfl rfl (X3 rfl) Xp ?_
  refine Xb (by kernel_rfl) ?_
  refine Xa (Yj Xl Xl Yv) ?_
  refine Xa (Xc rfl) ?_
  first
    | exact ⟨g.length - (m + 1), by omega, m + 1, G7, es6, A7, c7, out6, rfl, by omega, aw7, gm7, hown7, hnext.symm, hseen6, e0, e5, e6, e7, e24, e25, e26, e36, e37, rfl⟩
    | exact ⟨g.length - (m + 1), by omega, m + 1, G8.put H.size (.map (Zy es6 (.int .i64 l.b) (.int .i64 1))), _, B8, c8, out6 ++ [l.b], rfl, by omega, (aw7.trans (.of_le le78)).put _, Hp.put_same _ _ _, hown8.put (by rw [gm8]; intro e; cases e) _ (Hp.sees_map _ gm8 _), hnext.symm, hseen6.put l.b, e0, e5, rfl, e7, e24, e25, e26, e36, e37, rfl⟩
  intro hc4
  have hold : l.b ∈ out6 := Decidable.byContradiction fun h => by have h2 := of_decide_eq_false hc4; rw [if_neg h] at h2; exact h2 rfl
  rw [if_pos hold] at hnext
  refine X9 ?_
  refine Xb (by kernel_rfl) ?_
  refine Xa (Yj Xl Xl Yv) ?_
  refine Xa (Xc rfl) ?_
  first
    | exact ⟨g.length - (m + 1), by omega, m + 1, G7, es6, A7, c7, out6, rfl, by omega, aw7, gm7, hown7, hnext.symm, hseen6, e0, e5, e6, e7, e24, e25, e26, e36, e37, rfl⟩
    | exact ⟨g.length - (m + 1), by omega, m + 1, G8.put H.size (.map (Zy es6 (.int .i64 l.b) (.int .i64 1))), _, B8, c8, out6 ++ [l.b], rfl, by omega, (aw7.trans (.of_le le78)).put _, Hp.put_same _ _ _, hown8.put (by rw [gm8]; intro e; cases e) _ (Hp.sees_map _ gm8 _), hnext.symm, hseen6.put l.b, e0, e5, rfl, e7, e24, e25, e26, e36, e37, rfl⟩
  intro hc3
  have hml : ¬ m < g.length := by have := of_decide_eq_false hc3; omega
  rw [List.take_of_length_le (by omega)] at hout6
  refine Y5 ?_
  refine Xb (by kernel_rfl) ?_
  refine Xa (Yj Xl Xl Yv) ?_
  refine Xa (Xc rfl) ?_
  exact ⟨L.length - (j + 1), by omega, j + 1, G6, es6, A7, c7, out6, rfl, by omega, aw5.trans aw6, gm6, hown6, by rw [hout6, hout, ← Y2 hjl, List.flatMap_append, onceT_append, List.flatMap_cons, List.flatMap_nil, List.append_nil, hg, ha, Zc hjl], hseen6, e0, e5, e6, e7, e24, e25, rfl⟩
  intro hc2
  have hjl : ¬ j < L.length := by have := of_decide_eq_false hc2; omega
  refine Y5 ?_
  refine Xd ?_
  refine Xb (by kernel_rfl) ?_
  refine Xa (Xx Xl) ?_
  refine Xa (X3 rfl) ?_
  refine X8 ?_
  exact ⟨_, X1 (Xv rfl), Hp.le_trans leG hown.le, by rw [Zp, if_neg (by rw [hp]; omega), hp, Int.toNat_natCast, ← hL]; rw [List.take_of_length_le (by omega)] at hout; rw [← hout]; exact hown.sl⟩
end Go.Proofs.Ytmakkmcjocjgmaa.Am


/- Places and nodes, as keys. -/
namespace Go.Proofs.Ytmakkmcjocjgmaa.Am
open Go Go.RowKit
set_option maxRecDepth 100000
set_option linter.unusedVariables false
set_option linter.unusedSimpArgs false

theorem cspot_eq (i a i' a' : Int) (w : World) : (Op.equal 105 (Yu i a) (Yu i' a')).run Try.prog w = .ok (decide (i = i') && decide (a = a')) w := by
  have h := run_struct_eq (P := Try.prog) (xs := [.int .i64 i, .int .i64 a]) (ys := [.int .i64 i', .int .i64 a']) Try.underlying105 (by kernel_rfl) (fun f hf => by
    simp at hf
    rcases hf with rfl | rfl
    · exact ⟨by simp, by simp, .int Try.underlying3 (by decide)⟩
    · exact ⟨by simp, by simp, .int Try.underlying3 (by decide)⟩) w
  refine h.trans ?_
  congr 1
  rw [Bool.eq_iff_iff]
  simp [allEq, scalEq]
theorem V9 : KeyTy Try.prog 105 IsSpot := keyTy_struct Try.underlying105
  (fun {φ v v'} ⟨i, a, e⟩ h => by
    subst e
    exact VRel.agg_scal (xs := [.int .i64 i, .int .i64 a]) h (by intro v hv; simp at hv; rcases hv with rfl | rfl <;> rfl))
  (fun w em {v} ⟨i, a, e⟩ => by
    subst e
    have c : ∀ b, (Instr.checkKey em 9999 3 (.int .i64 b)).run Try.prog w = .ok () w := fun b => by
      show (Instr.checkKey em (9998 + 1) _ _).run _ _ = _
      unfold Instr.checkKey
      simp [run_underlying Try.underlying3]
    show (Instr.checkKey em (9999 + 1) _ _).run _ _ = _
    unfold Instr.checkKey
    simp [Yu, run_underlying Try.underlying105]
    rw [Vz Try.underlying3 rfl (v := .int .i64 i) rfl]
    simp only [Result.andThen_ok, c]
    rw [Vz Try.underlying3 rfl (v := .int .i64 a) rfl]
    simp only [Result.andThen_ok, c])
  (fun w {v} ⟨i, a, e⟩ => by
    subst e
    simp [Instr.keyThatStays, Instr.sameBits, Yu])
  (fun w {x y} ⟨i, a, e⟩ ⟨i', a', e'⟩ => by
    subst e e'
    refine ⟨_, cspot_eq i a i' a' w, ?_⟩
    rw [Bool.and_eq_true, decide_eq_true_eq, decide_eq_true_eq]
    exact ⟨fun ⟨h1, h2⟩ => by rw [h1, h2], fun h => by obtain ⟨h1, h2⟩ := Zx h; exact ⟨h1.symm, h2.symm⟩⟩)
end Go.Proofs.Ytmakkmcjocjgmaa.Am


/- What counts tell of a place. -/
namespace Go.Proofs.Ytmakkmcjocjgmaa.Am
open Go Go.RowKit
set_option maxRecDepth 100000
set_option linter.unusedVariables false
set_option linter.unusedSimpArgs false

structure IntsM (es : List (Value × Value)) : Prop where
  keys : ∀ e ∈ es, IsSpot e.1
  vals : ∀ k v, Yl es k = some v → ∃ n : Int, v = .int .u64 n ∧ 0 ≤ n
noncomputable def cntAt (es : List (Value × Value)) (i a : Int) : Int := match Yl es (Yu i a) with
  | some (.int _ n) => n
  | _ => 0
theorem IntsM.get {es : List (Value × Value)} (h : IntsM es) (i a : Int) : (Yl es (Yu i a)).getD (.int .u64 0) = .int .u64 (cntAt es i a) ∧ 0 ≤ cntAt es i a := by
  unfold cntAt
  cases hg : Yl es (Yu i a) with
  | none => exact ⟨rfl, Int.le_refl _⟩
  | some v =>
    obtain ⟨n, rfl, hn⟩ := h.vals _ _ hg
    exact ⟨rfl, hn⟩
theorem IntsM.nil : IntsM [] := ⟨fun e h => (by cases h), fun k v h => (by cases h)⟩
theorem IntsM.put {es : List (Value × Value)} (h : IntsM es) (i a n : Int) (hn : 0 ≤ n) : IntsM (Zy es (Yu i a) (.int .u64 n)) :=
  ⟨mapPut_keys h.keys ⟨_, _, rfl⟩, fun k v hv => by
    by_cases he : k = Yu i a
    · subst he
      rw [Vd] at hv
      injection hv with hv
      exact ⟨n, hv.symm, hn⟩
    · rw [Zi he] at hv
      exact h.vals k v hv⟩
theorem sum_cnt {T : TreeT} (hT : GoodT T) {tb cb mb ms : Nat} {es : List (Value × Value)} {H : Hp} (hc : H.get cb = .own 0 [.pointer (some ⟨tb, 0, none⟩), .map (some mb), .map (some ms)]) (ht : TreeR H (.pointer (some ⟨tb, 0, none⟩)) T) (hm : H.get ms = .map es) (he : IntsM es) (i : Nat) (hi : i < T.vars.length) (a : Int) :
    ACalls Try.prog 55 #[.pointer (some ⟨cb, 0, none⟩), .int .i64 i, .int .i64 a] H (fun r H' => r = .int .u64 (cntAt es i (if T.parent.getD i 0 = -1 then -1 else a)) ∧ H' = H) := by
  refine Xr Try.func55 rfl rfl rfl (by simp) ?_
  refine Xd ?_
  refine Xb (by kernel_rfl) ?_
  refine Xa (Xf rfl) ?_
  refine Xd ?_
  refine Xd ?_
  refine Xb (by kernel_rfl) ?_
  refine Xa (Xq rfl) ?_
  refine Xa (X4 rfl) ?_
  refine Xa (Xg (off := 0) rfl Try.underlying82 rfl inf53.size (by decide) rfl) ?_
  refine Xa (Xi rfl Try.underlying53 rfl Xs) ?_
  refine Xa (Xc rfl) ?_
  refine X0 (Xy (Parent_tree ht hT.l1 (i : Int)) rfl Try.func53 rfl rfl rfl ?_)
  rintro v6 H ⟨rfl, rfl⟩; rw [if_pos ⟨by omega, by omega⟩, Int.toNat_natCast]
  refine Xa (Vr rfl rfl) ?_
  refine X6 rfl rfl ?_ ?_
  intro hc1
  have hroot : T.parent.getD i 0 = -1 := of_decide_eq_true hc1
  have hget := (he.get i (-1)).1
  refine Xb (by kernel_rfl) ?_
  refine Xa (Xf rfl) ?_
  refine Xd ?_
  refine Xb (by kernel_rfl) ?_
  refine Xa (Xq rfl) ?_
  refine Xa (X4 rfl) ?_
  refine Xa (Xg (off := 2) rfl Try.underlying82 rfl inf80.size (by decide) rfl) ?_
  refine Xa (Xi rfl Try.underlying80 rfl Xs) ?_
  refine Xa (Xc rfl) ?_
  refine Xa (Xc rfl) ?_
  refine Xa (Y0 (pl := [(0, 1), (1, 1)]) (r := [.int .i64 _, .int .i64 _]) Try.underlying105 inf105.zero (by decide) rfl rfl) ?_
  refine Xa (av_lookup_is hget Try.underlying80 V9 inf22.zero (fun φ => .int _ _) rfl rfl ⟨_, _, rfl⟩ (.inl hm) he.keys) ?_
  refine Xa (Xf rfl) ?_
  refine X8 ?_
  first
    | exact ⟨.int .u64 (cntAt es i (-1)), X1 (Xv rfl), by rw [if_pos hroot], rfl⟩
    | exact ⟨.int .u64 (cntAt es i a), X1 (Xv rfl), by rw [if_neg hroot], rfl⟩
  intro hc1
  have hroot : T.parent.getD i 0 ≠ -1 := of_decide_eq_false hc1
  have hget := (he.get i a).1
  refine X9 ?_
  refine Xd ?_
  refine Xb (by kernel_rfl) ?_
  refine Xa (Xq rfl) ?_
  refine Xa (X4 rfl) ?_
  refine Xa (Xg (off := 2) rfl Try.underlying82 rfl inf80.size (by decide) rfl) ?_
  refine Xa (Xi rfl Try.underlying80 rfl Xs) ?_
  refine Xa (Xc rfl) ?_
  refine Xa (Xc rfl) ?_
  refine Xa (Y0 (pl := [(0, 1), (1, 1)]) (r := [.int .i64 _, .int .i64 _]) Try.underlying105 inf105.zero (by decide) rfl rfl) ?_
  refine Xa (av_lookup_is hget Try.underlying80 V9 inf22.zero (fun φ => .int _ _) rfl rfl ⟨_, _, rfl⟩ (.inl hm) he.keys) ?_
  refine Xa (Xf rfl) ?_
  refine X8 ?_
  first
    | exact ⟨.int .u64 (cntAt es i (-1)), X1 (Xv rfl), by rw [if_pos hroot], rfl⟩
    | exact ⟨.int .u64 (cntAt es i a), X1 (Xv rfl), by rw [if_neg hroot], rfl⟩
theorem mem_once : ∀ (xs out : List Int) (x : Int), x ∈ onceT out xs ↔ x ∈ out ∨ x ∈ xs
  | [], out, x => ⟨.inl, fun h => h.resolve_right (List.not_mem_nil)⟩
  | y :: xs, out, x => by
    show x ∈ onceT (if y ∈ out then out else out ++ [y]) xs ↔ _
    rw [mem_once xs, List.mem_cons]
    by_cases hy : y ∈ out
    · rw [if_pos hy]
      exact ⟨fun h => h.elim .inl fun h => .inr (.inr h), fun h => h.elim .inl fun h => h.elim (fun e => .inl (e ▸ hy)) .inr⟩
    · rw [if_neg hy, List.mem_append, List.mem_singleton, or_assoc]
theorem above_child {T : TreeT} (d : Nat) {i k : Nat} (hk : T.parent.getD k 0 = (i : Int)) (b : Int) : b ∈ Zp T (d + 1) k ↔ ∃ a ∈ Zp T d i, ∃ x ∈ T.group i a, x.b = b := by
  rw [Zp, if_neg (by rw [hk]; omega), hk, Int.toNat_natCast, mem_once]
  simp only [List.not_mem_nil, false_or, List.mem_flatMap, List.mem_map]
end Go.Proofs.Ytmakkmcjocjgmaa.Am


/- How few may be above a place. -/
namespace Go.Proofs.Ytmakkmcjocjgmaa.Am
open Go Go.RowKit
set_option maxRecDepth 100000
set_option linter.unusedVariables false
set_option linter.unusedSimpArgs false

theorem nodup_sub {α : Type} : ∀ {l m : List α}, l.Nodup → (∀ x ∈ l, x ∈ m) → l.length ≤ m.length
  | [], _, _, _ => Nat.zero_le _
  | x :: l, m, hn, hs => by
    obtain ⟨p, s, rfl⟩ := List.append_of_mem (hs x (by simp))
    obtain ⟨h1, h2⟩ := List.nodup_cons.1 hn
    have h := nodup_sub (l := l) (m := p ++ s) h2 (fun y hy => by
      have h3 := hs y (by simp [hy])
      rw [List.mem_append, List.mem_cons] at h3
      rw [List.mem_append]
      rcases h3 with h3 | rfl | h3
      · exact .inl h3
      · exact absurd hy h1
      · exact .inr h3)
    simp only [List.length_append, List.length_cons] at h ⊢
    omega
theorem once_nodup : ∀ (xs out : List Int), out.Nodup → (onceT out xs).Nodup
  | [], _, h => h
  | x :: xs, out, h => by
    show (onceT (if x ∈ out then out else out ++ [x]) xs).Nodup
    refine once_nodup xs _ ?_
    split
    · exact h
    · rename_i hx
      rw [List.nodup_append]
      exact ⟨h, by simp, fun a ha b hb => by rw [List.mem_singleton] at hb; subst hb; intro e; exact hx (e ▸ ha)⟩
theorem flatMap_few {α β : Type} {f : α → List β} {m : Nat} : ∀ {xs : List α}, (∀ x ∈ xs, (f x).length ≤ m) → (xs.flatMap f).length ≤ xs.length * m
  | [], _ => by simp
  | x :: xs, h => by
    have h1 := flatMap_few (xs := xs) fun y hy => h y (by simp [hy])
    have h2 := h x (by simp)
    rw [List.flatMap_cons, List.length_append, List.length_cons, Nat.succ_mul]
    omega
theorem group_sub {T : TreeT} {i a : Int} {x : Link} (hx : x ∈ T.group i a) : x ∈ T.links.getD i.toNat [] := by
  unfold TreeT.group at hx
  split at hx
  · unfold TreeT.row at hx
    split at hx
    · exact hx
    · exact (List.mem_filter.1 hx).1
  · cases hx
theorem group_few {T : TreeT} (hl : ∀ l ∈ T.links, l.length ≤ 1000) (i a : Int) : (T.group i a).length ≤ 1000 := by
  have hg : (T.links.getD i.toNat []).length ≤ 1000 := by
    by_cases h : i.toNat < T.links.length
    · rw [Y6 h]; exact hl _ (List.getElem_mem h)
    · rw [List.getD_eq_getElem?_getD, List.getElem?_eq_none (by omega)]; simp
  unfold TreeT.group
  split
  · unfold TreeT.row
    split
    · exact hg
    · exact Nat.le_trans (List.length_filter_le _ _) hg
  · simp
theorem above_few {T : TreeT} (hl : ∀ l ∈ T.links, l.length ≤ 1000) : ∀ d i, (Zp T d i).length ≤ 1000
  | 0, _ => by simp [Zp]
  | d + 1, i => by
    rw [Zp]
    split
    · simp
    · have hg : (T.links.getD (T.parent.getD i 0).toNat []).length ≤ 1000 := by
        by_cases h : (T.parent.getD i 0).toNat < T.links.length
        · rw [Y6 h]; exact hl _ (List.getElem_mem h)
        · rw [List.getD_eq_getElem?_getD, List.getElem?_eq_none (by omega)]; simp
      refine Nat.le_trans (nodup_sub (m := (T.links.getD (T.parent.getD i 0).toNat []).map (·.b)) (once_nodup _ _ List.nodup_nil) fun x hx => ?_) (by rw [List.length_map]; exact hg)
      rw [mem_once] at hx
      rcases hx with hx | hx
      · cases hx
      · obtain ⟨a, _, h1⟩ := List.mem_flatMap.1 hx
        obtain ⟨y, h2, h3⟩ := List.mem_map.1 h1
        exact List.mem_map.2 ⟨y, group_sub h2, h3⟩
theorem fewA_of {T : TreeT} (hl : ∀ l ∈ T.links, l.length ≤ 1000) : FewA T := fun d i => by
  have h1 := above_few hl d (T.parent.getD i 0).toNat
  refine ⟨Nat.le_trans (flatMap_few (m := 1000) fun a _ => by rw [List.length_map]; exact group_few hl _ _) (by omega), by have := above_few hl d i; omega⟩
theorem above_deep {T : TreeT} (hT : GoodT T) : ∀ (d i : Nat), i < d → i < T.vars.length → Zp T d i = Zp T (d + 1) i
  | 0, _, h, _ => by omega
  | d + 1, i, h, hi => by
    rw [Zp, Zp]
    rcases hT.par i hi with hp | hp
    · rw [if_pos hp, if_pos hp]
    · rw [if_neg (by omega), if_neg (by omega), above_deep hT d _ (by omega) (by omega)]
end Go.Proofs.Ytmakkmcjocjgmaa.Am


/- A place is counted. -/
namespace Go.Proofs.Ytmakkmcjocjgmaa.Am
open Go Go.RowKit
set_option maxRecDepth 100000
set_option linter.unusedVariables false
set_option linter.unusedSimpArgs false

structure FillS (T : TreeT) (K : Hp) (tb cb mb ms i : Nat) (es10 es20 : List (Value × Value)) (H : Hp) (es1 es2 : List (Value × Value)) : Prop where
  le : K.le H
  hc : H.get cb = .own 0 [.pointer (some ⟨tb, 0, none⟩), .map (some mb), .map (some ms)]
  lc : cb < H.size
  hb : H.get mb = .map es1
  lb : mb < H.size
  hs : H.get ms = .map es2
  ls : ms < H.size
  i1 : IntsM es1
  i2 : IntsM es2
  o1 : ∀ (k : Int) b, k ≠ i → Yl es1 (Yu k b) = Yl es10 (Yu k b)
  o2 : ∀ (k : Int) b, k ≠ i → Yl es2 (Yu k b) = Yl es20 (Yu k b)
  v1 : ∀ b, Yl es1 (Yu i b) = none ∨ (Yl es1 (Yu i b) = some (.int .u64 (Vu T T.vars.length i b)) ∧ ∃ a, ∃ x ∈ T.group i a, x.b = b)
  v2 : ∀ a, Yl es2 (Yu i a) = none ∨ Yl es2 (Yu i a) = some (.int .u64 (Vx T T.vars.length i a))
theorem FillS.later {T : TreeT} {K : Hp} {tb cb mb ms i : Nat} {es10 es20 es1 es2 : List (Value × Value)} {H H' : Hp} (h : FillS T K tb cb mb ms i es10 es20 H es1 es2) (hle : H.le H') : FillS T K tb cb mb ms i es10 es20 H' es1 es2 :=
  ⟨Hp.le_trans h.le hle, Xz hle h.lc (by intro e; cases e) h.hc, Nat.lt_of_lt_of_le h.lc hle.1, Xz hle h.lb (by intro e; cases e) h.hb, Nat.lt_of_lt_of_le h.lb hle.1, Xz hle h.ls (by intro e; cases e) h.hs, Nat.lt_of_lt_of_le h.ls hle.1, h.i1, h.i2, h.o1, h.o2, h.v1, h.v2⟩
theorem bel_deep {T : TreeT} (hT : GoodT T) {d i : Nat} (h : T.vars.length ≤ d + i + 1) (b : Int) : Vu T d i b = Vu T (d + 1) i b :=
  foldl_same fun n k hk => by
    obtain ⟨h3, h4⟩ := kids_lt hT hk
    rw [sumT_deep hT d k b h4 (by omega)]
theorem sum_is {T : TreeT} (hT : GoodT T) {i : Nat} (hi : i < T.vars.length) (a : Int) : Vx T T.vars.length i a = (T.group i a).foldl (fun s x => addI s (Yh x.n (Vu T T.vars.length i x.b))) 0 := by
  obtain ⟨n, hn⟩ : ∃ n, T.vars.length = n + 1 := ⟨T.vars.length - 1, by omega⟩
  rw [hn, sumT_succ]
  exact foldl_same fun s x _ => by rw [bel_deep hT (by omega)]
theorem FillS.put1 {T : TreeT} {K : Hp} {tb cb mb ms i : Nat} {es10 es20 es1 es2 : List (Value × Value)} {H : Hp} (h : FillS T K tb cb mb ms i es10 es20 H es1 es2) (zb : K.size ≤ mb) (hne : mb ≠ ms) (b : Int) (hn : 0 ≤ Vu T T.vars.length i b) (hx : ∃ a, ∃ x ∈ T.group i a, x.b = b) : FillS T K tb cb mb ms i es10 es20 (H.put mb (.map (Zy es1 (Yu i b) (.int .u64 (Vu T T.vars.length i b))))) (Zy es1 (Yu i b) (.int .u64 (Vu T T.vars.length i b))) es2 := by
  have hcm : cb ≠ mb := fun e => by have := h.hc; rw [e, h.hb] at this; cases this
  refine ⟨Hp.le_put_new h.le zb _, by rw [Hp.put_other _ _ hcm]; exact h.hc, by simpa using h.lc, Hp.put_same _ _ _, by simpa using h.lb, by rw [Hp.put_other _ _ (Ne.symm hne)]; exact h.hs, by simpa using h.ls, h.i1.put _ _ _ hn, h.i2, fun k c hk => ?_, h.o2, fun c => ?_, h.v2⟩
  · rw [Zi (fun e => hk (Zx e).1)]; exact h.o1 k c hk
  · by_cases hc : c = b
    · subst hc; exact .inr ⟨Vd, hx⟩
    · rw [Zi (fun e => hc (Zx e).2)]; exact h.v1 c
theorem FillS.put2 {T : TreeT} {K : Hp} {tb cb mb ms i : Nat} {es10 es20 es1 es2 : List (Value × Value)} {H : Hp} (h : FillS T K tb cb mb ms i es10 es20 H es1 es2) (zs : K.size ≤ ms) (hne : mb ≠ ms) (a n : Int) (hn : 0 ≤ n) (hv : n = Vx T T.vars.length i a) : FillS T K tb cb mb ms i es10 es20 (H.put ms (.map (Zy es2 (Yu i a) (.int .u64 n)))) es1 (Zy es2 (Yu i a) (.int .u64 n)) := by
  have hcm : cb ≠ ms := fun e => by have := h.hc; rw [e, h.hs] at this; cases this
  refine ⟨Hp.le_put_new h.le zs _, by rw [Hp.put_other _ _ hcm]; exact h.hc, by simpa using h.lc, by rw [Hp.put_other _ _ hne]; exact h.hb, by simpa using h.lb, Hp.put_same _ _ _, by simpa using h.ls, h.i1, h.i2.put _ _ _ hn, h.o1, fun k c hk => ?_, h.v1, fun c => ?_⟩
  · rw [Zi (fun e => hk (Zx e).1)]; exact h.o2 k c hk
  · by_cases hc : c = a
    · subst hc hv; exact .inr Vd
    · rw [Zi (fun e => hc (Zx e).2)]; exact h.v2 c
theorem fold_times {α : Type} {f : α → Int} : ∀ {ks : List α} {n : Int}, 0 ≤ n → (∀ k ∈ ks, 0 ≤ f k) → 0 ≤ ks.foldl (fun n k => Yh n (f k)) n
  | [], _, h, _ => h
  | k :: ks, n, h, hf => fold_times (ks := ks) (n := Yh n (f k)) (Vi h (hf k (by simp))).1 (fun k hk => hf k (by simp [hk]))
theorem fold_add {α : Type} {f : α → Int} : ∀ {ks : List α} {n : Int}, 0 ≤ n → (∀ k ∈ ks, 0 ≤ f k) → 0 ≤ ks.foldl (fun n k => addI n (f k)) n
  | [], _, h, _ => h
  | k :: ks, n, h, hf => fold_add (ks := ks) (n := addI n (f k)) (addI_nonneg h (hf k (by simp))) (fun k hk => hf k (by simp [hk]))
theorem Vs {T : TreeT} (hT : GoodT T) : ∀ (d i : Nat) (a : Int), 0 ≤ Vx T d i a
  | 0, _, _ => Int.le_refl _
  | d + 1, i, a => by
    rw [sumT_succ]
    exact fold_add (Int.le_refl 0) fun x hx => (Vi (hT.group_mem hx).2.2 (fold_times (by decide) fun k _ => Vs hT d k x.b)).1
theorem belT_nonneg {T : TreeT} (hT : GoodT T) (d i : Nat) (b : Int) : 0 ≤ Vu T d i b := fold_times (by decide) fun k _ => Vs hT d k b
end Go.Proofs.Ytmakkmcjocjgmaa.Am


/- How many rows go on from any first nodes, plain. -/
namespace Go.Proofs.Ytmakkmcjocjgmaa.Am
open Go Go.RowKit
set_option maxRecDepth 100000
set_option linter.unusedVariables false
set_option linter.unusedSimpArgs false

def Y7 (n : Nat) : Int := min (n : Int) Yz
theorem most_pos : (0 : Int) < Yz := by decide
theorem timesI_cap (a b : Nat) : Yh (Y7 a) (Y7 b) = Y7 (a * b) := by
  have hM := most_pos
  unfold Yh Y7
  rw [show min (min (a : Int) Yz) Yz = min (a : Int) Yz by omega, show min (min (b : Int) Yz) Yz = min (b : Int) Yz by omega, Int.natCast_mul]
  rcases Nat.eq_zero_or_pos a with rfl | ha
  · rw [show min ((0 : Nat) : Int) Yz = 0 by omega]; simp
  rcases Nat.eq_zero_or_pos b with rfl | hb
  · rw [show min ((0 : Nat) : Int) Yz = 0 by omega]; simp
  by_cases h1 : (a : Int) ≤ Yz <;> by_cases h2 : (b : Int) ≤ Yz
  · rw [Int.min_eq_left h1, Int.min_eq_left h2]
  · rw [Int.min_eq_left h1, Int.min_eq_right (by omega : Yz ≤ (b : Int))]
    have h3 : 1 * Yz ≤ (a : Int) * Yz := Int.mul_le_mul_of_nonneg_right (by omega) (Int.le_of_lt hM)
    have h4 : (a : Int) * Yz ≤ (a : Int) * b := Int.mul_le_mul_of_nonneg_left (by omega) (by omega)
    rw [Int.min_eq_right (by omega), Int.min_eq_right (by omega)]
  · rw [Int.min_eq_right (by omega : Yz ≤ (a : Int)), Int.min_eq_left h2]
    have h3 : Yz * 1 ≤ Yz * (b : Int) := Int.mul_le_mul_of_nonneg_left (by omega) (Int.le_of_lt hM)
    have h4 : Yz * (b : Int) ≤ (a : Int) * b := Int.mul_le_mul_of_nonneg_right (by omega) (by omega)
    rw [Int.min_eq_right (by omega), Int.min_eq_right (by omega)]
  · rw [Int.min_eq_right (by omega : Yz ≤ (a : Int)), Int.min_eq_right (by omega : Yz ≤ (b : Int))]
    have h3 : Yz * 1 ≤ Yz * Yz := Int.mul_le_mul_of_nonneg_left (by omega) (Int.le_of_lt hM)
    have h4 : Yz * Yz ≤ Yz * (b : Int) := Int.mul_le_mul_of_nonneg_left (by omega) (Int.le_of_lt hM)
    have h5 : Yz * (b : Int) ≤ (a : Int) * b := Int.mul_le_mul_of_nonneg_right (by omega) (by omega)
    rw [Int.min_eq_right (by omega), Int.min_eq_right (by omega)]
theorem timesI_nat (a : Nat) (y : Int) : Yh (a : Int) y = Yh (Y7 a) y := by
  unfold Yh Y7
  rw [show min (min (a : Int) Yz) Yz = min (a : Int) Yz by omega]
theorem addI_cap (a b : Nat) : addI (Y7 a) (Y7 b) = Y7 (a + b) := by
  have hM := most_pos
  unfold addI Y7
  omega
theorem cap_one : (1 : Int) = Y7 1 := by decide
theorem cap_nil : (0 : Int) = Y7 0 := by decide
def Zq : List Nat → Nat
  | [] => 1
  | x :: xs => x * Zq xs
theorem fold_times_cap {F : Nat → Int} {f : Nat → Nat} : ∀ {ks : List Nat} {n : Nat}, (∀ k ∈ ks, F k = Y7 (f k)) → ks.foldl (fun n k => Yh n (F k)) (Y7 n) = Y7 (n * Zq (ks.map f))
  | [], n, _ => by simp [Zq]
  | k :: ks, n, h => by
    rw [List.foldl_cons, h k (by simp), timesI_cap, fold_times_cap (fun j hj => h j (by simp [hj])), List.map_cons, Zq, Nat.mul_assoc]
theorem fold_add_cap {F : Link → Int} {f : Link → Nat} : ∀ {xs : List Link} {n : Nat}, (∀ x ∈ xs, 0 ≤ x.n ∧ F x = Y7 (f x)) → xs.foldl (fun s x => addI s (Yh x.n (F x))) (Y7 n) = Y7 (n + (xs.map fun x => x.n.toNat * f x).sum)
  | [], n, _ => by simp
  | x :: xs, n, h => by
    obtain ⟨h1, h2⟩ := h x (by simp)
    have h3 : Yh x.n (F x) = Y7 (x.n.toNat * f x) := by
      rw [h2]
      conv => lhs; rw [show x.n = ((x.n.toNat : Nat) : Int) by omega]
      rw [timesI_nat, timesI_cap]
    rw [List.foldl_cons, h3, addI_cap, fold_add_cap (fun y hy => h y (by simp [hy])), List.map_cons, List.sum_cons, Nat.add_assoc]
def sumW (T : TreeT) : Nat → Nat → Int → Nat
  | 0, _, _ => 0
  | d + 1, i, a => ((T.group i a).map fun x => x.n.toNat * Zq ((kidsT T i).map fun k => sumW T d k x.b)).sum
theorem sumT_cap {T : TreeT} (hT : GoodT T) : ∀ (d i : Nat) (a : Int), Vx T d i a = Y7 (sumW T d i a)
  | 0, _, _ => cap_nil
  | d + 1, i, a => by
    rw [sumT_succ, sumW, cap_nil, fold_add_cap (f := fun x => Zq ((kidsT T i).map fun k => sumW T d k x.b)), Nat.zero_add]
    intro x hx
    refine ⟨(hT.group_mem hx).2.2, ?_⟩
    unfold Vu
    rw [cap_one, fold_times_cap (f := fun k => sumW T d k x.b) (fun k _ => sumT_cap hT d k x.b), Nat.one_mul]
theorem Ui {α : Type} {f g : α → Nat} : ∀ {xs : List α}, (∀ x ∈ xs, f x = g x) → (xs.map f).sum = (xs.map g).sum
  | [], _ => rfl
  | x :: xs, h => by rw [List.map_cons, List.map_cons, List.sum_cons, List.sum_cons, h x (by simp), Ui fun y hy => h y (by simp [hy])]
theorem V0 {α : Type} {f g : α → Nat} : ∀ {xs : List α}, (∀ x ∈ xs, f x = g x) → Zq (xs.map f) = Zq (xs.map g)
  | [], _ => rfl
  | x :: xs, h => by rw [List.map_cons, List.map_cons, Zq, Zq, h x (by simp), V0 fun y hy => h y (by simp [hy])]
theorem sumW_deep {T : TreeT} (hT : GoodT T) : ∀ (d i : Nat) (a : Int), i < T.vars.length → T.vars.length ≤ d + i → sumW T d i a = sumW T (d + 1) i a
  | 0, i, a, h, h2 => by omega
  | d + 1, i, a, h, h2 => by
    rw [sumW, sumW]
    refine Ui fun x _ => ?_
    congr 1
    refine V0 fun k hk => ?_
    obtain ⟨h3, h4⟩ := kids_lt hT hk
    exact sumW_deep hT d k x.b h4 (by omega)
def wT (T : TreeT) (i : Nat) (a : Int) : Nat := sumW T T.vars.length i a
def wB (T : TreeT) (i : Nat) (b : Int) : Nat := Zq ((kidsT T i).map fun k => wT T k b)
theorem wT_is {T : TreeT} (hT : GoodT T) {i : Nat} (hi : i < T.vars.length) (a : Int) : wT T i a = ((T.group i a).map fun x => x.n.toNat * wB T i x.b).sum := by
  obtain ⟨n, hn⟩ : ∃ n, T.vars.length = n + 1 := ⟨T.vars.length - 1, by omega⟩
  unfold wT wB
  rw [hn, sumW]
  refine Ui fun x _ => ?_
  congr 1
  refine V0 fun k hk => ?_
  obtain ⟨h3, h4⟩ := kids_lt hT hk
  show _ = wT T k x.b
  unfold wT
  rw [hn]
  exact sumW_deep hT n k x.b h4 (by omega)
theorem prod_mul {α : Type} {f g : α → Nat} : ∀ {xs : List α}, Zq (xs.map fun x => f x * g x) = Zq (xs.map f) * Zq (xs.map g)
  | [] => rfl
  | x :: xs => by
    rw [List.map_cons, List.map_cons, List.map_cons, Zq, Zq, Zq, prod_mul]
    rw [Nat.mul_assoc, Nat.mul_assoc, Nat.mul_left_comm (g x)]
theorem prod_ones {α : Type} {f : α → Nat} : ∀ {xs : List α}, (∀ x ∈ xs, f x = 1) → Zq (xs.map f) = 1
  | [], _ => rfl
  | x :: xs, h => by rw [List.map_cons, Zq, h x (by simp), prod_ones fun y hy => h y (by simp [hy])]
theorem prod_append : ∀ (xs ys : List Nat), Zq (xs ++ ys) = Zq xs * Zq ys
  | [], ys => by rw [List.nil_append, Zq, Nat.one_mul]
  | x :: xs, ys => by rw [List.cons_append, Zq, Zq, prod_append xs ys, Nat.mul_assoc]
theorem prod_at {n j c : Nat} (hj : j < n) : Zq ((List.range n).map fun i => if i = j then c else 1) = c := by
  induction n with
  | zero => omega
  | succ n ih =>
    rw [List.range_succ, List.map_append, prod_append]
    rcases Nat.lt_or_ge j n with h | h
    · rw [ih h]
      have : ¬ n = j := by omega
      simp [Zq, this]
    · obtain rfl : n = j := by omega
      rw [prod_ones (f := fun i => if i = n then c else 1) fun i hi => by rw [List.mem_range] at hi; exact if_neg (by omega)]
      simp [Zq]
theorem prod_filter {α : Type} {f : α → Nat} {q : α → Bool} : ∀ {xs : List α}, Zq (xs.map fun x => if q x = true then f x else 1) = Zq ((xs.filter q).map f)
  | [] => rfl
  | x :: xs => by
    rw [List.map_cons, Zq, prod_filter, List.filter_cons]
    split
    · rw [List.map_cons, Zq]
    · rw [Nat.one_mul]
def openW (T : TreeT) (ns : List Int) (i : Nat) : Nat := if ns.length ≤ i ∧ T.parent.getD i 0 < ns.length then wT T i (Yc T ns i) else 1
def cntW (T : TreeT) (ns : List Int) : Nat := Zq ((List.range T.vars.length).map (openW T ns))
def restW (T : TreeT) (ns : List Int) (i : Nat) : Nat := if ns.length < i ∧ T.parent.getD i 0 < ns.length then wT T i (Yc T ns i) else 1
theorem sum_mul {α : Type} {f : α → Nat} (c : Nat) : ∀ {xs : List α}, c * (xs.map f).sum = (xs.map fun x => c * f x).sum
  | [] => rfl
  | x :: xs => by rw [List.map_cons, List.map_cons, List.sum_cons, List.sum_cons, Nat.mul_add, sum_mul c]
theorem cnt_child {T : TreeT} (hT : GoodT T) {ns : List Int} (hl : ns.length < T.vars.length) (b : Int) : cntW T (ns ++ [b]) = Zq ((List.range T.vars.length).map (restW T ns)) * wB T ns.length b := by
  have h1 : wB T ns.length b = Zq ((List.range T.vars.length).map fun i => if decide (T.parent.getD i 0 = (ns.length : Int)) = true then wT T i b else 1) := by
    unfold wB kidsT
    rw [prod_filter, hT.l1]
  rw [h1, ← prod_mul]
  refine V0 fun i hi => ?_
  rw [List.mem_range] at hi
  have hp := hT.par i hi
  unfold openW restW
  rw [List.length_append, List.length_singleton]
  simp only [decide_eq_true_eq]
  by_cases h : T.parent.getD i 0 = (ns.length : Int)
  · have h2 : Yc T (ns ++ [b]) i = b := by
      unfold Yc
      rw [if_neg (by omega), h, Int.toNat_natCast, List.getD_eq_getElem?_getD]
      simp
    rw [if_pos h, if_pos ⟨by omega, by omega⟩, if_neg (by omega), h2, Nat.one_mul]
  · rw [if_neg h, Nat.mul_one]
    by_cases h3 : ns.length < i ∧ T.parent.getD i 0 < ns.length
    · rw [if_pos h3, if_pos ⟨by omega, by omega⟩]
      congr 1
      unfold Yc
      split
      · rfl
      · rw [getD_left (by omega)]
    · rw [if_neg h3, if_neg (by omega)]
theorem cnt_step {T : TreeT} (hT : GoodT T) {ns : List Int} (hl : ns.length < T.vars.length) : cntW T ns = ((T.group ns.length (Yc T ns ns.length)).map fun x => x.n.toNat * cntW T (ns ++ [x.b])).sum := by
  have h1 : cntW T ns = Zq ((List.range T.vars.length).map (restW T ns)) * wT T ns.length (Yc T ns ns.length) := by
    rw [← prod_at (c := wT T ns.length (Yc T ns ns.length)) hl, ← prod_mul]
    refine V0 fun i hi => ?_
    rw [List.mem_range] at hi
    have hp := hT.par i hi
    unfold openW restW
    by_cases h : i = ns.length
    · subst h
      rw [if_pos ⟨Nat.le_refl _, by omega⟩, if_neg (by omega), if_pos rfl, Nat.one_mul]
    · rw [if_neg h, Nat.mul_one]
      by_cases h3 : ns.length < i ∧ T.parent.getD i 0 < ns.length
      · rw [if_pos h3, if_pos ⟨by omega, h3.2⟩]
      · rw [if_neg h3, if_neg (by omega)]
  rw [h1, wT_is hT hl, sum_mul]
  refine Ui fun x _ => ?_
  rw [cnt_child hT hl, Nat.mul_left_comm]
theorem cnt_full {T : TreeT} {ns : List Int} (hl : ns.length = T.vars.length) : cntW T ns = 1 := prod_ones fun i hi => by
  rw [List.mem_range] at hi
  unfold openW
  rw [if_neg (by omega)]
theorem mem_ext {T : TreeT} : ∀ (d : Nat) (q r : List Int), r ∈ extN T d q → r.length = q.length + d ∧ r.take q.length = q
  | 0, q, r, h => by rw [extN, List.mem_singleton] at h; subst h; exact ⟨rfl, List.take_length⟩
  | d + 1, q, r, h => by
    rw [extN] at h
    obtain ⟨l, _, h1⟩ := List.mem_flatMap.1 h
    obtain ⟨h2, h3⟩ := mem_ext d _ r h1
    rw [List.length_append, List.length_singleton] at h2 h3
    refine ⟨by omega, ?_⟩
    have h4 := congrArg (List.take q.length) h3
    rw [List.take_take, Nat.min_eq_left (by omega), List.take_append_of_le_length (Nat.le_refl _), List.take_length] at h4
    exact h4
theorem ext_pathC {T : TreeT} (hT : GoodT T) : ∀ (d : Nat) (q r : List Int), q.length + d = T.vars.length → Path T q → r ∈ extN T d q → Path T r
  | 0, q, r, _, hp, h => by rw [extN, List.mem_singleton] at h; subst h; exact hp
  | d + 1, q, r, hl, hp, h => by
    rw [extN] at h
    obtain ⟨l, h0, h1⟩ := List.mem_flatMap.1 h
    exact ext_pathC hT d _ r (by simp; omega) (path_snoc hT hp (by omega) h0) h1
end Go.Proofs.Ytmakkmcjocjgmaa.Am


/- A walk goes to the next, or back. -/
namespace Go.Proofs.Ytmakkmcjocjgmaa.Am
open Go Go.RowKit
set_option maxRecDepth 100000
set_option linter.unusedVariables false
set_option linter.unusedSimpArgs false

end Go.Proofs.Ytmakkmcjocjgmaa.Am


/- A walk steps, tells the next row, the first one. -/
namespace Go.Proofs.Ytmakkmcjocjgmaa.Am
open Go Go.RowKit
set_option maxRecDepth 100000
set_option linter.unusedVariables false
set_option linter.unusedSimpArgs false

end Go.Proofs.Ytmakkmcjocjgmaa.Am


/- Walks as they are told to others; the first row; all rows. -/
namespace Go.Proofs.Ytmakkmcjocjgmaa.Am
open Go Go.RowKit
set_option maxRecDepth 100000
set_option linter.unusedVariables false
set_option linter.unusedSimpArgs false

def w0 : WalkS := ⟨[], false, false, 0⟩
def w1 : WalkS := ⟨[], false, true, 0⟩
def kRaw : Kd (Value × Int × Int) where
  sz := 3
  pos := by decide
  rep _ x cs := cs = [x.1, .int .i64 x.2.1, .int .u64 x.2.2] ∧ x.1.oneCell' = true
  len h := by rw [h.1]; rfl
  mono _ h := h
  one h v hv := by rw [h.1] at hv; simp at hv; rcases hv with rfl | rfl | rfl; exact h.2; rfl; rfl
structure Raws (G : Hp) (raws : List (Value × Int × Int)) (rows : List RowT) : Prop where
  len : raws.length = rows.length
  at_ : ∀ (i : Nat) (h : i < raws.length) (h' : i < rows.length), raws[i].2.1 = rows[i].cost ∧ raws[i].2.2 = rows[i].n ∧ Sl (Yy .i64) G raws[i].1 rows[i].nodes
theorem Raws.mono {G G' : Hp} (h : G.sees G') {raws : List (Value × Int × Int)} {rows : List RowT} (hr : Raws G raws rows) : Raws G' raws rows :=
  ⟨hr.len, fun i a b => ⟨(hr.at_ i a b).1, (hr.at_ i a b).2.1, (hr.at_ i a b).2.2.mono h⟩⟩
theorem Raws.snoc {G : Hp} {raws : List (Value × Int × Int)} {rows : List RowT} (hr : Raws G raws rows) {v : Value} {r : RowT} (hs : Sl (Yy .i64) G v r.nodes) : Raws G (raws ++ [(v, r.cost, r.n)]) (rows ++ [r]) := by
  have hl := hr.len
  refine ⟨by simp [hl], fun i a b => ?_⟩
  rw [List.length_append, List.length_singleton] at a b
  by_cases h : i < raws.length
  · have h' : i < rows.length := by omega
    rw [List.getElem_append_left h, List.getElem_append_left h']
    exact hr.at_ i h h'
  · obtain rfl : i = raws.length := by omega
    rw [List.getElem_append_right (Nat.le_refl _), List.getElem_append_right (by omega)]
    simp only [Nat.sub_self, List.getElem_cons_zero, hl]
    exact ⟨trivial, trivial, hs⟩
theorem Raws.sl {G H : Hp} {raws : List (Value × Int × Int)} {rows : List RowT} (hr : Raws G raws rows) (hle : G.sees H) {v : Value} (hs : Sl kRaw H v raws) : Sl kRow H v rows := by
  rcases hs with ⟨rfl, rfl⟩ | ⟨b, o, c, rfl, hb, hk, hx⟩
  · have := hr.len
    exact .inl ⟨rfl, List.eq_nil_of_length_eq_zero (by simpa using this.symm)⟩
  · refine .inr ⟨b, o, c, by rw [hr.len], hb, hk, fun i x hi => ?_⟩
    obtain ⟨hi', rfl⟩ := List.getElem?_eq_some_iff.1 hi
    have hi2 : i < raws.length := by rw [hr.len]; exact hi'
    obtain ⟨cs, h1, h2⟩ := hx i raws[i] (List.getElem?_eq_getElem hi2)
    obtain ⟨e1, e2, e3⟩ := hr.at_ i hi2 hi'
    refine ⟨cs, ⟨raws[i].1, ?_, e3.mono hle⟩, h2⟩
    rw [h1.1, e1, e2]
end Go.Proofs.Ytmakkmcjocjgmaa.Am
