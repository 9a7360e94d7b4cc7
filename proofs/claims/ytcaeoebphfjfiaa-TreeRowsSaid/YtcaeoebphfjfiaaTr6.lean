/- Texts that the proof rests on, part 6: lemmas for every heap that is related to a world, no condition beyond each lemma's own. -/
import Derived.Test.YtcaeoebphfjfiaaTr5
import Derived.Test.YtcaeoebphfjfiaaTr4
import Derived.Test.YtcaeoebphfjfiaaTrGrow

/- Just those nodes and links are left that are in some row, and the rows are what they were. -/
namespace Go.Proofs.Ytcaeoebphfjfiaa.Am
open Go Go.RowKit
set_option maxRecDepth 100000
set_option linter.unusedVariables false
set_option linter.unusedSimpArgs false

theorem findI_link {xs : List Link} {a b : Int} (h : 0 ≤ findI xs a b) : ∃ m : Nat, findI xs a b = m ∧ ∃ hm : m < xs.length, xs[m].a = a ∧ xs[m].b = b := by
  unfold findI at *
  cases hf : xs.findIdx? (isAt a b) with
  | none => rw [hf] at h; simp at h
  | some i =>
    obtain ⟨hi, h1, _⟩ := List.findIdx?_eq_some_iff_getElem.1 hf
    unfold isAt at h1
    rw [Bool.and_eq_true, decide_eq_true_eq, decide_eq_true_eq] at h1
    exact ⟨i, rfl, hi, h1⟩
theorem goodL_ne {xs : List Link} (h : GoodL xs) : xs.Pairwise fun x y => x.a ≠ y.a ∨ x.b ≠ y.b :=
  (goodL_iff.1 h).2.imp fun {x y} h => by
    simp only [lessL, Bool.or_eq_true, Bool.and_eq_true, decide_eq_true_eq] at h
    omega
theorem pairwise_uniq {α : Type} {R : α → α → Prop} (sy : ∀ x y, R x y → R y x) {xs : List α} (h : xs.Pairwise R) {x y : α} (hx : x ∈ xs) (hy : y ∈ xs) (hne : ¬ R x y) : x = y := by
  obtain ⟨i, hi, rfl⟩ := List.getElem_of_mem hx
  obtain ⟨j, hj, rfl⟩ := List.getElem_of_mem hy
  rw [List.pairwise_iff_getElem] at h
  rcases Nat.lt_trichotomy i j with h1 | h1 | h1
  · exact absurd (h i j hi hj h1) hne
  · subst h1; rfl
  · exact absurd (sy _ _ (h j i hj hi h1)) hne
theorem goodL_uniq {xs : List Link} (h : GoodL xs) {x y : Link} (hx : x ∈ xs) (hy : y ∈ xs) (ha : x.a = y.a) (hb : x.b = y.b) : x = y :=
  pairwise_uniq (R := fun x y => x.a ≠ y.a ∨ x.b ≠ y.b) (fun x y h => h.elim (fun h => .inl (Ne.symm h)) (fun h => .inr (Ne.symm h))) (goodL_ne h) hx hy (by rw [ha, hb]; simp)
theorem sublist_filter {α : Type} {xs ys : List α} {q : α → Bool} (h : xs.Sublist ys) : ys.Nodup → (∀ y ∈ ys, q y = true ↔ y ∈ xs) → xs = ys.filter q := by
  induction h with
  | slnil => intro _ _; rfl
  | @cons xs ys a hs ih =>
    intro hn hq
    obtain ⟨h1, h2⟩ := List.nodup_cons.1 hn
    have hqa : ¬ q a = true := fun h => h1 (hs.subset ((hq a (by simp)).1 h))
    rw [List.filter_cons_of_neg hqa]
    exact ih h2 fun y hy => hq y (by simp [hy])
  | @cons_cons xs ys a hs ih =>
    intro hn hq
    obtain ⟨h1, h2⟩ := List.nodup_cons.1 hn
    rw [List.filter_cons_of_pos ((hq a (by simp)).2 (by simp)), ← ih h2 fun y hy => ?_]
    rw [hq y (by simp [hy])]
    constructor
    · intro h
      rcases List.mem_cons.1 h with h | h
      · exact absurd (h ▸ hy) h1
      · exact h
    · intro h; simp [h]
theorem nd_uniq {f : Forest} {p : Parts} (h : GoodP f p) {v : Nat} (hv : v < f.vars.length) {x y : Link} (hx : x ∈ nd p v) (hy : y ∈ nd p v) (ha : x.a = y.a) : x = y :=
  goodL_uniq (h.ok v hv).1 hx hy ha (by rw [← h.nb v x hx, ← h.nb v y hy, ha])
theorem lk_uniq {f : Forest} {p : Parts} (h : GoodP f p) {v : Nat} (hv : v < f.vars.length) {x y : Link} (hx : x ∈ lk p v) (hy : y ∈ lk p v) (ha : x.a = y.a) (hb : x.b = y.b) : x = y := goodL_uniq (h.ok v hv).2.1 hx hy ha hb
theorem fit_of {f : Forest} {p : Parts} (h : GoodP f p) (hr : ¬ f.order.any (rootless f (ofP f p)) = true) : Fit f (ofP f p) := by
  obtain ⟨k1, k2, k3, k4⟩ := ofP_all h
  refine ⟨h.gf, k3, fun v hv hp he => hr (List.any_eq_true.2 ⟨v, h.gf.in_order hv, ?_⟩)⟩
  unfold rootless
  rw [Int.toNat_natCast, Bool.and_eq_true, decide_eq_true_eq, decide_eq_true_eq]
  exact ⟨hp, by rw [show (ofP f p).nodes.getD v [] = [] from he]; rfl⟩
theorem rows_mem {f : Forest} {p : Parts} (hg : GoodF f) {ns : List Int} (h : Sat f p f.vars.length ns) : ∃ r ∈ rowsP f p, r.nodes = ns := by
  unfold rowsP
  rw [hg.l1]
  exact sat_rows hg _ (Nat.le_refl _) ns h
theorem mem_rows {f : Forest} {p : Parts} (hg : GoodF f) {r : RowT} (h : r ∈ rowsP f p) : Sat f p f.vars.length r.nodes := by
  unfold rowsP at h
  rw [hg.l1] at h
  exact rows_sat hg _ (Nat.le_refl _) r h
theorem node_in {f : Forest} {p : Parts} (h : GoodP f p) {v : Nat} (hv : v < f.vars.length) {y : Link} (hy : y ∈ nd p v) : (∃ r ∈ rowsP f p, r.nodes.getD (posOf f v) 0 = y.a) ↔ y ∈ nd (ofP f p) v := by
  obtain ⟨k1, k2, k3, k4⟩ := ofP_all h
  obtain ⟨q1, q2⟩ := h.gf.vAt_pos hv
  constructor
  · intro ⟨r, hr, e⟩
    have h1 := ((sat_ofP h (mem_rows h.gf hr)).2 _ q1).1
    rw [q2, e] at h1
    obtain ⟨z, hz, e2⟩ := List.mem_map.1 h1
    rw [nd_uniq h hv hy ((k2 v).1.subset hz) e2.symm]
    exact hz
  · intro hx
    have hr : ¬ f.order.any (rootless f (ofP f p)) = true := fun hr => by
      rw [k4 hr, nd_empties] at hx; simp at hx
    have hF := fit_of h hr
    obtain ⟨pin, j1, j2, _⟩ := pin_node hF (posOf f v) q1 y.a (by rw [q2]; exact List.mem_map.2 ⟨y, hx, rfl⟩)
    obtain ⟨ns, j4, j5⟩ := pinned_row hF j1 _ (Nat.le_refl _)
    obtain ⟨r, hr1, hr2⟩ := rows_mem h.gf (j4.sub k2)
    exact ⟨r, hr1, by rw [hr2]; exact j5 _ _ q1 j2⟩
theorem link_in {f : Forest} {p : Parts} (h : GoodP f p) {v : Nat} (hv : v < f.vars.length) {l : Link} (hl : l ∈ lk p v) : (∃ r ∈ rowsP f p, r.nodes.getD (posOf f v) 0 = l.b ∧ r.nodes.getD (posOf f (par f v)) 0 = l.a) ↔ l ∈ lk (ofP f p) v := by
  obtain ⟨k1, k2, k3, k4⟩ := ofP_all h
  obtain ⟨q1, q2⟩ := h.gf.vAt_pos hv
  have hge : -1 ≤ par f v ∧ par f v < f.vars.length := h.gf.parent_ge hv
  have hpar : par f v ≠ -1 := fun e => by
    have h4 := (h.ok v hv).2.2.2 e
    unfold lk at hl
    rw [h4] at hl; simp at hl
  have hp0 : 0 ≤ par f v := by omega
  constructor
  · intro ⟨r, hr, e1, e2⟩
    have h1 := ((sat_ofP h (mem_rows h.gf hr)).2 _ q1).2
    rw [q2, e1, e2] at h1
    obtain ⟨z, hz, e3, e4⟩ := h1 hp0
    rw [lk_uniq h hv hl ((k2 v).2.subset hz) e3.symm e4.symm]
    exact hz
  · intro hx
    have hr : ¬ f.order.any (rootless f (ofP f p)) = true := fun hr => by
      rw [k4 hr, lk_empties] at hx; simp at hx
    have hF := fit_of h hr
    obtain ⟨pin, j1, j2, j3⟩ := pin_link hF q1 (by rw [q2]; exact hpar) (l := l) (by rw [q2]; exact hx)
    rw [q2] at j3
    obtain ⟨ns, j4, j5⟩ := pinned_row hF j1 _ (Nat.le_refl _)
    obtain ⟨r, hr1, hr2⟩ := rows_mem h.gf (j4.sub k2)
    have hq := (h.gf.pos_par q1 (by rw [q2]; exact hp0)).1
    rw [q2] at hq
    exact ⟨r, hr1, by rw [hr2]; exact j5 _ _ q1 j2, by rw [hr2]; exact j5 _ _ (by omega) j3⟩
theorem flatMap_sub {α β : Type} {g k : α → List β} {xs ys : List α} (h : xs.Sublist ys) : (∀ a ∈ xs, (g a).Sublist (k a)) → (xs.flatMap g).Sublist (ys.flatMap k) := by
  induction h with
  | slnil => intro _; simp
  | @cons xs ys a hs ih =>
    intro hg
    rw [List.flatMap_cons]
    exact (ih hg).trans (List.sublist_append_right _ _)
  | @cons_cons xs ys a hs ih =>
    intro hg
    rw [List.flatMap_cons, List.flatMap_cons]
    exact (hg a (by simp)).append (ih fun b hb => hg b (by simp [hb]))
theorem filterMap_sub {α β : Type} {g k : α → Option β} {xs ys : List α} (h : xs.Sublist ys) : (∀ a ∈ xs, ∀ b, g a = some b → k a = some b) → (xs.filterMap g).Sublist (ys.filterMap k) := by
  induction h with
  | slnil => intro _; simp
  | @cons xs ys a hs ih =>
    intro hg
    rw [List.filterMap_cons]
    split
    · exact ih hg
    · exact (ih hg).trans (List.sublist_cons_self _ _)
  | @cons_cons xs ys a hs ih =>
    intro hg
    have ih' := ih fun b hb => hg b (by simp [hb])
    rw [List.filterMap_cons]
    split
    · rw [List.filterMap_cons]
      split
      · exact ih'
      · exact ih'.trans (List.sublist_cons_self _ _)
    · rename_i b hb
      rw [List.filterMap_cons, hg a (by simp) b hb]
      exact ih'.cons_cons _
theorem rowOne_sub {f : Forest} {p x : Parts} (h : GoodP f p) (hs : Sub x p) {v : Nat} (hv : v < f.vars.length) {r : RowT} {y : Link} {r' : RowT} (h1 : rowOne f x v r y = some r') : rowOne f p v r y = some r' := by
  unfold rowOne at *
  by_cases hp : 0 ≤ par f v
  · rw [if_pos hp] at h1 ⊢
    by_cases hx : 0 ≤ linkOf f x v r y
    · rw [if_pos hx] at h1
      obtain ⟨m, e1, hm, e2, e3⟩ := findI_link hx
      have hpx : 0 ≤ linkOf f p v r y := findI_ge.2 ⟨_, (hs v).2.subset (List.getElem_mem hm), e2, e3⟩
      obtain ⟨m', e1', hm', e2', e3'⟩ := findI_link hpx
      rw [if_pos hpx]
      have e : (lk x v)[m] = (lk p v)[m'] := lk_uniq h hv ((hs v).2.subset (List.getElem_mem hm)) (List.getElem_mem hm') (by rw [e2, e2']) (by rw [e3, e3'])
      have g1 : (lk x v).getD (linkOf f x v r y).toNat dLink = (lk x v)[m] := by rw [show linkOf f x v r y = (m : Int) from e1, Int.toNat_natCast, List.getD_eq_getElem?_getD, List.getElem?_eq_getElem hm]; rfl
      have g2 : (lk p v).getD (linkOf f p v r y).toNat dLink = (lk p v)[m'] := by rw [show linkOf f p v r y = (m' : Int) from e1', Int.toNat_natCast, List.getD_eq_getElem?_getD, List.getElem?_eq_getElem hm']; rfl
      rw [g1, e] at h1
      rw [g2]
      exact h1
    · rw [if_neg hx] at h1; cases h1
  · rw [if_neg hp] at h1 ⊢; exact h1
theorem rows_sub {f : Forest} {p x : Parts} (h : GoodP f p) (hs : Sub x p) : ∀ i, i ≤ f.vars.length → (rowsK f x i).Sublist (rowsK f p i)
  | 0, _ => List.Sublist.refl _
  | i + 1, hi => flatMap_sub (rows_sub h hs i (by omega)) fun r _ => filterMap_sub (hs _).1 fun y _ b hb => rowOne_sub h hs (h.gf.vAt_lt (by omega)).1 hb
theorem rowOne_nodes {f : Forest} {p : Parts} {v : Nat} {r r' : RowT} {x : Link} (h : rowOne f p v r x = some r') : r'.nodes = r.nodes ++ [x.a] := by
  unfold rowOne at h
  split at h
  · split at h
    · injection h with h; subst h; rfl
    · cases h
  · injection h with h; subst h; rfl
theorem rows_ne {f : Forest} {p : Parts} (h : GoodP f p) : ∀ i, i ≤ f.vars.length → (rowsK f p i).Pairwise fun r s => r.nodes ≠ s.nodes
  | 0, _ => by simp [rowsK]
  | i + 1, hi => by
    show ((rowsK f p i).flatMap _).Pairwise _
    rw [List.pairwise_flatMap]
    refine ⟨fun r hr => ?_, (rows_ne h i (by omega)).imp_of_mem fun {a b} ha hb hne x hx y hy e => ?_⟩
    · rw [List.pairwise_filterMap]
      refine (goodL_ne (h.ok _ (h.gf.vAt_lt (s := i) (by omega)).1).1).imp_of_mem fun {x y} hx hy hne b hb b' hb' e => ?_
      rw [rowOne_nodes hb, rowOne_nodes hb'] at e
      have e2 : x.a = y.a := by have := (List.append_inj' e rfl).2; simpa using this
      have n1 := h.nb _ x hx
      have n2 := h.nb _ y hy
      rcases hne with hne | hne
      · exact hne e2
      · exact hne (by rw [← n1, ← n2]; exact e2)
    · obtain ⟨_, _, h1⟩ := List.mem_filterMap.1 hx
      obtain ⟨_, _, h2⟩ := List.mem_filterMap.1 hy
      rw [rowOne_nodes h1, rowOne_nodes h2] at e
      exact hne (List.append_inj' e rfl).1
/-- The rows are what they were. -/
theorem rows_same {f : Forest} {p : Parts} (h : GoodP f p) : rowsP f (ofP f p) = rowsP f p := by
  obtain ⟨k1, k2, k3, k4⟩ := ofP_all h
  have hsub : (rowsP f (ofP f p)).Sublist (rowsP f p) := by unfold rowsP; exact rows_sub h k2 _ (by rw [h.gf.l1]; exact Nat.le_refl _)
  have hne : (rowsP f p).Pairwise fun r s => r.nodes ≠ s.nodes := by unfold rowsP; exact rows_ne h _ (by rw [h.gf.l1]; exact Nat.le_refl _)
  have := sublist_filter (q := fun _ => true) hsub (hne.imp fun {a b} h e => h (by rw [e])) fun r hr => ⟨fun _ => ?_, fun _ => rfl⟩
  · rw [this]; simp
  · obtain ⟨r', hr', e⟩ := rows_mem h.gf (sat_ofP h (mem_rows h.gf hr))
    have : r = r' := pairwise_uniq (fun _ _ h => Ne.symm h) hne hr (hsub.subset hr') (by rw [e]; simp)
    rw [this]; exact hr'
end Go.Proofs.Ytcaeoebphfjfiaa.Am


/- What the document calls reduced is what is left. -/
namespace Go.Proofs.Ytcaeoebphfjfiaa.Am
open Go Go.RowKit
set_option maxRecDepth 100000
set_option linter.unusedVariables false
set_option linter.unusedSimpArgs false

end Go.Proofs.Ytcaeoebphfjfiaa.Am


/- Places of parents, groups and rows, by the document's words. -/
namespace Go.Proofs.Ytcaeoebphfjfiaa.Am
open Go Go.RowKit
set_option maxRecDepth 100000
set_option linter.unusedVariables false
set_option linter.unusedSimpArgs false

def parR (f : Forest) (i : Int) : Int := if 0 ≤ i ∧ i < f.order.length then atI f.order (par f (vAt f i.toNat)) else -1
def findRow (rows : List RowT) (ns : List Int) : Int := match rows.findIdx? (fun r => decide (r.nodes = ns)) with
  | some i => i
  | none => -1
theorem findRow_some {rows : List RowT} {ns : List Int} {i : Nat} (hi : i < rows.length) (h : rows[i].nodes = ns) (hno : ∀ r ∈ rows.take i, r.nodes ≠ ns) : findRow rows ns = i := by
  unfold findRow
  have : rows.findIdx? (fun r => decide (r.nodes = ns)) = some i := by
    rw [List.findIdx?_eq_some_iff_getElem]
    refine ⟨hi, decide_eq_true h, fun j hj => ?_⟩
    have : rows[j].nodes ≠ ns := hno _ (List.mem_take_iff_getElem.2 ⟨j, by omega, rfl⟩)
    simp [this]
  rw [this]
theorem findRow_none {rows : List RowT} {ns : List Int} (hno : ∀ r ∈ rows, r.nodes ≠ ns) : findRow rows ns = -1 := by
  unfold findRow
  have : rows.findIdx? (fun r => decide (r.nodes = ns)) = none := by
    rw [List.findIdx?_eq_none_iff]; intro x hx; simp; exact hno x hx
  rw [this]
theorem FindR_raw (rows : List RowT) (ns : List Int) (v u : Value) (H : Hp) (hs : Sl kRow H v rows) (hu : Sl (kInt .i64) H u ns) (hl : rows.length ≤ 1000000) (hn : ns.length ≤ 1000000) :
    ACalls Try.prog 17 #[v, u] H (fun r _ => r = .int .i64 (findRow rows ns)) := by
  obtain ⟨A, c, rfl⟩ := hs.shape
  obtain ⟨B, c2, rfl⟩ := hu.shape
  refine acalls_of_code Try.func17 rfl rfl rfl (by simp) ?_
  refine ac_seq ?_
  refine ac_region (by kernel_rfl) ?_
  first | refine aops_val (av_assign_int rfl) ?_ | refine aops_val (av_assign rfl) ?_
  refine ac_seq ?_
  refine ac_seq ?_
  refine ac_region (by kernel_rfl) ?_
  first | refine aops_val (av_assign_int rfl) ?_ | refine aops_val (av_assign rfl) ?_
  refine ac_block ?_
  refine ac_loop (fun n t H' => ∃ (i : Nat), i ≤ rows.length ∧ n = rows.length - i ∧ H' = H ∧ (∀ r ∈ rows.take i, r.nodes ≠ ns) ∧ t 0 = .slice A rows.length c ∧ t 1 = .slice B ns.length c2 ∧ t 5 = .int .i64 i) (rows.length) (⟨0, by omega, rfl, rfl, by simp, rfl, rfl, rfl⟩) ?_
  rintro n t H ⟨i, hi, rfl, rfl, hno, e0, e1, e5⟩
  refine ac_seq ?_
  refine ac_seq ?_
  refine ac_region (by kernel_rfl) ?_
  first | refine aops_val (av_move_int (by first | assumption | rfl)) ?_ | refine aops_val (av_move (by first | assumption | rfl)) ?_
  first | refine aops_val (av_move_sl (by first | assumption | rfl)) ?_ | refine aops_val (av_move (by first | assumption | rfl)) ?_
  refine aops_val (av_len rfl Try.underlying40) ?_
  refine aops_val (av_lt rfl rfl) ?_
  refine ac_split rfl rfl ?_ ?_
  · intro hc1
    (try simp only [decide_eq_true_eq, decide_eq_false_iff_not, Bool.not_eq_true', Bool.not_eq_false'] at hc1)
    refine ac_skip ?_
    refine ac_seq ?_
    refine ac_block ?_
    refine ac_seq ?_
    have hix : i < rows.length := by omega
    obtain ⟨b, o, w, eA, hb, hcell, hw⟩ := hs.row_at hix
    subst eA
    have hc0 := hcell 0 _ rfl
    obtain ⟨A3, c3, rfl⟩ := hw.shape
    obtain ⟨R, hR⟩ : ∃ R, R = rows[i] := ⟨_, rfl⟩
    rw [← hR] at hw hc0
    refine ac_region (by kernel_rfl) ?_
    first | refine aops_val (av_move_sl (by first | assumption | rfl)) ?_ | refine aops_val (av_move (by first | assumption | rfl)) ?_
    first | refine aops_val (av_move_int (by first | assumption | rfl)) ?_ | refine aops_val (av_move (by first | assumption | rfl)) ?_
    refine aops_val (av_indexAddr rfl rfl Try.underlying40 inf49.size t_idx t_idx) ?_
    refine aops_val (av_fieldOff (off := 0) rfl Try.underlying49 rfl inf23.size (by decide) rfl) ?_
    refine aops_val (av_load1 rfl Try.underlying23 rfl t_cell) ?_
    refine aops_val (av_len rfl Try.underlying23) ?_
    first | refine aops_val (av_move_sl (by first | assumption | rfl)) ?_ | refine aops_val (av_move (by first | assumption | rfl)) ?_
    refine aops_val (av_len rfl Try.underlying23) ?_
    refine aops_val (av_eq rfl rfl) ?_
    first | refine aops_val (av_assign_bool rfl) ?_ | refine aops_val (av_assign rfl) ?_
    refine ac_seq ?_
    refine ac_seq ?_
    refine ac_region (by kernel_rfl) ?_
    first | refine aops_val (av_assign_int rfl) ?_ | refine aops_val (av_assign rfl) ?_
    refine ac_block ?_
    refine ac_loop (fun n t H' => ∃ (k : Nat) (s : Bool), k ≤ ns.length ∧ n = ns.length - k ∧ H' = H ∧ (s = true ↔ R.nodes.length = ns.length ∧ R.nodes.take k = ns.take k) ∧ t 0 = .slice (some ⟨b, o, none⟩) rows.length c ∧ t 1 = .slice B ns.length c2 ∧ t 5 = .int .i64 i ∧ t 6 = .bool s ∧ t 7 = .int .i64 k) (ns.length) (⟨0, decide ((R.nodes.length : Int) = ns.length), by omega, rfl, rfl, by rw [decide_eq_true_eq, List.take_zero, List.take_zero]; exact ⟨fun h => ⟨by omega, rfl⟩, fun h => by have := h.1; omega⟩, e0, e1, e5, rfl, rfl⟩) ?_
    rintro n t H ⟨k, s, hk, rfl, rfl, hsame, e0, e1, e5, e6, e7⟩
    refine ac_seq ?_
    refine ac_seq ?_
    refine ac_region (by kernel_rfl) ?_
    first | refine aops_val (av_move_int (by first | assumption | rfl)) ?_ | refine aops_val (av_move (by first | assumption | rfl)) ?_
    first | refine aops_val (av_move_sl (by first | assumption | rfl)) ?_ | refine aops_val (av_move (by first | assumption | rfl)) ?_
    refine aops_val (av_len rfl Try.underlying23) ?_
    refine aops_val (av_lt rfl rfl) ?_
    first | refine aops_val (av_move_bool rfl) ?_ | refine aops_val (av_move rfl) ?_
    refine aops_guard rfl rfl rfl ?_ ?_
    · intro hg2
      have hkx : k < ns.length := by have := of_decide_eq_true hg2; omega
      first | refine aops_wval (want_yes rfl rfl rfl hg2) (av_move_bool (by first | assumption | rfl)) ?_ | refine aops_wval (want_yes rfl rfl rfl hg2) (av_move (by first | assumption | rfl)) ?_
      refine aops_val (av_pick_bool (congrArg Value.bool hg2) rfl) ?_
      refine ac_split rfl rfl ?_ ?_
      · intro hc3
        have hst : s = true := hc3
        obtain ⟨hlen, htake⟩ := hsame.1 hst
        refine ac_skip ?_
        refine ac_seq ?_
        refine ac_block ?_
        obtain ⟨b5, o5, e5', hb5, hcell5⟩ := hw.int_at (i := (k : Int)) (by omega) (by omega)
        obtain ⟨b6, o6, e6', hb6, hcell6⟩ := hu.int_at (i := (k : Int)) (by omega) (by omega)
        subst e5' e6'
        rw [Int.toNat_natCast] at hcell5 hcell6
        refine ac_draw (by kernel_rfl) (reg_of (B := [0, 0, 3, 7, 15, 0, 63, 127, 0, 0, 768, 1792, 4095, 8191]) (π := [0, 1, 2, 3, 4, 5, 6, 7, 8, 9, 10, 11, 12, 13]) (by kernel_rfl)) ?_
        first | refine adr_val rfl rfl (av_move_sl (by first | assumption | rfl)) t_lt ?_ | refine adr_val rfl rfl (av_move (by first | assumption | rfl)) t_lt ?_
        first | refine adr_val rfl rfl (av_move_int (by first | assumption | rfl)) t_lt ?_ | refine adr_val rfl rfl (av_move (by first | assumption | rfl)) t_lt ?_
        refine adr_val rfl rfl (av_indexAddr rfl rfl Try.underlying40 inf49.size t_idx t_idx) t_lt ?_
        refine adr_val rfl rfl (av_fieldOff (off := 0) rfl Try.underlying49 rfl inf23.size (by decide) rfl) t_lt ?_
        refine adr_val rfl rfl (av_load1 rfl Try.underlying23 rfl t_cell) t_lt ?_
        first | refine adr_val rfl rfl (av_move_int (by first | assumption | rfl)) t_lt ?_ | refine adr_val rfl rfl (av_move (by first | assumption | rfl)) t_lt ?_
        refine adr_val rfl rfl (av_indexAddr rfl rfl Try.underlying23 inf3.size t_idx t_idx) t_lt ?_
        refine adr_val rfl rfl (av_load1 rfl Try.underlying3 rfl t_cell) t_lt ?_
        first | refine adr_val rfl rfl (av_move_sl (by first | assumption | rfl)) t_lt ?_ | refine adr_val rfl rfl (av_move (by first | assumption | rfl)) t_lt ?_
        first | refine adr_val rfl rfl (av_move_int (by first | assumption | rfl)) t_lt ?_ | refine adr_val rfl rfl (av_move (by first | assumption | rfl)) t_lt ?_
        refine adr_val rfl rfl (av_indexAddr rfl rfl Try.underlying23 inf3.size t_idx t_idx) t_lt ?_
        refine adr_val rfl rfl (av_load1 rfl Try.underlying3 rfl t_cell) t_lt ?_
        refine adr_val rfl rfl (av_eq rfl rfl) t_lt ?_
        first | refine adr_val rfl rfl (av_assign_bool rfl) t_lt ?_ | refine adr_val rfl rfl (av_assign rfl) t_lt ?_
        refine ac_region (by kernel_rfl) ?_
        first | refine aops_val (av_move_int (by first | assumption | rfl)) ?_ | refine aops_val (av_move (by first | assumption | rfl)) ?_
        first | refine aops_val (av_add64 rfl rfl t_fits) ?_ | refine aops_val (av_add rfl rfl) ?_
        first | refine aops_val (av_assign_int rfl) ?_ | refine aops_val (av_assign rfl) ?_
        refine ⟨ns.length - (k + 1), by omega, k + 1, decide (R.nodes.getD k 0 = ns.getD k 0), by omega, rfl, rfl, ?_, e0, e1, e5, rfl, rfl⟩
        have hkr : k < R.nodes.length := by omega
        rw [decide_eq_true_eq, ← take_next hkr, ← take_next hkx, getD_at hkr, getD_at hkx]
        constructor
        · intro h; exact ⟨hlen, by rw [htake, h]⟩
        · intro ⟨_, h⟩
          have := (List.append_inj' h rfl).2
          simpa using this
      · intro hc3
        have hsf : s = false := hc3
        refine ac_exit ?_
        refine ac_seq ?_
        have hfin : s = true ↔ R.nodes = ns := by
          constructor
          · intro h
            obtain ⟨h1, h2⟩ := hsame.1 h
            have hk2 : ns.length ≤ k := by first | omega | (exfalso; rw [h] at hsf; cases hsf)
            rwa [List.take_of_length_le (by omega), List.take_of_length_le (by omega)] at h2
          · intro h; exact hsame.2 ⟨by rw [h], by rw [h]⟩
        refine ac_region (by kernel_rfl) ?_
        first | refine aops_val (av_move_bool (by first | assumption | rfl)) ?_ | refine aops_val (av_move (by first | assumption | rfl)) ?_
        refine ac_split rfl rfl ?_ ?_
        · intro hc4
          have hyes : R.nodes = ns := hfin.1 hc4
          refine ac_seq ?_
          refine ac_region (by kernel_rfl) ?_
          first | refine aops_val (av_move_int (by first | assumption | rfl)) ?_ | refine aops_val (av_move (by first | assumption | rfl)) ?_
          first | refine aops_val (av_assign_int rfl) ?_ | refine aops_val (av_assign rfl) ?_
          refine ac_ret ?_
          exact ⟨.int .i64 i, aresult1 (ares_tmp rfl), by rw [findRow_some hix (by rw [← hR]; exact hyes) hno]⟩
        · intro hc4
          have hnot : R.nodes ≠ ns := fun h => by have h1 := hfin.2 h; have h2 := hc4; rw [h1] at h2; cases h2
          refine ac_skip ?_
          refine ac_region (by kernel_rfl) ?_
          first | refine aops_val (av_move_int (by first | assumption | rfl)) ?_ | refine aops_val (av_move (by first | assumption | rfl)) ?_
          first | refine aops_val (av_add64 rfl rfl t_fits) ?_ | refine aops_val (av_add rfl rfl) ?_
          first | refine aops_val (av_assign_int rfl) ?_ | refine aops_val (av_assign rfl) ?_
          exact ⟨rows.length - (i + 1), by omega, i + 1, by omega, rfl, rfl, fun r hr => by
            rw [← take_next hix] at hr
            rcases List.mem_append.1 hr with hr | hr
            · exact hno r hr
            · rw [List.mem_singleton.1 hr, ← hR]; exact hnot, e0, e1, rfl⟩
    · intro hg2
      have hkx : ¬ k < ns.length := by have := of_decide_eq_false hg2; omega
      refine aops_skip (want_no rfl rfl rfl hg2 rfl) ?_
      refine aops_val (av_pick_bool (congrArg Value.bool hg2) (by first | assumption | rfl)) ?_
      refine ac_cond_false rfl rfl ?_
      refine ac_exit ?_
      refine ac_seq ?_
      have hfin : s = true ↔ R.nodes = ns := by
        constructor
        · intro h
          obtain ⟨h1, h2⟩ := hsame.1 h
          have hk2 : ns.length ≤ k := by first | omega | (exfalso; rw [h] at hsf; cases hsf)
          rwa [List.take_of_length_le (by omega), List.take_of_length_le (by omega)] at h2
        · intro h; exact hsame.2 ⟨by rw [h], by rw [h]⟩
      refine ac_region (by kernel_rfl) ?_
      first | refine aops_val (av_move_bool (by first | assumption | rfl)) ?_ | refine aops_val (av_move (by first | assumption | rfl)) ?_
      refine ac_split rfl rfl ?_ ?_
      · intro hc6
        have hyes : R.nodes = ns := hfin.1 hc6
        refine ac_seq ?_
        refine ac_region (by kernel_rfl) ?_
        first | refine aops_val (av_move_int (by first | assumption | rfl)) ?_ | refine aops_val (av_move (by first | assumption | rfl)) ?_
        first | refine aops_val (av_assign_int rfl) ?_ | refine aops_val (av_assign rfl) ?_
        refine ac_ret ?_
        exact ⟨.int .i64 i, aresult1 (ares_tmp rfl), by rw [findRow_some hix (by rw [← hR]; exact hyes) hno]⟩
      · intro hc6
        have hnot : R.nodes ≠ ns := fun h => by have h1 := hfin.2 h; have h2 := hc6; rw [h1] at h2; cases h2
        refine ac_skip ?_
        refine ac_region (by kernel_rfl) ?_
        first | refine aops_val (av_move_int (by first | assumption | rfl)) ?_ | refine aops_val (av_move (by first | assumption | rfl)) ?_
        first | refine aops_val (av_add64 rfl rfl t_fits) ?_ | refine aops_val (av_add rfl rfl) ?_
        first | refine aops_val (av_assign_int rfl) ?_ | refine aops_val (av_assign rfl) ?_
        exact ⟨rows.length - (i + 1), by omega, i + 1, by omega, rfl, rfl, fun r hr => by
          rw [← take_next hix] at hr
          rcases List.mem_append.1 hr with hr | hr
          · exact hno r hr
          · rw [List.mem_singleton.1 hr, ← hR]; exact hnot, e0, e1, rfl⟩
  · intro hc1
    (try simp only [decide_eq_true_eq, decide_eq_false_iff_not, Bool.not_eq_true', Bool.not_eq_false'] at hc1)
    refine ac_exit ?_
    refine ac_seq ?_
    refine ac_region (by kernel_rfl) ?_
    first | refine aops_val (av_assign_int rfl) ?_ | refine aops_val (av_assign rfl) ?_
    refine ac_ret ?_
    rw [List.take_of_length_le (by omega)] at hno
    exact ⟨.int .i64 (-1), aresult1 (ares_tmp rfl), by rw [findRow_none hno]⟩
theorem FindR_ref (rows : List RowT) (ns : List Int) (v u : Value) (H : Hp) (hs : Sl kRow H v rows) (hu : Sl (kInt .i64) H u ns) (hl : rows.length ≤ 1000000) (hn : ns.length ≤ 1000000) :
    ACalls Try.prog 17 #[v, u] H (fun r H' => r = .int .i64 (findRow rows ns) ∧ H' = H) :=
  ACalls.pure (fun v h => by rw [h]; rfl) (FindR_raw rows ns v u H.ro (hs.mono H.sees_ro) (hu.mono H.sees_ro) hl hn)
def groupOne (f : Forest) (x : Parts) (v : Nat) (above : Int) (y : Link) : Option Link :=
  if 0 ≤ par f v then
    if 0 ≤ findI (lk x v) above y.a then some ⟨above, y.a, y.cost + ((lk x v).getD (findI (lk x v) above y.a).toNat dLink).cost, timesI y.n ((lk x v).getD (findI (lk x v) above y.a).toNat dLink).n⟩ else none
  else some y
def groupR (f : Forest) (x : Parts) (i above : Int) : List Link := if 0 ≤ i ∧ i < f.order.length then (nd x (vAt f i.toNat)).filterMap (groupOne f x (vAt f i.toNat) above) else []
end Go.Proofs.Ytcaeoebphfjfiaa.Am


/- What is asked of a tree holds of the trees that are made; their groups are those of the document's words. -/
namespace Go.Proofs.Ytcaeoebphfjfiaa.Am
open Go Go.RowKit
set_option maxRecDepth 100000
set_option linter.unusedVariables false
set_option linter.unusedSimpArgs false

theorem timesI_comm (a b : Int) : timesI a b = timesI b a := by unfold timesI; rw [Int.mul_comm]
theorem nodeOf_or (ns : List Link) (b : Int) : nodeOf ns b ∈ ns ∨ nodeOf ns b = dLink := by
  unfold nodeOf
  cases h : ns.find? (fun y => decide (y.a = b)) with
  | none => exact .inr rfl
  | some y => exact .inl (List.mem_of_find?_eq_some h)
theorem nodeOf_mem {ns : List Link} {y : Link} (hy : y ∈ ns) (hu : ∀ x ∈ ns, ∀ z ∈ ns, x.a = z.a → x = z) : nodeOf ns y.a = y := by
  unfold nodeOf
  cases h : ns.find? (fun z => decide (z.a = y.a)) with
  | none =>
    rw [List.find?_eq_none] at h
    have := h y hy
    simp at this
  | some z =>
    have h1 := List.find?_some h
    have h2 := List.mem_of_find?_eq_some h
    exact hu z h2 y hy (of_decide_eq_true h1)
/-- Two lists that rise, of the same ones. -/
theorem rise_ext : ∀ {xs ys : List Link}, xs.Pairwise (fun x y => x.b < y.b) → ys.Pairwise (fun x y => x.b < y.b) → (∀ l, l ∈ xs ↔ l ∈ ys) → xs = ys
  | [], [], _, _, _ => rfl
  | [], y :: ys, _, _, h => by have := (h y).2 (by simp); simp at this
  | x :: xs, [], _, _, h => by have := (h x).1 (by simp); simp at this
  | x :: xs, y :: ys, h1, h2, h => by
    obtain ⟨a1, a2⟩ := List.pairwise_cons.1 h1
    obtain ⟨b1, b2⟩ := List.pairwise_cons.1 h2
    have e : x = y := by
      have hx := (h x).1 (by simp)
      have hy := (h y).2 (by simp)
      rcases List.mem_cons.1 hx with hx | hx
      · exact hx
      · rcases List.mem_cons.1 hy with hy | hy
        · exact hy.symm
        · have := a1 y hy
          have := b1 x hx
          omega
    subst e
    rw [rise_ext a2 b2 fun l => ?_]
    constructor
    · intro hl
      rcases List.mem_cons.1 ((h l).1 (List.mem_cons_of_mem _ hl)) with e | e
      · subst e; have := a1 l hl; omega
      · exact e
    · intro hl
      rcases List.mem_cons.1 ((h l).2 (List.mem_cons_of_mem _ hl)) with e | e
      · subst e; have := b1 l hl; omega
      · exact e
theorem nd_rise {f : Forest} {x : Parts} (h : GoodP f x) {v : Nat} (hv : v < f.vars.length) : (nd x v).Pairwise fun y z => y.b < z.b :=
  List.Pairwise.imp_of_mem (R := fun y z => y.a < z.a) (fun {y z} hy hz hl => by have := (h.ok v hv).2.2.1 y hy; have := (h.ok v hv).2.2.1 z hz; omega) (goodL_strict (h.ok v hv).1 (h.ok v hv).2.2.1)
theorem tree_par {f : Forest} (x : Parts) (hg : GoodF f) {i : Nat} (hi : i < f.vars.length) : (treeOf f x).parent.getD i 0 = atI f.order (par f (vAt f i)) := by
  rw [List.getD_eq_getElem?_getD, (treeOf_at x (by rw [hg.l1]; exact hi)).2.1]; rfl
theorem tree_links {f : Forest} (x : Parts) (hg : GoodF f) {i : Nat} (hi : i < f.vars.length) : (treeOf f x).links.getD i [] = placeLinks f x (vAt f i) := by
  rw [List.getD_eq_getElem?_getD, (treeOf_at x (by rw [hg.l1]; exact hi)).2.2]; rfl
/-- Who has no parent has none in the tree. -/
theorem at_root {f : Forest} (hg : GoodF f) {i : Nat} (hi : i < f.vars.length) : (par f (vAt f i) = -1 ∧ atI f.order (par f (vAt f i)) = -1) ∨ (0 ≤ par f (vAt f i) ∧ 0 ≤ atI f.order (par f (vAt f i)) ∧ atI f.order (par f (vAt f i)) = posOf f (par f (vAt f i)) ∧ posOf f (par f (vAt f i)) < i) := by
  have hge := hg.parent_ge (hg.vAt_lt hi).1
  change -1 ≤ par f (vAt f i) ∧ par f (vAt f i) < _ at hge
  by_cases h : par f (vAt f i) = -1
  · refine .inl ⟨h, ?_⟩
    rw [h]
    exact atI_none fun hm => by have := hg.order_in hm; omega
  · have h0 : 0 ≤ par f (vAt f i) := by omega
    obtain ⟨p1, p2⟩ := hg.pos_par hi h0
    have hm : par f (vAt f i) ∈ f.order := by
      have := hg.in_order (v := (par f (vAt f i)).toNat) (by omega)
      rwa [Int.toNat_of_nonneg h0] at this
    obtain ⟨q, hq, _⟩ := atI_take (i := f.order.length) (by rw [List.take_length]; exact hm)
    exact .inr ⟨h0, by omega, by unfold posOf; omega, p1⟩
theorem place_row {f : Forest} {x : Parts} (hG : GoodP f x) {i : Nat} (hi : i < f.vars.length) (above : Int) : (treeOf f x).row i above = if par f (vAt f i) = -1 then nd x (vAt f i) else ((lk x (vAt f i)).map (weigh (nd x (vAt f i)))).filter fun l => decide (l.a = above) := by
  unfold TreeT.row
  rw [tree_par x hG.gf hi, tree_links x hG.gf hi]
  unfold placeLinks
  rcases at_root hG.gf hi with ⟨h1, h2⟩ | ⟨h1, h2, _⟩
  · rw [if_pos h2, if_pos h1, if_pos h1]
  · rw [if_neg (by omega), if_neg (by omega), if_neg (by omega)]
theorem row_rise {f : Forest} {x : Parts} (hG : GoodP f x) {i : Nat} (hi : i < f.vars.length) (above : Int) : ((treeOf f x).row i above).Pairwise fun y z => y.b < z.b := by
  have hv := (hG.gf.vAt_lt hi).1
  rw [place_row hG hi]
  split
  · exact nd_rise hG hv
  · have h1 := (goodL_iff.1 (hG.ok _ hv).2.1).2
    refine List.Pairwise.imp_of_mem (R := fun y z => lessL y z = true) (fun {y z} hy hz hl => ?_) ((List.Pairwise.map (R := fun y z => lessL y z = true) (weigh (nd x (vAt f i))) (fun a b h => h) h1).filter _)
    have e1 := of_decide_eq_true (List.mem_filter.1 hy).2
    have e2 := of_decide_eq_true (List.mem_filter.1 hz).2
    simp only [lessL, Bool.or_eq_true, Bool.and_eq_true, decide_eq_true_eq] at hl
    omega
theorem weigh_ok {f : Forest} {x : Parts} (hch : Cheap x) {v : Nat} {l : Link} (hl : l ∈ lk x v) : 0 ≤ (weigh (nd x v) l).cost ∧ (weigh (nd x v) l).cost ≤ 2000000000 ∧ 0 ≤ (weigh (nd x v) l).n := by
  obtain ⟨a1, a2, a3⟩ := hch.links v l hl
  have hb : 0 ≤ (nodeOf (nd x v) l.b).cost ∧ (nodeOf (nd x v) l.b).cost ≤ 1000000000 ∧ 0 ≤ (nodeOf (nd x v) l.b).n := by
    rcases nodeOf_or (nd x v) l.b with h | h
    · exact hch.nodes v _ h
    · rw [h]; decide
  exact ⟨by show 0 ≤ _ + _; omega, by show _ + _ ≤ _; omega, (timesI_le a3 hb.2.2).1⟩
theorem good_tree {f : Forest} {x : Parts} (hG : GoodP f x) (hs : Small f x) (hch : Cheap x) (hv : f.vars.length ≤ 1000) : GoodT (treeOf f x) := by
  obtain ⟨t1, t2, t3⟩ := treeOf_len (f := f) x
  have hol : f.order.length = f.vars.length := hG.gf.l1
  have mem : ∀ l ∈ (treeOf f x).links, ∃ v, l = placeLinks f x v := fun l hl => by
    obtain ⟨v, _, rfl⟩ := List.mem_map.1 hl
    exact ⟨_, rfl⟩
  refine ⟨by omega, by omega, by omega, fun l hl => ?_, fun i hi => ?_, fun i above => ?_, fun l hl y hy => ?_⟩
  · obtain ⟨v, rfl⟩ := mem l hl
    unfold placeLinks
    split
    · exact getD_len hs.s5 v
    · rw [List.length_map]; exact getD_len hs.s6 v
  · rw [tree_par x hG.gf (by omega)]
    rcases at_root hG.gf (i := i) (by omega) with ⟨_, h2⟩ | ⟨_, h2, h3, h4⟩
    · exact .inl h2
    · exact .inr ⟨h2, by omega⟩
  · unfold TreeT.group
    split
    · exact row_rise hG (by omega) _
    · exact List.Pairwise.nil
  · obtain ⟨v, rfl⟩ := mem l hl
    unfold placeLinks at hy
    split at hy
    · obtain ⟨a1, a2, a3⟩ := hch.nodes v y hy
      exact ⟨a1, by omega, a3⟩
    · obtain ⟨l, hl, rfl⟩ := List.mem_map.1 hy
      exact weigh_ok (f := f) hch hl
theorem filterMap_id {α : Type} {g : α → Option α} : ∀ {xs : List α}, (∀ y ∈ xs, g y = some y) → xs.filterMap g = xs
  | [], _ => rfl
  | x :: xs, h => by rw [List.filterMap_cons, h x (by simp)]; simp only; rw [filterMap_id fun y hy => h y (by simp [hy])]
/-- The groups are those of the document's words. -/
theorem group_same {f : Forest} {x : Parts} (hG : GoodP f x) (hF : ∀ v : Nat, v < f.vars.length → par f v ≠ -1 → Full f x v) (i above : Int) : (treeOf f x).group i above = groupR f x i above := by
  have hol : f.order.length = f.vars.length := hG.gf.l1
  unfold TreeT.group groupR
  rw [(treeOf_len x).1]
  split
  · rename_i hi
    have hi' : i.toNat < f.vars.length := by omega
    have hv := (hG.gf.vAt_lt hi').1
    rw [place_row hG hi']
    obtain ⟨w, hw⟩ : ∃ w, w = vAt f i.toNat := ⟨_, rfl⟩
    rw [← hw] at hv
    rw [← hw]
    have hge := hG.gf.parent_ge hv
    change -1 ≤ par f w ∧ _ at hge
    by_cases hp : par f w = -1
    · rw [if_pos hp]
      have : ∀ y ∈ nd x w, groupOne f x w above y = some y := fun y _ => by unfold groupOne; rw [if_neg (by omega)]
      exact (filterMap_id this).symm
    · rw [if_neg hp]
      have hful := hF w hv hp
      have huq : ∀ y ∈ nd x w, ∀ z ∈ nd x w, y.a = z.a → y = z := fun y hy z hz e => nd_uniq hG hv hy hz e
      have hr := row_rise hG hi' above
      rw [place_row hG hi', ← hw, if_neg hp] at hr
      have hone : ∀ y ∈ nd x w, ∀ m ∈ lk x w, m.a = above → m.b = y.a → groupOne f x w above y = some (weigh (nd x w) m) := fun y hy m hm ha hb => by
        unfold groupOne
        have hpos : 0 ≤ findI (lk x w) above y.a := findI_ge.2 ⟨m, hm, ha, hb⟩
        obtain ⟨j, hj, hjl, hja, hjb⟩ := findI_link hpos
        have em : (lk x w)[j] = m := lk_uniq hG hv (List.getElem_mem hjl) hm (by omega) (by omega)
        rw [if_pos (by omega), if_pos hpos, hj, Int.toNat_natCast, List.getD_eq_getElem?_getD, List.getElem?_eq_getElem hjl, em]
        unfold weigh
        rw [hb, nodeOf_mem hy huq]
        simp only [Option.getD_some, Option.some.injEq]
        refine Link.ext' ha.symm rfl ?_ (timesI_comm _ _)
        show _ + _ = _ + _
        omega
      refine rise_ext hr ?_ fun l => ?_
      · have h1 := goodL_strict (hG.ok w hv).1 (hG.ok w hv).2.2.1
        refine List.Pairwise.filterMap _ (R := fun y z => y.a < z.a) (fun a a' h b hb b' hb' => ?_) h1
        have key : ∀ (y l : Link), groupOne f x w above y = some l → l.b = y.a := fun y l h => by
          unfold groupOne at h
          rw [if_pos (by omega)] at h
          split at h
          · injection h with h; rw [← h]
          · cases h
        rw [key _ _ hb, key _ _ hb']; exact h
      · rw [List.mem_filter, List.mem_map, List.mem_filterMap]
        constructor
        · rintro ⟨⟨m, hm, rfl⟩, ha⟩
          have ha : m.a = above := of_decide_eq_true ha
          obtain ⟨_, he⟩ := hful.ends m hm
          obtain ⟨y, hy, hya⟩ := List.mem_map.1 he
          exact ⟨y, hy, hone y hy m hm ha hya.symm⟩
        · rintro ⟨y, hy, h⟩
          have hpos : 0 ≤ findI (lk x w) above y.a := by
            unfold groupOne at h
            rw [if_pos (by omega)] at h
            by_cases hh : 0 ≤ findI (lk x w) above y.a
            · exact hh
            · rw [if_neg hh] at h; cases h
          obtain ⟨m, hm, ha, hb⟩ := findI_ge.1 hpos
          rw [hone y hy m hm ha hb] at h
          injection h with h
          exact ⟨⟨m, hm, h⟩, by rw [← h]; exact decide_eq_true ha⟩
  · rfl
end Go.Proofs.Ytcaeoebphfjfiaa.Am


/- The rows of a tree are all rows; each of a group is in some row. -/
namespace Go.Proofs.Ytcaeoebphfjfiaa.Am
open Go Go.RowKit
set_option maxRecDepth 100000
set_option linter.unusedVariables false
set_option linter.unusedSimpArgs false

theorem findB_iff {g : List Link} (hr : g.Pairwise fun x y => x.b < y.b) {node : Int} {z : Link} : findB g node = some z ↔ z ∈ g ∧ z.b = node := by
  constructor
  · intro h
    unfold findB at h
    exact ⟨List.mem_of_find?_eq_some h, of_decide_eq_true (List.find?_some (p := fun (l : Link) => decide (l.b = node)) h)⟩
  · intro ⟨h1, h2⟩
    obtain ⟨i, hi, rfl⟩ := List.getElem_of_mem h1
    refine findB_some hi h2 fun j hj hl e => ?_
    have := List.pairwise_iff_getElem.1 hr j i hl hi hj
    omega
theorem row_group {f : Forest} {x : Parts} {v : Nat} {r : RowT} {y : Link} {above : Int} (h : 0 ≤ par f v → above = r.nodes.getD (atI f.order (par f v)).toNat 0) :
    rowOne f x v r y = (groupOne f x v above y).map fun z => ⟨r.nodes ++ [y.a], r.cost + z.cost, timesI r.n z.n⟩ := by
  unfold rowOne groupOne linkOf
  by_cases h1 : 0 ≤ par f v
  · rw [if_pos h1, if_pos h1, ← h h1]
    by_cases h2 : 0 ≤ findI (lk x v) above y.a
    · rw [if_pos h2, if_pos h2]; rfl
    · rw [if_neg h2, if_neg h2]; rfl
  · rw [if_neg h1, if_neg h1]; rfl
theorem groupOne_b {f : Forest} {x : Parts} (hG : GoodP f x) {v : Nat} (hv : v < f.vars.length) {above : Int} {y z : Link} (hy : y ∈ nd x v) (h : groupOne f x v above y = some z) : z.b = y.a := by
  unfold groupOne at h
  split at h
  · split at h
    · injection h with h; rw [← h]
    · cases h
  · injection h with h
    rw [← h]; exact ((hG.ok v hv).2.2.1 y hy).symm
theorem group_rise {f : Forest} {x : Parts} (hG : GoodP f x) (i above : Int) : ((treeOf f x).group i above).Pairwise fun y z => y.b < z.b := by
  unfold TreeT.group
  split
  · rename_i h
    have := (treeOf_len (f := f) x).1
    have := hG.gf.l1
    exact row_rise hG (by omega) _
  · exact List.Pairwise.nil
theorem above_of {f : Forest} {x : Parts} (hG : GoodP f x) {i : Nat} (hi : i < f.vars.length) {ns : List Int} : aboveOf (treeOf f x) ns i = if par f (vAt f i) = -1 then -1 else ns.getD (posOf f (par f (vAt f i))) 0 := by
  unfold aboveOf
  rw [tree_par x hG.gf hi]
  rcases at_root hG.gf hi with ⟨h1, h2⟩ | ⟨h1, h2, h3, h4⟩
  · rw [if_pos h2, if_pos h1]
  · rw [if_neg (by omega), if_neg (by omega), h3, Int.toNat_natCast]
/-- Which nodes are a row, what it costs, in how many ways it is there. -/
theorem acc_rows {f : Forest} {x : Parts} (hG : GoodP f x) (hF : ∀ v : Nat, v < f.vars.length → par f v ≠ -1 → Full f x v) {ns : List Int} (hl : ns.length = f.vars.length) : ∀ i, i ≤ f.vars.length → ∀ c m : Int, rowAcc (treeOf f x) ns i = some (c, m) ↔ (⟨ns.take i, c, m⟩ : RowT) ∈ rowsK f x i
  | 0, _, c, m => by
    simp only [rowAcc, rowsK, List.take_zero, List.mem_singleton, Option.some.injEq, Prod.mk.injEq, RowT.mk.injEq, true_and]
    constructor
    · rintro ⟨rfl, rfl⟩; exact ⟨rfl, rfl⟩
    · rintro ⟨rfl, rfl⟩; exact ⟨rfl, rfl⟩
  | i + 1, hi, c, m => by
    have ih := acc_rows hG hF hl i (by omega)
    have hv := (hG.gf.vAt_lt (s := i) (by omega)).1
    have hin : (0 : Int) ≤ (i : Int) ∧ (i : Int) < f.order.length := ⟨by omega, by have := hG.gf.l1; omega⟩
    have hgrp : (treeOf f x).group (i : Int) (aboveOf (treeOf f x) ns i) = (nd x (vAt f i)).filterMap (groupOne f x (vAt f i) (aboveOf (treeOf f x) ns i)) := by
      rw [group_same hG hF]
      unfold groupR
      rw [if_pos hin, Int.toNat_natCast]
    have hri := group_rise hG (i : Int) (aboveOf (treeOf f x) ns i)
    have habv : ∀ r : RowT, r.nodes = ns.take i → 0 ≤ par f (vAt f i) → aboveOf (treeOf f x) ns i = r.nodes.getD (atI f.order (par f (vAt f i))).toNat 0 := fun r hr hp => by
      rw [above_of hG (by omega), if_neg (by omega)]
      rcases at_root hG.gf (i := i) (by omega) with ⟨h1, _⟩ | ⟨_, h2, h3, h4⟩
      · omega
      · rw [hr, h3, Int.toNat_natCast, List.getD_eq_getElem?_getD, List.getD_eq_getElem?_getD, List.getElem?_take, if_pos h4]
    have hns : ns.take (i + 1) = ns.take i ++ [ns.getD i 0] := by rw [getD_at (by omega)]; exact (take_next (by omega)).symm
    show ((rowAcc (treeOf f x) ns i).bind fun cn => (findB ((treeOf f x).group i (aboveOf (treeOf f x) ns i)) (ns.getD i 0)).map fun y => (cn.1 + y.cost, timesI cn.2 y.n)) = some (c, m) ↔ _ ∈ (rowsK f x i).flatMap fun r => (nd x (vAt f i)).filterMap (rowOne f x (vAt f i) r)
    rw [List.mem_flatMap]
    constructor
    · intro h
      obtain ⟨⟨c0, m0⟩, h1, h2⟩ := Option.bind_eq_some_iff.1 h
      obtain ⟨z, h3, h4⟩ := Option.map_eq_some_iff.1 h2
      obtain ⟨h5, h6⟩ := (findB_iff hri).1 h3
      rw [hgrp] at h5
      obtain ⟨y, hy, h7⟩ := List.mem_filterMap.1 h5
      have hya := groupOne_b hG hv hy h7
      refine ⟨_, (ih c0 m0).1 h1, List.mem_filterMap.2 ⟨y, hy, ?_⟩⟩
      rw [row_group (above := aboveOf (treeOf f x) ns i) (habv _ rfl), h7, hns]
      simp only [Prod.mk.injEq] at h4
      simp only [Option.map_some, Option.some.injEq, RowT.mk.injEq]
      exact ⟨by rw [← hya, h6], h4.1, h4.2⟩
    · rintro ⟨r, hr, hm⟩
      obtain ⟨y, hy, h7⟩ := List.mem_filterMap.1 hm
      have hnod := rowOne_nodes h7
      have hnod : ns.take (i + 1) = r.nodes ++ [y.a] := hnod
      rw [hns] at hnod
      obtain ⟨e1, e2⟩ := List.append_inj' hnod rfl
      have e2 : ns.getD i 0 = y.a := by simpa using e2
      rw [row_group (above := aboveOf (treeOf f x) ns i) (habv r e1.symm)] at h7
      obtain ⟨z, h8, h9⟩ := Option.map_eq_some_iff.1 h7
      simp only [RowT.mk.injEq] at h9
      have hmem : (⟨ns.take i, r.cost, r.n⟩ : RowT) ∈ rowsK f x i := by rw [e1]; exact hr
      have h1 := (ih r.cost r.n).2 hmem
      have hz := groupOne_b hG hv hy h8
      have h3 : findB ((treeOf f x).group i (aboveOf (treeOf f x) ns i)) (ns.getD i 0) = some z := (findB_iff hri).2 ⟨by rw [hgrp]; exact List.mem_filterMap.2 ⟨y, hy, h8⟩, by rw [hz, e2]⟩
      rw [h1]
      simp only [Option.bind_some, h3, Option.map_some, Option.some.injEq, Prod.mk.injEq]
      exact ⟨h9.2.1, h9.2.2⟩
theorem findRow_cases (rows : List RowT) (ns : List Int) : (findRow rows ns = -1 ∧ ∀ r ∈ rows, r.nodes ≠ ns) ∨ ∃ i : Nat, findRow rows ns = i ∧ ∃ h : i < rows.length, rows[i].nodes = ns := by
  unfold findRow
  cases hf : rows.findIdx? (fun r => decide (r.nodes = ns)) with
  | none =>
    rw [List.findIdx?_eq_none_iff] at hf
    exact .inl ⟨rfl, fun r hr => by have := hf r hr; simpa using this⟩
  | some i =>
    obtain ⟨hi, h1, _⟩ := List.findIdx?_eq_some_iff_getElem.1 hf
    exact .inr ⟨i, rfl, hi, of_decide_eq_true h1⟩
/-- A tree's rows, of good parts. -/
theorem acc_all {f : Forest} {p : Parts} (hG : GoodP f p) {ns : List Int} : (if ns.length = f.vars.length then rowAcc (treeOf f (ofP f p)) ns f.vars.length else none) = (if 0 ≤ findRow (rowsP f p) ns then some (((rowsP f p).getD (findRow (rowsP f p) ns).toNat ⟨[], 0, 0⟩).cost, ((rowsP f p).getD (findRow (rowsP f p) ns).toNat ⟨[], 0, 0⟩).n) else none) := by
  obtain ⟨k1, k2, k3, k4⟩ := ofP_all hG
  have hX := ofP_good hG
  have hsame := rows_same hG
  have hol : f.order.length = f.vars.length := hG.gf.l1
  unfold rowsP at hsame ⊢
  rw [hol] at hsame ⊢
  rcases findRow_cases (rowsK f p f.vars.length) ns with ⟨h1, h2⟩ | ⟨i, h1, hi, h2⟩
  · rw [h1, if_neg (show ¬ (0 : Int) ≤ -1 by decide)]
    split
    · rename_i hl
      cases hc : rowAcc (treeOf f (ofP f p)) ns f.vars.length with
      | none => rfl
      | some cm =>
        have := (acc_rows hX k3 hl _ (Nat.le_refl _) cm.1 cm.2).1 hc
        rw [hsame, List.take_of_length_le (by omega)] at this
        exact absurd rfl (h2 _ this)
    · rfl
  · have hlen := rows_len (f := f) (p := p) f.vars.length _ (List.getElem_mem hi)
    rw [h2] at hlen
    rw [h1, if_pos (show (0 : Int) ≤ (i : Int) by omega), if_pos hlen, Int.toNat_natCast, List.getD_eq_getElem?_getD, List.getElem?_eq_getElem hi]
    refine (acc_rows hX k3 hlen _ (Nat.le_refl _) _ _).2 ?_
    rw [hsame, List.take_of_length_le (by omega)]
    have : (⟨ns, ((rowsK f p f.vars.length)[i]).cost, ((rowsK f p f.vars.length)[i]).n⟩ : RowT) = (rowsK f p f.vars.length)[i] := by rw [← h2]
    simp only [Option.getD_some]
    rw [this]
    exact List.getElem_mem hi
/-- Each of a group is in some row. -/
theorem group_row {f : Forest} {p : Parts} (hG : GoodP f p) {i : Nat} (hi : i < f.vars.length) {above : Int} {l : Link} (hl : l ∈ (treeOf f (ofP f p)).group i above) :
    ∃ r ∈ rowsP f p, r.nodes.getD i 0 = l.b ∧ ((treeOf f (ofP f p)).parent.getD i 0 < 0 ∨ r.nodes.getD ((treeOf f (ofP f p)).parent.getD i 0).toNat 0 = above) := by
  obtain ⟨k1, k2, k3, k4⟩ := ofP_all hG
  have hX := ofP_good hG
  have hol : f.order.length = f.vars.length := hG.gf.l1
  have hv := (hG.gf.vAt_lt hi).1
  rw [tree_par _ hG.gf hi]
  unfold TreeT.group at hl
  rw [(treeOf_len _).1, if_pos ⟨by omega, by omega⟩, Int.toNat_natCast, place_row hX hi] at hl
  have hpos := hG.gf.pos_vAt hi
  rcases at_root hG.gf hi with ⟨h1, h2⟩ | ⟨h1, h2, h3, h4⟩
  · rw [if_pos h1] at hl
    obtain ⟨r, hr, e⟩ := (node_in hG hv ((k2 _).1.subset hl)).2 hl
    rw [hpos] at e
    exact ⟨r, hr, by rw [e]; exact (hX.ok _ hv).2.2.1 l hl, .inl (by omega)⟩
  · rw [if_neg (by omega)] at hl
    obtain ⟨hm0, ha⟩ := List.mem_filter.1 hl
    obtain ⟨m, hm, rfl⟩ := List.mem_map.1 hm0
    obtain ⟨r, hr, e1, e2⟩ := (link_in hG hv ((k2 _).2.subset hm)).2 hm
    rw [hpos] at e1
    refine ⟨r, hr, e1, .inr ?_⟩
    rw [h3, Int.toNat_natCast, e2]
    exact of_decide_eq_true ha
end Go.Proofs.Ytcaeoebphfjfiaa.Am


/- Whether two parts are one, as the program judges it. -/
namespace Go.Proofs.Ytcaeoebphfjfiaa.Am
open Go Go.RowKit
set_option maxRecDepth 100000
set_option linter.unusedVariables false
set_option linter.unusedSimpArgs false

end Go.Proofs.Ytcaeoebphfjfiaa.Am


/- The exported functions of reducing. -/
namespace Go.Proofs.Ytcaeoebphfjfiaa.Am
open Go Go.RowKit
set_option maxRecDepth 100000
set_option linter.unusedVariables false
set_option linter.unusedSimpArgs false

theorem Small.fits {f : Forest} {p : Parts} (h : Small f p) (hg : GoodP f p) : Fits f.vars.length p := ⟨hg.n1, hg.n2, h.s5, h.s6⟩
def noParts : Parts := ⟨[], []⟩
theorem noParts_rep (H : Hp) : kParts.rep H noParts [.slice none 0 0, .slice none 0 0] := ⟨_, _, rfl, Sl.nil _ _, Sl.nil _ _⟩
theorem Of_parts (f : Forest) (p : Parts) (cs ds : List Value) (H : Hp) (hp : kForest.rep H f cs) (hq : kParts.rep H p ds) (hsm : Small f p) :
    ACalls Try.prog 49 #[.agg cs.toArray, .agg ds.toArray] H (fun r H' => ∃ (g : Bool) (es : List Value), (g = true ↔ GoodP f p) ∧ r = .tuple #[.agg es.toArray, .int .i64 (if g = true then 0 else 1)] ∧ kParts.rep H' (if g = true then ofP f p else noParts) es ∧ H.le H') := by
  have hp0 := hp
  have hq0 := hq
  obtain ⟨v0, v1, v2, v3, v4, rfl, hs0, hs1, hs2, hs3, hs4⟩ := hp
  obtain ⟨A0, c0, rfl⟩ := hs0.shape
  obtain ⟨A1, c1, rfl⟩ := hs1.shape
  obtain ⟨A2, c2, rfl⟩ := hs2.shape
  obtain ⟨A3, c3, rfl⟩ := hs3.shape
  obtain ⟨A4, c4, rfl⟩ := hs4.shape
  obtain ⟨u0, u1, rfl, hn0, hn1⟩ := hq
  obtain ⟨B0, d0, rfl⟩ := hn0.shape
  obtain ⟨B1, d1, rfl⟩ := hn1.shape
  refine acalls_of_code Try.func49 rfl rfl rfl (by simp) ?_
  refine ac_seq ?_
  refine ac_region (by kernel_rfl) ?_
  refine aops_make (am_box_agg rfl) ?_
  refine aops_make (am_box_agg rfl) ?_
  refine aops_make (am_zero (l := [.slice none 0 0, .slice none 0 0]) inf29.zero rfl (by decide)) ?_
  first | refine aops_val (av_assign_int rfl) ?_ | refine aops_val (av_assign rfl) ?_
  refine ac_seq ?_
  refine ac_seq ?_
  refine ac_region (by kernel_rfl) ?_
  first | refine aops_val (av_loadN (cs := [.slice _ _ _, .slice _ _ _, .slice _ _ _, .slice _ _ _, .slice _ _ _]) rfl Try.underlying26 rfl inf26.size t_cells) ?_ | refine aops_val (av_loadN (cs := [_, _, _, _, _]) rfl Try.underlying26 rfl inf26.size t_cells) ?_
  first | refine aops_val (av_loadN (cs := [.slice _ _ _, .slice _ _ _]) rfl Try.underlying29 rfl inf29.size t_cells) ?_ | refine aops_val (av_loadN (cs := [_, _]) rfl Try.underlying29 rfl inf29.size t_cells) ?_
  refine aops_op (aop_call (GoodP_dom f p _ _ _ (kForest.mono t_sees hp0) (kParts.mono t_sees hq0) hsm) rfl Try.func77 rfl rfl rfl ?_)
  rintro v5 H5 ⟨⟨g, rfl, hg⟩, rfl⟩
  refine aops_val (av_not rfl) ?_
  refine ac_split rfl rfl ?_ ?_
  · intro hc1
    have hgf : g = false := by simpa using hc1
    refine ac_seq ?_
    refine ac_region (by kernel_rfl) ?_
    first | refine aops_val (av_build (pl := [(0, 1), (1, 1)]) (r := [.slice _ _ _, .slice _ _ _]) Try.underlying29 inf29.zero (by decide) rfl rfl) ?_ | refine aops_val (av_build (pl := [(0, 1), (1, 1)]) (r := [_, _]) Try.underlying29 inf29.zero (by decide) rfl rfl) ?_
    first | refine aops_op (aop_putN (vs := [.slice _ _ _, .slice _ _ _]) rfl rfl inf29.size t_get t_room rfl rfl ?_) | refine aops_op (aop_putN (vs := [_, _]) rfl rfl inf29.size t_get t_room rfl rfl ?_)
    first | refine aops_val (av_assign_int rfl) ?_ | refine aops_val (av_assign rfl) ?_
    refine ac_ret ?_
    subst hgf
    exact ⟨_, aresult2 (ares_cell (by first | assumption | rfl) (aload_agg (cs := [_, _]) Try.underlying29 rfl inf29.size t_cells)) (ares_tmp rfl), false, [_, _], hg, rfl, noParts_rep _, Hp.le_put_new (Hp.le_push' (Hp.le_push' (H.le_push _) _) _) (by simp <;> omega) _⟩
  · intro hc1
    have hgt : g = true := by simpa using hc1
    refine ac_skip ?_
    refine ac_seq ?_
    refine ac_region (by kernel_rfl) ?_
    first | refine aops_val (av_loadN (cs := [.slice _ _ _, .slice _ _ _, .slice _ _ _, .slice _ _ _, .slice _ _ _]) rfl Try.underlying26 rfl inf26.size t_cells) ?_ | refine aops_val (av_loadN (cs := [_, _, _, _, _]) rfl Try.underlying26 rfl inf26.size t_cells) ?_
    first | refine aops_val (av_loadN (cs := [.slice _ _ _, .slice _ _ _]) rfl Try.underlying29 rfl inf29.size t_cells) ?_ | refine aops_val (av_loadN (cs := [_, _]) rfl Try.underlying29 rfl inf29.size t_cells) ?_
    refine aops_op (aop_call (of_parts f p _ _ _ (kForest.mono t_sees hp0) (kParts.mono t_sees hq0) (hg.1 hgt).gf (hsm.fits (hg.1 hgt)) hsm.s0) rfl Try.func78 rfl rfl rfl ?_)
    rintro v6 H6 ⟨es, rfl, hes, hle6⟩; have hz6 := hle6.1; simp only [Hp.push_size] at hz6; obtain ⟨w0, w1, rfl, hm0, hm1⟩ := hes; obtain ⟨C0, k0, rfl⟩ := hm0.shape; obtain ⟨C1, k1, rfl⟩ := hm1.shape
    first | refine aops_op (aop_putN (vs := [.slice _ _ _, .slice _ _ _]) rfl rfl inf29.size t_get t_room rfl rfl ?_) | refine aops_op (aop_putN (vs := [_, _]) rfl rfl inf29.size t_get t_room rfl rfl ?_)
    first | refine aops_val (av_assign_int rfl) ?_ | refine aops_val (av_assign rfl) ?_
    refine ac_ret ?_
    subst hgt
    have k2 : H6.get (H.size + 2) = .own 0 [.slice none 0 0, .slice none 0 0] := le_got hle6 (by simp) (by intro e; cases e) t_get
    exact ⟨_, aresult2 (ares_cell (by first | assumption | rfl) (aload_agg (cs := [_, _]) Try.underlying29 rfl inf29.size t_cells)) (ares_tmp rfl), true, [_, _], hg, rfl, ⟨_, _, rfl, hm0.mono (Hp.sees_box _ k2), hm1.mono (Hp.sees_box _ k2)⟩, Hp.le_put_new (Hp.le_trans (Hp.le_push' (Hp.le_push' (H.le_push _) _) _) hle6) (by simp <;> omega) _⟩
end Go.Proofs.Ytcaeoebphfjfiaa.Am


/- Links by the nodes at which they begin. -/
namespace Go.Proofs.Ytcaeoebphfjfiaa.Am
open Go Go.RowKit
set_option maxRecDepth 100000
set_option linter.unusedVariables false
set_option linter.unusedSimpArgs false

theorem goodL_rise {xs : List Link} (h : GoodL xs) : RiseA xs := by
  intro i j hi hj hij
  obtain ⟨d, rfl⟩ : ∃ d, j = i + d := ⟨j - i, by omega⟩
  clear hij
  induction d with
  | zero => exact Int.le_refl _
  | succ d ih =>
    have h1 := ih (by omega)
    have h2 := (h (i + (d + 1)) hj).2 (by omega)
    have e : i + (d + 1) - 1 = i + d := by omega
    simp only [e] at h2
    simp only [lessL, Bool.or_eq_true, Bool.and_eq_true, decide_eq_true_eq] at h2
    omega
theorem few_few (x : Link) : x.few.few = x.few := by
  unfold Link.few
  split
  · simp
  · first | rfl | (rename_i h; rw [if_neg h])
end Go.Proofs.Ytcaeoebphfjfiaa.Am


/- A tree is made. -/
namespace Go.Proofs.Ytcaeoebphfjfiaa.Am
open Go Go.RowKit
set_option maxRecDepth 100000
set_option linter.unusedVariables false
set_option linter.unusedSimpArgs false

set_option maxHeartbeats 4000000 in
theorem New_tree (f : Forest) (p : Parts) (cs ds : List Value) (H : Hp) (hp : kForest.rep H f cs) (hq : kParts.rep H p ds) (hsm : Small f p) (hch : GoodP f p → Cheap p) :
    ACalls Try.prog 11 #[.agg cs.toArray, .agg ds.toArray] H (fun r H' => H.le H' ∧ ∃ (g : Bool) (v : Value), (g = true ↔ GoodP f p) ∧ r = .tuple #[v, .int .i64 (if g = true then 0 else 1)] ∧ (if g = true then TreeR H' v (treeOf f (ofP f p)) else v = .pointer none)) := by
  have hp0 := hp
  have hq0 := hq
  obtain ⟨v0, v1, v2, v3, v4, rfl, hs0, hs1, hs2, hs3, hs4⟩ := hp
  obtain ⟨A0, c0, rfl⟩ := hs0.shape
  obtain ⟨A1, c1, rfl⟩ := hs1.shape
  obtain ⟨A2, c2, rfl⟩ := hs2.shape
  obtain ⟨A3, c3, rfl⟩ := hs3.shape
  obtain ⟨A4, c4, rfl⟩ := hs4.shape
  obtain ⟨u0, u1, rfl, hn0, hn1⟩ := hq
  obtain ⟨B0, d0, rfl⟩ := hn0.shape
  obtain ⟨B1, d1, rfl⟩ := hn1.shape
  refine acalls_of_code Try.func11 rfl rfl rfl (by simp) ?_
  refine ac_seq ?_
  refine ac_region (by kernel_rfl) ?_
  refine aops_make (am_box_agg rfl) ?_
  refine aops_make (am_box_agg rfl) ?_
  first | refine aops_val (av_assign_ptr rfl) ?_ | refine aops_val (av_assign rfl) ?_
  first | refine aops_val (av_assign_int rfl) ?_ | refine aops_val (av_assign rfl) ?_
  refine ac_seq ?_
  refine ac_region (by kernel_rfl) ?_
  first | refine aops_val (av_loadN (cs := [.slice _ _ _, .slice _ _ _, .slice _ _ _, .slice _ _ _, .slice _ _ _]) rfl Try.underlying26 rfl inf26.size t_cells) ?_ | refine aops_val (av_loadN (cs := [_, _, _, _, _]) rfl Try.underlying26 rfl inf26.size t_cells) ?_
  first | refine aops_val (av_loadN (cs := [.slice _ _ _, .slice _ _ _]) rfl Try.underlying29 rfl inf29.size t_cells) ?_ | refine aops_val (av_loadN (cs := [_, _]) rfl Try.underlying29 rfl inf29.size t_cells) ?_
  refine aops_op (aop_call (Of_parts f p _ _ _ (kForest.mono t_sees hp0) (kParts.mono t_sees hq0) hsm) rfl Try.func49 rfl rfl rfl ?_)
  rintro v5 H5 ⟨g, es, hg, rfl, hes, hle5⟩; obtain ⟨w0, w1, rfl, hm0, hm1⟩ := hes; obtain ⟨C0, k0, rfl⟩ := hm0.shape; obtain ⟨C1, k1, rfl⟩ := hm1.shape; have hz5 := hle5.1; simp only [Hp.push_size] at hz5; have g51 : H5.get (H.size + 1) = .own 0 [.slice B0 p.nodes.length d0, .slice B1 p.links.length d1] := le_got hle5 (by simp) (by intro e; cases e) t_get
  refine aops_val (av_move rfl) ?_
  refine aops_val (av_extract rfl rfl) ?_
  refine aops_val (av_extract rfl rfl) ?_
  first | refine aops_op (aop_putN (vs := [.slice _ _ _, .slice _ _ _]) rfl rfl inf29.size t_get t_room rfl rfl ?_) | refine aops_op (aop_putN (vs := [_, _]) rfl rfl inf29.size t_get t_room rfl rfl ?_)
  first | refine aops_val (av_assign_int rfl) ?_ | refine aops_val (av_assign rfl) ?_
  refine ac_seq ?_
  refine ac_seq ?_
  refine ac_region (by kernel_rfl) ?_
  first | refine aops_val (av_move_int rfl) ?_ | refine aops_val (av_move rfl) ?_
  refine aops_val (av_ne rfl rfl) ?_
  refine ac_split rfl rfl ?_ ?_
  · intro hc1
    obtain rfl : g = false := by cases g with | false => rfl | true => exact absurd hc1 (by simp)
    refine ac_seq ?_
    refine ac_region (by kernel_rfl) ?_
    first | refine aops_val (av_move_int rfl) ?_ | refine aops_val (av_move rfl) ?_
    first | refine aops_val (av_assign_ptr rfl) ?_ | refine aops_val (av_assign rfl) ?_
    first | refine aops_val (av_assign_int rfl) ?_ | refine aops_val (av_assign rfl) ?_
    refine ac_ret ?_
    exact ⟨_, aresult2 (ares_tmp rfl) (ares_tmp rfl), Hp.le_put_new (Hp.le_trans (Hp.le_push' (H.le_push _) _) hle5) (Nat.le_succ _) _, false, .pointer none, hg, rfl, by simp⟩
  · intro hc1
    obtain rfl : g = true := by cases g with | true => rfl | false => exact absurd hc1 (by simp)
    refine ac_skip ?_
    refine ac_seq ?_
    have hG := hg.1 rfl
    obtain ⟨k1', k2', k3', k4'⟩ := ofP_all hG
    have hXg := ofP_good hG
    have hcx := (hch hG).sub k2'
    simp only [if_true] at hm0 hm1
    obtain ⟨X, hX⟩ : ∃ X, X = ofP f p := ⟨_, rfl⟩
    rw [← hX] at k1' k2' k3' hXg hcx hm0 hm1
    rw [← hX]
    have hlens5 : ∀ l ∈ X.nodes, l.length ≤ 1000000 := fun l hm => by
      obtain ⟨i, hi, rfl⟩ := List.getElem_of_mem hm
      have h1 := (k2' i).1.length_le
      unfold nd at h1
      rw [getD_list hi] at h1
      exact Nat.le_trans h1 (getD_len hsm.s5 i)
    have hlens6 : ∀ l ∈ X.links, l.length ≤ 1000000 := fun l hm => by
      obtain ⟨i, hi, rfl⟩ := List.getElem_of_mem hm
      have h1 := (k2' i).2.length_le
      unfold lk at h1
      rw [getD_list hi] at h1
      exact Nat.le_trans h1 (getD_len hsm.s6 i)
    obtain ⟨T, hT⟩ : ∃ T, T = treeOf f X := ⟨_, rfl⟩
    obtain ⟨tl1, tl2, tl3⟩ := treeOf_len (f := f) X
    have tat := fun {i : Nat} (hi : i < f.order.length) => treeOf_at (f := f) X hi
    rw [← hT] at tl1 tl2 tl3
    simp only [← hT] at tat
    rw [← hT]
    obtain ⟨K, hK⟩ : ∃ K, K = H5.put (H.size + 1) (.own 0 [.slice C0 X.nodes.length k0, .slice C1 X.links.length k1]) := ⟨_, rfl⟩
    have s5K : H5.sees K := by rw [hK]; exact Hp.sees_box _ g51
    have leK : H.le K := by rw [hK]; exact Hp.le_put_new (Hp.le_trans (Hp.le_push' (H.le_push _) _) hle5) (by omega) _
    have zK : H.size + 2 ≤ K.size := by rw [hK]; simp; omega
    have gK0 : K.get H.size = .own 0 [.slice A0 f.vars.length c0, .slice A1 f.order.length c1, .slice A2 f.parent.length c2, .slice A3 f.links.length c3, .slice A4 f.loops.length c4] := by rw [hK, Hp.put_other _ _ (by omega)]; exact le_got hle5 (by simp; omega) (by intro e; cases e) t_get
    have gK1 : K.get (H.size + 1) = .own 0 [.slice C0 X.nodes.length k0, .slice C1 X.links.length k1] := by rw [hK]; exact Hp.put_same _ _ _
    have m0K := hm0.mono s5K
    have m1K := hm1.mono s5K
    have s0K := hs0.mono leK.sees
    have s1K := hs1.mono leK.sees
    have s2K := hs2.mono leK.sees
    have hol : f.order.length = f.vars.length := hG.gf.l1
    have hpl : f.parent.length = f.vars.length := hG.gf.l2
    have hs0' := hsm.s0
    have hxn := k1'.1
    have hxl := k1'.2
    change ACode true _ _ _ _ _ (H5.put (H.size + 1) (.own 0 [.slice C0 X.nodes.length k0, .slice C1 X.links.length k1]))
    rw [← hK]
    clear hK s5K hm0 hm1 hle5 g51 hz5 hn0 hn1 hq0 hp0 hs3 hs4
    refine ac_region (by kernel_rfl) ?_
    refine aops_make (am_makeMap) ?_
    first | refine aops_val (av_build (pl := [(0, 1), (1, 1), (2, 1), (3, 1)]) (r := [.slice _ _ _, .slice _ _ _, .slice _ _ _, .map _]) Try.underlying89 inf89.zero (by decide) rfl rfl) ?_ | refine aops_val (av_build (pl := [(0, 1), (1, 1), (2, 1), (3, 1)]) (r := [_, _, _, _]) Try.underlying89 inf89.zero (by decide) rfl rfl) ?_
    refine aops_make (am_box_agg rfl) ?_
    first | refine aops_val (av_assign_ptr rfl) ?_ | refine aops_val (av_assign rfl) ?_
    refine ac_seq ?_
    refine ac_seq ?_
    refine ac_region (by kernel_rfl) ?_
    refine aops_val (av_fieldOff (off := 1) rfl Try.underlying26 rfl inf23.size (by decide) rfl) ?_
    refine aops_val (av_load1 rfl Try.underlying23 rfl t_cell) ?_
    refine aops_val (av_len rfl Try.underlying23) ?_
    first | refine aops_val (av_move_int rfl) ?_ | refine aops_val (av_move rfl) ?_
    refine ac_block ?_
    refine ac_loop (fun n t H' => ∃ (i : Nat) (G : Hp) (A B C : Value) (es : List (Value × Value)), i ≤ f.order.length ∧ n = f.order.length - i ∧ K.le G ∧ K.size + 2 ≤ G.size ∧ G.get K.size = .map es ∧ G.get (K.size + 1) = .own 0 [A, B, C, .map (some K.size)] ∧ Own3 kStr (kInt .i64) (kSl kLink) G H' A B C (T.vars.take i) (T.parent.take i) (T.links.take i) ∧ Spots T i es ∧ t 2 = .pointer (some ⟨H.size, 0, none⟩) ∧ t 3 = .pointer (some ⟨H.size + 1, 0, none⟩) ∧ t 7 = .pointer (some ⟨K.size + 1, 0, none⟩) ∧ t 24 = .slice A1 f.order.length c1 ∧ t 25 = .int .i64 f.order.length ∧ t 26 = .int .i64 i) (f.order.length) (⟨0, _, _, _, _, [], by omega, rfl, Hp.le_push' (K.le_push _) _, by simp, t_get, t_get, ⟨_, _, OwnP.nil _ _, OwnP.nil _ _, OwnP.nil _ _⟩, Spots.zero T, rfl, rfl, rfl, rfl, rfl, rfl⟩) ?_
    rintro n t H1 ⟨i, G, A, B, C, es, hi, rfl, leG, zG, gm, gt, hown, hsp, e2, e3, e7, e24, e25, e26⟩
    have leK1 := Hp.le_trans leG hown.le
    have zH1 := hown.size
    have zK1 := leK1.1
    refine ac_seq ?_
    refine ac_region (by kernel_rfl) ?_
    refine aops_val (av_lt (by first | assumption | rfl) (by first | assumption | rfl)) ?_
    refine ac_seq ?_
    refine ac_split rfl rfl ?_ ?_
    · intro hc2
      (try simp only [decide_eq_true_eq, decide_eq_false_iff_not, Bool.not_eq_true', Bool.not_eq_false'] at hc2)
      refine ac_skip ?_
      refine ac_seq ?_
      refine ac_block ?_
      refine ac_seq ?_
      have hix : i < f.order.length := by omega
      obtain ⟨b1, o1, rfl, hb1, hcell1⟩ := s1K.int_at (i := (i : Int)) (by omega) (by omega)
      rw [Int.toNat_natCast] at hcell1
      have hcell1' := leK1.cell1 hb1 hcell1
      obtain ⟨hwn, hwv⟩ := hG.gf.vAt_lt (s := i) (by omega)
      obtain ⟨w, hw⟩ : ∃ w : Nat, w = vAt f i := ⟨_, rfl⟩
      rw [← hw] at hwn hwv
      rw [← hwv] at hcell1'
      obtain ⟨tv, tp, tl⟩ := tat hix
      rw [← hw] at tv tp tl
      refine ac_region (by kernel_rfl) ?_
      first | refine aops_val (av_move_int (by first | assumption | rfl)) ?_ | refine aops_val (av_move (by first | assumption | rfl)) ?_
      refine aops_val (av_indexAddr (by first | assumption | rfl) (by first | assumption | rfl) Try.underlying23 inf3.size t_idx t_idx) ?_
      refine aops_val (av_load1 rfl Try.underlying3 rfl t_cell) ?_
      first | refine aops_val (av_assign_int rfl) ?_ | refine aops_val (av_assign rfl) ?_
      first | refine aops_val (av_assign_int rfl) ?_ | refine aops_val (av_assign rfl) ?_
      refine ac_seq ?_
      obtain ⟨bn, on, ks, eN, hbn, ⟨wn, rfl, hwN⟩, hcellN⟩ := m0K.elem_at (i := w) (by have := k1'.1; omega)
      subst eN
      have hcellN' := leK1.cell1 hbn hcellN.one
      have ndw : nd X w = X.nodes[w]'(by have := k1'.1; omega) := getD_list _
      rw [← ndw] at hwN
      obtain ⟨An, cn, rfl⟩ := hwN.shape
      have hnl : (nd X w).length ≤ 1000000 := by rw [ndw]; exact hlens5 _ (List.getElem_mem _)
      have gH0 := le_got leK1 (by omega) (by intro e; cases e) gK0
      have gH1 := le_got leK1 (by omega) (by intro e; cases e) gK1
      refine ac_region (by kernel_rfl) ?_
      refine aops_val (av_fieldOff (off := 0) (by first | assumption | rfl) Try.underlying29 (by first | assumption | rfl) inf27.size (by decide) (by first | assumption | rfl)) ?_
      refine aops_val (av_load1 rfl Try.underlying27 rfl t_cell) ?_
      first | refine aops_val (av_move_int rfl) ?_ | refine aops_val (av_move rfl) ?_
      refine aops_val (av_indexAddr rfl rfl Try.underlying27 inf50.size t_idx t_idx) ?_
      refine aops_val (av_load1 rfl Try.underlying50 rfl t_cell) ?_
      first | refine aops_val (av_assign_sl rfl) ?_ | refine aops_val (av_assign rfl) ?_
      refine ac_seq ?_
      refine ac_seq ?_
      obtain ⟨b2, o2, rfl, hb2, hcell2⟩ := s2K.int_at (i := (w : Int)) (by omega) (by omega)
      rw [Int.toNat_natCast] at hcell2
      have hcell2' := leK1.cell1 hb2 hcell2
      refine ac_region (by kernel_rfl) ?_
      refine aops_val (av_fieldOff (off := 2) (by first | assumption | rfl) Try.underlying26 (by first | assumption | rfl) inf23.size (by decide) (by first | assumption | rfl)) ?_
      refine aops_val (av_load1 rfl Try.underlying23 rfl t_cell) ?_
      first | refine aops_val (av_move_int rfl) ?_ | refine aops_val (av_move rfl) ?_
      refine aops_val (av_indexAddr rfl rfl Try.underlying23 inf3.size t_idx t_idx) ?_
      refine aops_val (av_load1 rfl Try.underlying3 rfl t_cell) ?_
      refine aops_val (av_ne rfl rfl) ?_
      refine ac_split rfl rfl ?_ ?_
      · intro hc3
        have hpar : par f w ≠ -1 := of_decide_eq_true hc3
        obtain ⟨bl, ol, ks, eL, hbl, ⟨wl, rfl, hwL⟩, hcellL⟩ := m1K.elem_at (i := w) (by have := k1'.2; omega)
        subst eL
        have hcellL' := leK1.cell1 hbl hcellL.one
        have lkw : lk X w = X.links[w]'(by have := k1'.2; omega) := getD_list _
        rw [← lkw] at hwL
        obtain ⟨Al, cl, rfl⟩ := hwL.shape
        have hll : (lk X w).length ≤ 1000000 := by rw [lkw]; exact hlens6 _ (List.getElem_mem _)
        have hpk : placeLinks f X w = (lk X w).map (weigh (nd X w)) := by unfold placeLinks; rw [if_neg hpar]
        have hpll : (placeLinks f X w).length ≤ 1000000 := by rw [hpk, List.length_map]; exact hll
        have hrise : RiseA (placeLinks f X w) := by rw [hpk]; exact rise_weigh (goodL_rise (hXg.ok w hwn).2.1)
        refine ac_draw (by kernel_rfl) (reg_of (B := [0, 1, 0, 7, 15, 0, 32, 0, 224, 480, 1023, 2047]) (π := [0, 1, 2, 3, 4, 5, 6, 7, 8, 9, 10, 11]) (by kernel_rfl)) ?_
        refine adr_val rfl rfl (av_fieldOff (off := 1) (by first | assumption | rfl) Try.underlying29 (by first | assumption | rfl) inf27.size (by decide) (by first | assumption | rfl)) t_lt ?_
        refine adr_val rfl rfl (av_load1 rfl Try.underlying27 rfl t_cell) t_lt ?_
        first | refine adr_val rfl rfl (av_move_int rfl) t_lt ?_ | refine adr_val rfl rfl (av_move rfl) t_lt ?_
        refine adr_val rfl rfl (av_indexAddr rfl rfl Try.underlying27 inf50.size t_idx t_idx) t_lt ?_
        refine adr_val rfl rfl (av_load1 rfl Try.underlying50 rfl t_cell) t_lt ?_
        refine adr_val rfl rfl (av_fieldOff (off := 0) (by first | assumption | rfl) Try.underlying29 (by first | assumption | rfl) inf27.size (by decide) (by first | assumption | rfl)) t_lt ?_
        refine adr_val rfl rfl (av_load1 rfl Try.underlying27 rfl t_cell) t_lt ?_
        first | refine adr_val rfl rfl (av_move_int rfl) t_lt ?_ | refine adr_val rfl rfl (av_move rfl) t_lt ?_
        refine adr_val rfl rfl (av_indexAddr rfl rfl Try.underlying27 inf50.size t_idx t_idx) t_lt ?_
        refine adr_val rfl rfl (av_load1 rfl Try.underlying50 rfl t_cell) t_lt ?_
        refine adr_op rfl rfl (aop_call (weighed_links (lk X w) (nd X w) _ _ _ (hwL.mono leK1.sees) (hwN.mono leK1.sees) hll hnl (goodL_strict (hXg.ok w hwn).1 (hXg.ok w hwn).2.2.1) (fun l hl => ((k3' w hwn hpar).ends l hl).2) (fun l hl => hcx.links w l hl) (fun l hl => hcx.nodes w l hl)) rfl Try.func50 rfl rfl rfl ?_)
        rintro v10 H2 ⟨Gw, hleW, hownW⟩; rw [← hpk] at hownW; obtain ⟨Aw, cw, rfl⟩ := hownW.shape; have hsl2 := hownW.sl; have hle2 := Hp.le_trans hleW hownW.le
        refine ⟨t_pend, ?_⟩
        first | refine adr_val rfl rfl (av_assign_sl rfl) t_lt ?_ | refine adr_val rfl rfl (av_assign rfl) t_lt ?_
        refine ac_seq ?_
        obtain ⟨G2, hleG2, hown2⟩ := hown.later hle2
        have leG2 := Hp.le_trans leG hleG2
        have leK2 := Hp.le_trans leK1 hle2
        have g2m := le_got hleG2 (by omega) (by intro e; cases e) gm
        have g2t := le_got hleG2 (by omega) (by intro e; cases e) gt
        have z2 := hleG2.1
        have zz2 := hown2.size
        obtain ⟨Ga, hleGa, hoA, backA⟩ := (hown2.rot (stable_ints _) stable_lists).open3
        obtain ⟨AA, cA, rfl⟩ := hoA.shape
        obtain ⟨slA, slB, slC⟩ := hown2.sls
        obtain ⟨AB, cB, rfl⟩ := slB.shape
        obtain ⟨AC, cC, rfl⟩ := slC.shape
        have lenA : (T.vars.take i).length = i := by rw [List.length_take]; omega
        have lenB : (T.parent.take i).length = i := by rw [List.length_take]; omega
        have lenC : (T.links.take i).length = i := by rw [List.length_take]; omega
        have h2t := le_got hown2.le (by omega) (by intro e; cases e) g2t
        have h20 := le_got leK2 (by omega) (by intro e; cases e) gK0
        obtain ⟨bs, os, ks, eS, hbs, rfl, hcellS⟩ := s0K.elem_at (i := w) hwn
        subst eS
        have hcellS' := leK2.cell1 hbs hcellS.one
        have zoA := hoA.size
        have za := hleGa.1
        have slG2 := hown2.below (stable_links _) (stable_links _) (stable_links _) (by decide) (by decide) (by decide) hsl2
        refine ac_draw (by kernel_rfl) (reg_of (B := [0, 0, 2, 6, 14, 0, 32, 0, 224, 480, 992, 2046, 4095, 8191, 16383]) (π := [0, 1, 2, 3, 4, 5, 6, 7, 8, 9, 10, 11, 12, 13, 14]) (by kernel_rfl)) ?_
        first | refine adr_val rfl rfl (av_move_ptr (by first | assumption | rfl)) t_lt ?_ | refine adr_val rfl rfl (av_move (by first | assumption | rfl)) t_lt ?_
        first | refine adr_val rfl rfl (av_move_ptr (by first | assumption | rfl)) t_lt ?_ | refine adr_val rfl rfl (av_move (by first | assumption | rfl)) t_lt ?_
        refine adr_val rfl rfl (av_nilCheck rfl) t_lt ?_
        refine adr_val rfl rfl (av_fieldOff (off := 0) rfl Try.underlying89 rfl inf22.size (by decide) rfl) t_lt ?_
        refine adr_val rfl rfl (av_load1 rfl Try.underlying22 rfl t_cell) t_lt ?_
        refine adr_val rfl rfl (av_fieldOff (off := 0) (by first | assumption | rfl) Try.underlying26 (by first | assumption | rfl) inf22.size (by decide) (by first | assumption | rfl)) t_lt ?_
        refine adr_val rfl rfl (av_load1 rfl Try.underlying22 rfl t_cell) t_lt ?_
        first | refine adr_val rfl rfl (av_move_int rfl) t_lt ?_ | refine adr_val rfl rfl (av_move rfl) t_lt ?_
        refine adr_val rfl rfl (av_indexAddr rfl rfl Try.underlying22 inf9.size t_idx t_idx) t_lt ?_
        refine adr_val rfl rfl (av_load1 rfl Try.underlying9 rfl t_cell) t_lt ?_
        first | refine adr_make rfl rfl (am_buildSlice (r := [.string _]) Try.underlying22 inf9.size inf9.zero rfl (by decide) (by decide) (by decide) rfl) ?_
        refine adr_op rfl rfl (OwnP.append (ys := [f.vars[w]]) (hoA.push _) Try.underlying22 inf9 rfl rfl rfl (sl_one (k := kStr) rfl rfl hoA.size rfl) (by rw [lenA]; simp only [List.length_singleton]; omega) (by rw [lenA]; simp only [List.length_singleton]; omega) ?_)
        rintro v3 G3 H3 hle3 hown3
        have hsameO := OwnP.sameO (hoA.push _) hle3 hown3
        have ev : f.vars.getD w ⟨#[]⟩ = f.vars[w] := by rw [List.getD_eq_getElem?_getD, List.getElem?_eq_getElem hwn]; rfl
        rw [← ev, take_at tv] at hown3
        obtain ⟨AA', cA', rfl⟩ := hown3.shape
        have hle3' := Hp.le_trans (Hp.le_push _ _) hle3
        obtain ⟨G4, hleG4, hown4⟩ := backA G3 H3 _ _ hle3' hown3
        have g4t := le_got hleG4 (by omega) (by intro e; cases e) g2t
        have h3t := le_got hown4.le (by have := hleG4.1; omega) (by intro e; cases e) g4t
        refine ⟨t_pend, ?_⟩
        refine adr_val rfl rfl (av_nilCheck rfl) t_lt ?_
        refine adr_val rfl rfl (av_fieldOff (off := 0) rfl Try.underlying89 rfl inf22.size (by decide) rfl) t_lt ?_
        first | refine adr_op rfl rfl (aop_put1 rfl rfl rfl inf22.size t_get t_room rfl ?_)
        refine ⟨t_pend, ?_⟩
        refine ac_seq ?_
        obtain ⟨H5, hH5⟩ : ∃ H5, H5 = H3.put (K.size + 1) (.own 0 [.slice AA' (T.vars.take (i + 1)).length cA', .slice AB (T.parent.take i).length cB, .slice AC (T.links.take i).length cC, .map (some K.size)]) := ⟨_, rfl⟩
        obtain ⟨G5, hG5⟩ : ∃ G5, G5 = G4.put (K.size + 1) (.own 0 [.slice AA' (T.vars.take (i + 1)).length cA', .slice AB (T.parent.take i).length cB, .slice AC (T.links.take i).length cC, .map (some K.size)]) := ⟨_, rfl⟩
        have z4 := hleG4.1
        have hown5 := hown4.put_box (by omega) g4t [.slice AA' (T.vars.take (i + 1)).length cA', .slice AB (T.parent.take i).length cB, .slice AC (T.links.take i).length cC, .map (some K.size)]
        rw [← hG5, ← hH5] at hown5
        have leG5 : K.le G5 := by rw [hG5]; exact Hp.le_put_new (Hp.le_trans leG2 hleG4) (by omega) _
        have g5m : G5.get K.size = .map es := by rw [hG5, Hp.put_other _ _ (by omega)]; exact le_got hleG4 (by omega) (by intro e; cases e) g2m
        have g5t : G5.get (K.size + 1) = .own 0 [.slice AA' (T.vars.take (i + 1)).length cA', .slice AB (T.parent.take i).length cB, .slice AC (T.links.take i).length cC, .map (some K.size)] := by rw [hG5]; exact Hp.put_same _ _ _
        have z5 : K.size + 2 ≤ G5.size := by rw [hG5]; simp; omega
        change ACode true _ _ _ _ _ (H3.put (K.size + 1) (.own 0 [.slice AA' (T.vars.take (i + 1)).length cA', .slice AB (T.parent.take i).length cB, .slice AC (T.links.take i).length cC, .map (some K.size)]))
        rw [← hH5]
        have slG5 : Sl kLink G5 (.slice Aw (placeLinks f X w).length cw) (placeLinks f X w) := by
          rw [hG5]
          exact (slG2.mono hleG4.sees).mono (Hp.sees_box _ g4t)
        obtain ⟨Gb, hleGb, hoB, backB⟩ := (hown5.rot stable_lists (stable_strs _)).open3
        have leK5 := Hp.le_trans leG5 hown5.le
        have h5t := le_got hown5.le (by omega) (by intro e; cases e) g5t
        have h50 := le_got leK5 (by omega) (by intro e; cases e) gK0
        have hcell25 := leK5.cell1 hb2 hcell2
        have zoB := hoB.size
        have zz5 := hown5.size
        have zb := hleGb.1
        clear hH5 hG5 hsameO
        refine ac_draw (by kernel_rfl) (reg_of (B := [0, 0, 2, 6, 14, 0, 32, 0, 128, 0, 896, 1920, 4064, 8160, 16382, 32767, 65535, 131071]) (π := [0, 1, 2, 3, 4, 5, 6, 7, 8, 9, 10, 11, 12, 13, 14, 15, 16, 17]) (by kernel_rfl)) ?_
        first | refine adr_val rfl rfl (av_move_ptr (by first | assumption | rfl)) t_lt ?_ | refine adr_val rfl rfl (av_move (by first | assumption | rfl)) t_lt ?_
        first | refine adr_val rfl rfl (av_move_ptr (by first | assumption | rfl)) t_lt ?_ | refine adr_val rfl rfl (av_move (by first | assumption | rfl)) t_lt ?_
        refine adr_val rfl rfl (av_nilCheck rfl) t_lt ?_
        refine adr_val rfl rfl (av_fieldOff (off := 1) rfl Try.underlying89 rfl inf23.size (by decide) rfl) t_lt ?_
        refine adr_val rfl rfl (av_load1 rfl Try.underlying23 rfl t_cell) t_lt ?_
        refine adr_val rfl rfl (av_fieldOff (off := 1) (by first | assumption | rfl) Try.underlying26 (by first | assumption | rfl) inf23.size (by decide) (by first | assumption | rfl)) t_lt ?_
        refine adr_val rfl rfl (av_load1 rfl Try.underlying23 rfl t_cell) t_lt ?_
        refine adr_val rfl rfl (av_fieldOff (off := 2) (by first | assumption | rfl) Try.underlying26 (by first | assumption | rfl) inf23.size (by decide) (by first | assumption | rfl)) t_lt ?_
        refine adr_val rfl rfl (av_load1 rfl Try.underlying23 rfl t_cell) t_lt ?_
        first | refine adr_val rfl rfl (av_move_int rfl) t_lt ?_ | refine adr_val rfl rfl (av_move rfl) t_lt ?_
        refine adr_val rfl rfl (av_indexAddr rfl rfl Try.underlying23 inf3.size t_idx t_idx) t_lt ?_
        refine adr_val rfl rfl (av_load1 rfl Try.underlying3 rfl t_cell) t_lt ?_
        refine adr_op rfl rfl (aop_call (Index_ints f.order _ (par f w) _ (s1K.mono leK5.sees) (by omega)) rfl Try.func51 rfl rfl rfl ?_)
        rintro v6 H5 ⟨rfl, rfl⟩
        refine ⟨t_pend, ?_⟩
        first | refine adr_make rfl rfl (am_buildSlice (r := [.int .i64 _]) Try.underlying23 inf3.size inf3.zero rfl (by decide) (by decide) (by decide) rfl) ?_
        refine adr_op rfl rfl (OwnP.append (ys := [atI f.order (par f w)]) (hoB.push _) Try.underlying23 inf3 rfl rfl rfl (sl_one (k := kInt .i64) rfl rfl hoB.size rfl) (by rw [lenB]; simp only [List.length_singleton]; omega) (by rw [lenB]; simp only [List.length_singleton]; omega) ?_)
        rintro v7 G7 H7 hle7 hown7
        have hsameO := OwnP.sameO (hoB.push _) hle7 hown7
        rw [take_at tp] at hown7
        obtain ⟨AB', cB', rfl⟩ := hown7.shape
        have hle7' := Hp.le_trans (Hp.le_push _ _) hle7
        obtain ⟨G8, hleG8, hown8⟩ := backB G7 H7 _ _ hle7' hown7
        have g8t := le_got hleG8 (by omega) (by intro e; cases e) g5t
        have h7t := le_got hown8.le (by have := hleG8.1; omega) (by intro e; cases e) g8t
        refine ⟨t_pend, ?_⟩
        refine adr_val rfl rfl (av_nilCheck rfl) t_lt ?_
        refine adr_val rfl rfl (av_fieldOff (off := 1) rfl Try.underlying89 rfl inf23.size (by decide) rfl) t_lt ?_
        first | refine adr_op rfl rfl (aop_put1 rfl rfl rfl inf23.size t_get t_room rfl ?_)
        refine ⟨t_pend, ?_⟩
        refine ac_seq ?_
        obtain ⟨H9, hH9⟩ : ∃ H9, H9 = H7.put (K.size + 1) (.own 0 [.slice AA' (T.vars.take (i + 1)).length cA', .slice AB' (T.parent.take (i + 1)).length cB', .slice AC (T.links.take i).length cC, .map (some K.size)]) := ⟨_, rfl⟩
        obtain ⟨G9, hG9⟩ : ∃ G9, G9 = G8.put (K.size + 1) (.own 0 [.slice AA' (T.vars.take (i + 1)).length cA', .slice AB' (T.parent.take (i + 1)).length cB', .slice AC (T.links.take i).length cC, .map (some K.size)]) := ⟨_, rfl⟩
        have z8 := hleG8.1
        have hown9 := hown8.put_box (by omega) g8t [.slice AA' (T.vars.take (i + 1)).length cA', .slice AB' (T.parent.take (i + 1)).length cB', .slice AC (T.links.take i).length cC, .map (some K.size)]
        rw [← hG9, ← hH9] at hown9
        have leG9 : K.le G9 := by rw [hG9]; exact Hp.le_put_new (Hp.le_trans leG5 hleG8) (by omega) _
        have g9m : G9.get K.size = .map es := by rw [hG9, Hp.put_other _ _ (by omega)]; exact le_got hleG8 (by omega) (by intro e; cases e) g5m
        have g9t : G9.get (K.size + 1) = .own 0 [.slice AA' (T.vars.take (i + 1)).length cA', .slice AB' (T.parent.take (i + 1)).length cB', .slice AC (T.links.take i).length cC, .map (some K.size)] := by rw [hG9]; exact Hp.put_same _ _ _
        have z9 : K.size + 2 ≤ G9.size := by rw [hG9]; simp; omega
        change ACode true _ _ _ _ _ (H7.put (K.size + 1) (.own 0 [.slice AA' (T.vars.take (i + 1)).length cA', .slice AB' (T.parent.take (i + 1)).length cB', .slice AC (T.links.take i).length cC, .map (some K.size)]))
        rw [← hH9]
        have slG9 : Sl kLink G9 (.slice Aw (placeLinks f X w).length cw) (placeLinks f X w) := by
          rw [hG9]
          exact (slG5.mono hleG8.sees).mono (Hp.sees_box _ g8t)
        have hsl9 := slG9.mono hown9.le.sees
        have h9t := le_got hown9.le (by omega) (by intro e; cases e) g9t
        have zz9 := hown9.size
        clear hH9 hG9 hsameO
        refine ac_draw (by kernel_rfl) (reg_of (B := [0, 0, 2, 6, 14, 0, 32, 96, 254, 511, 1023, 2047]) (π := [0, 1, 2, 3, 4, 5, 6, 7, 8, 9, 10, 11]) (by kernel_rfl)) ?_
        first | refine adr_val rfl rfl (av_move_ptr (by first | assumption | rfl)) t_lt ?_ | refine adr_val rfl rfl (av_move (by first | assumption | rfl)) t_lt ?_
        first | refine adr_val rfl rfl (av_move_ptr (by first | assumption | rfl)) t_lt ?_ | refine adr_val rfl rfl (av_move (by first | assumption | rfl)) t_lt ?_
        refine adr_val rfl rfl (av_nilCheck rfl) t_lt ?_
        refine adr_val rfl rfl (av_fieldOff (off := 2) rfl Try.underlying89 rfl inf27.size (by decide) rfl) t_lt ?_
        refine adr_val rfl rfl (av_load1 rfl Try.underlying27 rfl t_cell) t_lt ?_
        first | refine adr_val rfl rfl (av_move_sl rfl) t_lt ?_ | refine adr_val rfl rfl (av_move rfl) t_lt ?_
        refine adr_op rfl rfl (aop_call (Clone_links _ _ _ hsl9 hpll) rfl Try.func52 rfl rfl rfl ?_)
        rintro v10 H10 ⟨G10', hle10, hownL⟩; obtain ⟨AL, cL, rfl⟩ := hownL.shape; have hle10' := Hp.le_trans hle10 hownL.le; obtain ⟨G10, hleG10, hown10⟩ := hown9.later hle10'; have slL := hown10.below (stable_links _) (stable_links _) (stable_links _) (by decide) (by decide) (by decide) hownL.sl; obtain ⟨Gc, hleGc, hoC, backC⟩ := (hown10.rot (stable_strs _) (stable_ints _)).open3; have slLc := slL.mono hleGc.sees; have zoC := hoC.size; have h10t := le_got hle10' (by omega) (by intro e; cases e) h9t; have z10 := hleG10.1; have zc := hleGc.1
        refine ⟨t_pend, ?_⟩
        first | refine adr_make rfl rfl (am_buildSlice (r := [.slice _ _ _]) Try.underlying27 inf50.size inf50.zero rfl (by decide) (by decide) (by decide) rfl) ?_ | refine adr_make rfl rfl (am_buildSlice (r := [_]) Try.underlying27 inf50.size inf50.zero rfl (by decide) (by decide) (by decide) rfl) ?_
        refine adr_op rfl rfl (OwnP.append (ys := [placeLinks f X w]) (hoC.push _) Try.underlying27 inf50 rfl rfl rfl (sl_one (k := kSl kLink) ⟨_, rfl, slLc⟩ rfl hoC.size rfl) (by rw [lenC]; simp only [List.length_singleton]; omega) (by rw [lenC]; simp only [List.length_singleton]; omega) ?_)
        rintro v11 G11 H11 hle11 hown11
        have hsameO := OwnP.sameO (hoC.push _) hle11 hown11
        rw [take_at tl] at hown11
        obtain ⟨AC', cC', rfl⟩ := hown11.shape
        have hle11' := Hp.le_trans (Hp.le_push _ _) hle11
        obtain ⟨G12, hleG12, hown12⟩ := backC G11 H11 _ _ hle11' hown11
        have g10t := le_got hleG10 (by omega) (by intro e; cases e) g9t
        have g12t := le_got hleG12 (by omega) (by intro e; cases e) g10t
        have h11t := le_got hown12.le (by have := hleG12.1; omega) (by intro e; cases e) g12t
        refine ⟨t_pend, ?_⟩
        refine adr_val rfl rfl (av_nilCheck rfl) t_lt ?_
        refine adr_val rfl rfl (av_fieldOff (off := 2) rfl Try.underlying89 rfl inf27.size (by decide) rfl) t_lt ?_
        first | refine adr_op rfl rfl (aop_put1 rfl rfl rfl inf27.size t_get t_room rfl ?_)
        refine ⟨t_pend, ?_⟩
        obtain ⟨H13, hH13⟩ : ∃ H13, H13 = H11.put (K.size + 1) (.own 0 [.slice AA' (T.vars.take (i + 1)).length cA', .slice AB' (T.parent.take (i + 1)).length cB', .slice AC' (T.links.take (i + 1)).length cC', .map (some K.size)]) := ⟨_, rfl⟩
        obtain ⟨G13, hG13⟩ : ∃ G13, G13 = G12.put (K.size + 1) (.own 0 [.slice AA' (T.vars.take (i + 1)).length cA', .slice AB' (T.parent.take (i + 1)).length cB', .slice AC' (T.links.take (i + 1)).length cC', .map (some K.size)]) := ⟨_, rfl⟩
        have z12 := hleG12.1
        have hown13 := hown12.put_box (by omega) g12t [.slice AA' (T.vars.take (i + 1)).length cA', .slice AB' (T.parent.take (i + 1)).length cB', .slice AC' (T.links.take (i + 1)).length cC', .map (some K.size)]
        rw [← hG13, ← hH13] at hown13
        have leG13 : K.le G13 := by rw [hG13]; exact Hp.le_put_new (Hp.le_trans leG9 (Hp.le_trans hleG10 hleG12)) (by omega) _
        have g13m : G13.get K.size = .map es := by rw [hG13, Hp.put_other _ _ (by omega)]; exact le_got (Hp.le_trans hleG10 hleG12) (by omega) (by intro e; cases e) g9m
        have g13t : G13.get (K.size + 1) = .own 0 [.slice AA' (T.vars.take (i + 1)).length cA', .slice AB' (T.parent.take (i + 1)).length cB', .slice AC' (T.links.take (i + 1)).length cC', .map (some K.size)] := by rw [hG13]; exact Hp.put_same _ _ _
        have z13 : K.size + 2 ≤ G13.size := by rw [hG13]; simp; omega
        change ACode true _ _ _ _ _ (H11.put (K.size + 1) (.own 0 [.slice AA' (T.vars.take (i + 1)).length cA', .slice AB' (T.parent.take (i + 1)).length cB', .slice AC' (T.links.take (i + 1)).length cC', .map (some K.size)]))
        rw [← hH13]
        have h13t := le_got hown13.le (by omega) (by intro e; cases e) g13t
        have h13m := le_got hown13.le (by omega) (by intro e; cases e) g13m
        have zz13 := hown13.size
        obtain ⟨sl1, sl2, sl3⟩ := hown13.sls
        clear hH13 hG13 hsameO
        have eP : (T.parent.take (i + 1)).getD i 0 = T.parent.getD i 0 := by rw [List.getD_eq_getElem?_getD, List.getD_eq_getElem?_getD, List.getElem?_take, if_pos (by omega)]
        have hiL : i < (T.links.take (i + 1)).length := by rw [List.length_take]; omega
        have eL : (T.links.take (i + 1))[i]'hiL = placeLinks f X w := by
          rw [List.getElem_take]
          exact (List.getElem?_eq_some_iff.1 tl).2
        have eL2 : T.links.getD i [] = placeLinks f X w := by rw [List.getD_eq_getElem?_getD, tl]; rfl
        refine ac_region (by kernel_rfl) ?_
        first | refine aops_val (av_move_ptr (by first | assumption | rfl)) ?_ | refine aops_val (av_move (by first | assumption | rfl)) ?_
        first | refine aops_val (av_move_int rfl) ?_ | refine aops_val (av_move rfl) ?_
        refine aops_op (aop_call (group_tree (b := K.size + 1) (mb := K.size) (by omega) (by omega) h13t sl2 sl3 h13m i hiL (by rw [List.length_take]; omega) (by rw [eL]; exact hpll) (fun _ => by rw [eL]; exact hrise) hsp.keys (fun a => hsp.none i a (Nat.le_refl _))) rfl Try.func53 rfl rfl rfl ?_)
        rintro v14 H14 ⟨es', rfl, hes'⟩
        refine ac_region (by kernel_rfl) ?_
        first | refine aops_val (av_add64 (by first | assumption | rfl) (by first | assumption | rfl) t_fits) ?_ | refine aops_val (av_add (by first | assumption | rfl) (by first | assumption | rfl)) ?_
        first | refine aops_val (av_move_int rfl) ?_ | refine aops_val (av_move rfl) ?_
        refine ⟨f.order.length - (i + 1), by omega, i + 1, G13.put K.size (.map es'), _, _, _, es', by omega, rfl, Hp.le_put_new leG13 (Nat.le_refl _) _, by simp; omega, Hp.put_same _ _ _, by rw [Hp.put_other _ _ (by omega)]; exact g13t, hown13.put_map (by omega) g13m es', hsp.step ?_, e2, e3, e7, e24, e25, rfl⟩
        rw [eP, eL] at hes'
        rw [eL2]
        exact hes'
      · intro hc3
        have hpar : par f w = -1 := Decidable.not_not.1 (of_decide_eq_false hc3)
        have hpk : placeLinks f X w = nd X w := by unfold placeLinks; rw [if_pos hpar]
        have hpll : (placeLinks f X w).length ≤ 1000000 := by rw [hpk]; exact hnl
        have hrise : RiseA (placeLinks f X w) := by rw [hpk]; exact goodL_rise (hXg.ok w hwn).1
        obtain ⟨w10, hw10⟩ : ∃ w10, w10 = Value.slice An (nd X w).length cn := ⟨_, rfl⟩
        have hle2 := Hp.le_refl H1
        have hsl2 : Sl kLink H1 (.slice An (placeLinks f X w).length cn) (placeLinks f X w) := by rw [hpk]; exact hwN.mono leK1.sees
        rw [← hpk]
        obtain ⟨H2, e2'⟩ : ∃ H2, H2 = H1 := ⟨_, rfl⟩
        subst e2'
        obtain ⟨Aw, cw, eAw, eCw⟩ : ∃ Aw cw, Aw = An ∧ cw = cn := ⟨_, _, rfl, rfl⟩
        subst eAw
        subst eCw
        refine ac_skip ?_
        refine ac_seq ?_
        obtain ⟨G2, hleG2, hown2⟩ := hown.later hle2
        have leG2 := Hp.le_trans leG hleG2
        have leK2 := Hp.le_trans leK1 hle2
        have g2m := le_got hleG2 (by omega) (by intro e; cases e) gm
        have g2t := le_got hleG2 (by omega) (by intro e; cases e) gt
        have z2 := hleG2.1
        have zz2 := hown2.size
        obtain ⟨Ga, hleGa, hoA, backA⟩ := (hown2.rot (stable_ints _) stable_lists).open3
        obtain ⟨AA, cA, rfl⟩ := hoA.shape
        obtain ⟨slA, slB, slC⟩ := hown2.sls
        obtain ⟨AB, cB, rfl⟩ := slB.shape
        obtain ⟨AC, cC, rfl⟩ := slC.shape
        have lenA : (T.vars.take i).length = i := by rw [List.length_take]; omega
        have lenB : (T.parent.take i).length = i := by rw [List.length_take]; omega
        have lenC : (T.links.take i).length = i := by rw [List.length_take]; omega
        have h2t := le_got hown2.le (by omega) (by intro e; cases e) g2t
        have h20 := le_got leK2 (by omega) (by intro e; cases e) gK0
        obtain ⟨bs, os, ks, eS, hbs, rfl, hcellS⟩ := s0K.elem_at (i := w) hwn
        subst eS
        have hcellS' := leK2.cell1 hbs hcellS.one
        have zoA := hoA.size
        have za := hleGa.1
        have slG2 := hown2.below (stable_links _) (stable_links _) (stable_links _) (by decide) (by decide) (by decide) hsl2
        refine ac_draw (by kernel_rfl) (reg_of (B := [0, 0, 2, 6, 14, 0, 32, 0, 224, 480, 992, 2046, 4095, 8191, 16383]) (π := [0, 1, 2, 3, 4, 5, 6, 7, 8, 9, 10, 11, 12, 13, 14]) (by kernel_rfl)) ?_
        first | refine adr_val rfl rfl (av_move_ptr (by first | assumption | rfl)) t_lt ?_ | refine adr_val rfl rfl (av_move (by first | assumption | rfl)) t_lt ?_
        first | refine adr_val rfl rfl (av_move_ptr (by first | assumption | rfl)) t_lt ?_ | refine adr_val rfl rfl (av_move (by first | assumption | rfl)) t_lt ?_
        refine adr_val rfl rfl (av_nilCheck rfl) t_lt ?_
        refine adr_val rfl rfl (av_fieldOff (off := 0) rfl Try.underlying89 rfl inf22.size (by decide) rfl) t_lt ?_
        refine adr_val rfl rfl (av_load1 rfl Try.underlying22 rfl t_cell) t_lt ?_
        refine adr_val rfl rfl (av_fieldOff (off := 0) (by first | assumption | rfl) Try.underlying26 (by first | assumption | rfl) inf22.size (by decide) (by first | assumption | rfl)) t_lt ?_
        refine adr_val rfl rfl (av_load1 rfl Try.underlying22 rfl t_cell) t_lt ?_
        first | refine adr_val rfl rfl (av_move_int rfl) t_lt ?_ | refine adr_val rfl rfl (av_move rfl) t_lt ?_
        refine adr_val rfl rfl (av_indexAddr rfl rfl Try.underlying22 inf9.size t_idx t_idx) t_lt ?_
        refine adr_val rfl rfl (av_load1 rfl Try.underlying9 rfl t_cell) t_lt ?_
        first | refine adr_make rfl rfl (am_buildSlice (r := [.string _]) Try.underlying22 inf9.size inf9.zero rfl (by decide) (by decide) (by decide) rfl) ?_
        refine adr_op rfl rfl (OwnP.append (ys := [f.vars[w]]) (hoA.push _) Try.underlying22 inf9 rfl rfl rfl (sl_one (k := kStr) rfl rfl hoA.size rfl) (by rw [lenA]; simp only [List.length_singleton]; omega) (by rw [lenA]; simp only [List.length_singleton]; omega) ?_)
        rintro v3 G3 H3 hle3 hown3
        have hsameO := OwnP.sameO (hoA.push _) hle3 hown3
        have ev : f.vars.getD w ⟨#[]⟩ = f.vars[w] := by rw [List.getD_eq_getElem?_getD, List.getElem?_eq_getElem hwn]; rfl
        rw [← ev, take_at tv] at hown3
        obtain ⟨AA', cA', rfl⟩ := hown3.shape
        have hle3' := Hp.le_trans (Hp.le_push _ _) hle3
        obtain ⟨G4, hleG4, hown4⟩ := backA G3 H3 _ _ hle3' hown3
        have g4t := le_got hleG4 (by omega) (by intro e; cases e) g2t
        have h3t := le_got hown4.le (by have := hleG4.1; omega) (by intro e; cases e) g4t
        refine ⟨t_pend, ?_⟩
        refine adr_val rfl rfl (av_nilCheck rfl) t_lt ?_
        refine adr_val rfl rfl (av_fieldOff (off := 0) rfl Try.underlying89 rfl inf22.size (by decide) rfl) t_lt ?_
        first | refine adr_op rfl rfl (aop_put1 rfl rfl rfl inf22.size t_get t_room rfl ?_)
        refine ⟨t_pend, ?_⟩
        refine ac_seq ?_
        obtain ⟨H5, hH5⟩ : ∃ H5, H5 = H3.put (K.size + 1) (.own 0 [.slice AA' (T.vars.take (i + 1)).length cA', .slice AB (T.parent.take i).length cB, .slice AC (T.links.take i).length cC, .map (some K.size)]) := ⟨_, rfl⟩
        obtain ⟨G5, hG5⟩ : ∃ G5, G5 = G4.put (K.size + 1) (.own 0 [.slice AA' (T.vars.take (i + 1)).length cA', .slice AB (T.parent.take i).length cB, .slice AC (T.links.take i).length cC, .map (some K.size)]) := ⟨_, rfl⟩
        have z4 := hleG4.1
        have hown5 := hown4.put_box (by omega) g4t [.slice AA' (T.vars.take (i + 1)).length cA', .slice AB (T.parent.take i).length cB, .slice AC (T.links.take i).length cC, .map (some K.size)]
        rw [← hG5, ← hH5] at hown5
        have leG5 : K.le G5 := by rw [hG5]; exact Hp.le_put_new (Hp.le_trans leG2 hleG4) (by omega) _
        have g5m : G5.get K.size = .map es := by rw [hG5, Hp.put_other _ _ (by omega)]; exact le_got hleG4 (by omega) (by intro e; cases e) g2m
        have g5t : G5.get (K.size + 1) = .own 0 [.slice AA' (T.vars.take (i + 1)).length cA', .slice AB (T.parent.take i).length cB, .slice AC (T.links.take i).length cC, .map (some K.size)] := by rw [hG5]; exact Hp.put_same _ _ _
        have z5 : K.size + 2 ≤ G5.size := by rw [hG5]; simp; omega
        change ACode true _ _ _ _ _ (H3.put (K.size + 1) (.own 0 [.slice AA' (T.vars.take (i + 1)).length cA', .slice AB (T.parent.take i).length cB, .slice AC (T.links.take i).length cC, .map (some K.size)]))
        rw [← hH5]
        have slG5 : Sl kLink G5 (.slice Aw (placeLinks f X w).length cw) (placeLinks f X w) := by
          rw [hG5]
          exact (slG2.mono hleG4.sees).mono (Hp.sees_box _ g4t)
        obtain ⟨Gb, hleGb, hoB, backB⟩ := (hown5.rot stable_lists (stable_strs _)).open3
        have leK5 := Hp.le_trans leG5 hown5.le
        have h5t := le_got hown5.le (by omega) (by intro e; cases e) g5t
        have h50 := le_got leK5 (by omega) (by intro e; cases e) gK0
        have hcell25 := leK5.cell1 hb2 hcell2
        have zoB := hoB.size
        have zz5 := hown5.size
        have zb := hleGb.1
        clear hH5 hG5 hsameO
        refine ac_draw (by kernel_rfl) (reg_of (B := [0, 0, 2, 6, 14, 0, 32, 0, 128, 0, 896, 1920, 4064, 8160, 16382, 32767, 65535, 131071]) (π := [0, 1, 2, 3, 4, 5, 6, 7, 8, 9, 10, 11, 12, 13, 14, 15, 16, 17]) (by kernel_rfl)) ?_
        first | refine adr_val rfl rfl (av_move_ptr (by first | assumption | rfl)) t_lt ?_ | refine adr_val rfl rfl (av_move (by first | assumption | rfl)) t_lt ?_
        first | refine adr_val rfl rfl (av_move_ptr (by first | assumption | rfl)) t_lt ?_ | refine adr_val rfl rfl (av_move (by first | assumption | rfl)) t_lt ?_
        refine adr_val rfl rfl (av_nilCheck rfl) t_lt ?_
        refine adr_val rfl rfl (av_fieldOff (off := 1) rfl Try.underlying89 rfl inf23.size (by decide) rfl) t_lt ?_
        refine adr_val rfl rfl (av_load1 rfl Try.underlying23 rfl t_cell) t_lt ?_
        refine adr_val rfl rfl (av_fieldOff (off := 1) (by first | assumption | rfl) Try.underlying26 (by first | assumption | rfl) inf23.size (by decide) (by first | assumption | rfl)) t_lt ?_
        refine adr_val rfl rfl (av_load1 rfl Try.underlying23 rfl t_cell) t_lt ?_
        refine adr_val rfl rfl (av_fieldOff (off := 2) (by first | assumption | rfl) Try.underlying26 (by first | assumption | rfl) inf23.size (by decide) (by first | assumption | rfl)) t_lt ?_
        refine adr_val rfl rfl (av_load1 rfl Try.underlying23 rfl t_cell) t_lt ?_
        first | refine adr_val rfl rfl (av_move_int rfl) t_lt ?_ | refine adr_val rfl rfl (av_move rfl) t_lt ?_
        refine adr_val rfl rfl (av_indexAddr rfl rfl Try.underlying23 inf3.size t_idx t_idx) t_lt ?_
        refine adr_val rfl rfl (av_load1 rfl Try.underlying3 rfl t_cell) t_lt ?_
        refine adr_op rfl rfl (aop_call (Index_ints f.order _ (par f w) _ (s1K.mono leK5.sees) (by omega)) rfl Try.func51 rfl rfl rfl ?_)
        rintro v6 H5 ⟨rfl, rfl⟩
        refine ⟨t_pend, ?_⟩
        first | refine adr_make rfl rfl (am_buildSlice (r := [.int .i64 _]) Try.underlying23 inf3.size inf3.zero rfl (by decide) (by decide) (by decide) rfl) ?_
        refine adr_op rfl rfl (OwnP.append (ys := [atI f.order (par f w)]) (hoB.push _) Try.underlying23 inf3 rfl rfl rfl (sl_one (k := kInt .i64) rfl rfl hoB.size rfl) (by rw [lenB]; simp only [List.length_singleton]; omega) (by rw [lenB]; simp only [List.length_singleton]; omega) ?_)
        rintro v7 G7 H7 hle7 hown7
        have hsameO := OwnP.sameO (hoB.push _) hle7 hown7
        rw [take_at tp] at hown7
        obtain ⟨AB', cB', rfl⟩ := hown7.shape
        have hle7' := Hp.le_trans (Hp.le_push _ _) hle7
        obtain ⟨G8, hleG8, hown8⟩ := backB G7 H7 _ _ hle7' hown7
        have g8t := le_got hleG8 (by omega) (by intro e; cases e) g5t
        have h7t := le_got hown8.le (by have := hleG8.1; omega) (by intro e; cases e) g8t
        refine ⟨t_pend, ?_⟩
        refine adr_val rfl rfl (av_nilCheck rfl) t_lt ?_
        refine adr_val rfl rfl (av_fieldOff (off := 1) rfl Try.underlying89 rfl inf23.size (by decide) rfl) t_lt ?_
        first | refine adr_op rfl rfl (aop_put1 rfl rfl rfl inf23.size t_get t_room rfl ?_)
        refine ⟨t_pend, ?_⟩
        refine ac_seq ?_
        obtain ⟨H9, hH9⟩ : ∃ H9, H9 = H7.put (K.size + 1) (.own 0 [.slice AA' (T.vars.take (i + 1)).length cA', .slice AB' (T.parent.take (i + 1)).length cB', .slice AC (T.links.take i).length cC, .map (some K.size)]) := ⟨_, rfl⟩
        obtain ⟨G9, hG9⟩ : ∃ G9, G9 = G8.put (K.size + 1) (.own 0 [.slice AA' (T.vars.take (i + 1)).length cA', .slice AB' (T.parent.take (i + 1)).length cB', .slice AC (T.links.take i).length cC, .map (some K.size)]) := ⟨_, rfl⟩
        have z8 := hleG8.1
        have hown9 := hown8.put_box (by omega) g8t [.slice AA' (T.vars.take (i + 1)).length cA', .slice AB' (T.parent.take (i + 1)).length cB', .slice AC (T.links.take i).length cC, .map (some K.size)]
        rw [← hG9, ← hH9] at hown9
        have leG9 : K.le G9 := by rw [hG9]; exact Hp.le_put_new (Hp.le_trans leG5 hleG8) (by omega) _
        have g9m : G9.get K.size = .map es := by rw [hG9, Hp.put_other _ _ (by omega)]; exact le_got hleG8 (by omega) (by intro e; cases e) g5m
        have g9t : G9.get (K.size + 1) = .own 0 [.slice AA' (T.vars.take (i + 1)).length cA', .slice AB' (T.parent.take (i + 1)).length cB', .slice AC (T.links.take i).length cC, .map (some K.size)] := by rw [hG9]; exact Hp.put_same _ _ _
        have z9 : K.size + 2 ≤ G9.size := by rw [hG9]; simp; omega
        change ACode true _ _ _ _ _ (H7.put (K.size + 1) (.own 0 [.slice AA' (T.vars.take (i + 1)).length cA', .slice AB' (T.parent.take (i + 1)).length cB', .slice AC (T.links.take i).length cC, .map (some K.size)]))
        rw [← hH9]
        have slG9 : Sl kLink G9 (.slice Aw (placeLinks f X w).length cw) (placeLinks f X w) := by
          rw [hG9]
          exact (slG5.mono hleG8.sees).mono (Hp.sees_box _ g8t)
        have hsl9 := slG9.mono hown9.le.sees
        have h9t := le_got hown9.le (by omega) (by intro e; cases e) g9t
        have zz9 := hown9.size
        clear hH9 hG9 hsameO
        refine ac_draw (by kernel_rfl) (reg_of (B := [0, 0, 2, 6, 14, 0, 32, 96, 254, 511, 1023, 2047]) (π := [0, 1, 2, 3, 4, 5, 6, 7, 8, 9, 10, 11]) (by kernel_rfl)) ?_
        first | refine adr_val rfl rfl (av_move_ptr (by first | assumption | rfl)) t_lt ?_ | refine adr_val rfl rfl (av_move (by first | assumption | rfl)) t_lt ?_
        first | refine adr_val rfl rfl (av_move_ptr (by first | assumption | rfl)) t_lt ?_ | refine adr_val rfl rfl (av_move (by first | assumption | rfl)) t_lt ?_
        refine adr_val rfl rfl (av_nilCheck rfl) t_lt ?_
        refine adr_val rfl rfl (av_fieldOff (off := 2) rfl Try.underlying89 rfl inf27.size (by decide) rfl) t_lt ?_
        refine adr_val rfl rfl (av_load1 rfl Try.underlying27 rfl t_cell) t_lt ?_
        first | refine adr_val rfl rfl (av_move_sl rfl) t_lt ?_ | refine adr_val rfl rfl (av_move rfl) t_lt ?_
        refine adr_op rfl rfl (aop_call (Clone_links _ _ _ hsl9 hpll) rfl Try.func52 rfl rfl rfl ?_)
        rintro v10 H10 ⟨G10', hle10, hownL⟩; obtain ⟨AL, cL, rfl⟩ := hownL.shape; have hle10' := Hp.le_trans hle10 hownL.le; obtain ⟨G10, hleG10, hown10⟩ := hown9.later hle10'; have slL := hown10.below (stable_links _) (stable_links _) (stable_links _) (by decide) (by decide) (by decide) hownL.sl; obtain ⟨Gc, hleGc, hoC, backC⟩ := (hown10.rot (stable_strs _) (stable_ints _)).open3; have slLc := slL.mono hleGc.sees; have zoC := hoC.size; have h10t := le_got hle10' (by omega) (by intro e; cases e) h9t; have z10 := hleG10.1; have zc := hleGc.1
        refine ⟨t_pend, ?_⟩
        first | refine adr_make rfl rfl (am_buildSlice (r := [.slice _ _ _]) Try.underlying27 inf50.size inf50.zero rfl (by decide) (by decide) (by decide) rfl) ?_ | refine adr_make rfl rfl (am_buildSlice (r := [_]) Try.underlying27 inf50.size inf50.zero rfl (by decide) (by decide) (by decide) rfl) ?_
        refine adr_op rfl rfl (OwnP.append (ys := [placeLinks f X w]) (hoC.push _) Try.underlying27 inf50 rfl rfl rfl (sl_one (k := kSl kLink) ⟨_, rfl, slLc⟩ rfl hoC.size rfl) (by rw [lenC]; simp only [List.length_singleton]; omega) (by rw [lenC]; simp only [List.length_singleton]; omega) ?_)
        rintro v11 G11 H11 hle11 hown11
        have hsameO := OwnP.sameO (hoC.push _) hle11 hown11
        rw [take_at tl] at hown11
        obtain ⟨AC', cC', rfl⟩ := hown11.shape
        have hle11' := Hp.le_trans (Hp.le_push _ _) hle11
        obtain ⟨G12, hleG12, hown12⟩ := backC G11 H11 _ _ hle11' hown11
        have g10t := le_got hleG10 (by omega) (by intro e; cases e) g9t
        have g12t := le_got hleG12 (by omega) (by intro e; cases e) g10t
        have h11t := le_got hown12.le (by have := hleG12.1; omega) (by intro e; cases e) g12t
        refine ⟨t_pend, ?_⟩
        refine adr_val rfl rfl (av_nilCheck rfl) t_lt ?_
        refine adr_val rfl rfl (av_fieldOff (off := 2) rfl Try.underlying89 rfl inf27.size (by decide) rfl) t_lt ?_
        first | refine adr_op rfl rfl (aop_put1 rfl rfl rfl inf27.size t_get t_room rfl ?_)
        refine ⟨t_pend, ?_⟩
        obtain ⟨H13, hH13⟩ : ∃ H13, H13 = H11.put (K.size + 1) (.own 0 [.slice AA' (T.vars.take (i + 1)).length cA', .slice AB' (T.parent.take (i + 1)).length cB', .slice AC' (T.links.take (i + 1)).length cC', .map (some K.size)]) := ⟨_, rfl⟩
        obtain ⟨G13, hG13⟩ : ∃ G13, G13 = G12.put (K.size + 1) (.own 0 [.slice AA' (T.vars.take (i + 1)).length cA', .slice AB' (T.parent.take (i + 1)).length cB', .slice AC' (T.links.take (i + 1)).length cC', .map (some K.size)]) := ⟨_, rfl⟩
        have z12 := hleG12.1
        have hown13 := hown12.put_box (by omega) g12t [.slice AA' (T.vars.take (i + 1)).length cA', .slice AB' (T.parent.take (i + 1)).length cB', .slice AC' (T.links.take (i + 1)).length cC', .map (some K.size)]
        rw [← hG13, ← hH13] at hown13
        have leG13 : K.le G13 := by rw [hG13]; exact Hp.le_put_new (Hp.le_trans leG9 (Hp.le_trans hleG10 hleG12)) (by omega) _
        have g13m : G13.get K.size = .map es := by rw [hG13, Hp.put_other _ _ (by omega)]; exact le_got (Hp.le_trans hleG10 hleG12) (by omega) (by intro e; cases e) g9m
        have g13t : G13.get (K.size + 1) = .own 0 [.slice AA' (T.vars.take (i + 1)).length cA', .slice AB' (T.parent.take (i + 1)).length cB', .slice AC' (T.links.take (i + 1)).length cC', .map (some K.size)] := by rw [hG13]; exact Hp.put_same _ _ _
        have z13 : K.size + 2 ≤ G13.size := by rw [hG13]; simp; omega
        change ACode true _ _ _ _ _ (H11.put (K.size + 1) (.own 0 [.slice AA' (T.vars.take (i + 1)).length cA', .slice AB' (T.parent.take (i + 1)).length cB', .slice AC' (T.links.take (i + 1)).length cC', .map (some K.size)]))
        rw [← hH13]
        have h13t := le_got hown13.le (by omega) (by intro e; cases e) g13t
        have h13m := le_got hown13.le (by omega) (by intro e; cases e) g13m
        have zz13 := hown13.size
        obtain ⟨sl1, sl2, sl3⟩ := hown13.sls
        clear hH13 hG13 hsameO
        have eP : (T.parent.take (i + 1)).getD i 0 = T.parent.getD i 0 := by rw [List.getD_eq_getElem?_getD, List.getD_eq_getElem?_getD, List.getElem?_take, if_pos (by omega)]
        have hiL : i < (T.links.take (i + 1)).length := by rw [List.length_take]; omega
        have eL : (T.links.take (i + 1))[i]'hiL = placeLinks f X w := by
          rw [List.getElem_take]
          exact (List.getElem?_eq_some_iff.1 tl).2
        have eL2 : T.links.getD i [] = placeLinks f X w := by rw [List.getD_eq_getElem?_getD, tl]; rfl
        refine ac_region (by kernel_rfl) ?_
        first | refine aops_val (av_move_ptr (by first | assumption | rfl)) ?_ | refine aops_val (av_move (by first | assumption | rfl)) ?_
        first | refine aops_val (av_move_int rfl) ?_ | refine aops_val (av_move rfl) ?_
        refine aops_op (aop_call (group_tree (b := K.size + 1) (mb := K.size) (by omega) (by omega) h13t sl2 sl3 h13m i hiL (by rw [List.length_take]; omega) (by rw [eL]; exact hpll) (fun _ => by rw [eL]; exact hrise) hsp.keys (fun a => hsp.none i a (Nat.le_refl _))) rfl Try.func53 rfl rfl rfl ?_)
        rintro v14 H14 ⟨es', rfl, hes'⟩
        refine ac_region (by kernel_rfl) ?_
        first | refine aops_val (av_add64 (by first | assumption | rfl) (by first | assumption | rfl) t_fits) ?_ | refine aops_val (av_add (by first | assumption | rfl) (by first | assumption | rfl)) ?_
        first | refine aops_val (av_move_int rfl) ?_ | refine aops_val (av_move rfl) ?_
        refine ⟨f.order.length - (i + 1), by omega, i + 1, G13.put K.size (.map es'), _, _, _, es', by omega, rfl, Hp.le_put_new leG13 (Nat.le_refl _) _, by simp; omega, Hp.put_same _ _ _, by rw [Hp.put_other _ _ (by omega)]; exact g13t, hown13.put_map (by omega) g13m es', hsp.step ?_, e2, e3, e7, e24, e25, rfl⟩
        rw [eP, eL] at hes'
        rw [eL2]
        exact hes'
    · intro hc2
      (try simp only [decide_eq_true_eq, decide_eq_false_iff_not, Bool.not_eq_true', Bool.not_eq_false'] at hc2)
      refine ac_exit ?_
      refine ac_seq ?_
      refine ac_region (by kernel_rfl) ?_
      first | refine aops_val (av_move_ptr (by first | assumption | rfl)) ?_ | refine aops_val (av_move (by first | assumption | rfl)) ?_
      first | refine aops_val (av_assign_ptr rfl) ?_ | refine aops_val (av_assign rfl) ?_
      first | refine aops_val (av_assign_int rfl) ?_ | refine aops_val (av_assign rfl) ?_
      refine ac_ret ?_
      obtain rfl : i = f.order.length := by omega
      obtain ⟨sl1, sl2, sl3⟩ := hown.sls
      rw [List.take_of_length_le (by omega)] at sl1 sl2 sl3
      have zz := hown.size
      exact ⟨_, aresult2 (ares_tmp rfl) (ares_tmp rfl), Hp.le_trans leK leK1, true, .pointer (some ⟨K.size + 1, 0, none⟩), hg, rfl, by
        rw [if_pos rfl]
        exact ⟨K.size + 1, K.size, A, B, C, es, rfl, by omega, by omega, le_got hown.le (by omega) (by intro e; cases e) gt, sl1, sl2, sl3, le_got hown.le (by omega) (by intro e; cases e) gm, by rw [tl3]; exact hsp⟩⟩
end Go.Proofs.Ytcaeoebphfjfiaa.Am


/- Two variables, of which one link leads from the one to the other; the small living call of the statements on reducing. -/
namespace Go.Proofs.Ytcaeoebphfjfiaa.Am
open Go Go.RowKit
set_option maxRecDepth 100000
set_option linter.unusedVariables false
set_option linter.unusedSimpArgs false

def twoF : Forest := ⟨[⟨#[120]⟩, ⟨#[121]⟩], [0, 1], [-1, 0], [[], [0]], [[], []]⟩
def twoP : Parts := ⟨[[⟨0, 0, 0, 1⟩, ⟨1, 1, 0, 1⟩], [⟨0, 0, 0, 1⟩, ⟨1, 1, 0, 1⟩]], [[], [⟨0, 1, 0, 1⟩]]⟩
theorem rep_link (G : Hp) (x : Link) : kLink.rep G x [.int .i64 x.a, .int .i64 x.b, .int .i64 x.cost, .int .u64 x.n] := rfl
theorem sl_two {α : Type} {k : Kd α} {H : Hp} {b c st : Nat} {x y : α} {u v : Value} (hg : H.get b = .own st [u, v]) (hb : b < H.size) (h1 : k.rep H x [u]) (h2 : k.rep H y [v]) (hst : k.sz = st) : Sl k H (.slice (some ⟨b, 0, none⟩) 2 c) [x, y] :=
  Els.sl (xs := [x, y]) (cs := [u, v]) (Els.cons (c := [u]) h1 (Els.cons (c := [v]) h2 (Els.nil _ _ []))) (Hp.sees.refl _) hb hg hst
theorem sl_one1 {α : Type} {k : Kd α} {H : Hp} {b c st : Nat} {x : α} {u : Value} (hg : H.get b = .own st [u]) (hb : b < H.size) (h1 : k.rep H x [u]) (hst : k.sz = st) : Sl k H (.slice (some ⟨b, 0, none⟩) 1 c) [x] :=
  Els.sl (xs := [x]) (cs := [u]) (Els.cons (c := [u]) h1 (Els.nil _ _ [])) (Hp.sees.refl _) hb hg hst
theorem sl_link1 {H : Hp} {b c : Nat} {x : Link} (hg : H.get b = .own 4 [.int .i64 x.a, .int .i64 x.b, .int .i64 x.cost, .int .u64 x.n]) (hb : b < H.size) : Sl kLink H (.slice (some ⟨b, 0, none⟩) 1 c) [x] :=
  Els.sl (xs := [x]) (cs := _) (Els.cons (c := _) (rep_link H x) (Els.nil _ _ [])) (Hp.sees.refl _) hb hg rfl
theorem sl_link2 {H : Hp} {b c : Nat} {x y : Link} (hg : H.get b = .own 4 [.int .i64 x.a, .int .i64 x.b, .int .i64 x.cost, .int .u64 x.n, .int .i64 y.a, .int .i64 y.b, .int .i64 y.cost, .int .u64 y.n]) (hb : b < H.size) : Sl kLink H (.slice (some ⟨b, 0, none⟩) 2 c) [x, y] :=
  Els.sl (xs := [x, y]) (cs := _) (Els.cons (c := _) (rep_link H x) (Els.cons (c := _) (rep_link H y) (Els.nil _ _ []))) (Hp.sees.refl _) hb hg rfl
end Go.Proofs.Ytcaeoebphfjfiaa.Am


/- Whether two lists of rows are one; whether a forest is small. -/
namespace Go.Proofs.Ytcaeoebphfjfiaa.Am
open Go Go.RowKit
set_option maxRecDepth 100000
set_option linter.unusedVariables false
set_option linter.unusedSimpArgs false

end Go.Proofs.Ytcaeoebphfjfiaa.Am


/- The small living call of the statements on trees. -/
namespace Go.Proofs.Ytcaeoebphfjfiaa.Am
open Go Go.RowKit
set_option maxRecDepth 100000
set_option linter.unusedVariables false
set_option linter.unusedSimpArgs false

theorem New_good (f : Forest) (p : Parts) (cs ds : List Value) (H : Hp) (hp : kForest.rep H f cs) (hq : kParts.rep H p ds) (hsm : Small f p) (hch : Cheap p) (hG : GoodP f p) :
    ACalls Try.prog 11 #[.agg cs.toArray, .agg ds.toArray] H (fun r H' => H.le H' ∧ ∃ b, r = .tuple #[.pointer (some ⟨b, 0, none⟩), .int .i64 0] ∧ TreeR H' (.pointer (some ⟨b, 0, none⟩)) (treeOf f (ofP f p))) :=
  (New_tree f p cs ds H hp hq hsm fun _ => hch).mono fun r H' ⟨hle, g, v, hg, hr, hv⟩ => by
    obtain rfl : g = true := hg.2 hG
    rw [if_pos rfl] at hv
    obtain ⟨b, _, _, _, _, _, rfl, _⟩ := id hv
    exact ⟨hle, b, hr, hv⟩
def twoQ : Parts := ⟨[[⟨0, 0, 1, 1⟩, ⟨1, 1, 2, 3⟩], [⟨0, 0, 1, 1⟩, ⟨1, 1, 2, 3⟩]], [[], [⟨0, 1, 4, 2⟩]]⟩
def twoS : Parts := ⟨[[⟨0, 0, 1, 1⟩], [⟨1, 1, 2, 3⟩]], [[], [⟨0, 1, 4, 2⟩]]⟩
def twoT : TreeT := ⟨[⟨#[120]⟩, ⟨#[121]⟩], [-1, 0], [[⟨0, 0, 1, 1⟩], [⟨0, 1, 6, 6⟩]]⟩
theorem good_two29 : GoodP twoF twoQ := by
  refine ⟨⟨rfl, rfl, rfl, rfl, fun i hi => ?_⟩, rfl, rfl, fun v hv => ?_⟩
  · have hi' : i < 2 := hi
    rcases (by omega : i = 0 ∨ i = 1) with rfl | rfl <;> (unfold OkF; decide)
  · have hv' : v < 2 := hv
    rcases (by omega : v = 0 ∨ v = 1) with rfl | rfl <;> (unfold OkP; rw [goodL_iff, goodL_iff]; unfold OkL; decide)
theorem small_two29 : Small twoF twoQ := ⟨by decide, by decide, by decide, by decide, by decide, by decide, by decide⟩
theorem cheap_two29 : Cheap twoQ := by
  refine ⟨fun v => ?_, fun v => ?_⟩
  · match v with
    | 0 => decide
    | 1 => decide
    | v + 2 => intro x hx; cases hx
  · match v with
    | 0 => decide
    | 1 => decide
    | v + 2 => intro x hx; cases hx
theorem of_two29 : ofP twoF twoQ = twoS := by
  have h := good_two29
  obtain ⟨k1, k2, k3, k4⟩ := up_all h.gf twoF.order.reverse [] twoQ rfl h.lens h.nb (fun v hv => by simp at hv)
  have e1 : upP twoF twoQ = twoF.order.reverse.foldl (fun p v => upC twoF p v.toNat) twoQ := k4
  rw [← e1] at k1 k2
  have e2 : downP twoF (upP twoF twoQ) = twoF.order.foldl (fun p v => downC twoF p v.toNat) (upP twoF twoQ) := down_fold _ _ (fun v hv => by have := h.gf.order_in hv; omega) k1 (h.nb.sub k2)
  unfold ofP
  rw [e2, e1]
  rfl
theorem tree_two29 : treeOf twoF (ofP twoF twoQ) = twoT := by rw [of_two29]; rfl
theorem goodT_two29 : GoodT twoT := by
  have h := ofP_all good_two29
  have := good_tree (ofP_good good_two29) (by rw [of_two29]; exact ⟨by decide, by decide, by decide, by decide, by decide, by decide, by decide⟩) (cheap_two29.sub h.2.1) (by decide)
  rwa [tree_two29] at this
set_option maxHeartbeats 1000000 in
theorem two29_ok (H : Hp) : ACalls Try.prog 56 #[] H (fun r H' => ∃ cs ds, r = .tuple #[.agg cs.toArray, .agg ds.toArray] ∧ kForest.rep H' twoF cs ∧ kParts.rep H' twoQ ds ∧ H.le H') := by
  refine acalls_of_code Try.func56 rfl rfl rfl (by simp) ?_
  refine ac_seq ?_
  refine ac_region (by kernel_rfl) ?_
  refine aops_make (am_zero (l := [.slice none 0 0, .slice none 0 0, .slice none 0 0, .slice none 0 0, .slice none 0 0]) inf26.zero rfl (by decide)) ?_
  refine aops_make (am_zero (l := [.slice none 0 0, .slice none 0 0]) inf29.zero rfl (by decide)) ?_
  refine ac_seq ?_
  refine ac_region (by kernel_rfl) ?_
  first | refine aops_make (am_buildSlice (r := [.string _, .string _]) Try.underlying22 inf9.size inf9.zero rfl (by decide) (by decide) (by decide) rfl) ?_
  first | refine aops_make (am_buildSlice (r := [.int .i64 _, .int .i64 _]) Try.underlying23 inf3.size inf3.zero rfl (by decide) (by decide) (by decide) rfl) ?_
  first | refine aops_make (am_buildSlice (r := [.int .i64 _, .int .i64 _]) Try.underlying23 inf3.size inf3.zero rfl (by decide) (by decide) (by decide) rfl) ?_
  first | refine aops_make (am_buildSlice (r := [.int .i64 _]) Try.underlying23 inf3.size inf3.zero rfl (by decide) (by decide) (by decide) rfl) ?_
  first | refine aops_make (am_buildSlice (r := [.slice _ _ _, .slice _ _ _]) Try.underlying24 inf23.size inf23.zero rfl (by decide) (by decide) (by decide) rfl) ?_ | refine aops_make (am_buildSlice (r := [_, _]) Try.underlying24 inf23.size inf23.zero rfl (by decide) (by decide) (by decide) rfl) ?_
  first | refine aops_make (am_buildSlice (r := [.slice _ _ _, .slice _ _ _]) Try.underlying24 inf23.size inf23.zero rfl (by decide) (by decide) (by decide) rfl) ?_ | refine aops_make (am_buildSlice (r := [_, _]) Try.underlying24 inf23.size inf23.zero rfl (by decide) (by decide) (by decide) rfl) ?_
  first | refine aops_val (av_build (pl := [(0, 1), (1, 1), (2, 1), (3, 1), (4, 1)]) (r := [.slice _ _ _, .slice _ _ _, .slice _ _ _, .slice _ _ _, .slice _ _ _]) Try.underlying26 inf26.zero (by decide) rfl rfl) ?_ | refine aops_val (av_build (pl := [(0, 1), (1, 1), (2, 1), (3, 1), (4, 1)]) (r := [_, _, _, _, _]) Try.underlying26 inf26.zero (by decide) rfl rfl) ?_
  refine aops_make (am_zero (l := [.slice none 0 0, .slice none 0 0, .slice none 0 0, .slice none 0 0, .slice none 0 0]) inf26.zero rfl (by decide)) ?_
  first | refine aops_op (aop_putN (vs := [.slice _ _ _, .slice _ _ _, .slice _ _ _, .slice _ _ _, .slice _ _ _]) rfl rfl inf26.size t_get t_room rfl rfl ?_) | refine aops_op (aop_putN (vs := [_, _, _, _, _]) rfl rfl inf26.size t_get t_room rfl rfl ?_)
  refine ac_seq ?_
  refine ac_region (by kernel_rfl) ?_
  refine aops_val (av_build (pl := [(0, 1), (1, 1), (2, 1), (3, 1)]) (r := [.int .i64 _, .int .i64 _, .int .i64 _, .int .u64 _]) Try.underlying54 inf54.zero (by decide) rfl rfl) ?_
  refine aops_val (av_build (pl := [(0, 1), (1, 1), (2, 1), (3, 1)]) (r := [.int .i64 _, .int .i64 _, .int .i64 _, .int .u64 _]) Try.underlying54 inf54.zero (by decide) rfl rfl) ?_
  first | refine aops_make (am_buildSlice (r := [.int .i64 _, .int .i64 _, .int .i64 _, .int .u64 _, .int .i64 _, .int .i64 _, .int .i64 _, .int .u64 _]) Try.underlying50 inf54.size inf54.zero rfl (by decide) (by decide) (by decide) rfl) ?_
  first | refine aops_val (av_assign_sl rfl) ?_ | refine aops_val (av_assign rfl) ?_
  refine ac_seq ?_
  refine ac_region (by kernel_rfl) ?_
  first | refine aops_val (av_loadN (cs := [.slice _ _ _, .slice _ _ _, .slice _ _ _, .slice _ _ _, .slice _ _ _]) rfl Try.underlying26 rfl inf26.size t_cells) ?_ | refine aops_val (av_loadN (cs := [_, _, _, _, _]) rfl Try.underlying26 rfl inf26.size t_cells) ?_
  first | refine aops_val (av_move_sl rfl) ?_ | refine aops_val (av_move rfl) ?_
  first | refine aops_val (av_move_sl rfl) ?_ | refine aops_val (av_move rfl) ?_
  first | refine aops_make (am_buildSlice (r := [.slice _ _ _, .slice _ _ _]) Try.underlying27 inf50.size inf50.zero rfl (by decide) (by decide) (by decide) rfl) ?_ | refine aops_make (am_buildSlice (r := [_, _]) Try.underlying27 inf50.size inf50.zero rfl (by decide) (by decide) (by decide) rfl) ?_
  refine aops_val (av_build (pl := [(0, 1), (1, 1), (2, 1), (3, 1)]) (r := [.int .i64 _, .int .i64 _, .int .i64 _, .int .u64 _]) Try.underlying54 inf54.zero (by decide) rfl rfl) ?_
  first | refine aops_make (am_buildSlice (r := [.int .i64 _, .int .i64 _, .int .i64 _, .int .u64 _]) Try.underlying50 inf54.size inf54.zero rfl (by decide) (by decide) (by decide) rfl) ?_
  first | refine aops_make (am_buildSlice (r := [.slice _ _ _, .slice _ _ _]) Try.underlying27 inf50.size inf50.zero rfl (by decide) (by decide) (by decide) rfl) ?_ | refine aops_make (am_buildSlice (r := [_, _]) Try.underlying27 inf50.size inf50.zero rfl (by decide) (by decide) (by decide) rfl) ?_
  first | refine aops_val (av_build (pl := [(0, 1), (1, 1)]) (r := [.slice _ _ _, .slice _ _ _]) Try.underlying29 inf29.zero (by decide) rfl rfl) ?_ | refine aops_val (av_build (pl := [(0, 1), (1, 1)]) (r := [_, _]) Try.underlying29 inf29.zero (by decide) rfl rfl) ?_
  first | refine aops_op (aop_putN (vs := [.slice _ _ _, .slice _ _ _, .slice _ _ _, .slice _ _ _, .slice _ _ _]) rfl rfl inf26.size t_get t_room rfl rfl ?_) | refine aops_op (aop_putN (vs := [_, _, _, _, _]) rfl rfl inf26.size t_get t_room rfl rfl ?_)
  first | refine aops_op (aop_putN (vs := [.slice _ _ _, .slice _ _ _]) rfl rfl inf29.size t_get t_room rfl rfl ?_) | refine aops_op (aop_putN (vs := [_, _]) rfl rfl inf29.size t_get t_room rfl rfl ?_)
  refine ac_ret ?_
  refine ⟨_, aresult2 (ares_cell rfl (aload_agg (cs := [_, _, _, _, _]) Try.underlying26 rfl inf26.size t_cells)) (ares_cell rfl (aload_agg (cs := [_, _]) Try.underlying29 rfl inf29.size t_cells)), [_, _, _, _, _], [_, _], rfl, ⟨_, _, _, _, _, rfl, ?_, ?_, ?_, ?_, ?_⟩, ⟨_, _, rfl, ?_, ?_⟩, ?_⟩
  · exact sl_two (k := kStr) t_get (by simp) rfl rfl rfl
  · exact sl_two (k := kInt .i64) t_get (by simp) rfl rfl rfl
  · exact sl_two (k := kInt .i64) t_get (by simp) rfl rfl rfl
  · exact sl_two (k := kSl (kInt .i64)) t_get (by simp) ⟨_, rfl, Sl.nil _ _⟩ ⟨_, rfl, sl_one1 (k := kInt .i64) t_get (by simp) rfl rfl⟩ rfl
  · exact sl_two (k := kSl (kInt .i64)) t_get (by simp) ⟨_, rfl, Sl.nil _ _⟩ ⟨_, rfl, Sl.nil _ _⟩ rfl
  · exact sl_two (k := kSl kLink) t_get (by simp) ⟨_, rfl, sl_link2 (x := ⟨0, 0, 1, 1⟩) (y := ⟨1, 1, 2, 3⟩) t_get (by simp)⟩ ⟨_, rfl, sl_link2 (x := ⟨0, 0, 1, 1⟩) (y := ⟨1, 1, 2, 3⟩) t_get (by simp)⟩ rfl
  · exact sl_two (k := kSl kLink) t_get (by simp) ⟨_, rfl, Sl.nil _ _⟩ ⟨_, rfl, sl_link1 (x := ⟨0, 1, 4, 2⟩) t_get (by simp)⟩ rfl
  · exact t_le
set_option maxHeartbeats 2000000 in
theorem lives29_ok (H : Hp) : ACalls Try.prog 13 #[] H (fun r H' => r = .bool true ∧ H.le H') := by
  refine acalls_of_code Try.func13 rfl rfl rfl (by simp) ?_
  refine ac_seq ?_
  refine ac_region (by kernel_rfl) ?_
  first | refine aops_val (av_assign_bool rfl) ?_ | refine aops_val (av_assign rfl) ?_
  refine ac_seq ?_
  refine ac_region (by kernel_rfl) ?_
  refine aops_op (aop_call (two29_ok _) rfl Try.func56 rfl rfl rfl ?_)
  rintro v1 H1 ⟨cs1, ds1, rfl, hf1, hp1, hle1⟩; have hf10 := hf1; have hp10 := hp1; obtain ⟨a0, a1, a2, a3, a4, rfl, hs0, hs1, hs2, hs3, hs4⟩ := hf1; obtain ⟨A0, c0, rfl⟩ := hs0.shape; obtain ⟨A1, c1, rfl⟩ := hs1.shape; obtain ⟨A2, c2, rfl⟩ := hs2.shape; obtain ⟨A3, c3, rfl⟩ := hs3.shape; obtain ⟨A4, c4, rfl⟩ := hs4.shape; obtain ⟨u0, u1, rfl, hn0, hn1⟩ := hp1; obtain ⟨B0, d0, rfl⟩ := hn0.shape; obtain ⟨B1, d1, rfl⟩ := hn1.shape
  refine aops_val (av_move rfl) ?_
  refine aops_val (av_extract rfl rfl) ?_
  refine aops_val (av_extract rfl rfl) ?_
  refine aops_make (am_zero (l := [.slice none 0 0, .slice none 0 0, .slice none 0 0, .slice none 0 0, .slice none 0 0]) inf26.zero rfl (by decide)) ?_
  refine aops_make (am_zero (l := [.slice none 0 0, .slice none 0 0]) inf29.zero rfl (by decide)) ?_
  first | refine aops_op (aop_putN (vs := [.slice _ _ _, .slice _ _ _, .slice _ _ _, .slice _ _ _, .slice _ _ _]) rfl rfl inf26.size t_get t_room rfl rfl ?_) | refine aops_op (aop_putN (vs := [_, _, _, _, _]) rfl rfl inf26.size t_get t_room rfl rfl ?_)
  first | refine aops_op (aop_putN (vs := [.slice _ _ _, .slice _ _ _]) rfl rfl inf29.size t_get t_room rfl rfl ?_) | refine aops_op (aop_putN (vs := [_, _]) rfl rfl inf29.size t_get t_room rfl rfl ?_)
  refine ac_seq ?_
  refine ac_region (by kernel_rfl) ?_
  first | refine aops_val (av_loadN (cs := [.slice _ _ _, .slice _ _ _, .slice _ _ _, .slice _ _ _, .slice _ _ _]) rfl Try.underlying26 rfl inf26.size t_cells) ?_ | refine aops_val (av_loadN (cs := [_, _, _, _, _]) rfl Try.underlying26 rfl inf26.size t_cells) ?_
  first | refine aops_val (av_loadN (cs := [.slice _ _ _, .slice _ _ _]) rfl Try.underlying29 rfl inf29.size t_cells) ?_ | refine aops_val (av_loadN (cs := [_, _]) rfl Try.underlying29 rfl inf29.size t_cells) ?_
  refine aops_op (aop_call (New_good twoF twoQ _ _ _ (kForest.mono t_sees hf10) (kParts.mono t_sees hp10) small_two29 cheap_two29 good_two29) rfl Try.func11 rfl rfl rfl ?_)
  rintro v2 H2 ⟨hle2, tb, rfl, htr⟩; rw [tree_two29] at htr
  refine aops_val (av_move rfl) ?_
  refine aops_val (av_extract rfl rfl) ?_
  refine aops_val (av_extract rfl rfl) ?_
  first | refine aops_val (av_assign_ptr rfl) ?_ | refine aops_val (av_assign rfl) ?_
  first | refine aops_val (av_assign_int rfl) ?_ | refine aops_val (av_assign rfl) ?_
  refine ac_seq ?_
  have hz1 := hle1.1
  have leH2 : H.le H2 := Hp.le_trans t_le hle2
  clear hle2
  have htr3 := htr.mono (H2.le_push (.own 1 [.int .i64 0, .int .i64 1]))
  have hsl3 : Sl (kInt .i64) (H2.push (.own 1 [.int .i64 0, .int .i64 1])) (.slice (some ⟨H2.size, 0, none⟩) 2 2) [0, 1] := sl_two (k := kInt .i64) t_get (by simp) rfl rfl rfl
  refine ac_region (by kernel_rfl) ?_
  first | refine aops_val (av_move_ptr rfl) ?_ | refine aops_val (av_move rfl) ?_
  first | refine aops_make (am_buildSlice (r := [.int .i64 _, .int .i64 _]) Try.underlying23 inf3.size inf3.zero rfl (by decide) (by decide) (by decide) rfl) ?_
  refine aops_op (aop_call (Row_tree htr3 goodT_two29 (u := .slice (some ⟨H2.size, 0, none⟩) 2 2) hsl3 (by decide)) rfl Try.func16 rfl rfl rfl ?_)
  rintro v3 H3 ⟨hle3, w, hr3⟩; rw [if_pos (by decide)] at hr3; rw [show rowAcc twoT [0, 1] twoT.vars.length = some (7, 6) from rfl] at hr3; obtain ⟨rfl, hw3⟩ := hr3; obtain ⟨Aw, cw, rfl⟩ := hw3.shape; have leH3 : H.le H3 := Hp.le_trans (Hp.le_push' leH2 _) hle3; have htr4 := htr3.mono hle3
  refine aops_val (av_move rfl) ?_
  refine aops_val (av_extract rfl rfl) ?_
  refine aops_val (av_extract rfl rfl) ?_
  refine aops_make (am_zero (l := [.slice none 0 0, .int .i64 0, .int .u64 0]) inf44.zero rfl (by decide)) ?_
  first | refine aops_op (aop_putN (vs := [.slice _ _ _, .int .i64 _, .int .u64 _]) rfl rfl inf44.size t_get t_room rfl rfl ?_) | refine aops_op (aop_putN (vs := [_, .int .i64 _, .int .u64 _]) rfl rfl inf44.size t_get t_room rfl rfl ?_)
  first | refine aops_val (av_assign_bool rfl) ?_ | refine aops_val (av_assign rfl) ?_
  refine ac_seq ?_
  obtain ⟨H4, hH4⟩ : ∃ H4, H4 = (H3.push (.own 0 [.slice none 0 0, .int .i64 0, .int .u64 0])).put H3.size (.own 0 [.slice Aw ([0, 1] : List Int).length cw, .int .i64 7, .int .u64 6]) := ⟨_, rfl⟩
  have le34 : H3.le H4 := by rw [hH4]; exact Hp.le_put_new (H3.le_push _) (Nat.le_refl _) _
  have g4 : H4.get H3.size = .own 0 [.slice Aw ([0, 1] : List Int).length cw, .int .i64 7, .int .u64 6] := by rw [hH4]; exact Hp.put_same _ _ _
  have htr5 := htr4.mono le34
  change ACode true _ _ _ _ _ ((H3.push (.own 0 [.slice none 0 0, .int .i64 0, .int .u64 0])).put H3.size (.own 0 [.slice Aw ([0, 1] : List Int).length cw, .int .i64 7, .int .u64 6]))
  rw [← hH4]
  clear hH4
  refine ac_region (by kernel_rfl) ?_
  first | refine aops_val (av_move_int rfl) ?_ | refine aops_val (av_move rfl) ?_
  refine aops_val (av_eq rfl rfl) ?_
  first | refine aops_val (av_move_bool rfl) ?_ | refine aops_val (av_move rfl) ?_
  refine aops_guard rfl rfl rfl ?_ ?_
  · intro hg1
    have hp1 := hg1; try simp only [decide_eq_true_eq, decide_eq_false_iff_not, Bool.not_eq_true', Bool.not_eq_false'] at hp1
    first | refine aops_wval (want_yes rfl rfl rfl hg1) (av_move_bool rfl) ?_ | refine aops_wval (want_yes rfl rfl rfl hg1) (av_move rfl) ?_
    refine aops_val (av_pick_bool (congrArg Value.bool hg1) rfl) ?_
    first | refine aops_val (av_move_bool rfl) ?_ | refine aops_val (av_move rfl) ?_
    refine aops_guard rfl rfl rfl ?_ ?_
    · intro hg2
      have hp2 := hg2; try simp only [decide_eq_true_eq, decide_eq_false_iff_not, Bool.not_eq_true', Bool.not_eq_false'] at hp2
      refine aops_wval (want_yes rfl rfl rfl hg2) (av_fieldOff (off := 1) rfl Try.underlying44 rfl inf3.size (by decide) rfl) ?_
      refine aops_wval (want_yes rfl rfl rfl hg2) (av_load1 rfl Try.underlying3 rfl t_cell) ?_
      refine aops_wval (want_yes rfl rfl rfl hg2) (av_eq rfl rfl) ?_
      refine aops_val (av_pick_bool (congrArg Value.bool hg2) rfl) ?_
      first | refine aops_val (av_move_bool rfl) ?_ | refine aops_val (av_move rfl) ?_
      refine aops_guard rfl rfl rfl ?_ ?_
      · intro hg3
        have hp3 := hg3; try simp only [decide_eq_true_eq, decide_eq_false_iff_not, Bool.not_eq_true', Bool.not_eq_false'] at hp3
        refine aops_wval (want_yes rfl rfl rfl hg3) (av_fieldOff (off := 2) rfl Try.underlying44 rfl inf42.size (by decide) rfl) ?_
        refine aops_wval (want_yes rfl rfl rfl hg3) (av_load1 rfl Try.underlying42 rfl t_cell) ?_
        refine aops_wval (want_yes rfl rfl rfl hg3) (av_eq rfl rfl) ?_
        refine aops_val (av_pick_bool (congrArg Value.bool hg3) rfl) ?_
        first | refine aops_val (av_move_bool rfl) ?_ | refine aops_val (av_move rfl) ?_
        refine aops_guard rfl rfl rfl ?_ ?_
        · intro hg4
          have hp4 := hg4; try simp only [decide_eq_true_eq, decide_eq_false_iff_not, Bool.not_eq_true', Bool.not_eq_false'] at hp4
          first | refine aops_wval (want_yes rfl rfl rfl hg4) (av_move_ptr rfl) ?_ | refine aops_wval (want_yes rfl rfl rfl hg4) (av_move rfl) ?_
          refine aops_want (want_yes rfl rfl rfl hg4) (aop_call (Len_tree htr5) rfl Try.func21 rfl rfl rfl ?_)
          rintro v5 H4 ⟨rfl, rfl⟩
          refine aops_wval (want_yes rfl rfl rfl hg4) (av_eq rfl rfl) ?_
          refine aops_val (av_pick_bool (congrArg Value.bool hg4) rfl) ?_
          first | refine aops_val (av_move_bool rfl) ?_ | refine aops_val (av_move rfl) ?_
          refine aops_guard rfl rfl rfl ?_ ?_
          · intro hg5
            have hp5 := hg5; try simp only [decide_eq_true_eq, decide_eq_false_iff_not, Bool.not_eq_true', Bool.not_eq_false'] at hp5
            first | refine aops_wval (want_yes rfl rfl rfl hg5) (av_move_ptr rfl) ?_ | refine aops_wval (want_yes rfl rfl rfl hg5) (av_move rfl) ?_
            refine aops_want (want_yes rfl rfl rfl hg5) (aop_call (Parent_tree htr5 (by decide) 1) rfl Try.func20 rfl rfl rfl ?_)
            rintro v6 H4 ⟨rfl, rfl⟩
            refine aops_wval (want_yes rfl rfl rfl hg5) (av_eq rfl rfl) ?_
            refine aops_val (av_pick_bool (congrArg Value.bool hg5) rfl) ?_
            first | refine aops_val (av_assign_bool rfl) ?_ | refine aops_val (av_assign rfl) ?_
            refine ac_ret ?_
            exact ⟨.bool true, aresult1 (ares_tmp rfl), rfl, Hp.le_trans leH3 le34⟩
          · intro hg5
            exact absurd hg5 (by decide)
        · intro hg4
          exact absurd hg4 (by decide)
      · intro hg3
        exact absurd hg3 (by decide)
    · intro hg2
      exact absurd hg2 (by decide)
  · intro hg1
    exact absurd hg1 (by decide)
theorem small29_forest (f : Forest) (cs : List Value) (H : Hp) (hp : kForest.rep H f cs) : ACalls Try.prog 14 #[.agg cs.toArray] H (fun r H' => r = .bool (decide (f.vars.length < 6)) ∧ H' = H) := by
  refine ACalls.pure (R := fun r => r = .bool (decide (f.vars.length < 6))) (fun v h => by rw [h]; rfl) ?_
  obtain ⟨v0, v1, v2, v3, v4, rfl, hs0, hs1, hs2, hs3, hs4⟩ := kForest.mono H.sees_ro hp
  obtain ⟨A0, c0, rfl⟩ := hs0.shape
  obtain ⟨A1, c1, rfl⟩ := hs1.shape
  obtain ⟨A2, c2, rfl⟩ := hs2.shape
  obtain ⟨A3, c3, rfl⟩ := hs3.shape
  obtain ⟨A4, c4, rfl⟩ := hs4.shape
  refine acalls_of_code Try.func14 rfl rfl rfl (by simp) ?_
  refine ac_seq ?_
  refine ac_region (by kernel_rfl) ?_
  refine aops_make (am_box_agg rfl) ?_
  first | refine aops_val (av_assign_bool rfl) ?_ | refine aops_val (av_assign rfl) ?_
  refine ac_seq ?_
  refine ac_region (by kernel_rfl) ?_
  refine aops_val (av_fieldOff (off := 0) rfl Try.underlying26 rfl inf22.size (by decide) rfl) ?_
  refine aops_val (av_load1 rfl Try.underlying22 rfl t_cell) ?_
  refine aops_val (av_len rfl Try.underlying22) ?_
  refine aops_val (av_lt rfl rfl) ?_
  first | refine aops_val (av_assign_bool rfl) ?_ | refine aops_val (av_assign rfl) ?_
  refine ac_ret ?_
  refine ⟨.bool (decide ((f.vars.length : Int) < 6)), aresult1 (ares_tmp rfl), ?_⟩
  congr 1
  exact decide_eq_decide.2 (by omega)
end Go.Proofs.Ytcaeoebphfjfiaa.Am


/- Whether two lists of numbers are one; what a tree tells of nodes. -/
namespace Go.Proofs.Ytcaeoebphfjfiaa.Am
open Go Go.RowKit
set_option maxRecDepth 100000
set_option linter.unusedVariables false
set_option linter.unusedSimpArgs false

theorem SameI_raw (xs ys : List Int) (v u : Value) (H : Hp) (hs : Sl (kInt .i64) H v xs) (hu : Sl (kInt .i64) H u ys) (hl : xs.length ≤ 1000000000) :
    ACalls Try.prog 18 #[v, u] H (fun r _ => r = .bool (decide (xs = ys))) := by
  obtain ⟨A, c, rfl⟩ := hs.shape
  obtain ⟨B, c2, rfl⟩ := hu.shape
  refine acalls_of_code Try.func18 rfl rfl rfl (by simp) ?_
  refine ac_seq ?_
  refine ac_region (by kernel_rfl) ?_
  first | refine aops_val (av_assign_bool rfl) ?_ | refine aops_val (av_assign rfl) ?_
  refine ac_seq ?_
  refine ac_seq ?_
  refine ac_region (by kernel_rfl) ?_
  first | refine aops_val (av_move_sl rfl) ?_ | refine aops_val (av_move rfl) ?_
  refine aops_val (av_len rfl Try.underlying23) ?_
  first | refine aops_val (av_move_sl rfl) ?_ | refine aops_val (av_move rfl) ?_
  refine aops_val (av_len rfl Try.underlying23) ?_
  refine aops_val (av_ne rfl rfl) ?_
  refine ac_split rfl rfl ?_ ?_
  · intro hc1
    have hne : xs.length ≠ ys.length := by have := of_decide_eq_true hc1; omega
    refine ac_seq ?_
    refine ac_region (by kernel_rfl) ?_
    first | refine aops_val (av_assign_bool rfl) ?_ | refine aops_val (av_assign rfl) ?_
    refine ac_ret ?_
    exact ⟨.bool false, aresult1 (ares_tmp rfl), by rw [decide_eq_false (fun h => hne (by rw [h]))]⟩
  · intro hc1
    have hlen : xs.length = ys.length := by have := of_decide_eq_false hc1; omega
    refine ac_skip ?_
    refine ac_seq ?_
    refine ac_seq ?_
    refine ac_region (by kernel_rfl) ?_
    first | refine aops_val (av_assign_int rfl) ?_ | refine aops_val (av_assign rfl) ?_
    refine ac_block ?_
    refine ac_loop (fun n t H' => ∃ (i : Nat), i ≤ xs.length ∧ n = xs.length - i ∧ H' = H ∧ xs.take i = ys.take i ∧ t 0 = .slice A xs.length c ∧ t 1 = .slice B ys.length c2 ∧ t 5 = .int .i64 i) (xs.length) (⟨0, by omega, rfl, rfl, by simp, rfl, rfl, rfl⟩) ?_
    rintro n t H ⟨i, hi, rfl, rfl, hsame, e0, e1, e5⟩
    refine ac_seq ?_
    refine ac_seq ?_
    refine ac_region (by kernel_rfl) ?_
    first | refine aops_val (av_move_int (by first | assumption | rfl)) ?_ | refine aops_val (av_move (by first | assumption | rfl)) ?_
    first | refine aops_val (av_move_sl (by first | assumption | rfl)) ?_ | refine aops_val (av_move (by first | assumption | rfl)) ?_
    refine aops_val (av_len rfl Try.underlying23) ?_
    refine aops_val (av_lt rfl rfl) ?_
    refine ac_split rfl rfl ?_ ?_
    · intro hc2
      (try simp only [decide_eq_true_eq, decide_eq_false_iff_not, Bool.not_eq_true', Bool.not_eq_false'] at hc2)
      refine ac_skip ?_
      refine ac_seq ?_
      refine ac_block ?_
      refine ac_seq ?_
      have hix : i < xs.length := by omega
      obtain ⟨b, o, e6, hb, hcell⟩ := hs.int_at (i := (i : Int)) (by omega) (by omega)
      obtain ⟨b2, o2, e7, hb2, hcell2⟩ := hu.int_at (i := (i : Int)) (by omega) (by omega)
      subst e6 e7
      rw [Int.toNat_natCast, getD_at hix] at hcell
      rw [Int.toNat_natCast, getD_at (show i < ys.length by omega)] at hcell2
      refine ac_draw (by kernel_rfl) (reg_of (B := [0, 0, 3, 7, 0, 0, 48, 112, 255]) (π := [0, 1, 2, 3, 4, 5, 6, 7, 8]) (by kernel_rfl)) ?_
      first | refine adr_val rfl rfl (av_move_sl (by first | assumption | rfl)) t_lt ?_ | refine adr_val rfl rfl (av_move (by first | assumption | rfl)) t_lt ?_
      first | refine adr_val rfl rfl (av_move_int (by first | assumption | rfl)) t_lt ?_ | refine adr_val rfl rfl (av_move (by first | assumption | rfl)) t_lt ?_
      refine adr_val rfl rfl (av_indexAddr rfl rfl Try.underlying23 inf3.size t_idx t_idx) t_lt ?_
      refine adr_val rfl rfl (av_load1 rfl Try.underlying3 rfl t_cell) t_lt ?_
      first | refine adr_val rfl rfl (av_move_sl (by first | assumption | rfl)) t_lt ?_ | refine adr_val rfl rfl (av_move (by first | assumption | rfl)) t_lt ?_
      first | refine adr_val rfl rfl (av_move_int (by first | assumption | rfl)) t_lt ?_ | refine adr_val rfl rfl (av_move (by first | assumption | rfl)) t_lt ?_
      refine adr_val rfl rfl (av_indexAddr rfl rfl Try.underlying23 inf3.size t_idx t_idx) t_lt ?_
      refine adr_val rfl rfl (av_load1 rfl Try.underlying3 rfl t_cell) t_lt ?_
      refine adr_val rfl rfl (av_ne rfl rfl) t_lt ?_
      refine ac_split rfl rfl ?_ ?_
      · intro hc3
        have hne : xs[i] ≠ ys[i]'(by omega) := of_decide_eq_true hc3
        refine ac_seq ?_
        refine ac_region (by kernel_rfl) ?_
        first | refine aops_val (av_assign_bool rfl) ?_ | refine aops_val (av_assign rfl) ?_
        refine ac_ret ?_
        exact ⟨.bool false, aresult1 (ares_tmp rfl), by rw [decide_eq_false (fun h => hne (by subst h; rfl))]⟩
      · intro hc3
        have heq : xs[i] = ys[i]'(by omega) := Decidable.not_not.1 (of_decide_eq_false hc3)
        refine ac_skip ?_
        refine ac_region (by kernel_rfl) ?_
        first | refine aops_val (av_move_int (by first | assumption | rfl)) ?_ | refine aops_val (av_move (by first | assumption | rfl)) ?_
        first | refine aops_val (av_add64 rfl rfl t_fits) ?_ | refine aops_val (av_add rfl rfl) ?_
        first | refine aops_val (av_assign_int rfl) ?_ | refine aops_val (av_assign rfl) ?_
        exact ⟨xs.length - (i + 1), by omega, i + 1, by omega, rfl, rfl, by rw [← take_next hix, ← take_next (show i < ys.length by omega), hsame, heq], e0, e1, rfl⟩
    · intro hc2
      (try simp only [decide_eq_true_eq, decide_eq_false_iff_not, Bool.not_eq_true', Bool.not_eq_false'] at hc2)
      refine ac_exit ?_
      refine ac_seq ?_
      refine ac_region (by kernel_rfl) ?_
      first | refine aops_val (av_assign_bool rfl) ?_ | refine aops_val (av_assign rfl) ?_
      refine ac_ret ?_
      rw [List.take_of_length_le (by omega), List.take_of_length_le (by omega)] at hsame
      exact ⟨.bool true, aresult1 (ares_tmp rfl), by rw [decide_eq_true hsame]⟩
theorem SameI_ints (xs ys : List Int) (v u : Value) (H : Hp) (hs : Sl (kInt .i64) H v xs) (hu : Sl (kInt .i64) H u ys) (hl : xs.length ≤ 1000000000) :
    ACalls Try.prog 18 #[v, u] H (fun r H' => r = .bool (decide (xs = ys)) ∧ H' = H) :=
  ACalls.pure (fun v h => by rw [h]; rfl) (SameI_raw xs ys v u H.ro (hs.mono H.sees_ro) (hu.mono H.sees_ro) hl)
/-- Whether nodes are a row. -/
theorem Row_good {f : Forest} {p : Parts} (hG : GoodP f p) (hT : GoodT (treeOf f (ofP f p))) {v u : Value} {ns : List Int} {H : Hp} (ht : TreeR H v (treeOf f (ofP f p))) (hs : Sl (kInt .i64) H u ns) (hl : ns.length ≤ 1000000) :
    ACalls Try.prog 16 #[v, u] H (fun r H' => H.le H' ∧ ∃ (A : Option Addr) (n c : Nat) (cost m : Int) (ok : Bool), r = .tuple #[.agg #[.slice A n c, .int .i64 cost, .int .u64 m], .bool ok] ∧
      ((ok = true ∧ ∃ i : Nat, findRow (rowsP f p) ns = i ∧ ∃ hi : i < (rowsP f p).length, (rowsP f p)[i].nodes = ns ∧ cost = (rowsP f p)[i].cost ∧ m = (rowsP f p)[i].n ∧ n = ns.length ∧ Sl (kInt .i64) H' (.slice A ns.length c) ns) ∨
        (ok = false ∧ findRow (rowsP f p) ns = -1 ∧ A = none ∧ n = 0 ∧ c = 0 ∧ cost = 0 ∧ m = 0))) :=
  (Row_tree ht hT hs hl).mono fun r H' ⟨hle, w, hr⟩ => by
    refine ⟨hle, ?_⟩
    have hall := acc_all hG (ns := ns)
    have hlen : (treeOf f (ofP f p)).vars.length = f.vars.length := (treeOf_len _).1.trans hG.gf.l1
    rw [hlen] at hr
    have no : ∀ x : Value, x = .tuple #[.agg #[.slice none 0 0, .int .i64 0, .int .u64 0], .bool false] → findRow (rowsP f p) ns = -1 → ∃ (A : Option Addr) (n c : Nat) (cost m : Int) (ok : Bool), x = .tuple #[.agg #[.slice A n c, .int .i64 cost, .int .u64 m], .bool ok] ∧
      ((ok = true ∧ ∃ i : Nat, findRow (rowsP f p) ns = i ∧ ∃ hi : i < (rowsP f p).length, (rowsP f p)[i].nodes = ns ∧ cost = (rowsP f p)[i].cost ∧ m = (rowsP f p)[i].n ∧ n = ns.length ∧ Sl (kInt .i64) H' (.slice A ns.length c) ns) ∨
        (ok = false ∧ findRow (rowsP f p) ns = -1 ∧ A = none ∧ n = 0 ∧ c = 0 ∧ cost = 0 ∧ m = 0)) := fun x hx h => ⟨none, 0, 0, 0, 0, false, hx, .inr ⟨rfl, h, rfl, rfl, rfl, rfl, rfl⟩⟩
    rcases findRow_cases (rowsP f p) ns with ⟨h1, h2⟩ | ⟨i, h1, hi, h2⟩
    · rw [h1, if_neg (show ¬ (0 : Int) ≤ -1 by decide)] at hall
      split at hr
      · rename_i hl2
        rw [if_pos hl2] at hall
        rw [hall] at hr
        exact no r hr h1
      · exact no r hr h1
    · rw [h1, if_pos (show (0 : Int) ≤ (i : Int) by omega), Int.toNat_natCast, List.getD_eq_getElem?_getD, List.getElem?_eq_getElem hi] at hall
      split at hr
      · rename_i hl2
        rw [if_pos hl2] at hall
        rw [hall] at hr
        obtain ⟨rfl, hw⟩ := hr
        obtain ⟨A, c, rfl⟩ := hw.shape
        exact ⟨A, ns.length, c, _, _, true, rfl, .inl ⟨rfl, i, h1, hi, h2, rfl, rfl, rfl, hw⟩⟩
      · rename_i hl2
        rw [if_neg hl2] at hall
        cases hall
end Go.Proofs.Ytcaeoebphfjfiaa.Am


/- The small living call of the statements on reducing. -/
namespace Go.Proofs.Ytcaeoebphfjfiaa.Am
open Go Go.RowKit
set_option maxRecDepth 100000
set_option linter.unusedVariables false
set_option linter.unusedSimpArgs false

def twoR : Parts := ⟨[[⟨0, 0, 0, 1⟩], [⟨1, 1, 0, 1⟩]], [[], [⟨0, 1, 0, 1⟩]]⟩
end Go.Proofs.Ytcaeoebphfjfiaa.Am


/- Forests of few variables: cut once is cut twice; the statements' own words. -/
namespace Go.Proofs.Ytcaeoebphfjfiaa.Am
open Go Go.RowKit
set_option maxRecDepth 100000
set_option linter.unusedVariables false
set_option linter.unusedSimpArgs false

structure BigF (f : Forest) : Prop where
  l0 : f.vars.length ≤ 9223372036854775807
  l1 : f.order.length ≤ 9223372036854775807
  l2 : f.parent.length ≤ 9223372036854775807
  l3 : f.links.length ≤ 9223372036854775807
  l4 : f.loops.length ≤ 9223372036854775807
  s3 : ∀ l ∈ f.links, l.length ≤ 9223372036854775807
  s4 : ∀ l ∈ f.loops, l.length ≤ 9223372036854775807
structure BigP (p : Parts) : Prop where
  l0 : p.nodes.length ≤ 9223372036854775807
  l1 : p.links.length ≤ 9223372036854775807
  s0 : ∀ l ∈ p.nodes, l.length ≤ 9223372036854775807
  s1 : ∀ l ∈ p.links, l.length ≤ 9223372036854775807
theorem Forest_28 (f : Forest) (cs : List Value) (H : Hp) (hp : kForest.rep H f cs) (hb : BigF f) :
    ACalls Try.prog 8 #[.agg cs.toArray] H (fun r H' => H.le H' ∧ ∃ ds, r = .agg ds.toArray ∧ kForest.rep H' f.few ds) := by
  have hp0 := hp
  obtain ⟨v0, v1, v2, v3, v4, rfl, hs0, hs1, hs2, hs3, hs4⟩ := hp
  obtain ⟨A0, c0, rfl⟩ := hs0.shape
  obtain ⟨A1, c1, rfl⟩ := hs1.shape
  obtain ⟨A2, c2, rfl⟩ := hs2.shape
  obtain ⟨A3, c3, rfl⟩ := hs3.shape
  obtain ⟨A4, c4, rfl⟩ := hs4.shape
  refine acalls_of_code Try.func8 rfl rfl rfl (by simp) ?_
  refine ac_seq ?_
  refine ac_region (by kernel_rfl) ?_
  refine aops_make (am_box_agg rfl) ?_
  refine aops_make (am_zero (l := [.slice none 0 0, .slice none 0 0, .slice none 0 0, .slice none 0 0, .slice none 0 0]) inf26.zero rfl (by decide)) ?_
  refine ac_seq ?_
  refine ac_region (by kernel_rfl) ?_
  first | refine aops_val (av_loadN (cs := [.slice _ _ _, .slice _ _ _, .slice _ _ _, .slice _ _ _, .slice _ _ _]) rfl Try.underlying26 rfl inf26.size t_cells) ?_ | refine aops_val (av_loadN (cs := [_, _, _, _, _]) rfl Try.underlying26 rfl inf26.size t_cells) ?_
  refine aops_op (aop_call (Few_forest f _ _ (kForest.mono t_sees hp0) hb.l0 hb.l1 hb.l2 hb.l3 hb.l4 hb.s3 hb.s4) rfl Try.func47 rfl rfl rfl ?_)
  rintro v2 H2 ⟨hle2, ds, rfl, hds⟩; have hds0 := hds; obtain ⟨a0, a1, a2, a3, a4, rfl, ht0, ht1, ht2, ht3, ht4⟩ := hds; obtain ⟨B0, d0, rfl⟩ := ht0.shape; obtain ⟨B1, d1, rfl⟩ := ht1.shape; obtain ⟨B2, d2, rfl⟩ := ht2.shape; obtain ⟨B3, d3, rfl⟩ := ht3.shape; obtain ⟨B4, d4, rfl⟩ := ht4.shape; have hz2 := hle2.1; simp only [Hp.push_size] at hz2
  first | refine aops_op (aop_putN (vs := [.slice _ _ _, .slice _ _ _, .slice _ _ _, .slice _ _ _, .slice _ _ _]) rfl rfl inf26.size t_get t_room rfl rfl ?_) | refine aops_op (aop_putN (vs := [_, _, _, _, _]) rfl rfl inf26.size t_get t_room rfl rfl ?_)
  refine ac_ret ?_
  have k1 : H2.get (H.size + 1) = .own 0 [.slice none 0 0, .slice none 0 0, .slice none 0 0, .slice none 0 0, .slice none 0 0] := le_got hle2 (by simp) (by intro e; cases e) t_get
  exact ⟨_, aresult1 (ares_cell (by first | assumption | rfl) (aload_agg (cs := [_, _, _, _, _]) Try.underlying26 rfl inf26.size t_cells)), Hp.le_put_new (Hp.le_trans (Hp.le_push' (H.le_push _) _) hle2) (by simp <;> omega) _, [_, _, _, _, _], rfl, kForest.mono (Hp.sees_box _ k1) hds0⟩
theorem small_few (f : Forest) (p : Parts) : Small f.few p.few4 := by
  have h8 : ∀ {α : Type} (xs : List α), (xs.take 8).length ≤ 8 := fun xs => by rw [List.length_take]; omega
  refine ⟨?_, ?_, ?_, ?_, ?_, fun l hl => ?_, fun l hl => ?_⟩
  · show ((f.vars.take 8).map _).length ≤ _; rw [List.length_map]; have := h8 f.vars; omega
  · show (f.order.take 8).length ≤ _; have := h8 f.order; omega
  · show (f.parent.take 8).length ≤ _; have := h8 f.parent; omega
  · show (((p.nodes.take 8).map fewL).map _).length ≤ _; rw [List.length_map, List.length_map]; have := h8 p.nodes; omega
  · show ((p.links.take 8).map fewL).length ≤ _; rw [List.length_map]; have := h8 p.links; omega
  · obtain ⟨m, _, rfl⟩ := List.mem_map.1 hl
    rw [List.length_take]; omega
  · obtain ⟨m, _, rfl⟩ := List.mem_map.1 hl
    unfold fewL; rw [List.length_map, List.length_take]; omega
theorem Link.few_few (x : Link) : x.few.few = x.few := by
  unfold Link.few
  by_cases h : 1000000000 < x.cost
  · rw [if_pos h]; simp
  · rw [if_neg h, if_neg h]
theorem fewL_le (xs : List Link) : (fewL xs).length ≤ 25 := by unfold fewL; rw [List.length_map, List.length_take]; omega
theorem fewL_take (m : Nat) (xs : List Link) : fewL ((fewL xs).take m) = (fewL xs).take m := by
  have h : (fewL xs).map Link.few = fewL xs := by
    unfold fewL
    rw [List.map_map, show Link.few ∘ Link.few = Link.few from funext Link.few_few]
  show (((fewL xs).take m).take 25).map Link.few = _
  rw [List.take_of_length_le (by rw [List.length_take]; have := fewL_le xs; omega), List.map_take, h]
theorem fewL_idem (xs : List Link) : fewL (fewL xs) = fewL xs := by
  have := fewL_take (fewL xs).length xs
  rwa [List.take_length] at this
theorem few4_few4 (p : Parts) : p.few4.few4 = p.few4 := by
  unfold Parts.few4 Parts.few
  simp only [List.map_map, ← List.map_take, List.take_take, Nat.min_self]
  congr 1
  · refine List.map_congr_left fun l _ => ?_
    simp only [Function.comp]
    rw [fewL_take, List.take_take, Nat.min_self]
  · exact List.map_congr_left fun l _ => fewL_idem l
theorem cutS_idem (s : ByteArray) : cutS (cutS s 32) 32 = cutS s 32 := by
  unfold cutS
  by_cases h : 32 < s.size
  · rw [if_pos h, if_neg (by rw [ByteArray.size_extract]; omega)]
  · rw [if_neg h, if_neg h]
theorem ffew_ffew (f : Forest) : f.few.few = f.few := by
  unfold Forest.few
  simp only [← List.map_take, List.take_take, Nat.min_self, List.map_map]
  congr 1
  · exact List.map_congr_left fun s _ => cutS_idem s
  · exact List.map_congr_left fun l _ => by simp [List.take_take]
  · exact List.map_congr_left fun l _ => by simp [List.take_take]
theorem bigF_few (f : Forest) : BigF f.few := by
  have h := (small_few f ⟨[], []⟩)
  have h8 : ∀ {α : Type} (xs : List α), (xs.take 8).length ≤ 8 := fun xs => by rw [List.length_take]; omega
  refine ⟨by have := h.s0; omega, by have := h.s1; omega, by have := h.s2; omega, ?_, ?_, fun l hl => ?_, fun l hl => ?_⟩
  · show ((f.links.take 8).map _).length ≤ _; rw [List.length_map]; have := h8 f.links; omega
  · show ((f.loops.take 8).map _).length ≤ _; rw [List.length_map]; have := h8 f.loops; omega
  · obtain ⟨m, _, rfl⟩ := List.mem_map.1 hl; rw [List.length_take]; omega
  · obtain ⟨m, _, rfl⟩ := List.mem_map.1 hl; rw [List.length_take]; omega
theorem bigP_few (p : Parts) : BigP p.few4 := by
  have h := (small_few ⟨[], [], [], [], []⟩ p)
  exact ⟨by have := h.s3; omega, by have := h.s4; omega, fun l hl => by have := h.s5 l hl; omega, fun l hl => by have := h.s6 l hl; omega⟩
end Go.Proofs.Ytcaeoebphfjfiaa.Am


/- The statement ReduceTwice, as the abstract machine runs it. -/
namespace Go.Proofs.Ytcaeoebphfjfiaa.Am
open Go Go.RowKit
set_option maxRecDepth 100000
set_option linter.unusedVariables false
set_option linter.unusedSimpArgs false

theorem small_sub {f : Forest} {p q : Parts} (h : Small f p) (hl : Lens f.vars.length q) (hs : Sub q p) : Small f q :=
  ⟨h.s0, h.s1, h.s2, by rw [hl.1]; exact h.s0, by rw [hl.2]; exact h.s0, fun l hm => by
    obtain ⟨i, hi, rfl⟩ := List.getElem_of_mem hm
    have k1 := (hs i).1.length_le
    unfold nd at k1
    rw [getD_list hi] at k1
    exact Nat.le_trans k1 (getD_len h.s5 i), fun l hm => by
    obtain ⟨i, hi, rfl⟩ := List.getElem_of_mem hm
    have k1 := (hs i).2.length_le
    unfold lk at k1
    rw [getD_list hi] at k1
    exact Nat.le_trans k1 (getD_len h.s6 i)⟩
end Go.Proofs.Ytcaeoebphfjfiaa.Am


/- The document's Up and Down. -/
namespace Go.Proofs.Ytcaeoebphfjfiaa.Am
open Go Go.RowKit
set_option maxRecDepth 100000
set_option linter.unusedVariables false
set_option linter.unusedSimpArgs false

def upR (f : Forest) (p : Parts) (k : Nat) : Parts := (f.order.reverse.take k).foldl (fun p v => upC f p v.toNat) p
def downR (f : Forest) (p : Parts) (k : Nat) : Parts := (f.order.take k).foldl (fun p v => downC f p v.toNat) p
end Go.Proofs.Ytcaeoebphfjfiaa.Am


/- The statement ReduceHalves, as the abstract machine runs it. -/
namespace Go.Proofs.Ytcaeoebphfjfiaa.Am
open Go Go.RowKit
set_option maxRecDepth 100000
set_option linter.unusedVariables false
set_option linter.unusedSimpArgs false

end Go.Proofs.Ytcaeoebphfjfiaa.Am


/- How many nodes and links; whether nothing is left. -/
namespace Go.Proofs.Ytcaeoebphfjfiaa.Am
open Go Go.RowKit
set_option maxRecDepth 100000
set_option linter.unusedVariables false
set_option linter.unusedSimpArgs false

def sizeP (p : Parts) : Nat := ((p.nodes ++ p.links).map List.length).sum
end Go.Proofs.Ytcaeoebphfjfiaa.Am


/- The statement ReduceRows, as the abstract machine runs it. -/
namespace Go.Proofs.Ytcaeoebphfjfiaa.Am
open Go Go.RowKit
set_option maxRecDepth 100000
set_option linter.unusedVariables false
set_option linter.unusedSimpArgs false

theorem few_cost (x : Link) : x.few.cost ≤ 1000000000 := by
  unfold Link.few
  by_cases h : 1000000000 < x.cost
  · rw [if_pos h]; simp
  · rw [if_neg h]; omega
theorem fewL_cost {xs : List Link} {x : Link} (h : x ∈ fewL xs) : x.cost ≤ 1000000000 := by
  unfold fewL at h
  obtain ⟨y, _, rfl⟩ := List.mem_map.1 h
  exact few_cost y
theorem tiny_few {f : Forest} {p : Parts} (hg : GoodP f.few p.few4) (hs : f.few.vars.length < 6) : Tiny f.few p.few4 := by
  have getn : ∀ v, ∀ x ∈ nd p.few4 v, v < f.few.vars.length := fun v x hx => by
    rcases Nat.lt_or_ge v f.few.vars.length with h | h
    · exact h
    · unfold nd at hx
      rw [List.getD_eq_getElem?_getD, List.getElem?_eq_none (by have := hg.n1; omega)] at hx; simp at hx
  have getl : ∀ v, ∀ x ∈ lk p.few4 v, v < f.few.vars.length := fun v x hx => by
    rcases Nat.lt_or_ge v f.few.vars.length with h | h
    · exact h
    · unfold lk at hx
      rw [List.getD_eq_getElem?_getD, List.getElem?_eq_none (by have := hg.n2; omega)] at hx; simp at hx
  refine ⟨by omega, fun v => ?_, fun v x hx => ?_, fun v x hx => ?_⟩
  · unfold nd
    by_cases h : v < p.few4.nodes.length
    · rw [getD_list h]
      obtain ⟨l, _, e⟩ := List.mem_map.1 (show p.few4.nodes[v] ∈ (p.few.nodes.map (·.take 4)) from List.getElem_mem h)
      rw [← e, List.length_take]; omega
    · rw [List.getD_eq_getElem?_getD, List.getElem?_eq_none (by omega)]; simp
  · have hv := getn v x hx
    obtain ⟨k1, _⟩ := goodL_iff.1 (hg.ok v hv).1
    obtain ⟨a1, a2, a3, a4, a5, a6, a7⟩ := k1 x hx
    refine ⟨a5, ?_, by omega, a7⟩
    have h : v < p.few4.nodes.length := by rw [hg.n1]; exact hv
    unfold nd at hx
    rw [getD_list h] at hx
    obtain ⟨l, hl, e⟩ := List.mem_map.1 (show p.few4.nodes[v] ∈ (p.few.nodes.map (·.take 4)) from List.getElem_mem h)
    rw [← e] at hx
    obtain ⟨l2, _, rfl⟩ := List.mem_map.1 hl
    exact fewL_cost (List.mem_of_mem_take hx)
  · have hv := getl v x hx
    obtain ⟨k1, _⟩ := goodL_iff.1 (hg.ok v hv).2.1
    obtain ⟨a1, a2, a3, a4, a5, a6, a7⟩ := k1 x hx
    refine ⟨a5, ?_, by omega, a7⟩
    have h : v < p.few4.links.length := by rw [hg.n2]; exact hv
    unfold lk at hx
    rw [getD_list h] at hx
    obtain ⟨l, hl, e⟩ := List.mem_map.1 (show p.few4.links[v] ∈ ((p.links.take 8).map fewL) from List.getElem_mem h)
    rw [← e] at hx
    exact fewL_cost hx
theorem Tiny.sub {f : Forest} {p q : Parts} (h : Tiny f p) (hs : Sub q p) : Tiny f q :=
  ⟨h.vars, fun v => Nat.le_trans (hs v).1.length_le (h.nodes v), fun v x hx => h.costN v x ((hs v).1.subset hx), fun v x hx => h.costL v x ((hs v).2.subset hx)⟩
end Go.Proofs.Ytcaeoebphfjfiaa.Am
