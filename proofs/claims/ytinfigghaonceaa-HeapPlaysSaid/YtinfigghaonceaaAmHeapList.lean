/- All that is in a heap, and whether what is told is an item of a list. -/
import Derived.Test.YtinfigghaonceaaAmHeapSorts
import Derived.Test.YtinfigghaonceaaAmSortI
namespace Go.Proofs.Ytinfigghaonceaa.Am
open Go Go.RowKit
set_option linter.unusedVariables false
set_option linter.unusedSimpArgs false

/-- The heap, where all else has grown. -/
theorem HeapP.grown {G H H' : Hp} {v : Value} {xs : List Item} (h : HeapP G H v xs) (hle : H.le H') : ∃ G', G.le G' ∧ HeapP G' H' v xs := by
  obtain ⟨hb, s, rfl, h1, h2, h3⟩ := h
  have hsz := h3.size
  simp only [Hp.put_size] at hsz
  have hz := hle.1
  have gb : H.get hb = .own 0 [s] := le_got h3.le (by simpa using h1) (by intro e; cases e) (Hp.put_same _ _ _)
  have gb' : H'.get hb = .own 0 [s] := le_got hle (by omega) (by intro e; cases e) gb
  rcases h3 with ⟨rfl, rfl, e⟩ | ⟨b, cs, c, rfl, hb3, hd, rfl, hcap, he⟩
  · refine ⟨H'.put hb .dead, ⟨by simp; omega, fun i hi hne => ?_⟩, hb, _, rfl, by simp; omega, Hp.put_same _ _ _, .inl ⟨rfl, rfl, by rw [Hp.put_put, Hp.put_self _ gb']⟩⟩
    have hne2 : i ≠ hb := fun e => by subst e; exact hne h2
    rw [Hp.put_other _ _ hne2, hle.2 i (by omega) (by rw [e, Hp.put_other _ _ hne2]; exact hne), e, Hp.put_other _ _ hne2]
  · have hne : b ≠ hb := fun e => by subst e; rw [Hp.put_same] at hd; cases hd
    simp only [Hp.put_size] at hb3
    rw [Hp.put_other _ _ hne] at hd
    have gk : H'.get b = .own kItem.sz cs := by
      rw [hle.2 b (by simp; omega) (by rw [Hp.put_same]; intro e; cases e), Hp.put_same]
    have hG : G.le ((H'.put b .dead).put hb .dead) := ⟨by simp at hz ⊢; omega, fun i hi hn => by
      have n1 : i ≠ hb := fun e => by subst e; exact hn h2
      have n2 : i ≠ b := fun e => by subst e; exact hn hd
      have := hle.2 i (by simp; omega) (by rw [Hp.put_other _ _ n2, Hp.put_other _ _ n1]; exact hn)
      rw [Hp.put_other _ _ n1, Hp.put_other _ _ n2, this, Hp.put_other _ _ n2, Hp.put_other _ _ n1]⟩
    refine ⟨(H'.put b .dead).put hb .dead, hG, hb, _, rfl, by simp; omega, Hp.put_same _ _ _, .inr ⟨b, cs, c, rfl, by simp; omega, ?_, ?_, hcap, he.mono (Hp.le_put_both hG _ _).sees⟩⟩
    · rw [Hp.put_put, Hp.put_other _ _ hne, Hp.put_same]
    · rw [Hp.put_put, ← Hp.put_comm _ hne, Hp.put_put, Hp.put_comm _ hne, Hp.put_self _ gb', Hp.put_self _ gk]
theorem List_heap {G H : Hp} {v : Value} {xs : List Item} (h : HeapP G H v xs) (hx : Good xs) (hl : xs.length ≤ 1000000) (hn : ∀ x ∈ xs, x.nodes.length ≤ 1000000000) :
    ACalls Try.prog 22 #[v] H (fun r H' => H.le H' ∧ ∃ ys, ys.Perm xs ∧ Sorted ys ∧ Sl kItem H' r ys) := by
  obtain ⟨hb, s, Gb, rfl, rfl, hbs, hg, ho⟩ := h.out
  have hs := ho.sl
  have hzo := ho.size
  obtain ⟨A, c, rfl⟩ := hs.shape
  have hgH : H.get hb = .own 0 [.slice A xs.length c] := le_got ho.le hbs (by intro e; cases e) hg
  refine acalls_of_code Try.func22 rfl rfl rfl (by simp) ?_
  refine ac_seq ?_
  refine ac_region (by kernel_rfl) ?_
  first | refine aops_val (av_assign_sl rfl) ?_ | refine aops_val (av_assign rfl) ?_
  refine ac_seq ?_
  refine ac_region (by kernel_rfl) ?_
  first | refine aops_val (av_assign_sl rfl) ?_ | refine aops_val (av_assign rfl) ?_
  refine ac_seq ?_
  refine ac_seq ?_
  refine ac_region (by kernel_rfl) ?_
  first | refine aops_val (av_move_ptr rfl) ?_ | refine aops_val (av_move rfl) ?_
  refine aops_val (av_ptr_eq_nil rfl (by (intro a h; first | (injection h with h; subst h; rfl) | cases h)) rfl Try.underlying32) ?_
  refine ac_split rfl rfl ?_ ?_
  · intro hc1
    cases hc1
  · intro hc1
    (try simp only [decide_eq_true_eq, decide_eq_false_iff_not, Bool.not_eq_true', Bool.not_eq_false'] at hc1)
    refine ac_skip ?_
    refine ac_seq ?_
    refine ac_seq ?_
    refine ac_region (by kernel_rfl) ?_
    first | refine aops_val (av_move_ptr rfl) ?_ | refine aops_val (av_move rfl) ?_
    refine aops_val (av_nilCheck rfl) ?_
    refine aops_val (av_fieldOff (off := 0) rfl Try.underlying50 rfl inf25.size (by decide) rfl) ?_
    refine aops_val (av_load1 rfl Try.underlying25 rfl (by (first | assumption | exact (cell_own (by (repeat (first | assumption | exact Hp.push_new _ _ | exact Hp.put_same _ _ _ | refine (Hp.push_old _ _ (by (first | assumption | (simp; done) | (simp; omega) | omega))).trans ?_ | refine (Hp.put_other _ _ (by (first | assumption | omega | (simp; done) | (simp; omega)))).trans ?_ | refine le_got (by assumption) (by (first | assumption | (simp; done) | (simp; omega) | omega)) (by intro e; cases e) ?_)))).trans rfl | exact Hp.cell_le (by assumption) (by (repeat (first | assumption | exact Hp.le_refl _ | refine Hp.le_put_new ?_ (by (first | assumption | (simp; done) | (simp; omega) | omega)) _ | refine Hp.le_push' ?_ _ | refine Hp.le_trans ?_ (by assumption)))) (by (first | assumption | (simp; done) | (simp; omega) | omega))))) ?_
    refine aops_val (av_len rfl Try.underlying25) ?_
    first | refine aops_val (av_move_int rfl) ?_ | refine aops_val (av_move rfl) ?_
    refine ac_block ?_
    refine ac_loop (fun n t H' => ∃ (i : Nat) (K : Hp) (B : Option Addr) (c5 : Nat), i ≤ xs.length ∧ n = xs.length - i ∧ H.le K ∧ OwnP kItem K H' (.slice B i c5) (xs.take i) ∧ t 3 = .slice B i c5 ∧ t 11 = .slice A xs.length c ∧ t 12 = .int .i64 xs.length ∧ t 13 = .int .i64 i) (_) (⟨0, H, none, 0, by omega, rfl, Hp.le_refl _, OwnP.nil _ _, rfl, rfl, rfl, rfl⟩) ?_
    rintro n t H1 ⟨i, K, B, c5, hi, rfl, hle, hown, e3, e11, e12, e13⟩
    have hz := hown.size
    refine ac_seq ?_
    refine ac_region (by kernel_rfl) ?_
    refine aops_val (av_lt (by first | assumption | rfl) (by first | assumption | rfl)) ?_
    refine ac_seq ?_
    refine ac_split rfl rfl ?_ ?_
    · intro hc2
      (try simp only [decide_eq_true_eq, decide_eq_false_iff_not, Bool.not_eq_true', Bool.not_eq_false'] at hc2)
      refine ac_skip ?_
      refine ac_seq ?_
      refine ac_block ?_
      refine ac_seq ?_
      refine ac_region (by kernel_rfl) ?_
      have hix : i < xs.length := by omega
      obtain ⟨b, o, cs, rfl, hbb, hr, hcell0⟩ := (hs.mono hle.sees).elem_at hix
      obtain ⟨u, rfl, hu⟩ := hr
      obtain ⟨A6, c6, rfl⟩ := hu.shape
      have hcells := hown.le.cells hbb hcell0
      refine aops_val (av_indexAddr (by first | assumption | rfl) (by first | assumption | rfl) Try.underlying25 inf24.size (by (first | assumption | omega | (simp only [Int.toNat_natCast] at *; omega))) (by (first | assumption | omega | (simp only [Int.toNat_natCast] at *; omega)))) ?_
      first | refine aops_val (av_loadN (cs := [.int .i64 _, .slice _ _ _, .int .i64 _, .int .i64 _]) rfl Try.underlying24 rfl inf24.size (by (first | assumption | exact cells_get (by (repeat (first | assumption | exact Hp.push_new _ _ | exact Hp.put_same _ _ _ | refine (Hp.push_old _ _ (by (first | assumption | (simp; done) | (simp; omega) | omega))).trans ?_ | refine (Hp.put_other _ _ (by (first | assumption | omega | (simp; done) | (simp; omega)))).trans ?_ | refine le_got (by assumption) (by (first | assumption | (simp; done) | (simp; omega) | omega)) (by intro e; cases e) ?_))) rfl | exact Cells.le (by assumption) (by (repeat (first | assumption | exact Hp.le_refl _ | refine Hp.le_put_new ?_ (by (first | assumption | (simp; done) | (simp; omega) | omega)) _ | refine Hp.le_push' ?_ _ | refine Hp.le_trans ?_ (by assumption)))) (by (first | assumption | (simp; done) | (simp; omega) | omega))))) ?_ | refine aops_val (av_loadN (cs := [.int .i64 _, _, .int .i64 _, .int .i64 _]) rfl Try.underlying24 rfl inf24.size (by (first | assumption | exact cells_get (by (repeat (first | assumption | exact Hp.push_new _ _ | exact Hp.put_same _ _ _ | refine (Hp.push_old _ _ (by (first | assumption | (simp; done) | (simp; omega) | omega))).trans ?_ | refine (Hp.put_other _ _ (by (first | assumption | omega | (simp; done) | (simp; omega)))).trans ?_ | refine le_got (by assumption) (by (first | assumption | (simp; done) | (simp; omega) | omega)) (by intro e; cases e) ?_))) rfl | exact Cells.le (by assumption) (by (repeat (first | assumption | exact Hp.le_refl _ | refine Hp.le_put_new ?_ (by (first | assumption | (simp; done) | (simp; omega) | omega)) _ | refine Hp.le_push' ?_ _ | refine Hp.le_trans ?_ (by assumption)))) (by (first | assumption | (simp; done) | (simp; omega) | omega))))) ?_
      refine aops_make (am_zero (l := [.int .i64 0, .slice none 0 0, .int .i64 0, .int .i64 0]) inf24.zero rfl (by decide)) ?_
      first | refine aops_op (aop_putN (vs := [.int .i64 _, .slice _ _ _, .int .i64 _, .int .i64 _]) rfl rfl inf24.size (by (repeat (first | assumption | exact Hp.push_new _ _ | exact Hp.put_same _ _ _ | refine (Hp.push_old _ _ (by (first | assumption | (simp; done) | (simp; omega) | omega))).trans ?_ | refine (Hp.put_other _ _ (by (first | assumption | omega | (simp; done) | (simp; omega)))).trans ?_ | refine le_got (by assumption) (by (first | assumption | (simp; done) | (simp; omega) | omega)) (by intro e; cases e) ?_))) (by (first | (simp; done) | (simp; omega) | omega | (rw [setR_length (by first | (simp; omega) | omega)]; first | (simp; omega) | omega))) rfl rfl ?_) | refine aops_op (aop_putN (vs := [.int .i64 _, _, .int .i64 _, .int .i64 _]) rfl rfl inf24.size (by (repeat (first | assumption | exact Hp.push_new _ _ | exact Hp.put_same _ _ _ | refine (Hp.push_old _ _ (by (first | assumption | (simp; done) | (simp; omega) | omega))).trans ?_ | refine (Hp.put_other _ _ (by (first | assumption | omega | (simp; done) | (simp; omega)))).trans ?_ | refine le_got (by assumption) (by (first | assumption | (simp; done) | (simp; omega) | omega)) (by intro e; cases e) ?_))) (by (first | (simp; done) | (simp; omega) | omega | (rw [setR_length (by first | (simp; omega) | omega)]; first | (simp; omega) | omega))) rfl rfl ?_)
      refine ac_region (by kernel_rfl) ?_
      first | refine aops_val (av_move_sl (by first | assumption | rfl)) ?_ | refine aops_val (av_move (by first | assumption | rfl)) ?_
      first | refine aops_val (av_loadN (cs := [.int .i64 _, .slice _ _ _, .int .i64 _, .int .i64 _]) rfl Try.underlying24 rfl inf24.size (by (first | assumption | exact cells_get (by (repeat (first | assumption | exact Hp.push_new _ _ | exact Hp.put_same _ _ _ | refine (Hp.push_old _ _ (by (first | assumption | (simp; done) | (simp; omega) | omega))).trans ?_ | refine (Hp.put_other _ _ (by (first | assumption | omega | (simp; done) | (simp; omega)))).trans ?_ | refine le_got (by assumption) (by (first | assumption | (simp; done) | (simp; omega) | omega)) (by intro e; cases e) ?_))) rfl | exact Cells.le (by assumption) (by (repeat (first | assumption | exact Hp.le_refl _ | refine Hp.le_put_new ?_ (by (first | assumption | (simp; done) | (simp; omega) | omega)) _ | refine Hp.le_push' ?_ _ | refine Hp.le_trans ?_ (by assumption)))) (by (first | assumption | (simp; done) | (simp; omega) | omega))))) ?_ | refine aops_val (av_loadN (cs := [.int .i64 _, _, .int .i64 _, .int .i64 _]) rfl Try.underlying24 rfl inf24.size (by (first | assumption | exact cells_get (by (repeat (first | assumption | exact Hp.push_new _ _ | exact Hp.put_same _ _ _ | refine (Hp.push_old _ _ (by (first | assumption | (simp; done) | (simp; omega) | omega))).trans ?_ | refine (Hp.put_other _ _ (by (first | assumption | omega | (simp; done) | (simp; omega)))).trans ?_ | refine le_got (by assumption) (by (first | assumption | (simp; done) | (simp; omega) | omega)) (by intro e; cases e) ?_))) rfl | exact Cells.le (by assumption) (by (repeat (first | assumption | exact Hp.le_refl _ | refine Hp.le_put_new ?_ (by (first | assumption | (simp; done) | (simp; omega) | omega)) _ | refine Hp.le_push' ?_ _ | refine Hp.le_trans ?_ (by assumption)))) (by (first | assumption | (simp; done) | (simp; omega) | omega))))) ?_
      refine aops_op (aop_call ((hown.boxed _ _).calls (own_item xs[i] _ _ ⟨_, rfl, hu.mono (by (repeat (first | assumption | exact Hp.sees.refl _ | refine Hp.sees_put_new ?_ (by (first | assumption | (simp; done) | (simp; omega) | omega)) _ | refine Hp.sees.push ?_ _ | refine Hp.sees.trans ?_ (by assumption) | refine Hp.sees.trans ?_ (Hp.le.sees (by assumption)) | refine Hp.sees.box ?_ (by (repeat (first | assumption | exact Hp.push_new _ _ | exact Hp.put_same _ _ _ | refine (Hp.push_old _ _ (by (first | assumption | (simp; done) | (simp; omega) | omega))).trans ?_ | refine (Hp.put_other _ _ (by (first | assumption | omega | (simp; done) | (simp; omega)))).trans ?_ | refine le_got (by assumption) (by (first | assumption | (simp; done) | (simp; omega) | omega)) (by intro e; cases e) ?_))))))⟩ (hn _ (List.getElem_mem hix))) (fun _ _ h => h.1)) rfl Try.func28 rfl rfl rfl ?_)
      rintro v5 H5 ⟨G5, ⟨hle5, ds, rfl, u5, rfl, hu5⟩, hown5, hleH5⟩; have hz5 := hleH5.1; simp only [Hp.push_size, Hp.put_size] at hz5
      first | refine aops_make (am_buildSlice (r := [.int .i64 _, .slice _ _ _, .int .i64 _, .int .i64 _]) Try.underlying25 inf24.size inf24.zero rfl (by decide) (by decide) (by decide) rfl) ?_ | refine aops_make (am_buildSlice (r := [.int .i64 _, _, .int .i64 _, .int .i64 _]) Try.underlying25 inf24.size inf24.zero rfl (by decide) (by decide) (by decide) rfl) ?_
      have hlen : (xs.take i).length = i := by rw [List.length_take]; omega
      refine aops_op (OwnP.append (ys := [xs[i]]) (hown5.push _) Try.underlying25 inf24 rfl rfl rfl (sl_one (k := kItem) ⟨_, rfl, hu5⟩ rfl hown5.size rfl) (by simp; omega) (by simp; omega) ?_)
      rintro v6 G6 H6 hle6 hown6
      obtain ⟨B', c', e6⟩ := hown6.shape
      rw [List.length_append, hlen, List.length_singleton] at e6
      subst e6
      first | refine aops_val (av_assign_sl rfl) ?_ | refine aops_val (av_assign rfl) ?_
      refine ac_region (by kernel_rfl) ?_
      first | refine aops_val (av_add64 (by first | assumption | rfl) (by first | assumption | rfl) (by (first | assumption | omega | (simp; omega)))) ?_ | refine aops_val (av_add (by first | assumption | rfl) (by first | assumption | rfl)) ?_
      first | refine aops_val (av_move_int rfl) ?_ | refine aops_val (av_move rfl) ?_
      rw [take_next hix] at hown6
      have hle7 : H.le G6 := Hp.le_trans (Hp.le_push' (Hp.le_trans (Hp.le_put_new (Hp.le_push' hle _) (by have := hle.1; omega) _) hle5) _) hle6
      exact ⟨xs.length - (i + 1), by omega, i + 1, G6, B', c', by omega, rfl, hle7, hown6, rfl, e11, e12, rfl⟩
    · intro hc2
      (try simp only [decide_eq_true_eq, decide_eq_false_iff_not, Bool.not_eq_true', Bool.not_eq_false'] at hc2)
      refine ac_exit ?_
      refine ac_seq ?_
      have hfull : xs.take i = xs := List.take_of_length_le (by omega)
      rw [hfull] at hown
      refine ac_region (by kernel_rfl) ?_
      first | refine aops_val (av_move_sl (by first | assumption | rfl)) ?_ | refine aops_val (av_move (by first | assumption | rfl)) ?_
      refine aops_op (aop_call (SortFunc_items hown hx (by omega)) rfl Try.func31 rfl rfl rfl ?_)
      rintro v8 H8 ⟨rfl, ys, hp8, hs8, hown8⟩
      refine ac_seq ?_
      refine ac_region (by kernel_rfl) ?_
      first | refine aops_val (av_move_sl (by first | assumption | rfl)) ?_ | refine aops_val (av_move (by first | assumption | rfl)) ?_
      first | refine aops_val (av_assign_sl rfl) ?_ | refine aops_val (av_assign rfl) ?_
      refine ac_ret ?_
      refine ⟨.slice B i c5, aresult1 (ares_tmp rfl), Hp.le_trans hle hown8.le, ys, hp8, hs8, hown8.sl⟩
/-- Whether what is told is the first of a list. -/
def sameF (x : Item) (ok : Bool) (l : List Item) : Bool := if l.length = 0 then (!ok && decide (cmpItem x dItem = 0)) else (ok && decide (cmpItem x (l.getD 0 dItem) = 0))
theorem same_raw (x : Item) (u v : Value) (ok : Bool) (l : List Item) (H : Hp) (hu : Sl (kInt .i64) H u x.nodes) (hs : Sl kItem H v l) (hg : x.nodes.length < 9223372036854775807) (hx : Good l) (hl : l.length < 9223372036854775807) :
    ACalls Try.prog 20 #[.agg #[.int .i64 x.cost, u, .int .i64 x.place, .int .i64 x.rank], .bool ok, v] H (fun r _ => r = .bool (sameF x ok l)) := by
  obtain ⟨A, c, rfl⟩ := hs.shape
  obtain ⟨A2, c2, rfl⟩ := hu.shape
  refine acalls_of_code Try.func20 rfl rfl rfl (by simp) ?_
  refine ac_seq ?_
  refine ac_region (by kernel_rfl) ?_
  refine aops_make (am_box_agg rfl) ?_
  first | refine aops_val (av_assign_bool rfl) ?_ | refine aops_val (av_assign rfl) ?_
  refine ac_seq ?_
  refine ac_seq ?_
  refine ac_region (by kernel_rfl) ?_
  first | refine aops_val (av_move_sl rfl) ?_ | refine aops_val (av_move rfl) ?_
  refine aops_val (av_len rfl Try.underlying25) ?_
  refine aops_val (av_eq rfl rfl) ?_
  refine ac_split rfl rfl ?_ ?_
  · intro hc1
    have h0 : l.length = 0 := by simpa using hc1
    refine ac_seq ?_
    refine ac_region (by kernel_rfl) ?_
    first | refine aops_val (av_move_bool rfl) ?_ | refine aops_val (av_move rfl) ?_
    refine aops_val (av_not rfl) ?_
    first | refine aops_val (av_move_bool rfl) ?_ | refine aops_val (av_move rfl) ?_
    refine aops_guard rfl rfl rfl ?_ ?_
    · intro hg2
      have hp2 := hg2; try simp only [decide_eq_true_eq, decide_eq_false_iff_not, Bool.not_eq_true', Bool.not_eq_false'] at hp2
      first | refine aops_wval (want_yes rfl rfl rfl hg2) (av_loadN (cs := [.int .i64 _, .slice _ _ _, .int .i64 _, .int .i64 _]) rfl Try.underlying24 rfl inf24.size (by (first | assumption | exact cells_get (by (repeat (first | assumption | exact Hp.push_new _ _ | exact Hp.put_same _ _ _ | refine (Hp.push_old _ _ (by (first | assumption | (simp; done) | (simp; omega) | omega))).trans ?_ | refine (Hp.put_other _ _ (by (first | assumption | omega | (simp; done) | (simp; omega)))).trans ?_ | refine le_got (by assumption) (by (first | assumption | (simp; done) | (simp; omega) | omega)) (by intro e; cases e) ?_))) rfl | exact Cells.le (by assumption) (by (repeat (first | assumption | exact Hp.le_refl _ | refine Hp.le_put_new ?_ (by (first | assumption | (simp; done) | (simp; omega) | omega)) _ | refine Hp.le_push' ?_ _ | refine Hp.le_trans ?_ (by assumption)))) (by (first | assumption | (simp; done) | (simp; omega) | omega))))) ?_ | refine aops_wval (want_yes rfl rfl rfl hg2) (av_loadN (cs := [.int .i64 _, _, .int .i64 _, .int .i64 _]) rfl Try.underlying24 rfl inf24.size (by (first | assumption | exact cells_get (by (repeat (first | assumption | exact Hp.push_new _ _ | exact Hp.put_same _ _ _ | refine (Hp.push_old _ _ (by (first | assumption | (simp; done) | (simp; omega) | omega))).trans ?_ | refine (Hp.put_other _ _ (by (first | assumption | omega | (simp; done) | (simp; omega)))).trans ?_ | refine le_got (by assumption) (by (first | assumption | (simp; done) | (simp; omega) | omega)) (by intro e; cases e) ?_))) rfl | exact Cells.le (by assumption) (by (repeat (first | assumption | exact Hp.le_refl _ | refine Hp.le_put_new ?_ (by (first | assumption | (simp; done) | (simp; omega) | omega)) _ | refine Hp.le_push' ?_ _ | refine Hp.le_trans ?_ (by assumption)))) (by (first | assumption | (simp; done) | (simp; omega) | omega))))) ?_
      first | refine aops_wval (want_yes rfl rfl rfl hg2) (av_build (pl := [(0, 1), (1, 1), (2, 1), (3, 1)]) (r := [.int .i64 _, .slice _ _ _, .int .i64 _, .int .i64 _]) Try.underlying24 inf24.zero (by decide) rfl rfl) ?_ | refine aops_wval (want_yes rfl rfl rfl hg2) (av_build (pl := [(0, 1), (1, 1), (2, 1), (3, 1)]) (r := [.int .i64 _, _, .int .i64 _, .int .i64 _]) Try.underlying24 inf24.zero (by decide) rfl rfl) ?_
      refine aops_want (want_yes rfl rfl rfl hg2) (aop_call (refOrder_item x dItem _ _ _ ⟨_, rfl, hu.mono (by (repeat (first | assumption | exact Hp.sees.refl _ | refine Hp.sees_put_new ?_ (by (first | assumption | (simp; done) | (simp; omega) | omega)) _ | refine Hp.sees.push ?_ _ | refine Hp.sees.trans ?_ (by assumption) | refine Hp.sees.trans ?_ (Hp.le.sees (by assumption)) | refine Hp.sees.box ?_ (by (repeat (first | assumption | exact Hp.push_new _ _ | exact Hp.put_same _ _ _ | refine (Hp.push_old _ _ (by (first | assumption | (simp; done) | (simp; omega) | omega))).trans ?_ | refine (Hp.put_other _ _ (by (first | assumption | omega | (simp; done) | (simp; omega)))).trans ?_ | refine le_got (by assumption) (by (first | assumption | (simp; done) | (simp; omega) | omega)) (by intro e; cases e) ?_))))))⟩ (rep_c 0 _) hg (by decide)) rfl Try.func11 rfl rfl rfl ?_)
      rintro v H ⟨rfl, rfl⟩
      refine aops_wval (want_yes rfl rfl rfl hg2) (av_eq rfl rfl) ?_
      refine aops_val (av_pick_bool (congrArg Value.bool hg2) rfl) ?_
      first | refine aops_val (av_assign_bool rfl) ?_ | refine aops_val (av_assign rfl) ?_
      refine ac_ret ?_
      refine ⟨_, aresult1 (ares_tmp rfl), ?_⟩
      have : ok = false := by simpa using hg2
      rw [sameF, if_pos h0, this]; rfl
    · intro hg2
      have hp2 := hg2; try simp only [decide_eq_true_eq, decide_eq_false_iff_not, Bool.not_eq_true', Bool.not_eq_false'] at hp2
      refine aops_skip (want_no rfl rfl rfl hg2 rfl) ?_
      refine aops_skip (want_no rfl rfl rfl hg2 rfl) ?_
      refine aops_skip (want_no rfl rfl rfl hg2 rfl) ?_
      refine aops_skip (want_no rfl rfl rfl hg2 rfl) ?_
      refine aops_val (av_pick_bool (congrArg Value.bool hg2) rfl) ?_
      first | refine aops_val (av_assign_bool rfl) ?_ | refine aops_val (av_assign rfl) ?_
      refine ac_ret ?_
      refine ⟨_, aresult1 (ares_tmp rfl), ?_⟩
      have : ok = true := by simpa using hg2
      rw [sameF, if_pos h0, this]; rfl
  · intro hc1
    have h0 : ¬ l.length = 0 := by simpa using hc1
    refine ac_skip ?_
    refine ac_seq ?_
    refine ac_draw (by kernel_rfl) (reg_of (B := [0, 1, 3, 3, 11, 27, 63, 127, 255, 511]) (π := [0, 1, 2, 3, 4, 5, 6, 7, 8, 9]) (by kernel_rfl)) ?_
    first | refine adr_val rfl rfl (av_move_bool rfl) (by (simp only [List.not_mem_nil, List.mem_singleton, false_implies, forall_eq, implies_true, Hp.put_size, Hp.push_size]; try omega)) ?_ | refine adr_val rfl rfl (av_move rfl) (by (simp only [List.not_mem_nil, List.mem_singleton, false_implies, forall_eq, implies_true, Hp.put_size, Hp.push_size]; try omega)) ?_
    first | refine adr_val rfl rfl (av_move_bool rfl) (by (simp only [List.not_mem_nil, List.mem_singleton, false_implies, forall_eq, implies_true, Hp.put_size, Hp.push_size]; try omega)) ?_ | refine adr_val rfl rfl (av_move rfl) (by (simp only [List.not_mem_nil, List.mem_singleton, false_implies, forall_eq, implies_true, Hp.put_size, Hp.push_size]; try omega)) ?_
    refine adr_guard rfl rfl rfl rfl ?_ ?_
    · intro hg3
      have hp3 := hg3; try simp only [decide_eq_true_eq, decide_eq_false_iff_not, Bool.not_eq_true', Bool.not_eq_false'] at hp3
      first | refine adr_wval rfl (want_yes rfl rfl rfl hg3) rfl (av_loadN (cs := [.int .i64 _, .slice _ _ _, .int .i64 _, .int .i64 _]) rfl Try.underlying24 rfl inf24.size (by (first | assumption | exact cells_get (by (repeat (first | assumption | exact Hp.push_new _ _ | exact Hp.put_same _ _ _ | refine (Hp.push_old _ _ (by (first | assumption | (simp; done) | (simp; omega) | omega))).trans ?_ | refine (Hp.put_other _ _ (by (first | assumption | omega | (simp; done) | (simp; omega)))).trans ?_ | refine le_got (by assumption) (by (first | assumption | (simp; done) | (simp; omega) | omega)) (by intro e; cases e) ?_))) rfl | exact Cells.le (by assumption) (by (repeat (first | assumption | exact Hp.le_refl _ | refine Hp.le_put_new ?_ (by (first | assumption | (simp; done) | (simp; omega) | omega)) _ | refine Hp.le_push' ?_ _ | refine Hp.le_trans ?_ (by assumption)))) (by (first | assumption | (simp; done) | (simp; omega) | omega))))) (by (simp only [List.not_mem_nil, List.mem_singleton, false_implies, forall_eq, implies_true, Hp.put_size, Hp.push_size]; try omega)) ?_ | refine adr_wval rfl (want_yes rfl rfl rfl hg3) rfl (av_loadN (cs := [.int .i64 _, _, .int .i64 _, .int .i64 _]) rfl Try.underlying24 rfl inf24.size (by (first | assumption | exact cells_get (by (repeat (first | assumption | exact Hp.push_new _ _ | exact Hp.put_same _ _ _ | refine (Hp.push_old _ _ (by (first | assumption | (simp; done) | (simp; omega) | omega))).trans ?_ | refine (Hp.put_other _ _ (by (first | assumption | omega | (simp; done) | (simp; omega)))).trans ?_ | refine le_got (by assumption) (by (first | assumption | (simp; done) | (simp; omega) | omega)) (by intro e; cases e) ?_))) rfl | exact Cells.le (by assumption) (by (repeat (first | assumption | exact Hp.le_refl _ | refine Hp.le_put_new ?_ (by (first | assumption | (simp; done) | (simp; omega) | omega)) _ | refine Hp.le_push' ?_ _ | refine Hp.le_trans ?_ (by assumption)))) (by (first | assumption | (simp; done) | (simp; omega) | omega))))) (by (simp only [List.not_mem_nil, List.mem_singleton, false_implies, forall_eq, implies_true, Hp.put_size, Hp.push_size]; try omega)) ?_
      first | refine adr_wval rfl (want_yes rfl rfl rfl hg3) rfl (av_move_sl rfl) (by (simp only [List.not_mem_nil, List.mem_singleton, false_implies, forall_eq, implies_true, Hp.put_size, Hp.push_size]; try omega)) ?_ | refine adr_wval rfl (want_yes rfl rfl rfl hg3) rfl (av_move rfl) (by (simp only [List.not_mem_nil, List.mem_singleton, false_implies, forall_eq, implies_true, Hp.put_size, Hp.push_size]; try omega)) ?_
      obtain ⟨b, o, ds, rfl, hb, ⟨w1, rfl, hw1⟩, hcells⟩ := hs.elem_at (i := 0) (by omega)
      obtain ⟨A6, c6, rfl⟩ := hw1.shape
      refine adr_wval rfl (want_yes rfl rfl rfl hg3) rfl (av_indexAddr rfl rfl Try.underlying25 inf24.size (by (first | assumption | omega | (simp only [Int.toNat_natCast] at *; omega))) (by (first | assumption | omega | (simp only [Int.toNat_natCast] at *; omega)))) (by (simp only [List.not_mem_nil, List.mem_singleton, false_implies, forall_eq, implies_true, Hp.put_size, Hp.push_size]; try omega)) ?_
      first | refine adr_wval rfl (want_yes rfl rfl rfl hg3) rfl (av_loadN (cs := [.int .i64 _, .slice _ _ _, .int .i64 _, .int .i64 _]) rfl Try.underlying24 rfl inf24.size (by (first | assumption | exact cells_get (by (repeat (first | assumption | exact Hp.push_new _ _ | exact Hp.put_same _ _ _ | refine (Hp.push_old _ _ (by (first | assumption | (simp; done) | (simp; omega) | omega))).trans ?_ | refine (Hp.put_other _ _ (by (first | assumption | omega | (simp; done) | (simp; omega)))).trans ?_ | refine le_got (by assumption) (by (first | assumption | (simp; done) | (simp; omega) | omega)) (by intro e; cases e) ?_))) rfl | exact Cells.le (by assumption) (by (repeat (first | assumption | exact Hp.le_refl _ | refine Hp.le_put_new ?_ (by (first | assumption | (simp; done) | (simp; omega) | omega)) _ | refine Hp.le_push' ?_ _ | refine Hp.le_trans ?_ (by assumption)))) (by (first | assumption | (simp; done) | (simp; omega) | omega))))) (by (simp only [List.not_mem_nil, List.mem_singleton, false_implies, forall_eq, implies_true, Hp.put_size, Hp.push_size]; try omega)) ?_ | refine adr_wval rfl (want_yes rfl rfl rfl hg3) rfl (av_loadN (cs := [.int .i64 _, _, .int .i64 _, .int .i64 _]) rfl Try.underlying24 rfl inf24.size (by (first | assumption | exact cells_get (by (repeat (first | assumption | exact Hp.push_new _ _ | exact Hp.put_same _ _ _ | refine (Hp.push_old _ _ (by (first | assumption | (simp; done) | (simp; omega) | omega))).trans ?_ | refine (Hp.put_other _ _ (by (first | assumption | omega | (simp; done) | (simp; omega)))).trans ?_ | refine le_got (by assumption) (by (first | assumption | (simp; done) | (simp; omega) | omega)) (by intro e; cases e) ?_))) rfl | exact Cells.le (by assumption) (by (repeat (first | assumption | exact Hp.le_refl _ | refine Hp.le_put_new ?_ (by (first | assumption | (simp; done) | (simp; omega) | omega)) _ | refine Hp.le_push' ?_ _ | refine Hp.le_trans ?_ (by assumption)))) (by (first | assumption | (simp; done) | (simp; omega) | omega))))) (by (simp only [List.not_mem_nil, List.mem_singleton, false_implies, forall_eq, implies_true, Hp.put_size, Hp.push_size]; try omega)) ?_
      refine adr_wop rfl (want_yes rfl rfl rfl hg3) rfl (aop_call (refOrder_item x l[0] _ _ _ ⟨_, rfl, hu.mono (by (repeat (first | assumption | exact Hp.sees.refl _ | refine Hp.sees_put_new ?_ (by (first | assumption | (simp; done) | (simp; omega) | omega)) _ | refine Hp.sees.push ?_ _ | refine Hp.sees.trans ?_ (by assumption) | refine Hp.sees.trans ?_ (Hp.le.sees (by assumption)) | refine Hp.sees.box ?_ (by (repeat (first | assumption | exact Hp.push_new _ _ | exact Hp.put_same _ _ _ | refine (Hp.push_old _ _ (by (first | assumption | (simp; done) | (simp; omega) | omega))).trans ?_ | refine (Hp.put_other _ _ (by (first | assumption | omega | (simp; done) | (simp; omega)))).trans ?_ | refine le_got (by assumption) (by (first | assumption | (simp; done) | (simp; omega) | omega)) (by intro e; cases e) ?_))))))⟩ ⟨_, rfl, hw1.mono (by (repeat (first | assumption | exact Hp.sees.refl _ | refine Hp.sees_put_new ?_ (by (first | assumption | (simp; done) | (simp; omega) | omega)) _ | refine Hp.sees.push ?_ _ | refine Hp.sees.trans ?_ (by assumption) | refine Hp.sees.trans ?_ (Hp.le.sees (by assumption)) | refine Hp.sees.box ?_ (by (repeat (first | assumption | exact Hp.push_new _ _ | exact Hp.put_same _ _ _ | refine (Hp.push_old _ _ (by (first | assumption | (simp; done) | (simp; omega) | omega))).trans ?_ | refine (Hp.put_other _ _ (by (first | assumption | omega | (simp; done) | (simp; omega)))).trans ?_ | refine le_got (by assumption) (by (first | assumption | (simp; done) | (simp; omega) | omega)) (by intro e; cases e) ?_))))))⟩ hg (hx _ (List.getElem_mem (by omega)))) rfl Try.func11 rfl rfl rfl ?_)
      rintro v H ⟨rfl, rfl⟩
      refine ⟨by (first | exact fun _ _ _ _ _ => rfl | (repeat (first | exact List.forall_mem_nil _ | refine List.forall_mem_cons.2 ⟨?_, ?_⟩ | (intro hb b hbm; first | (dsimp only at hb; exact absurd hb (by decide)) | (exact absurd hbm (List.not_mem_nil)) | (simp only [List.mem_singleton] at hbm; subst hbm; (first | rfl | exact Hp.put_other _ _ (by (first | assumption | omega | (simp; done) | (simp; omega))) | exact Hp.le.same (by assumption) (by (first | assumption | (simp; done) | (simp; omega) | omega)) (by (repeat (first | assumption | exact Hp.push_new _ _ | exact Hp.put_same _ _ _ | refine (Hp.push_old _ _ (by (first | assumption | (simp; done) | (simp; omega) | omega))).trans ?_ | refine (Hp.put_other _ _ (by (first | assumption | omega | (simp; done) | (simp; omega)))).trans ?_ | refine le_got (by assumption) (by (first | assumption | (simp; done) | (simp; omega) | omega)) (by intro e; cases e) ?_))) | exact hsameO _ _ _ (by (first | assumption | (simp; done) | (simp; omega) | omega)) (by (repeat (first | assumption | exact Hp.push_new _ _ | exact Hp.put_same _ _ _ | refine (Hp.push_old _ _ (by (first | assumption | (simp; done) | (simp; omega) | omega))).trans ?_ | refine (Hp.put_other _ _ (by (first | assumption | omega | (simp; done) | (simp; omega)))).trans ?_ | refine le_got (by assumption) (by (first | assumption | (simp; done) | (simp; omega) | omega)) (by intro e; cases e) ?_))))) | exact hsame _ hbm)))), ?_⟩
      refine adr_wval rfl (want_yes rfl rfl rfl hg3) rfl (av_eq rfl rfl) (by (simp only [List.not_mem_nil, List.mem_singleton, false_implies, forall_eq, implies_true, Hp.put_size, Hp.push_size]; try omega)) ?_
      refine adr_val rfl rfl (av_pick_bool (congrArg Value.bool hg3) rfl) (by (simp only [List.not_mem_nil, List.mem_singleton, false_implies, forall_eq, implies_true, Hp.put_size, Hp.push_size]; try omega)) ?_
      first | refine adr_val rfl rfl (av_assign_bool rfl) (by (simp only [List.not_mem_nil, List.mem_singleton, false_implies, forall_eq, implies_true, Hp.put_size, Hp.push_size]; try omega)) ?_ | refine adr_val rfl rfl (av_assign rfl) (by (simp only [List.not_mem_nil, List.mem_singleton, false_implies, forall_eq, implies_true, Hp.put_size, Hp.push_size]; try omega)) ?_
      refine ac_ret ?_
      refine ⟨_, aresult1 (ares_tmp rfl), ?_⟩
      have : ok = true := hg3
      rw [sameF, if_neg h0, this, getD_item (by omega)]; rfl
    · intro hg3
      have hp3 := hg3; try simp only [decide_eq_true_eq, decide_eq_false_iff_not, Bool.not_eq_true', Bool.not_eq_false'] at hp3
      refine adr_skip rfl (want_no rfl rfl rfl hg3 rfl) ?_
      refine adr_skip rfl (want_no rfl rfl rfl hg3 rfl) ?_
      obtain ⟨b, o, ds, rfl, hb, ⟨w1, rfl, hw1⟩, hcells⟩ := hs.elem_at (i := 0) (by omega)
      obtain ⟨A6, c6, rfl⟩ := hw1.shape
      refine adr_skip rfl (want_no rfl rfl rfl hg3 rfl) ?_
      refine adr_skip rfl (want_no rfl rfl rfl hg3 rfl) ?_
      refine adr_skip rfl (want_no rfl rfl rfl hg3 rfl) ?_
      refine adr_skip rfl (want_no rfl rfl rfl hg3 rfl) ?_
      refine adr_val rfl rfl (av_pick_bool (congrArg Value.bool hg3) rfl) (by (simp only [List.not_mem_nil, List.mem_singleton, false_implies, forall_eq, implies_true, Hp.put_size, Hp.push_size]; try omega)) ?_
      first | refine adr_val rfl rfl (av_assign_bool rfl) (by (simp only [List.not_mem_nil, List.mem_singleton, false_implies, forall_eq, implies_true, Hp.put_size, Hp.push_size]; try omega)) ?_ | refine adr_val rfl rfl (av_assign rfl) (by (simp only [List.not_mem_nil, List.mem_singleton, false_implies, forall_eq, implies_true, Hp.put_size, Hp.push_size]; try omega)) ?_
      refine ac_ret ?_
      refine ⟨_, aresult1 (ares_tmp rfl), ?_⟩
      have : ok = false := hg3
      rw [sameF, if_neg h0, this]; rfl
theorem same_item (x : Item) (cs : List Value) (v : Value) (ok : Bool) (l : List Item) (H : Hp) (hr : kItem.rep H x cs) (hs : Sl kItem H v l) (hg : x.nodes.length < 9223372036854775807) (hx : Good l) (hl : l.length < 9223372036854775807) :
    ACalls Try.prog 20 #[.agg cs.toArray, .bool ok, v] H (fun r H' => r = .bool (sameF x ok l) ∧ H' = H) := by
  obtain ⟨u, rfl, hu⟩ := hr
  exact ACalls.pure (fun v h => by rw [h]; rfl) (same_raw x u v ok l H.ro (hu.mono H.sees_ro) (hs.mono H.sees_ro) hg hx hl)
end Go.Proofs.Ytinfigghaonceaa.Am
