/- The links that begin at a node. -/
import Derived.Test.YtnkjikpmgeknbaaAmEnds
namespace Go.Proofs.Ytnkjikpmgeknbaa.Am
open Go Go.RowKit
set_option maxRecDepth 100000
set_option linter.unusedVariables false
set_option linter.unusedSimpArgs false

/-- Links that rise by their first ends. -/
def RiseA (xs : List Link) : Prop := ∀ (i j : Nat) (hi : i < xs.length) (hj : j < xs.length), i ≤ j → xs[i].a ≤ xs[j].a
theorem filter_mid {xs : List Link} {a : Int} {lo hi : Nat} (h1 : lo ≤ xs.length) (h2 : hi ≤ xs.length) (hlo : ∀ (i : Nat) (h : i < xs.length), i < lo → ¬ a ≤ xs[i].a) (hlo2 : ∀ (i : Nat) (h : i < xs.length), lo ≤ i → a ≤ xs[i].a) (hhi : ∀ (i : Nat) (h : i < xs.length), i < hi → ¬ a < xs[i].a) (hhi2 : ∀ (i : Nat) (h : i < xs.length), hi ≤ i → a < xs[i].a) :
    lo ≤ hi ∧ (xs.take hi).drop lo = xs.filter fun x => decide (x.a = a) := by
  have hle : lo ≤ hi := by
    rcases Nat.lt_or_ge hi lo with h | h
    · have a1 := hlo hi (by omega) h
      have a2 := hhi2 hi (by omega) (Nat.le_refl _)
      omega
    · exact h
  refine ⟨hle, ?_⟩
  have e : xs = xs.take lo ++ ((xs.take hi).drop lo ++ xs.drop hi) := by
    have : (xs.take hi).drop lo ++ xs.drop hi = xs.drop lo := by
      rw [List.drop_take, show xs.drop hi = (xs.drop lo).drop (hi - lo) by rw [List.drop_drop]; congr 1; omega]
      exact List.take_append_drop _ _
    rw [this]; exact (List.take_append_drop _ _).symm
  have f1 : (xs.take lo).filter (fun x => decide (x.a = a)) = [] := by
    rw [List.filter_eq_nil_iff]
    intro x hx
    obtain ⟨i, hi1, rfl⟩ := List.getElem_of_mem hx
    rw [List.length_take] at hi1
    rw [List.getElem_take]
    have := hlo i (by omega) (by omega)
    simp; omega
  have f2 : (xs.drop hi).filter (fun x => decide (x.a = a)) = [] := by
    rw [List.filter_eq_nil_iff]
    intro x hx
    obtain ⟨i, hi1, rfl⟩ := List.getElem_of_mem hx
    rw [List.length_drop] at hi1
    rw [List.getElem_drop]
    have := hhi2 (hi + i) (by omega) (by omega)
    simp; omega
  have f3 : ((xs.take hi).drop lo).filter (fun x => decide (x.a = a)) = (xs.take hi).drop lo := by
    rw [List.filter_eq_self]
    intro x hx
    obtain ⟨i, hi1, rfl⟩ := List.getElem_of_mem hx
    rw [List.length_drop, List.length_take] at hi1
    rw [List.getElem_drop, List.getElem_take]
    have a1 := hlo2 (lo + i) (by omega) (by omega)
    have a2 := hhi (lo + i) (by omega) (by omega)
    simp; omega
  have := congrArg (List.filter fun x => decide (x.a = a)) e
  rw [List.filter_append, List.filter_append, f1, f2, f3, List.nil_append, List.append_nil] at this
  exact this.symm
theorem From_links (xs : List Link) (v : Value) (a : Int) (H : Hp) (hs : Sl kLink H v xs) (hl : xs.length ≤ 1000000) (hr : RiseA xs) :
    ACalls Try.prog 18 #[v, .int .i64 a] H (fun r H' => ∃ G', H.le G' ∧ OwnP kLink G' H' r (xs.filter fun x => decide (x.a = a))) := by
  obtain ⟨A, c, rfl⟩ := hs.shape
  obtain ⟨H2, hH2⟩ : ∃ H2, H2 = (H.push (.own 0 [.slice A xs.length c])).push (.own 0 [.int .i64 a]) := ⟨_, rfl⟩
  have hle2 : H.le H2 := by rw [hH2]; exact Hp.le_push' (H.le_push _) _
  have hs2 := hs.mono hle2.sees
  have hz2 : H2.size = H.size + 2 := by rw [hH2]; rfl
  have c1 : H2.cell? H.size 0 = some (.slice A xs.length c) := by rw [hH2]; exact cell_own (cs := [.slice A xs.length c]) (st := 0) (by (repeat (first | assumption | exact Hp.push_new _ _ | exact Hp.put_same _ _ _ | refine (Hp.push_old _ _ (by (first | assumption | (simp; done) | (simp; omega) | omega))).trans ?_ | refine (Hp.put_other _ _ (by (first | assumption | omega | (simp; done) | (simp; omega)))).trans ?_ | refine le_got (by assumption) (by (first | assumption | (simp; done) | (simp; omega) | omega)) (by intro e; cases e) ?_)))
  have c2 : H2.cell? (H.size + 1) 0 = some (.int .i64 a) := by rw [hH2]; exact cell_own (cs := [.int .i64 a]) (st := 0) (by (repeat (first | assumption | exact Hp.push_new _ _ | exact Hp.put_same _ _ _ | refine (Hp.push_old _ _ (by (first | assumption | (simp; done) | (simp; omega) | omega))).trans ?_ | refine (Hp.put_other _ _ (by (first | assumption | omega | (simp; done) | (simp; omega)))).trans ?_ | refine le_got (by assumption) (by (first | assumption | (simp; done) | (simp; omega) | omega)) (by intro e; cases e) ?_)))
  have call1 : ∀ i, i < xs.length → ACalls Try.prog 83 (#[.int .i64 (i : Nat)] ++ #[.pointer (some ⟨H.size, 0, none⟩), .pointer (some ⟨H.size + 1, 0, none⟩)]) H2 (fun r H' => r = .bool (if h : i < xs.length then decide (a ≤ xs[i].a) else true) ∧ H' = H2) := fun i hi =>
    ACalls.pure (R := fun r => r = .bool (if h : i < xs.length then decide (a ≤ xs[i].a) else true)) (fun v h => by rw [h]; rfl) ((From1_raw xs A c a i H.size (H.size + 1) H2.ro (cell_ro c1) (cell_ro c2) (hs2.mono H2.sees_ro) hi (by show H.size < H2.size; omega) (by show H.size + 1 < H2.size; omega)).mono fun r _ h => by rw [h, dif_pos hi])
  have call2 : ∀ i, i < xs.length → ACalls Try.prog 84 (#[.int .i64 (i : Nat)] ++ #[.pointer (some ⟨H.size, 0, none⟩), .pointer (some ⟨H.size + 1, 0, none⟩)]) H2 (fun r H' => r = .bool (if h : i < xs.length then decide (a < xs[i].a) else true) ∧ H' = H2) := fun i hi =>
    ACalls.pure (R := fun r => r = .bool (if h : i < xs.length then decide (a < xs[i].a) else true)) (fun v h => by rw [h]; rfl) ((From2_raw xs A c a i H.size (H.size + 1) H2.ro (cell_ro c1) (cell_ro c2) (hs2.mono H2.sees_ro) hi (by show H.size < H2.size; omega) (by show H.size + 1 < H2.size; omega)).mono fun r _ h => by rw [h, dif_pos hi])
  have mono1 : ∀ i j, i ≤ j → j < xs.length → (if h : i < xs.length then decide (a ≤ xs[i].a) else true) = true → (if h : j < xs.length then decide (a ≤ xs[j].a) else true) = true := fun i j hij hj h => by
    rw [dif_pos (by omega)] at h ⊢
    have := hr i j (by omega) hj hij
    have := of_decide_eq_true h
    exact decide_eq_true (by omega)
  have mono2 : ∀ i j, i ≤ j → j < xs.length → (if h : i < xs.length then decide (a < xs[i].a) else true) = true → (if h : j < xs.length then decide (a < xs[j].a) else true) = true := fun i j hij hj h => by
    rw [dif_pos (by omega)] at h ⊢
    have := hr i j (by omega) hj hij
    have := of_decide_eq_true h
    exact decide_eq_true (by omega)
  refine acalls_of_code Try.func18 rfl rfl rfl (by simp) ?_
  refine ac_seq ?_
  refine ac_region (by kernel_rfl) ?_
  refine aops_make (am_box_sl rfl) ?_
  refine aops_make (am_box_int rfl) ?_
  first | refine aops_val (av_assign_sl rfl) ?_ | refine aops_val (av_assign rfl) ?_
  refine ac_seq ?_
  rw [← hH2]
  refine ac_region (by kernel_rfl) ?_
  refine aops_val (av_load1 rfl Try.underlying22 rfl (by (first | assumption | exact (cell_own (by (repeat (first | assumption | exact Hp.push_new _ _ | exact Hp.put_same _ _ _ | refine (Hp.push_old _ _ (by (first | assumption | (simp; done) | (simp; omega) | omega))).trans ?_ | refine (Hp.put_other _ _ (by (first | assumption | omega | (simp; done) | (simp; omega)))).trans ?_ | refine le_got (by assumption) (by (first | assumption | (simp; done) | (simp; omega) | omega)) (by intro e; cases e) ?_)))).trans rfl | exact Hp.cell_le (by assumption) (by (repeat (first | assumption | exact Hp.le_refl _ | refine Hp.le_put_new ?_ (by first | (first | assumption | (simp; done) | (simp; omega) | omega) | exact (show Hp.le _ _ by assumption).1) _ | refine Hp.le_push' ?_ _ | refine Hp.le_trans ?_ (by assumption)))) (by (first | assumption | (simp; done) | (simp; omega) | omega))))) ?_
  refine aops_val (av_len rfl Try.underlying22) ?_
  refine aops_val (av_makeFunc) ?_
  refine aops_op (aop_call (Search_gen xs.length 83 _ #[.pointer (some ⟨H.size, 0, none⟩), .pointer (some ⟨H.size + 1, 0, none⟩)] (fun i => if h : i < xs.length then decide (a ≤ xs[i].a) else true) H2 Try.func83 rfl rfl call1 mono1 (by omega)) rfl Try.func82 rfl rfl rfl ?_)
  rintro v1 H1 ⟨⟨lo, rfl, hlo, hlo1, hlo2⟩, rfl⟩
  first | refine aops_val (av_assign_int rfl) ?_ | refine aops_val (av_assign rfl) ?_
  refine ac_seq ?_
  refine ac_region (by kernel_rfl) ?_
  refine aops_val (av_load1 rfl Try.underlying22 rfl (by (first | assumption | exact (cell_own (by (repeat (first | assumption | exact Hp.push_new _ _ | exact Hp.put_same _ _ _ | refine (Hp.push_old _ _ (by (first | assumption | (simp; done) | (simp; omega) | omega))).trans ?_ | refine (Hp.put_other _ _ (by (first | assumption | omega | (simp; done) | (simp; omega)))).trans ?_ | refine le_got (by assumption) (by (first | assumption | (simp; done) | (simp; omega) | omega)) (by intro e; cases e) ?_)))).trans rfl | exact Hp.cell_le (by assumption) (by (repeat (first | assumption | exact Hp.le_refl _ | refine Hp.le_put_new ?_ (by first | (first | assumption | (simp; done) | (simp; omega) | omega) | exact (show Hp.le _ _ by assumption).1) _ | refine Hp.le_push' ?_ _ | refine Hp.le_trans ?_ (by assumption)))) (by (first | assumption | (simp; done) | (simp; omega) | omega))))) ?_
  refine aops_val (av_len rfl Try.underlying22) ?_
  refine aops_val (av_makeFunc) ?_
  refine aops_op (aop_call (Search_gen xs.length 84 _ #[.pointer (some ⟨H.size, 0, none⟩), .pointer (some ⟨H.size + 1, 0, none⟩)] (fun i => if h : i < xs.length then decide (a < xs[i].a) else true) H1 Try.func84 rfl rfl call2 mono2 (by omega)) rfl Try.func82 rfl rfl rfl ?_)
  rintro v2 H3 ⟨⟨hi, rfl, hhi, hhi1, hhi2⟩, rfl⟩
  first | refine aops_val (av_assign_int rfl) ?_ | refine aops_val (av_assign rfl) ?_
  refine ac_seq ?_
  obtain ⟨hlh, hfil⟩ := filter_mid (a := a) hlo hhi (fun i h h0 => by have := hlo1 i h0; rw [dif_pos h] at this; exact of_decide_eq_false this) (fun i h h0 => by have := hlo2 i h0 h; rw [dif_pos h] at this; exact of_decide_eq_true this) (fun i h h0 => by have := hhi1 i h0; rw [dif_pos h] at this; exact of_decide_eq_false this) (fun i h h0 => by have := hhi2 i h0 h; rw [dif_pos h] at this; exact of_decide_eq_true this)
  obtain ⟨A9, c9, S9, hsl9, hS9, hop9⟩ := hs2.mids hlh hhi
  refine ac_region (by kernel_rfl) ?_
  refine aops_val (av_load1 rfl Try.underlying22 rfl (by (first | assumption | exact (cell_own (by (repeat (first | assumption | exact Hp.push_new _ _ | exact Hp.put_same _ _ _ | refine (Hp.push_old _ _ (by (first | assumption | (simp; done) | (simp; omega) | omega))).trans ?_ | refine (Hp.put_other _ _ (by (first | assumption | omega | (simp; done) | (simp; omega)))).trans ?_ | refine le_got (by assumption) (by (first | assumption | (simp; done) | (simp; omega) | omega)) (by intro e; cases e) ?_)))).trans rfl | exact Hp.cell_le (by assumption) (by (repeat (first | assumption | exact Hp.le_refl _ | refine Hp.le_put_new ?_ (by first | (first | assumption | (simp; done) | (simp; omega) | omega) | exact (show Hp.le _ _ by assumption).1) _ | refine Hp.le_push' ?_ _ | refine Hp.le_trans ?_ (by assumption)))) (by (first | assumption | (simp; done) | (simp; omega) | omega))))) ?_
  first | refine aops_val (av_move_int rfl) ?_ | refine aops_val (av_move rfl) ?_
  first | refine aops_val (av_move_int rfl) ?_ | refine aops_val (av_move rfl) ?_
  refine aops_val (hop9 _ _ _ _ _ _ _ _ _ _ _ _ _ _ _ (Hp.le_refl _) (by first | rfl | assumption) Try.underlying22 inf28.size (by first | rfl | assumption) (by first | rfl | assumption)) ?_
  refine aops_op (aop_call (Clone_links _ _ _ hsl9 (by rw [List.length_drop, List.length_take]; omega)) rfl Try.func85 rfl rfl rfl ?_)
  rintro v3 H4 ⟨G4, hle4, hown4⟩
  first | refine aops_val (av_assign_sl rfl) ?_ | refine aops_val (av_assign rfl) ?_
  refine ac_ret ?_
  exact ⟨v3, aresult1 (ares_tmp rfl), G4, Hp.le_trans hle2 hle4, by rw [← hfil]; exact hown4⟩
end Go.Proofs.Ytnkjikpmgeknbaa.Am
