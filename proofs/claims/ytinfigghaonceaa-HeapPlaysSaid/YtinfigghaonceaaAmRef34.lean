/- The document's order of items, and the program's. -/
import Derived.Test.YtinfigghaonceaaAmItems
namespace Go.Proofs.Ytinfigghaonceaa.Am
open Go Go.RowKit
set_option linter.unusedVariables false
set_option linter.unusedSimpArgs false

theorem wrap_next {i n : Nat} (h : i < n) (hn : n < 9223372036854775808) : Value.int .i64 (IntKind.i64.wrap ((i : Int) + 1)) = .int .i64 ((i + 1 : Nat) : Int) := by rw [wrap_i64 (by omega) (by omega)]; rfl
theorem cmpL_lt {a b : Int} {x y : List Int} (h : a < b) : cmpL (a :: x) (b :: y) = -1 := by rw [cmpL, show cmpI a b = -1 by simp [cmpI, h]]; rfl
theorem cmpL_gt {a b : Int} {x y : List Int} (h : b < a) : cmpL (a :: x) (b :: y) = 1 := by rw [cmpL, show cmpI a b = 1 by simp [cmpI, h, show ¬ a < b by omega]]; rfl
theorem cmpL_same {a b : Int} {x y : List Int} (h : ¬ a < b) (h2 : ¬ b < a) : cmpL (a :: x) (b :: y) = cmpL x y := by rw [cmpL, show cmpI a b = 0 by simp [cmpI, h, h2]]; rfl
theorem cmpL_end {xs ys : List Int} {i : Nat} (h1 : i ≤ xs.length) (h2 : i ≤ ys.length) (h : ¬ (i : Int) < xs.length ∨ ¬ (i : Int) < ys.length) :
    cmpL (xs.drop i) (ys.drop i) = if (xs.length : Int) < ys.length then -1 else if (ys.length : Int) < xs.length then 1 else 0 := by
  by_cases hx : i < xs.length
  · have hy : ys.length = i := by omega
    rw [List.drop_eq_getElem_cons hx, List.drop_of_length_le (l := ys) (by omega), cmpL, if_neg (by omega), if_pos (by omega)]
  · rw [List.drop_of_length_le (l := xs) (by omega)]
    by_cases hy : i < ys.length
    · rw [List.drop_eq_getElem_cons hy, cmpL, if_pos (by omega)]
    · rw [List.drop_of_length_le (l := ys) (by omega), cmpL, if_neg (by omega), if_neg (by omega)]
theorem list_ints (xs ys : List Int) (v u : Value) (H : Hp) (hs : Sl (kInt .i64) H v xs) (hu : Sl (kInt .i64) H u ys) (hl : xs.length < 9223372036854775807) (hl2 : ys.length < 9223372036854775807) :
    ACalls Try.prog 25 #[v, u] H (fun r H' => r = .int .i64 (cmpL xs ys) ∧ H' = H) := by
  obtain ⟨A, c, rfl⟩ := hs.shape
  obtain ⟨B, c2, rfl⟩ := hu.shape
  refine acalls_of_code Try.func25 rfl rfl rfl (by simp) ?_
  refine ac_seq ?_
  refine ac_region (by kernel_rfl) ?_
  first | refine aops_val (av_assign_int rfl) ?_ | refine aops_val (av_assign rfl) ?_
  refine ac_seq ?_
  refine ac_seq ?_
  refine ac_region (by kernel_rfl) ?_
  first | refine aops_val (av_assign_int rfl) ?_ | refine aops_val (av_assign rfl) ?_
  refine ac_block ?_
  refine ac_loop (fun n t H' => ∃ i : Nat, i ≤ xs.length ∧ i ≤ ys.length ∧ n = xs.length - i ∧ H' = H ∧ cmpL xs ys = cmpL (xs.drop i) (ys.drop i) ∧ t 0 = .slice A xs.length c ∧ t 1 = .slice B ys.length c2 ∧ t 5 = .int .i64 i) (_) (⟨0, by omega, by omega, rfl, rfl, rfl, rfl, rfl, rfl⟩) ?_
  rintro n t _ ⟨i, hi, hi2, rfl, rfl, hor, e0, e1, e5⟩
  refine ac_seq ?_
  refine ac_seq ?_
  refine ac_region (by kernel_rfl) ?_
  first | refine aops_val (av_move_int (by first | assumption | rfl)) ?_ | refine aops_val (av_move (by first | assumption | rfl)) ?_
  first | refine aops_val (av_move_sl (by first | assumption | rfl)) ?_ | refine aops_val (av_move (by first | assumption | rfl)) ?_
  refine aops_val (av_len rfl Try.underlying22) ?_
  refine aops_val (av_lt rfl rfl) ?_
  first | refine aops_val (av_move_bool rfl) ?_ | refine aops_val (av_move rfl) ?_
  refine aops_guard rfl rfl rfl ?_ ?_
  · intro hg1
    have hp1 := hg1; try simp only [decide_eq_true_eq, decide_eq_false_iff_not, Bool.not_eq_true', Bool.not_eq_false'] at hp1
    first | refine aops_wval (want_yes rfl rfl rfl hg1) (av_move_int (by first | assumption | rfl)) ?_ | refine aops_wval (want_yes rfl rfl rfl hg1) (av_move (by first | assumption | rfl)) ?_
    first | refine aops_wval (want_yes rfl rfl rfl hg1) (av_move_sl (by first | assumption | rfl)) ?_ | refine aops_wval (want_yes rfl rfl rfl hg1) (av_move (by first | assumption | rfl)) ?_
    refine aops_wval (want_yes rfl rfl rfl hg1) (av_len rfl Try.underlying22) ?_
    refine aops_wval (want_yes rfl rfl rfl hg1) (av_lt rfl rfl) ?_
    refine aops_val (av_pick_bool (congrArg Value.bool hg1) rfl) ?_
    refine ac_split rfl rfl ?_ ?_
    · intro hc2
      (try simp only [decide_eq_true_eq, decide_eq_false_iff_not, Bool.not_eq_true', Bool.not_eq_false'] at hc2)
      refine ac_skip ?_
      refine ac_seq ?_
      refine ac_block ?_
      refine ac_seq ?_
      refine ac_seq ?_
      refine ac_draw (by kernel_rfl) (reg_of (B := [0, 0, 3, 7, 0, 0, 48, 112, 255]) (π := [0, 1, 2, 3, 4, 5, 6, 7, 8]) (by kernel_rfl)) ?_
      first | refine adr_val rfl rfl (av_move_sl (by first | assumption | rfl)) (by (simp only [List.not_mem_nil, List.mem_singleton, false_implies, forall_eq, implies_true, Hp.put_size, Hp.push_size]; try omega)) ?_ | refine adr_val rfl rfl (av_move (by first | assumption | rfl)) (by (simp only [List.not_mem_nil, List.mem_singleton, false_implies, forall_eq, implies_true, Hp.put_size, Hp.push_size]; try omega)) ?_
      first | refine adr_val rfl rfl (av_move_int (by first | assumption | rfl)) (by (simp only [List.not_mem_nil, List.mem_singleton, false_implies, forall_eq, implies_true, Hp.put_size, Hp.push_size]; try omega)) ?_ | refine adr_val rfl rfl (av_move (by first | assumption | rfl)) (by (simp only [List.not_mem_nil, List.mem_singleton, false_implies, forall_eq, implies_true, Hp.put_size, Hp.push_size]; try omega)) ?_
      obtain ⟨b, o, rfl, hb, hcell⟩ := hs.int_at (i := (i : Int)) (by omega) (by omega)
      obtain ⟨b2, o2, rfl, hb2, hcell2⟩ := hu.int_at (i := (i : Int)) (by omega) (by omega)
      have d1 : xs.drop i = xs.getD (i : Int).toNat 0 :: xs.drop (i + 1) := by rw [Int.toNat_natCast, getD_at (show i < xs.length by omega), List.drop_eq_getElem_cons (by omega)]
      have d2 : ys.drop i = ys.getD (i : Int).toNat 0 :: ys.drop (i + 1) := by rw [Int.toNat_natCast, getD_at (show i < ys.length by omega), List.drop_eq_getElem_cons (by omega)]
      refine adr_val rfl rfl (av_indexAddr rfl rfl Try.underlying22 inf3.size (by (first | assumption | omega | (simp only [Int.toNat_natCast] at *; omega))) (by (first | assumption | omega | (simp only [Int.toNat_natCast] at *; omega)))) (by (simp only [List.not_mem_nil, List.mem_singleton, false_implies, forall_eq, implies_true, Hp.put_size, Hp.push_size]; try omega)) ?_
      refine adr_val rfl rfl (av_load1 rfl Try.underlying3 rfl (by (first | assumption | exact (cell_own (by (repeat (first | assumption | exact Hp.push_new _ _ | exact Hp.put_same _ _ _ | refine (Hp.push_old _ _ (by (first | assumption | (simp; done) | (simp; omega) | omega))).trans ?_ | refine (Hp.put_other _ _ (by (first | assumption | omega | (simp; done) | (simp; omega)))).trans ?_ | refine le_got (by assumption) (by (first | assumption | (simp; done) | (simp; omega) | omega)) (by intro e; cases e) ?_)))).trans rfl | exact Hp.cell_le (by assumption) (by (repeat (first | assumption | exact Hp.le_refl _ | refine Hp.le_put_new ?_ (by (first | assumption | (simp; done) | (simp; omega) | omega)) _ | refine Hp.le_push' ?_ _ | refine Hp.le_trans ?_ (by assumption)))) (by (first | assumption | (simp; done) | (simp; omega) | omega))))) (by (simp only [List.not_mem_nil, List.mem_singleton, false_implies, forall_eq, implies_true, Hp.put_size, Hp.push_size]; try omega)) ?_
      first | refine adr_val rfl rfl (av_move_sl (by first | assumption | rfl)) (by (simp only [List.not_mem_nil, List.mem_singleton, false_implies, forall_eq, implies_true, Hp.put_size, Hp.push_size]; try omega)) ?_ | refine adr_val rfl rfl (av_move (by first | assumption | rfl)) (by (simp only [List.not_mem_nil, List.mem_singleton, false_implies, forall_eq, implies_true, Hp.put_size, Hp.push_size]; try omega)) ?_
      first | refine adr_val rfl rfl (av_move_int (by first | assumption | rfl)) (by (simp only [List.not_mem_nil, List.mem_singleton, false_implies, forall_eq, implies_true, Hp.put_size, Hp.push_size]; try omega)) ?_ | refine adr_val rfl rfl (av_move (by first | assumption | rfl)) (by (simp only [List.not_mem_nil, List.mem_singleton, false_implies, forall_eq, implies_true, Hp.put_size, Hp.push_size]; try omega)) ?_
      refine adr_val rfl rfl (av_indexAddr rfl rfl Try.underlying22 inf3.size (by (first | assumption | omega | (simp only [Int.toNat_natCast] at *; omega))) (by (first | assumption | omega | (simp only [Int.toNat_natCast] at *; omega)))) (by (simp only [List.not_mem_nil, List.mem_singleton, false_implies, forall_eq, implies_true, Hp.put_size, Hp.push_size]; try omega)) ?_
      refine adr_val rfl rfl (av_load1 rfl Try.underlying3 rfl (by (first | assumption | exact (cell_own (by (repeat (first | assumption | exact Hp.push_new _ _ | exact Hp.put_same _ _ _ | refine (Hp.push_old _ _ (by (first | assumption | (simp; done) | (simp; omega) | omega))).trans ?_ | refine (Hp.put_other _ _ (by (first | assumption | omega | (simp; done) | (simp; omega)))).trans ?_ | refine le_got (by assumption) (by (first | assumption | (simp; done) | (simp; omega) | omega)) (by intro e; cases e) ?_)))).trans rfl | exact Hp.cell_le (by assumption) (by (repeat (first | assumption | exact Hp.le_refl _ | refine Hp.le_put_new ?_ (by (first | assumption | (simp; done) | (simp; omega) | omega)) _ | refine Hp.le_push' ?_ _ | refine Hp.le_trans ?_ (by assumption)))) (by (first | assumption | (simp; done) | (simp; omega) | omega))))) (by (simp only [List.not_mem_nil, List.mem_singleton, false_implies, forall_eq, implies_true, Hp.put_size, Hp.push_size]; try omega)) ?_
      refine adr_val rfl rfl (av_lt rfl rfl) (by (simp only [List.not_mem_nil, List.mem_singleton, false_implies, forall_eq, implies_true, Hp.put_size, Hp.push_size]; try omega)) ?_
      refine ac_split rfl rfl ?_ ?_
      · intro hc3
        (try simp only [decide_eq_true_eq, decide_eq_false_iff_not, Bool.not_eq_true', Bool.not_eq_false'] at hc3)
        refine ac_seq ?_
        refine ac_region (by kernel_rfl) ?_
        first | refine aops_val (av_assign_int rfl) ?_ | refine aops_val (av_assign rfl) ?_
        refine ac_ret ?_
        exact ⟨.int .i64 (-1), aresult1 (ares_tmp rfl), by rw [hor, d1, d2, cmpL_lt (by assumption)], rfl⟩
      · intro hc3
        (try simp only [decide_eq_true_eq, decide_eq_false_iff_not, Bool.not_eq_true', Bool.not_eq_false'] at hc3)
        refine ac_skip ?_
        refine ac_seq ?_
        refine ac_draw (by kernel_rfl) (reg_of (B := [0, 0, 3, 7, 0, 0, 48, 112, 255]) (π := [0, 1, 2, 3, 4, 5, 6, 7, 8]) (by kernel_rfl)) ?_
        first | refine adr_val rfl rfl (av_move_sl (by first | assumption | rfl)) (by (simp only [List.not_mem_nil, List.mem_singleton, false_implies, forall_eq, implies_true, Hp.put_size, Hp.push_size]; try omega)) ?_ | refine adr_val rfl rfl (av_move (by first | assumption | rfl)) (by (simp only [List.not_mem_nil, List.mem_singleton, false_implies, forall_eq, implies_true, Hp.put_size, Hp.push_size]; try omega)) ?_
        first | refine adr_val rfl rfl (av_move_int (by first | assumption | rfl)) (by (simp only [List.not_mem_nil, List.mem_singleton, false_implies, forall_eq, implies_true, Hp.put_size, Hp.push_size]; try omega)) ?_ | refine adr_val rfl rfl (av_move (by first | assumption | rfl)) (by (simp only [List.not_mem_nil, List.mem_singleton, false_implies, forall_eq, implies_true, Hp.put_size, Hp.push_size]; try omega)) ?_
        refine adr_val rfl rfl (av_indexAddr rfl rfl Try.underlying22 inf3.size (by (first | assumption | omega | (simp only [Int.toNat_natCast] at *; omega))) (by (first | assumption | omega | (simp only [Int.toNat_natCast] at *; omega)))) (by (simp only [List.not_mem_nil, List.mem_singleton, false_implies, forall_eq, implies_true, Hp.put_size, Hp.push_size]; try omega)) ?_
        refine adr_val rfl rfl (av_load1 rfl Try.underlying3 rfl (by (first | assumption | exact (cell_own (by (repeat (first | assumption | exact Hp.push_new _ _ | exact Hp.put_same _ _ _ | refine (Hp.push_old _ _ (by (first | assumption | (simp; done) | (simp; omega) | omega))).trans ?_ | refine (Hp.put_other _ _ (by (first | assumption | omega | (simp; done) | (simp; omega)))).trans ?_ | refine le_got (by assumption) (by (first | assumption | (simp; done) | (simp; omega) | omega)) (by intro e; cases e) ?_)))).trans rfl | exact Hp.cell_le (by assumption) (by (repeat (first | assumption | exact Hp.le_refl _ | refine Hp.le_put_new ?_ (by (first | assumption | (simp; done) | (simp; omega) | omega)) _ | refine Hp.le_push' ?_ _ | refine Hp.le_trans ?_ (by assumption)))) (by (first | assumption | (simp; done) | (simp; omega) | omega))))) (by (simp only [List.not_mem_nil, List.mem_singleton, false_implies, forall_eq, implies_true, Hp.put_size, Hp.push_size]; try omega)) ?_
        first | refine adr_val rfl rfl (av_move_sl (by first | assumption | rfl)) (by (simp only [List.not_mem_nil, List.mem_singleton, false_implies, forall_eq, implies_true, Hp.put_size, Hp.push_size]; try omega)) ?_ | refine adr_val rfl rfl (av_move (by first | assumption | rfl)) (by (simp only [List.not_mem_nil, List.mem_singleton, false_implies, forall_eq, implies_true, Hp.put_size, Hp.push_size]; try omega)) ?_
        first | refine adr_val rfl rfl (av_move_int (by first | assumption | rfl)) (by (simp only [List.not_mem_nil, List.mem_singleton, false_implies, forall_eq, implies_true, Hp.put_size, Hp.push_size]; try omega)) ?_ | refine adr_val rfl rfl (av_move (by first | assumption | rfl)) (by (simp only [List.not_mem_nil, List.mem_singleton, false_implies, forall_eq, implies_true, Hp.put_size, Hp.push_size]; try omega)) ?_
        refine adr_val rfl rfl (av_indexAddr rfl rfl Try.underlying22 inf3.size (by (first | assumption | omega | (simp only [Int.toNat_natCast] at *; omega))) (by (first | assumption | omega | (simp only [Int.toNat_natCast] at *; omega)))) (by (simp only [List.not_mem_nil, List.mem_singleton, false_implies, forall_eq, implies_true, Hp.put_size, Hp.push_size]; try omega)) ?_
        refine adr_val rfl rfl (av_load1 rfl Try.underlying3 rfl (by (first | assumption | exact (cell_own (by (repeat (first | assumption | exact Hp.push_new _ _ | exact Hp.put_same _ _ _ | refine (Hp.push_old _ _ (by (first | assumption | (simp; done) | (simp; omega) | omega))).trans ?_ | refine (Hp.put_other _ _ (by (first | assumption | omega | (simp; done) | (simp; omega)))).trans ?_ | refine le_got (by assumption) (by (first | assumption | (simp; done) | (simp; omega) | omega)) (by intro e; cases e) ?_)))).trans rfl | exact Hp.cell_le (by assumption) (by (repeat (first | assumption | exact Hp.le_refl _ | refine Hp.le_put_new ?_ (by (first | assumption | (simp; done) | (simp; omega) | omega)) _ | refine Hp.le_push' ?_ _ | refine Hp.le_trans ?_ (by assumption)))) (by (first | assumption | (simp; done) | (simp; omega) | omega))))) (by (simp only [List.not_mem_nil, List.mem_singleton, false_implies, forall_eq, implies_true, Hp.put_size, Hp.push_size]; try omega)) ?_
        refine adr_val rfl rfl (av_gt rfl rfl) (by (simp only [List.not_mem_nil, List.mem_singleton, false_implies, forall_eq, implies_true, Hp.put_size, Hp.push_size]; try omega)) ?_
        refine ac_split rfl rfl ?_ ?_
        · intro hc4
          (try simp only [decide_eq_true_eq, decide_eq_false_iff_not, Bool.not_eq_true', Bool.not_eq_false'] at hc4)
          refine ac_seq ?_
          refine ac_region (by kernel_rfl) ?_
          first | refine aops_val (av_assign_int rfl) ?_ | refine aops_val (av_assign rfl) ?_
          refine ac_ret ?_
          exact ⟨.int .i64 1, aresult1 (ares_tmp rfl), by rw [hor, d1, d2, cmpL_gt (by assumption)], rfl⟩
        · intro hc4
          (try simp only [decide_eq_true_eq, decide_eq_false_iff_not, Bool.not_eq_true', Bool.not_eq_false'] at hc4)
          refine ac_skip ?_
          refine ac_region (by kernel_rfl) ?_
          first | refine aops_val (av_move_int (by first | assumption | rfl)) ?_ | refine aops_val (av_move (by first | assumption | rfl)) ?_
          first | refine aops_val (av_add64 rfl rfl (by (first | assumption | omega | (simp; omega)))) ?_ | refine aops_val (av_add rfl rfl) ?_
          first | refine aops_val (av_assign_int rfl) ?_ | refine aops_val (av_assign rfl) ?_
          exact ⟨xs.length - (i + 1), by omega, i + 1, by omega, by omega, rfl, rfl, by rw [hor, d1, d2, cmpL_same (by assumption) (by assumption)], e0, e1, rfl⟩
    · intro hc2
      (try simp only [decide_eq_true_eq, decide_eq_false_iff_not, Bool.not_eq_true', Bool.not_eq_false'] at hc2)
      refine ac_exit ?_
      refine ac_seq ?_
      refine ac_seq ?_
      refine ac_region (by kernel_rfl) ?_
      first | refine aops_val (av_move_sl (by first | assumption | rfl)) ?_ | refine aops_val (av_move (by first | assumption | rfl)) ?_
      refine aops_val (av_len rfl Try.underlying22) ?_
      first | refine aops_val (av_move_sl (by first | assumption | rfl)) ?_ | refine aops_val (av_move (by first | assumption | rfl)) ?_
      refine aops_val (av_len rfl Try.underlying22) ?_
      refine aops_val (av_lt rfl rfl) ?_
      refine ac_split rfl rfl ?_ ?_
      · intro hc5
        (try simp only [decide_eq_true_eq, decide_eq_false_iff_not, Bool.not_eq_true', Bool.not_eq_false'] at hc5)
        refine ac_seq ?_
        refine ac_region (by kernel_rfl) ?_
        first | refine aops_val (av_assign_int rfl) ?_ | refine aops_val (av_assign rfl) ?_
        refine ac_ret ?_
        exact ⟨.int .i64 (-1), aresult1 (ares_tmp rfl), by rw [hor, cmpL_end hi hi2 (by omega), if_pos (by assumption)], rfl⟩
      · intro hc5
        (try simp only [decide_eq_true_eq, decide_eq_false_iff_not, Bool.not_eq_true', Bool.not_eq_false'] at hc5)
        refine ac_skip ?_
        refine ac_seq ?_
        refine ac_seq ?_
        refine ac_region (by kernel_rfl) ?_
        first | refine aops_val (av_move_sl (by first | assumption | rfl)) ?_ | refine aops_val (av_move (by first | assumption | rfl)) ?_
        refine aops_val (av_len rfl Try.underlying22) ?_
        first | refine aops_val (av_move_sl (by first | assumption | rfl)) ?_ | refine aops_val (av_move (by first | assumption | rfl)) ?_
        refine aops_val (av_len rfl Try.underlying22) ?_
        refine aops_val (av_gt rfl rfl) ?_
        refine ac_split rfl rfl ?_ ?_
        · intro hc6
          (try simp only [decide_eq_true_eq, decide_eq_false_iff_not, Bool.not_eq_true', Bool.not_eq_false'] at hc6)
          refine ac_seq ?_
          refine ac_region (by kernel_rfl) ?_
          first | refine aops_val (av_assign_int rfl) ?_ | refine aops_val (av_assign rfl) ?_
          refine ac_ret ?_
          exact ⟨.int .i64 1, aresult1 (ares_tmp rfl), by rw [hor, cmpL_end hi hi2 (by omega), if_neg (by assumption), if_pos (by assumption)], rfl⟩
        · intro hc6
          (try simp only [decide_eq_true_eq, decide_eq_false_iff_not, Bool.not_eq_true', Bool.not_eq_false'] at hc6)
          refine ac_skip ?_
          refine ac_seq ?_
          refine ac_region (by kernel_rfl) ?_
          first | refine aops_val (av_assign_int rfl) ?_ | refine aops_val (av_assign rfl) ?_
          refine ac_ret ?_
          exact ⟨.int .i64 0, aresult1 (ares_tmp rfl), by rw [hor, cmpL_end hi hi2 (by omega), if_neg (by assumption), if_neg (by assumption)], rfl⟩
  · intro hg1
    have hp1 := hg1; try simp only [decide_eq_true_eq, decide_eq_false_iff_not, Bool.not_eq_true', Bool.not_eq_false'] at hp1
    refine aops_skip (want_no rfl rfl rfl hg1 rfl) ?_
    refine aops_skip (want_no rfl rfl rfl hg1 rfl) ?_
    refine aops_skip (want_no rfl rfl rfl hg1 rfl) ?_
    refine aops_skip (want_no rfl rfl rfl hg1 rfl) ?_
    refine aops_val (av_pick_bool (congrArg Value.bool hg1) (by first | assumption | rfl)) ?_
    refine ac_cond_false rfl rfl ?_
    refine ac_exit ?_
    refine ac_seq ?_
    refine ac_seq ?_
    refine ac_region (by kernel_rfl) ?_
    first | refine aops_val (av_move_sl (by first | assumption | rfl)) ?_ | refine aops_val (av_move (by first | assumption | rfl)) ?_
    refine aops_val (av_len rfl Try.underlying22) ?_
    first | refine aops_val (av_move_sl (by first | assumption | rfl)) ?_ | refine aops_val (av_move (by first | assumption | rfl)) ?_
    refine aops_val (av_len rfl Try.underlying22) ?_
    refine aops_val (av_lt rfl rfl) ?_
    refine ac_split rfl rfl ?_ ?_
    · intro hc8
      (try simp only [decide_eq_true_eq, decide_eq_false_iff_not, Bool.not_eq_true', Bool.not_eq_false'] at hc8)
      refine ac_seq ?_
      refine ac_region (by kernel_rfl) ?_
      first | refine aops_val (av_assign_int rfl) ?_ | refine aops_val (av_assign rfl) ?_
      refine ac_ret ?_
      exact ⟨.int .i64 (-1), aresult1 (ares_tmp rfl), by rw [hor, cmpL_end hi hi2 (by omega), if_pos (by assumption)], rfl⟩
    · intro hc8
      (try simp only [decide_eq_true_eq, decide_eq_false_iff_not, Bool.not_eq_true', Bool.not_eq_false'] at hc8)
      refine ac_skip ?_
      refine ac_seq ?_
      refine ac_seq ?_
      refine ac_region (by kernel_rfl) ?_
      first | refine aops_val (av_move_sl (by first | assumption | rfl)) ?_ | refine aops_val (av_move (by first | assumption | rfl)) ?_
      refine aops_val (av_len rfl Try.underlying22) ?_
      first | refine aops_val (av_move_sl (by first | assumption | rfl)) ?_ | refine aops_val (av_move (by first | assumption | rfl)) ?_
      refine aops_val (av_len rfl Try.underlying22) ?_
      refine aops_val (av_gt rfl rfl) ?_
      refine ac_split rfl rfl ?_ ?_
      · intro hc9
        (try simp only [decide_eq_true_eq, decide_eq_false_iff_not, Bool.not_eq_true', Bool.not_eq_false'] at hc9)
        refine ac_seq ?_
        refine ac_region (by kernel_rfl) ?_
        first | refine aops_val (av_assign_int rfl) ?_ | refine aops_val (av_assign rfl) ?_
        refine ac_ret ?_
        exact ⟨.int .i64 1, aresult1 (ares_tmp rfl), by rw [hor, cmpL_end hi hi2 (by omega), if_neg (by assumption), if_pos (by assumption)], rfl⟩
      · intro hc9
        (try simp only [decide_eq_true_eq, decide_eq_false_iff_not, Bool.not_eq_true', Bool.not_eq_false'] at hc9)
        refine ac_skip ?_
        refine ac_seq ?_
        refine ac_region (by kernel_rfl) ?_
        first | refine aops_val (av_assign_int rfl) ?_ | refine aops_val (av_assign rfl) ?_
        refine ac_ret ?_
        exact ⟨.int .i64 0, aresult1 (ares_tmp rfl), by rw [hor, cmpL_end hi hi2 (by omega), if_neg (by assumption), if_neg (by assumption)], rfl⟩
theorem cmpItem_ref (x y : Item) : cmpItem x y = if cmpL [x.cost] [y.cost] = 0 then (if cmpL x.nodes y.nodes = 0 then cmpL [x.place, x.rank] [y.place, y.rank] else cmpL x.nodes y.nodes) else cmpL [x.cost] [y.cost] := by
  have e1 : cmpL [x.cost] [y.cost] = cmpI x.cost y.cost := by rw [cmpL]; split <;> simp_all [cmpL]
  have e2 : cmpL [x.place, x.rank] [y.place, y.rank] = orI [cmpI x.place y.place, cmpI x.rank y.rank] := by
    rw [cmpL, orI, cmpL, orI, orI, cmpL]
  rw [e1, e2, cmpItem, orI, orI]
  by_cases h : cmpI x.cost y.cost = 0
  · rw [if_neg (by simpa using h), if_pos h]
    by_cases h2 : cmpL x.nodes y.nodes = 0
    · rw [if_neg (by simpa using h2), if_pos h2]
    · rw [if_pos h2, if_neg h2]
  · rw [if_pos h, if_neg h]
theorem refOrder_raw (x y : Item) (v u : Value) (H : Hp) (hv : Sl (kInt .i64) H v x.nodes) (hu : Sl (kInt .i64) H u y.nodes) (hl : x.nodes.length < 9223372036854775807) (hl2 : y.nodes.length < 9223372036854775807) :
    ACalls Try.prog 11 #[.agg #[.int .i64 x.cost, v, .int .i64 x.place, .int .i64 x.rank], .agg #[.int .i64 y.cost, u, .int .i64 y.place, .int .i64 y.rank]] H (fun r _ => r = .int .i64 (cmpItem x y)) := by
  refine acalls_of_code Try.func11 rfl rfl rfl (by simp) ?_
  refine ac_seq ?_
  refine ac_region (by kernel_rfl) ?_
  refine aops_make (am_box_agg rfl) ?_
  refine aops_make (am_box_agg rfl) ?_
  first | refine aops_val (av_assign_int rfl) ?_ | refine aops_val (av_assign rfl) ?_
  refine ac_seq ?_
  refine ac_region (by kernel_rfl) ?_
  refine aops_val (av_fieldOff (off := 0) rfl Try.underlying24 rfl inf3.size (by decide) rfl) ?_
  refine aops_val (av_load1 rfl Try.underlying3 rfl (by (first | assumption | exact (cell_own (by (repeat (first | assumption | exact Hp.push_new _ _ | exact Hp.put_same _ _ _ | refine (Hp.push_old _ _ (by (first | assumption | (simp; done) | (simp; omega) | omega))).trans ?_ | refine (Hp.put_other _ _ (by (first | assumption | omega | (simp; done) | (simp; omega)))).trans ?_ | refine le_got (by assumption) (by (first | assumption | (simp; done) | (simp; omega) | omega)) (by intro e; cases e) ?_)))).trans rfl | exact Hp.cell_le (by assumption) (by (repeat (first | assumption | exact Hp.le_refl _ | refine Hp.le_put_new ?_ (by (first | assumption | (simp; done) | (simp; omega) | omega)) _ | refine Hp.le_push' ?_ _ | refine Hp.le_trans ?_ (by assumption)))) (by (first | assumption | (simp; done) | (simp; omega) | omega))))) ?_
  first | refine aops_make (am_buildSlice (r := [.int .i64 _]) Try.underlying22 inf3.size inf3.zero rfl (by decide) (by decide) (by decide) rfl) ?_
  refine aops_val (av_fieldOff (off := 0) rfl Try.underlying24 rfl inf3.size (by decide) rfl) ?_
  refine aops_val (av_load1 rfl Try.underlying3 rfl (by (first | assumption | exact (cell_own (by (repeat (first | assumption | exact Hp.push_new _ _ | exact Hp.put_same _ _ _ | refine (Hp.push_old _ _ (by (first | assumption | (simp; done) | (simp; omega) | omega))).trans ?_ | refine (Hp.put_other _ _ (by (first | assumption | omega | (simp; done) | (simp; omega)))).trans ?_ | refine le_got (by assumption) (by (first | assumption | (simp; done) | (simp; omega) | omega)) (by intro e; cases e) ?_)))).trans rfl | exact Hp.cell_le (by assumption) (by (repeat (first | assumption | exact Hp.le_refl _ | refine Hp.le_put_new ?_ (by (first | assumption | (simp; done) | (simp; omega) | omega)) _ | refine Hp.le_push' ?_ _ | refine Hp.le_trans ?_ (by assumption)))) (by (first | assumption | (simp; done) | (simp; omega) | omega))))) ?_
  first | refine aops_make (am_buildSlice (r := [.int .i64 _]) Try.underlying22 inf3.size inf3.zero rfl (by decide) (by decide) (by decide) rfl) ?_
  refine aops_op (aop_call (list_ints [x.cost] [y.cost] _ _ _ ((sl_one (k := kInt .i64) rfl rfl rfl rfl).mono (by (repeat (first | assumption | exact Hp.sees.refl _ | refine Hp.sees_put_new ?_ (by (first | assumption | (simp; done) | (simp; omega) | omega)) _ | refine Hp.sees.push ?_ _ | refine Hp.sees.trans ?_ (by assumption) | refine Hp.sees.trans ?_ (Hp.le.sees (by assumption)) | refine Hp.sees.box ?_ (by (repeat (first | assumption | exact Hp.push_new _ _ | exact Hp.put_same _ _ _ | refine (Hp.push_old _ _ (by (first | assumption | (simp; done) | (simp; omega) | omega))).trans ?_ | refine (Hp.put_other _ _ (by (first | assumption | omega | (simp; done) | (simp; omega)))).trans ?_ | refine le_got (by assumption) (by (first | assumption | (simp; done) | (simp; omega) | omega)) (by intro e; cases e) ?_))))))) (sl_one (k := kInt .i64) rfl rfl rfl rfl) (by simp) (by simp)) rfl Try.func25 rfl rfl rfl ?_)
  rintro v H ⟨rfl, rfl⟩
  first | refine aops_val (av_assign_int rfl) ?_ | refine aops_val (av_assign rfl) ?_
  refine ac_seq ?_
  refine ac_seq ?_
  refine ac_region (by kernel_rfl) ?_
  first | refine aops_val (av_move_int rfl) ?_ | refine aops_val (av_move rfl) ?_
  refine aops_val (av_eq rfl rfl) ?_
  refine ac_split rfl rfl ?_ ?_
  · intro hc1
    (try simp only [decide_eq_true_eq, decide_eq_false_iff_not, Bool.not_eq_true', Bool.not_eq_false'] at hc1)
    refine ac_region (by kernel_rfl) ?_
    refine aops_val (av_fieldOff (off := 1) rfl Try.underlying24 rfl inf22.size (by decide) rfl) ?_
    refine aops_val (av_load1 rfl Try.underlying22 rfl (by (first | assumption | exact (cell_own (by (repeat (first | assumption | exact Hp.push_new _ _ | exact Hp.put_same _ _ _ | refine (Hp.push_old _ _ (by (first | assumption | (simp; done) | (simp; omega) | omega))).trans ?_ | refine (Hp.put_other _ _ (by (first | assumption | omega | (simp; done) | (simp; omega)))).trans ?_ | refine le_got (by assumption) (by (first | assumption | (simp; done) | (simp; omega) | omega)) (by intro e; cases e) ?_)))).trans rfl | exact Hp.cell_le (by assumption) (by (repeat (first | assumption | exact Hp.le_refl _ | refine Hp.le_put_new ?_ (by (first | assumption | (simp; done) | (simp; omega) | omega)) _ | refine Hp.le_push' ?_ _ | refine Hp.le_trans ?_ (by assumption)))) (by (first | assumption | (simp; done) | (simp; omega) | omega))))) ?_
    refine aops_val (av_fieldOff (off := 1) rfl Try.underlying24 rfl inf22.size (by decide) rfl) ?_
    refine aops_val (av_load1 rfl Try.underlying22 rfl (by (first | assumption | exact (cell_own (by (repeat (first | assumption | exact Hp.push_new _ _ | exact Hp.put_same _ _ _ | refine (Hp.push_old _ _ (by (first | assumption | (simp; done) | (simp; omega) | omega))).trans ?_ | refine (Hp.put_other _ _ (by (first | assumption | omega | (simp; done) | (simp; omega)))).trans ?_ | refine le_got (by assumption) (by (first | assumption | (simp; done) | (simp; omega) | omega)) (by intro e; cases e) ?_)))).trans rfl | exact Hp.cell_le (by assumption) (by (repeat (first | assumption | exact Hp.le_refl _ | refine Hp.le_put_new ?_ (by (first | assumption | (simp; done) | (simp; omega) | omega)) _ | refine Hp.le_push' ?_ _ | refine Hp.le_trans ?_ (by assumption)))) (by (first | assumption | (simp; done) | (simp; omega) | omega))))) ?_
    refine aops_op (aop_call (list_ints x.nodes y.nodes _ _ _ (hv.mono (by (repeat (first | assumption | exact Hp.sees.refl _ | refine Hp.sees_put_new ?_ (by (first | assumption | (simp; done) | (simp; omega) | omega)) _ | refine Hp.sees.push ?_ _ | refine Hp.sees.trans ?_ (by assumption) | refine Hp.sees.trans ?_ (Hp.le.sees (by assumption)) | refine Hp.sees.box ?_ (by (repeat (first | assumption | exact Hp.push_new _ _ | exact Hp.put_same _ _ _ | refine (Hp.push_old _ _ (by (first | assumption | (simp; done) | (simp; omega) | omega))).trans ?_ | refine (Hp.put_other _ _ (by (first | assumption | omega | (simp; done) | (simp; omega)))).trans ?_ | refine le_got (by assumption) (by (first | assumption | (simp; done) | (simp; omega) | omega)) (by intro e; cases e) ?_))))))) (hu.mono (by (repeat (first | assumption | exact Hp.sees.refl _ | refine Hp.sees_put_new ?_ (by (first | assumption | (simp; done) | (simp; omega) | omega)) _ | refine Hp.sees.push ?_ _ | refine Hp.sees.trans ?_ (by assumption) | refine Hp.sees.trans ?_ (Hp.le.sees (by assumption)) | refine Hp.sees.box ?_ (by (repeat (first | assumption | exact Hp.push_new _ _ | exact Hp.put_same _ _ _ | refine (Hp.push_old _ _ (by (first | assumption | (simp; done) | (simp; omega) | omega))).trans ?_ | refine (Hp.put_other _ _ (by (first | assumption | omega | (simp; done) | (simp; omega)))).trans ?_ | refine le_got (by assumption) (by (first | assumption | (simp; done) | (simp; omega) | omega)) (by intro e; cases e) ?_))))))) hl hl2) rfl Try.func25 rfl rfl rfl ?_)
    rintro v H ⟨rfl, rfl⟩
    first | refine aops_val (av_assign_int rfl) ?_ | refine aops_val (av_assign rfl) ?_
    refine ac_seq ?_
    refine ac_seq ?_
    refine ac_region (by kernel_rfl) ?_
    first | refine aops_val (av_move_int rfl) ?_ | refine aops_val (av_move rfl) ?_
    refine aops_val (av_eq rfl rfl) ?_
    refine ac_split rfl rfl ?_ ?_
    · intro hc2
      (try simp only [decide_eq_true_eq, decide_eq_false_iff_not, Bool.not_eq_true', Bool.not_eq_false'] at hc2)
      refine ac_region (by kernel_rfl) ?_
      refine aops_val (av_fieldOff (off := 2) rfl Try.underlying24 rfl inf3.size (by decide) rfl) ?_
      refine aops_val (av_load1 rfl Try.underlying3 rfl (by (first | assumption | exact (cell_own (by (repeat (first | assumption | exact Hp.push_new _ _ | exact Hp.put_same _ _ _ | refine (Hp.push_old _ _ (by (first | assumption | (simp; done) | (simp; omega) | omega))).trans ?_ | refine (Hp.put_other _ _ (by (first | assumption | omega | (simp; done) | (simp; omega)))).trans ?_ | refine le_got (by assumption) (by (first | assumption | (simp; done) | (simp; omega) | omega)) (by intro e; cases e) ?_)))).trans rfl | exact Hp.cell_le (by assumption) (by (repeat (first | assumption | exact Hp.le_refl _ | refine Hp.le_put_new ?_ (by (first | assumption | (simp; done) | (simp; omega) | omega)) _ | refine Hp.le_push' ?_ _ | refine Hp.le_trans ?_ (by assumption)))) (by (first | assumption | (simp; done) | (simp; omega) | omega))))) ?_
      refine aops_val (av_fieldOff (off := 3) rfl Try.underlying24 rfl inf3.size (by decide) rfl) ?_
      refine aops_val (av_load1 rfl Try.underlying3 rfl (by (first | assumption | exact (cell_own (by (repeat (first | assumption | exact Hp.push_new _ _ | exact Hp.put_same _ _ _ | refine (Hp.push_old _ _ (by (first | assumption | (simp; done) | (simp; omega) | omega))).trans ?_ | refine (Hp.put_other _ _ (by (first | assumption | omega | (simp; done) | (simp; omega)))).trans ?_ | refine le_got (by assumption) (by (first | assumption | (simp; done) | (simp; omega) | omega)) (by intro e; cases e) ?_)))).trans rfl | exact Hp.cell_le (by assumption) (by (repeat (first | assumption | exact Hp.le_refl _ | refine Hp.le_put_new ?_ (by (first | assumption | (simp; done) | (simp; omega) | omega)) _ | refine Hp.le_push' ?_ _ | refine Hp.le_trans ?_ (by assumption)))) (by (first | assumption | (simp; done) | (simp; omega) | omega))))) ?_
      first | refine aops_make (am_buildSlice (r := [.int .i64 _, .int .i64 _]) Try.underlying22 inf3.size inf3.zero rfl (by decide) (by decide) (by decide) rfl) ?_
      refine aops_val (av_fieldOff (off := 2) rfl Try.underlying24 rfl inf3.size (by decide) rfl) ?_
      refine aops_val (av_load1 rfl Try.underlying3 rfl (by (first | assumption | exact (cell_own (by (repeat (first | assumption | exact Hp.push_new _ _ | exact Hp.put_same _ _ _ | refine (Hp.push_old _ _ (by (first | assumption | (simp; done) | (simp; omega) | omega))).trans ?_ | refine (Hp.put_other _ _ (by (first | assumption | omega | (simp; done) | (simp; omega)))).trans ?_ | refine le_got (by assumption) (by (first | assumption | (simp; done) | (simp; omega) | omega)) (by intro e; cases e) ?_)))).trans rfl | exact Hp.cell_le (by assumption) (by (repeat (first | assumption | exact Hp.le_refl _ | refine Hp.le_put_new ?_ (by (first | assumption | (simp; done) | (simp; omega) | omega)) _ | refine Hp.le_push' ?_ _ | refine Hp.le_trans ?_ (by assumption)))) (by (first | assumption | (simp; done) | (simp; omega) | omega))))) ?_
      refine aops_val (av_fieldOff (off := 3) rfl Try.underlying24 rfl inf3.size (by decide) rfl) ?_
      refine aops_val (av_load1 rfl Try.underlying3 rfl (by (first | assumption | exact (cell_own (by (repeat (first | assumption | exact Hp.push_new _ _ | exact Hp.put_same _ _ _ | refine (Hp.push_old _ _ (by (first | assumption | (simp; done) | (simp; omega) | omega))).trans ?_ | refine (Hp.put_other _ _ (by (first | assumption | omega | (simp; done) | (simp; omega)))).trans ?_ | refine le_got (by assumption) (by (first | assumption | (simp; done) | (simp; omega) | omega)) (by intro e; cases e) ?_)))).trans rfl | exact Hp.cell_le (by assumption) (by (repeat (first | assumption | exact Hp.le_refl _ | refine Hp.le_put_new ?_ (by (first | assumption | (simp; done) | (simp; omega) | omega)) _ | refine Hp.le_push' ?_ _ | refine Hp.le_trans ?_ (by assumption)))) (by (first | assumption | (simp; done) | (simp; omega) | omega))))) ?_
      first | refine aops_make (am_buildSlice (r := [.int .i64 _, .int .i64 _]) Try.underlying22 inf3.size inf3.zero rfl (by decide) (by decide) (by decide) rfl) ?_
      refine aops_op (aop_call (list_ints [x.place, x.rank] [y.place, y.rank] _ _ _ ((sl_ints (xs := [x.place, x.rank]) (by simp) (Hp.push_new _ _)).mono (by (repeat (first | assumption | exact Hp.sees.refl _ | refine Hp.sees_put_new ?_ (by (first | assumption | (simp; done) | (simp; omega) | omega)) _ | refine Hp.sees.push ?_ _ | refine Hp.sees.trans ?_ (by assumption) | refine Hp.sees.trans ?_ (Hp.le.sees (by assumption)) | refine Hp.sees.box ?_ (by (repeat (first | assumption | exact Hp.push_new _ _ | exact Hp.put_same _ _ _ | refine (Hp.push_old _ _ (by (first | assumption | (simp; done) | (simp; omega) | omega))).trans ?_ | refine (Hp.put_other _ _ (by (first | assumption | omega | (simp; done) | (simp; omega)))).trans ?_ | refine le_got (by assumption) (by (first | assumption | (simp; done) | (simp; omega) | omega)) (by intro e; cases e) ?_))))))) (sl_ints (xs := [y.place, y.rank]) (by simp) (Hp.push_new _ _)) (by simp) (by simp)) rfl Try.func25 rfl rfl rfl ?_)
      rintro v H ⟨rfl, rfl⟩
      first | refine aops_val (av_assign_int rfl) ?_ | refine aops_val (av_assign rfl) ?_
      refine ac_seq ?_
      refine ac_region (by kernel_rfl) ?_
      first | refine aops_val (av_move_int rfl) ?_ | refine aops_val (av_move rfl) ?_
      first | refine aops_val (av_assign_int rfl) ?_ | refine aops_val (av_assign rfl) ?_
      refine ac_ret ?_
      exact ⟨_, aresult1 (ares_tmp rfl), congrArg (Value.int .i64) (show cmpL [x.place, x.rank] [y.place, y.rank] = cmpItem x y by rw [cmpItem_ref, if_pos (by assumption), if_pos (by assumption)])⟩
    · intro hc2
      (try simp only [decide_eq_true_eq, decide_eq_false_iff_not, Bool.not_eq_true', Bool.not_eq_false'] at hc2)
      refine ac_skip ?_
      refine ac_seq ?_
      refine ac_region (by kernel_rfl) ?_
      first | refine aops_val (av_move_int rfl) ?_ | refine aops_val (av_move rfl) ?_
      first | refine aops_val (av_assign_int rfl) ?_ | refine aops_val (av_assign rfl) ?_
      refine ac_ret ?_
      exact ⟨_, aresult1 (ares_tmp rfl), congrArg (Value.int .i64) (show cmpL x.nodes y.nodes = cmpItem x y by rw [cmpItem_ref, if_pos (by assumption), if_neg (by assumption)])⟩
  · intro hc1
    (try simp only [decide_eq_true_eq, decide_eq_false_iff_not, Bool.not_eq_true', Bool.not_eq_false'] at hc1)
    refine ac_skip ?_
    refine ac_seq ?_
    refine ac_seq ?_
    refine ac_region (by kernel_rfl) ?_
    first | refine aops_val (av_move_int rfl) ?_ | refine aops_val (av_move rfl) ?_
    refine aops_val (av_eq rfl rfl) ?_
    refine ac_split rfl rfl ?_ ?_
    · intro hc3
      (try simp only [decide_eq_true_eq, decide_eq_false_iff_not, Bool.not_eq_true', Bool.not_eq_false'] at hc3)
      refine ac_region (by kernel_rfl) ?_
      refine aops_val (av_fieldOff (off := 2) rfl Try.underlying24 rfl inf3.size (by decide) rfl) ?_
      refine aops_val (av_load1 rfl Try.underlying3 rfl (by (first | assumption | exact (cell_own (by (repeat (first | assumption | exact Hp.push_new _ _ | exact Hp.put_same _ _ _ | refine (Hp.push_old _ _ (by (first | assumption | (simp; done) | (simp; omega) | omega))).trans ?_ | refine (Hp.put_other _ _ (by (first | assumption | omega | (simp; done) | (simp; omega)))).trans ?_ | refine le_got (by assumption) (by (first | assumption | (simp; done) | (simp; omega) | omega)) (by intro e; cases e) ?_)))).trans rfl | exact Hp.cell_le (by assumption) (by (repeat (first | assumption | exact Hp.le_refl _ | refine Hp.le_put_new ?_ (by (first | assumption | (simp; done) | (simp; omega) | omega)) _ | refine Hp.le_push' ?_ _ | refine Hp.le_trans ?_ (by assumption)))) (by (first | assumption | (simp; done) | (simp; omega) | omega))))) ?_
      refine aops_val (av_fieldOff (off := 3) rfl Try.underlying24 rfl inf3.size (by decide) rfl) ?_
      refine aops_val (av_load1 rfl Try.underlying3 rfl (by (first | assumption | exact (cell_own (by (repeat (first | assumption | exact Hp.push_new _ _ | exact Hp.put_same _ _ _ | refine (Hp.push_old _ _ (by (first | assumption | (simp; done) | (simp; omega) | omega))).trans ?_ | refine (Hp.put_other _ _ (by (first | assumption | omega | (simp; done) | (simp; omega)))).trans ?_ | refine le_got (by assumption) (by (first | assumption | (simp; done) | (simp; omega) | omega)) (by intro e; cases e) ?_)))).trans rfl | exact Hp.cell_le (by assumption) (by (repeat (first | assumption | exact Hp.le_refl _ | refine Hp.le_put_new ?_ (by (first | assumption | (simp; done) | (simp; omega) | omega)) _ | refine Hp.le_push' ?_ _ | refine Hp.le_trans ?_ (by assumption)))) (by (first | assumption | (simp; done) | (simp; omega) | omega))))) ?_
      first | refine aops_make (am_buildSlice (r := [.int .i64 _, .int .i64 _]) Try.underlying22 inf3.size inf3.zero rfl (by decide) (by decide) (by decide) rfl) ?_
      refine aops_val (av_fieldOff (off := 2) rfl Try.underlying24 rfl inf3.size (by decide) rfl) ?_
      refine aops_val (av_load1 rfl Try.underlying3 rfl (by (first | assumption | exact (cell_own (by (repeat (first | assumption | exact Hp.push_new _ _ | exact Hp.put_same _ _ _ | refine (Hp.push_old _ _ (by (first | assumption | (simp; done) | (simp; omega) | omega))).trans ?_ | refine (Hp.put_other _ _ (by (first | assumption | omega | (simp; done) | (simp; omega)))).trans ?_ | refine le_got (by assumption) (by (first | assumption | (simp; done) | (simp; omega) | omega)) (by intro e; cases e) ?_)))).trans rfl | exact Hp.cell_le (by assumption) (by (repeat (first | assumption | exact Hp.le_refl _ | refine Hp.le_put_new ?_ (by (first | assumption | (simp; done) | (simp; omega) | omega)) _ | refine Hp.le_push' ?_ _ | refine Hp.le_trans ?_ (by assumption)))) (by (first | assumption | (simp; done) | (simp; omega) | omega))))) ?_
      refine aops_val (av_fieldOff (off := 3) rfl Try.underlying24 rfl inf3.size (by decide) rfl) ?_
      refine aops_val (av_load1 rfl Try.underlying3 rfl (by (first | assumption | exact (cell_own (by (repeat (first | assumption | exact Hp.push_new _ _ | exact Hp.put_same _ _ _ | refine (Hp.push_old _ _ (by (first | assumption | (simp; done) | (simp; omega) | omega))).trans ?_ | refine (Hp.put_other _ _ (by (first | assumption | omega | (simp; done) | (simp; omega)))).trans ?_ | refine le_got (by assumption) (by (first | assumption | (simp; done) | (simp; omega) | omega)) (by intro e; cases e) ?_)))).trans rfl | exact Hp.cell_le (by assumption) (by (repeat (first | assumption | exact Hp.le_refl _ | refine Hp.le_put_new ?_ (by (first | assumption | (simp; done) | (simp; omega) | omega)) _ | refine Hp.le_push' ?_ _ | refine Hp.le_trans ?_ (by assumption)))) (by (first | assumption | (simp; done) | (simp; omega) | omega))))) ?_
      first | refine aops_make (am_buildSlice (r := [.int .i64 _, .int .i64 _]) Try.underlying22 inf3.size inf3.zero rfl (by decide) (by decide) (by decide) rfl) ?_
      refine aops_op (aop_call (list_ints [x.place, x.rank] [y.place, y.rank] _ _ _ ((sl_ints (xs := [x.place, x.rank]) (by simp) (Hp.push_new _ _)).mono (by (repeat (first | assumption | exact Hp.sees.refl _ | refine Hp.sees_put_new ?_ (by (first | assumption | (simp; done) | (simp; omega) | omega)) _ | refine Hp.sees.push ?_ _ | refine Hp.sees.trans ?_ (by assumption) | refine Hp.sees.trans ?_ (Hp.le.sees (by assumption)) | refine Hp.sees.box ?_ (by (repeat (first | assumption | exact Hp.push_new _ _ | exact Hp.put_same _ _ _ | refine (Hp.push_old _ _ (by (first | assumption | (simp; done) | (simp; omega) | omega))).trans ?_ | refine (Hp.put_other _ _ (by (first | assumption | omega | (simp; done) | (simp; omega)))).trans ?_ | refine le_got (by assumption) (by (first | assumption | (simp; done) | (simp; omega) | omega)) (by intro e; cases e) ?_))))))) (sl_ints (xs := [y.place, y.rank]) (by simp) (Hp.push_new _ _)) (by simp) (by simp)) rfl Try.func25 rfl rfl rfl ?_)
      rintro v H ⟨rfl, rfl⟩
      first | refine aops_val (av_assign_int rfl) ?_ | refine aops_val (av_assign rfl) ?_
      refine ac_seq ?_
      refine ac_region (by kernel_rfl) ?_
      first | refine aops_val (av_move_int rfl) ?_ | refine aops_val (av_move rfl) ?_
      first | refine aops_val (av_assign_int rfl) ?_ | refine aops_val (av_assign rfl) ?_
      refine ac_ret ?_
      exact absurd hc3 (by assumption)
    · intro hc3
      (try simp only [decide_eq_true_eq, decide_eq_false_iff_not, Bool.not_eq_true', Bool.not_eq_false'] at hc3)
      refine ac_skip ?_
      refine ac_seq ?_
      refine ac_region (by kernel_rfl) ?_
      first | refine aops_val (av_move_int rfl) ?_ | refine aops_val (av_move rfl) ?_
      first | refine aops_val (av_assign_int rfl) ?_ | refine aops_val (av_assign rfl) ?_
      refine ac_ret ?_
      exact ⟨_, aresult1 (ares_tmp rfl), congrArg (Value.int .i64) (show cmpL [x.cost] [y.cost] = cmpItem x y by rw [cmpItem_ref, if_neg (by assumption)])⟩
theorem refOrder_item (x y : Item) (cs ds : List Value) (H : Hp) (hc : kItem.rep H x cs) (hd : kItem.rep H y ds) (hl : x.nodes.length < 9223372036854775807) (hl2 : y.nodes.length < 9223372036854775807) :
    ACalls Try.prog 11 #[.agg cs.toArray, .agg ds.toArray] H (fun r H' => r = .int .i64 (cmpItem x y) ∧ H' = H) := by
  obtain ⟨v, rfl, hv⟩ := hc
  obtain ⟨u, rfl, hu⟩ := hd
  exact ACalls.pure (fun v h => by rw [h]; rfl) (refOrder_raw x y v u H.ro (hv.mono H.sees_ro) (hu.mono H.sees_ro) hl hl2)
/-- Two lists of items are one. -/
def sameL : List Item → List Item → Bool
  | [], [] => true
  | x :: xs, y :: ys => decide (cmpItem x y = 0) && sameL xs ys
  | _, _ => false
theorem sameL_len : ∀ {xs ys : List Item}, xs.length ≠ ys.length → sameL xs ys = false
  | [], [], h => absurd rfl h
  | [], _ :: _, _ => rfl
  | _ :: _, [], _ => rfl
  | x :: xs, y :: ys, h => by rw [sameL, sameL_len (by simpa using h), Bool.and_false]
/-- The lists' items can be looked at. -/
def Good (xs : List Item) : Prop := ∀ x ∈ xs, x.nodes.length < 9223372036854775807
theorem refSame_items (xs ys : List Item) (v u : Value) (H : Hp) (hs : Sl kItem H v xs) (hu : Sl kItem H u ys) (hx : Good xs) (hy : Good ys) (hl : xs.length < 9223372036854775807) :
    ACalls Try.prog 13 #[v, u] H (fun r H' => r = .bool (sameL xs ys) ∧ H' = H) := by
  obtain ⟨A, c, rfl⟩ := hs.shape
  obtain ⟨B, c2, rfl⟩ := hu.shape
  refine acalls_of_code Try.func13 rfl rfl rfl (by simp) ?_
  refine ac_seq ?_
  refine ac_region (by kernel_rfl) ?_
  first | refine aops_val (av_assign_bool rfl) ?_ | refine aops_val (av_assign rfl) ?_
  refine ac_seq ?_
  refine ac_seq ?_
  refine ac_region (by kernel_rfl) ?_
  first | refine aops_val (av_move_sl rfl) ?_ | refine aops_val (av_move rfl) ?_
  refine aops_val (av_len rfl Try.underlying25) ?_
  first | refine aops_val (av_move_sl rfl) ?_ | refine aops_val (av_move rfl) ?_
  refine aops_val (av_len rfl Try.underlying25) ?_
  refine aops_val (av_ne rfl rfl) ?_
  refine ac_split rfl rfl ?_ ?_
  · intro hc1
    (try simp only [decide_eq_true_eq, decide_eq_false_iff_not, Bool.not_eq_true', Bool.not_eq_false'] at hc1)
    refine ac_seq ?_
    refine ac_region (by kernel_rfl) ?_
    first | refine aops_val (av_assign_bool rfl) ?_ | refine aops_val (av_assign rfl) ?_
    refine ac_ret ?_
    exact ⟨.bool false, aresult1 (ares_tmp rfl), by rw [sameL_len (by omega)], rfl⟩
  · intro hc1
    (try simp only [decide_eq_true_eq, decide_eq_false_iff_not, Bool.not_eq_true', Bool.not_eq_false'] at hc1)
    refine ac_skip ?_
    refine ac_seq ?_
    refine ac_seq ?_
    refine ac_region (by kernel_rfl) ?_
    first | refine aops_val (av_assign_int rfl) ?_ | refine aops_val (av_assign rfl) ?_
    refine ac_block ?_
    refine ac_loop (fun n t H' => ∃ i : Nat, i ≤ xs.length ∧ n = xs.length - i ∧ H' = H ∧ sameL xs ys = sameL (xs.drop i) (ys.drop i) ∧ t 0 = .slice A xs.length c ∧ t 1 = .slice B ys.length c2 ∧ t 5 = .int .i64 i) (_) (⟨0, by omega, rfl, rfl, rfl, rfl, rfl, rfl⟩) ?_
    rintro n t _ ⟨i, hi, rfl, rfl, hor, e0, e1, e5⟩
    refine ac_seq ?_
    refine ac_seq ?_
    refine ac_region (by kernel_rfl) ?_
    first | refine aops_val (av_move_int (by first | assumption | rfl)) ?_ | refine aops_val (av_move (by first | assumption | rfl)) ?_
    first | refine aops_val (av_move_sl (by first | assumption | rfl)) ?_ | refine aops_val (av_move (by first | assumption | rfl)) ?_
    refine aops_val (av_len rfl Try.underlying25) ?_
    refine aops_val (av_lt rfl rfl) ?_
    refine ac_split rfl rfl ?_ ?_
    · intro hc2
      (try simp only [decide_eq_true_eq, decide_eq_false_iff_not, Bool.not_eq_true', Bool.not_eq_false'] at hc2)
      refine ac_skip ?_
      refine ac_seq ?_
      refine ac_block ?_
      refine ac_seq ?_
      refine ac_draw (by kernel_rfl) (reg_of (B := [0, 0, 3, 7, 0, 0, 48, 112, 255, 511]) (π := [0, 1, 2, 3, 4, 5, 6, 7, 8, 9]) (by kernel_rfl)) ?_
      first | refine adr_val rfl rfl (av_move_sl (by first | assumption | rfl)) (by (simp only [List.not_mem_nil, List.mem_singleton, false_implies, forall_eq, implies_true, Hp.put_size, Hp.push_size]; try omega)) ?_ | refine adr_val rfl rfl (av_move (by first | assumption | rfl)) (by (simp only [List.not_mem_nil, List.mem_singleton, false_implies, forall_eq, implies_true, Hp.put_size, Hp.push_size]; try omega)) ?_
      first | refine adr_val rfl rfl (av_move_int (by first | assumption | rfl)) (by (simp only [List.not_mem_nil, List.mem_singleton, false_implies, forall_eq, implies_true, Hp.put_size, Hp.push_size]; try omega)) ?_ | refine adr_val rfl rfl (av_move (by first | assumption | rfl)) (by (simp only [List.not_mem_nil, List.mem_singleton, false_implies, forall_eq, implies_true, Hp.put_size, Hp.push_size]; try omega)) ?_
      have hix : i < xs.length := by omega
      have hiy : i < ys.length := by omega
      obtain ⟨b, o, cs, rfl, hb, ⟨w1, rfl, hw1⟩, hcells⟩ := hs.elem_at hix
      obtain ⟨b2, o2, ds, rfl, hb2, ⟨w2, rfl, hw2⟩, hcells2⟩ := hu.elem_at hiy
      obtain ⟨A6, c6, rfl⟩ := hw1.shape
      obtain ⟨A7, c7, rfl⟩ := hw2.shape
      have d1 : xs.drop i = xs[i] :: xs.drop (i + 1) := List.drop_eq_getElem_cons hix
      have d2 : ys.drop i = ys[i] :: ys.drop (i + 1) := List.drop_eq_getElem_cons hiy
      refine adr_val rfl rfl (av_indexAddr rfl rfl Try.underlying25 inf24.size (by (first | assumption | omega | (simp only [Int.toNat_natCast] at *; omega))) (by (first | assumption | omega | (simp only [Int.toNat_natCast] at *; omega)))) (by (simp only [List.not_mem_nil, List.mem_singleton, false_implies, forall_eq, implies_true, Hp.put_size, Hp.push_size]; try omega)) ?_
      first | refine adr_val rfl rfl (av_loadN (cs := [.int .i64 _, .slice _ _ _, .int .i64 _, .int .i64 _]) rfl Try.underlying24 rfl inf24.size (by (first | assumption | exact cells_get (by (repeat (first | assumption | exact Hp.push_new _ _ | exact Hp.put_same _ _ _ | refine (Hp.push_old _ _ (by (first | assumption | (simp; done) | (simp; omega) | omega))).trans ?_ | refine (Hp.put_other _ _ (by (first | assumption | omega | (simp; done) | (simp; omega)))).trans ?_ | refine le_got (by assumption) (by (first | assumption | (simp; done) | (simp; omega) | omega)) (by intro e; cases e) ?_))) rfl | exact Cells.le (by assumption) (by (repeat (first | assumption | exact Hp.le_refl _ | refine Hp.le_put_new ?_ (by (first | assumption | (simp; done) | (simp; omega) | omega)) _ | refine Hp.le_push' ?_ _ | refine Hp.le_trans ?_ (by assumption)))) (by (first | assumption | (simp; done) | (simp; omega) | omega))))) (by (simp only [List.not_mem_nil, List.mem_singleton, false_implies, forall_eq, implies_true, Hp.put_size, Hp.push_size]; try omega)) ?_ | refine adr_val rfl rfl (av_loadN (cs := [.int .i64 _, _, .int .i64 _, .int .i64 _]) rfl Try.underlying24 rfl inf24.size (by (first | assumption | exact cells_get (by (repeat (first | assumption | exact Hp.push_new _ _ | exact Hp.put_same _ _ _ | refine (Hp.push_old _ _ (by (first | assumption | (simp; done) | (simp; omega) | omega))).trans ?_ | refine (Hp.put_other _ _ (by (first | assumption | omega | (simp; done) | (simp; omega)))).trans ?_ | refine le_got (by assumption) (by (first | assumption | (simp; done) | (simp; omega) | omega)) (by intro e; cases e) ?_))) rfl | exact Cells.le (by assumption) (by (repeat (first | assumption | exact Hp.le_refl _ | refine Hp.le_put_new ?_ (by (first | assumption | (simp; done) | (simp; omega) | omega)) _ | refine Hp.le_push' ?_ _ | refine Hp.le_trans ?_ (by assumption)))) (by (first | assumption | (simp; done) | (simp; omega) | omega))))) (by (simp only [List.not_mem_nil, List.mem_singleton, false_implies, forall_eq, implies_true, Hp.put_size, Hp.push_size]; try omega)) ?_
      first | refine adr_val rfl rfl (av_move_sl (by first | assumption | rfl)) (by (simp only [List.not_mem_nil, List.mem_singleton, false_implies, forall_eq, implies_true, Hp.put_size, Hp.push_size]; try omega)) ?_ | refine adr_val rfl rfl (av_move (by first | assumption | rfl)) (by (simp only [List.not_mem_nil, List.mem_singleton, false_implies, forall_eq, implies_true, Hp.put_size, Hp.push_size]; try omega)) ?_
      first | refine adr_val rfl rfl (av_move_int (by first | assumption | rfl)) (by (simp only [List.not_mem_nil, List.mem_singleton, false_implies, forall_eq, implies_true, Hp.put_size, Hp.push_size]; try omega)) ?_ | refine adr_val rfl rfl (av_move (by first | assumption | rfl)) (by (simp only [List.not_mem_nil, List.mem_singleton, false_implies, forall_eq, implies_true, Hp.put_size, Hp.push_size]; try omega)) ?_
      refine adr_val rfl rfl (av_indexAddr rfl rfl Try.underlying25 inf24.size (by (first | assumption | omega | (simp only [Int.toNat_natCast] at *; omega))) (by (first | assumption | omega | (simp only [Int.toNat_natCast] at *; omega)))) (by (simp only [List.not_mem_nil, List.mem_singleton, false_implies, forall_eq, implies_true, Hp.put_size, Hp.push_size]; try omega)) ?_
      first | refine adr_val rfl rfl (av_loadN (cs := [.int .i64 _, .slice _ _ _, .int .i64 _, .int .i64 _]) rfl Try.underlying24 rfl inf24.size (by (first | assumption | exact cells_get (by (repeat (first | assumption | exact Hp.push_new _ _ | exact Hp.put_same _ _ _ | refine (Hp.push_old _ _ (by (first | assumption | (simp; done) | (simp; omega) | omega))).trans ?_ | refine (Hp.put_other _ _ (by (first | assumption | omega | (simp; done) | (simp; omega)))).trans ?_ | refine le_got (by assumption) (by (first | assumption | (simp; done) | (simp; omega) | omega)) (by intro e; cases e) ?_))) rfl | exact Cells.le (by assumption) (by (repeat (first | assumption | exact Hp.le_refl _ | refine Hp.le_put_new ?_ (by (first | assumption | (simp; done) | (simp; omega) | omega)) _ | refine Hp.le_push' ?_ _ | refine Hp.le_trans ?_ (by assumption)))) (by (first | assumption | (simp; done) | (simp; omega) | omega))))) (by (simp only [List.not_mem_nil, List.mem_singleton, false_implies, forall_eq, implies_true, Hp.put_size, Hp.push_size]; try omega)) ?_ | refine adr_val rfl rfl (av_loadN (cs := [.int .i64 _, _, .int .i64 _, .int .i64 _]) rfl Try.underlying24 rfl inf24.size (by (first | assumption | exact cells_get (by (repeat (first | assumption | exact Hp.push_new _ _ | exact Hp.put_same _ _ _ | refine (Hp.push_old _ _ (by (first | assumption | (simp; done) | (simp; omega) | omega))).trans ?_ | refine (Hp.put_other _ _ (by (first | assumption | omega | (simp; done) | (simp; omega)))).trans ?_ | refine le_got (by assumption) (by (first | assumption | (simp; done) | (simp; omega) | omega)) (by intro e; cases e) ?_))) rfl | exact Cells.le (by assumption) (by (repeat (first | assumption | exact Hp.le_refl _ | refine Hp.le_put_new ?_ (by (first | assumption | (simp; done) | (simp; omega) | omega)) _ | refine Hp.le_push' ?_ _ | refine Hp.le_trans ?_ (by assumption)))) (by (first | assumption | (simp; done) | (simp; omega) | omega))))) (by (simp only [List.not_mem_nil, List.mem_singleton, false_implies, forall_eq, implies_true, Hp.put_size, Hp.push_size]; try omega)) ?_
      refine adr_op rfl rfl (aop_call (refOrder_item xs[i] ys[i] _ _ _ ⟨_, rfl, hw1⟩ ⟨_, rfl, hw2⟩ (hx _ (List.getElem_mem hix)) (hy _ (List.getElem_mem hiy))) rfl Try.func11 rfl rfl rfl ?_)
      rintro v H ⟨rfl, rfl⟩
      refine ⟨by (first | exact fun _ _ _ _ _ => rfl | (repeat (first | exact List.forall_mem_nil _ | refine List.forall_mem_cons.2 ⟨?_, ?_⟩ | (intro hb b hbm; first | (dsimp only at hb; exact absurd hb (by decide)) | (exact absurd hbm (List.not_mem_nil)) | (simp only [List.mem_singleton] at hbm; subst hbm; (first | rfl | exact Hp.put_other _ _ (by (first | assumption | omega | (simp; done) | (simp; omega))) | exact Hp.le.same (by assumption) (by (first | assumption | (simp; done) | (simp; omega) | omega)) (by (repeat (first | assumption | exact Hp.push_new _ _ | exact Hp.put_same _ _ _ | refine (Hp.push_old _ _ (by (first | assumption | (simp; done) | (simp; omega) | omega))).trans ?_ | refine (Hp.put_other _ _ (by (first | assumption | omega | (simp; done) | (simp; omega)))).trans ?_ | refine le_got (by assumption) (by (first | assumption | (simp; done) | (simp; omega) | omega)) (by intro e; cases e) ?_))) | exact hsameO _ _ _ (by (first | assumption | (simp; done) | (simp; omega) | omega)) (by (repeat (first | assumption | exact Hp.push_new _ _ | exact Hp.put_same _ _ _ | refine (Hp.push_old _ _ (by (first | assumption | (simp; done) | (simp; omega) | omega))).trans ?_ | refine (Hp.put_other _ _ (by (first | assumption | omega | (simp; done) | (simp; omega)))).trans ?_ | refine le_got (by assumption) (by (first | assumption | (simp; done) | (simp; omega) | omega)) (by intro e; cases e) ?_))))) | exact hsame _ hbm)))), ?_⟩
      refine adr_val rfl rfl (av_ne rfl rfl) (by (simp only [List.not_mem_nil, List.mem_singleton, false_implies, forall_eq, implies_true, Hp.put_size, Hp.push_size]; try omega)) ?_
      refine ac_split rfl rfl ?_ ?_
      · intro hc3
        (try simp only [decide_eq_true_eq, decide_eq_false_iff_not, Bool.not_eq_true', Bool.not_eq_false'] at hc3)
        refine ac_seq ?_
        refine ac_region (by kernel_rfl) ?_
        first | refine aops_val (av_assign_bool rfl) ?_ | refine aops_val (av_assign rfl) ?_
        refine ac_ret ?_
        exact ⟨.bool false, aresult1 (ares_tmp rfl), by rw [hor, d1, d2, sameL, decide_eq_false (by assumption)]; rfl, rfl⟩
      · intro hc3
        (try simp only [decide_eq_true_eq, decide_eq_false_iff_not, Bool.not_eq_true', Bool.not_eq_false'] at hc3)
        refine ac_skip ?_
        refine ac_region (by kernel_rfl) ?_
        first | refine aops_val (av_move_int (by first | assumption | rfl)) ?_ | refine aops_val (av_move (by first | assumption | rfl)) ?_
        first | refine aops_val (av_add64 rfl rfl (by (first | assumption | omega | (simp; omega)))) ?_ | refine aops_val (av_add rfl rfl) ?_
        first | refine aops_val (av_assign_int rfl) ?_ | refine aops_val (av_assign rfl) ?_
        exact ⟨xs.length - (i + 1), by omega, i + 1, by omega, rfl, rfl, by rw [hor, d1, d2, sameL, decide_eq_true (by omega)]; rfl, e0, e1, rfl⟩
    · intro hc2
      (try simp only [decide_eq_true_eq, decide_eq_false_iff_not, Bool.not_eq_true', Bool.not_eq_false'] at hc2)
      refine ac_exit ?_
      refine ac_seq ?_
      refine ac_region (by kernel_rfl) ?_
      first | refine aops_val (av_assign_bool rfl) ?_ | refine aops_val (av_assign rfl) ?_
      refine ac_ret ?_
      exact ⟨.bool true, aresult1 (ares_tmp rfl), by rw [hor, List.drop_of_length_le (by omega), List.drop_of_length_le (by omega)]; rfl, rfl⟩
theorem Order_raw (x y : Item) (v u : Value) (H : Hp) (hv : Sl (kInt .i64) H v x.nodes) (hu : Sl (kInt .i64) H u y.nodes) (hl : x.nodes.length < 9223372036854775807) (hl2 : y.nodes.length < 9223372036854775807) :
    ACalls Try.prog 10 #[.agg #[.int .i64 x.cost, v, .int .i64 x.place, .int .i64 x.rank], .agg #[.int .i64 y.cost, u, .int .i64 y.place, .int .i64 y.rank]] H (fun r _ => r = .int .i64 (cmpItem x y)) := by
  refine acalls_of_code Try.func10 rfl rfl rfl (by simp) ?_
  refine ac_seq ?_
  refine ac_region (by kernel_rfl) ?_
  refine aops_make (am_box_agg rfl) ?_
  refine aops_make (am_box_agg rfl) ?_
  first | refine aops_val (av_assign_int rfl) ?_ | refine aops_val (av_assign rfl) ?_
  refine ac_seq ?_
  refine ac_region (by kernel_rfl) ?_
  first | refine aops_val (av_loadN (cs := [.int .i64 _, .slice _ _ _, .int .i64 _, .int .i64 _]) rfl Try.underlying24 rfl inf24.size (by (first | assumption | exact cells_get (by (repeat (first | assumption | exact Hp.push_new _ _ | exact Hp.put_same _ _ _ | refine (Hp.push_old _ _ (by (first | assumption | (simp; done) | (simp; omega) | omega))).trans ?_ | refine (Hp.put_other _ _ (by (first | assumption | omega | (simp; done) | (simp; omega)))).trans ?_ | refine le_got (by assumption) (by (first | assumption | (simp; done) | (simp; omega) | omega)) (by intro e; cases e) ?_))) rfl | exact Cells.le (by assumption) (by (repeat (first | assumption | exact Hp.le_refl _ | refine Hp.le_put_new ?_ (by (first | assumption | (simp; done) | (simp; omega) | omega)) _ | refine Hp.le_push' ?_ _ | refine Hp.le_trans ?_ (by assumption)))) (by (first | assumption | (simp; done) | (simp; omega) | omega))))) ?_ | refine aops_val (av_loadN (cs := [.int .i64 _, _, .int .i64 _, .int .i64 _]) rfl Try.underlying24 rfl inf24.size (by (first | assumption | exact cells_get (by (repeat (first | assumption | exact Hp.push_new _ _ | exact Hp.put_same _ _ _ | refine (Hp.push_old _ _ (by (first | assumption | (simp; done) | (simp; omega) | omega))).trans ?_ | refine (Hp.put_other _ _ (by (first | assumption | omega | (simp; done) | (simp; omega)))).trans ?_ | refine le_got (by assumption) (by (first | assumption | (simp; done) | (simp; omega) | omega)) (by intro e; cases e) ?_))) rfl | exact Cells.le (by assumption) (by (repeat (first | assumption | exact Hp.le_refl _ | refine Hp.le_put_new ?_ (by (first | assumption | (simp; done) | (simp; omega) | omega)) _ | refine Hp.le_push' ?_ _ | refine Hp.le_trans ?_ (by assumption)))) (by (first | assumption | (simp; done) | (simp; omega) | omega))))) ?_
  first | refine aops_val (av_loadN (cs := [.int .i64 _, .slice _ _ _, .int .i64 _, .int .i64 _]) rfl Try.underlying24 rfl inf24.size (by (first | assumption | exact cells_get (by (repeat (first | assumption | exact Hp.push_new _ _ | exact Hp.put_same _ _ _ | refine (Hp.push_old _ _ (by (first | assumption | (simp; done) | (simp; omega) | omega))).trans ?_ | refine (Hp.put_other _ _ (by (first | assumption | omega | (simp; done) | (simp; omega)))).trans ?_ | refine le_got (by assumption) (by (first | assumption | (simp; done) | (simp; omega) | omega)) (by intro e; cases e) ?_))) rfl | exact Cells.le (by assumption) (by (repeat (first | assumption | exact Hp.le_refl _ | refine Hp.le_put_new ?_ (by (first | assumption | (simp; done) | (simp; omega) | omega)) _ | refine Hp.le_push' ?_ _ | refine Hp.le_trans ?_ (by assumption)))) (by (first | assumption | (simp; done) | (simp; omega) | omega))))) ?_ | refine aops_val (av_loadN (cs := [.int .i64 _, _, .int .i64 _, .int .i64 _]) rfl Try.underlying24 rfl inf24.size (by (first | assumption | exact cells_get (by (repeat (first | assumption | exact Hp.push_new _ _ | exact Hp.put_same _ _ _ | refine (Hp.push_old _ _ (by (first | assumption | (simp; done) | (simp; omega) | omega))).trans ?_ | refine (Hp.put_other _ _ (by (first | assumption | omega | (simp; done) | (simp; omega)))).trans ?_ | refine le_got (by assumption) (by (first | assumption | (simp; done) | (simp; omega) | omega)) (by intro e; cases e) ?_))) rfl | exact Cells.le (by assumption) (by (repeat (first | assumption | exact Hp.le_refl _ | refine Hp.le_put_new ?_ (by (first | assumption | (simp; done) | (simp; omega) | omega)) _ | refine Hp.le_push' ?_ _ | refine Hp.le_trans ?_ (by assumption)))) (by (first | assumption | (simp; done) | (simp; omega) | omega))))) ?_
  refine aops_op (aop_call (order_item x y _ _ _ ⟨_, rfl, hv.mono (by (repeat (first | assumption | exact Hp.sees.refl _ | refine Hp.sees_put_new ?_ (by (first | assumption | (simp; done) | (simp; omega) | omega)) _ | refine Hp.sees.push ?_ _ | refine Hp.sees.trans ?_ (by assumption) | refine Hp.sees.trans ?_ (Hp.le.sees (by assumption)) | refine Hp.sees.box ?_ (by (repeat (first | assumption | exact Hp.push_new _ _ | exact Hp.put_same _ _ _ | refine (Hp.push_old _ _ (by (first | assumption | (simp; done) | (simp; omega) | omega))).trans ?_ | refine (Hp.put_other _ _ (by (first | assumption | omega | (simp; done) | (simp; omega)))).trans ?_ | refine le_got (by assumption) (by (first | assumption | (simp; done) | (simp; omega) | omega)) (by intro e; cases e) ?_))))))⟩ ⟨_, rfl, hu.mono (by (repeat (first | assumption | exact Hp.sees.refl _ | refine Hp.sees_put_new ?_ (by (first | assumption | (simp; done) | (simp; omega) | omega)) _ | refine Hp.sees.push ?_ _ | refine Hp.sees.trans ?_ (by assumption) | refine Hp.sees.trans ?_ (Hp.le.sees (by assumption)) | refine Hp.sees.box ?_ (by (repeat (first | assumption | exact Hp.push_new _ _ | exact Hp.put_same _ _ _ | refine (Hp.push_old _ _ (by (first | assumption | (simp; done) | (simp; omega) | omega))).trans ?_ | refine (Hp.put_other _ _ (by (first | assumption | omega | (simp; done) | (simp; omega)))).trans ?_ | refine le_got (by assumption) (by (first | assumption | (simp; done) | (simp; omega) | omega)) (by intro e; cases e) ?_))))))⟩ hl hl2) rfl Try.func24 rfl rfl rfl ?_)
  rintro v H ⟨rfl, rfl⟩
  first | refine aops_val (av_assign_int rfl) ?_ | refine aops_val (av_assign rfl) ?_
  refine ac_ret ?_
  exact ⟨_, aresult1 (ares_tmp rfl), rfl⟩
theorem Order_item (x y : Item) (cs ds : List Value) (H : Hp) (hc : kItem.rep H x cs) (hd : kItem.rep H y ds) (hl : x.nodes.length < 9223372036854775807) (hl2 : y.nodes.length < 9223372036854775807) :
    ACalls Try.prog 10 #[.agg cs.toArray, .agg ds.toArray] H (fun r H' => r = .int .i64 (cmpItem x y) ∧ H' = H) := by
  obtain ⟨v, rfl, hv⟩ := hc
  obtain ⟨u, rfl, hu⟩ := hd
  exact ACalls.pure (fun v h => by rw [h]; rfl) (Order_raw x y v u H.ro (hv.mono H.sees_ro) (hu.mono H.sees_ro) hl hl2)
theorem Same1_raw (x y : Item) (v u : Value) (H : Hp) (hv : Sl (kInt .i64) H v x.nodes) (hu : Sl (kInt .i64) H u y.nodes) (hl : x.nodes.length < 9223372036854775807) (hl2 : y.nodes.length < 9223372036854775807) :
    ACalls Try.prog 27 #[.agg #[.int .i64 x.cost, v, .int .i64 x.place, .int .i64 x.rank], .agg #[.int .i64 y.cost, u, .int .i64 y.place, .int .i64 y.rank]] H (fun r _ => r = .bool (decide (cmpItem x y = 0))) := by
  refine acalls_of_code Try.func27 rfl rfl rfl (by simp) ?_
  refine ac_seq ?_
  refine ac_region (by kernel_rfl) ?_
  refine aops_make (am_box_agg rfl) ?_
  refine aops_make (am_box_agg rfl) ?_
  first | refine aops_val (av_assign_bool rfl) ?_ | refine aops_val (av_assign rfl) ?_
  refine ac_seq ?_
  refine ac_region (by kernel_rfl) ?_
  first | refine aops_val (av_loadN (cs := [.int .i64 _, .slice _ _ _, .int .i64 _, .int .i64 _]) rfl Try.underlying24 rfl inf24.size (by (first | assumption | exact cells_get (by (repeat (first | assumption | exact Hp.push_new _ _ | exact Hp.put_same _ _ _ | refine (Hp.push_old _ _ (by (first | assumption | (simp; done) | (simp; omega) | omega))).trans ?_ | refine (Hp.put_other _ _ (by (first | assumption | omega | (simp; done) | (simp; omega)))).trans ?_ | refine le_got (by assumption) (by (first | assumption | (simp; done) | (simp; omega) | omega)) (by intro e; cases e) ?_))) rfl | exact Cells.le (by assumption) (by (repeat (first | assumption | exact Hp.le_refl _ | refine Hp.le_put_new ?_ (by (first | assumption | (simp; done) | (simp; omega) | omega)) _ | refine Hp.le_push' ?_ _ | refine Hp.le_trans ?_ (by assumption)))) (by (first | assumption | (simp; done) | (simp; omega) | omega))))) ?_ | refine aops_val (av_loadN (cs := [.int .i64 _, _, .int .i64 _, .int .i64 _]) rfl Try.underlying24 rfl inf24.size (by (first | assumption | exact cells_get (by (repeat (first | assumption | exact Hp.push_new _ _ | exact Hp.put_same _ _ _ | refine (Hp.push_old _ _ (by (first | assumption | (simp; done) | (simp; omega) | omega))).trans ?_ | refine (Hp.put_other _ _ (by (first | assumption | omega | (simp; done) | (simp; omega)))).trans ?_ | refine le_got (by assumption) (by (first | assumption | (simp; done) | (simp; omega) | omega)) (by intro e; cases e) ?_))) rfl | exact Cells.le (by assumption) (by (repeat (first | assumption | exact Hp.le_refl _ | refine Hp.le_put_new ?_ (by (first | assumption | (simp; done) | (simp; omega) | omega)) _ | refine Hp.le_push' ?_ _ | refine Hp.le_trans ?_ (by assumption)))) (by (first | assumption | (simp; done) | (simp; omega) | omega))))) ?_
  first | refine aops_val (av_loadN (cs := [.int .i64 _, .slice _ _ _, .int .i64 _, .int .i64 _]) rfl Try.underlying24 rfl inf24.size (by (first | assumption | exact cells_get (by (repeat (first | assumption | exact Hp.push_new _ _ | exact Hp.put_same _ _ _ | refine (Hp.push_old _ _ (by (first | assumption | (simp; done) | (simp; omega) | omega))).trans ?_ | refine (Hp.put_other _ _ (by (first | assumption | omega | (simp; done) | (simp; omega)))).trans ?_ | refine le_got (by assumption) (by (first | assumption | (simp; done) | (simp; omega) | omega)) (by intro e; cases e) ?_))) rfl | exact Cells.le (by assumption) (by (repeat (first | assumption | exact Hp.le_refl _ | refine Hp.le_put_new ?_ (by (first | assumption | (simp; done) | (simp; omega) | omega)) _ | refine Hp.le_push' ?_ _ | refine Hp.le_trans ?_ (by assumption)))) (by (first | assumption | (simp; done) | (simp; omega) | omega))))) ?_ | refine aops_val (av_loadN (cs := [.int .i64 _, _, .int .i64 _, .int .i64 _]) rfl Try.underlying24 rfl inf24.size (by (first | assumption | exact cells_get (by (repeat (first | assumption | exact Hp.push_new _ _ | exact Hp.put_same _ _ _ | refine (Hp.push_old _ _ (by (first | assumption | (simp; done) | (simp; omega) | omega))).trans ?_ | refine (Hp.put_other _ _ (by (first | assumption | omega | (simp; done) | (simp; omega)))).trans ?_ | refine le_got (by assumption) (by (first | assumption | (simp; done) | (simp; omega) | omega)) (by intro e; cases e) ?_))) rfl | exact Cells.le (by assumption) (by (repeat (first | assumption | exact Hp.le_refl _ | refine Hp.le_put_new ?_ (by (first | assumption | (simp; done) | (simp; omega) | omega)) _ | refine Hp.le_push' ?_ _ | refine Hp.le_trans ?_ (by assumption)))) (by (first | assumption | (simp; done) | (simp; omega) | omega))))) ?_
  refine aops_op (aop_call (order_item x y _ _ _ ⟨_, rfl, hv.mono (by (repeat (first | assumption | exact Hp.sees.refl _ | refine Hp.sees_put_new ?_ (by (first | assumption | (simp; done) | (simp; omega) | omega)) _ | refine Hp.sees.push ?_ _ | refine Hp.sees.trans ?_ (by assumption) | refine Hp.sees.trans ?_ (Hp.le.sees (by assumption)) | refine Hp.sees.box ?_ (by (repeat (first | assumption | exact Hp.push_new _ _ | exact Hp.put_same _ _ _ | refine (Hp.push_old _ _ (by (first | assumption | (simp; done) | (simp; omega) | omega))).trans ?_ | refine (Hp.put_other _ _ (by (first | assumption | omega | (simp; done) | (simp; omega)))).trans ?_ | refine le_got (by assumption) (by (first | assumption | (simp; done) | (simp; omega) | omega)) (by intro e; cases e) ?_))))))⟩ ⟨_, rfl, hu.mono (by (repeat (first | assumption | exact Hp.sees.refl _ | refine Hp.sees_put_new ?_ (by (first | assumption | (simp; done) | (simp; omega) | omega)) _ | refine Hp.sees.push ?_ _ | refine Hp.sees.trans ?_ (by assumption) | refine Hp.sees.trans ?_ (Hp.le.sees (by assumption)) | refine Hp.sees.box ?_ (by (repeat (first | assumption | exact Hp.push_new _ _ | exact Hp.put_same _ _ _ | refine (Hp.push_old _ _ (by (first | assumption | (simp; done) | (simp; omega) | omega))).trans ?_ | refine (Hp.put_other _ _ (by (first | assumption | omega | (simp; done) | (simp; omega)))).trans ?_ | refine le_got (by assumption) (by (first | assumption | (simp; done) | (simp; omega) | omega)) (by intro e; cases e) ?_))))))⟩ hl hl2) rfl Try.func24 rfl rfl rfl ?_)
  rintro v H ⟨rfl, rfl⟩
  refine aops_val (av_eq rfl rfl) ?_
  first | refine aops_val (av_assign_bool rfl) ?_ | refine aops_val (av_assign rfl) ?_
  refine ac_ret ?_
  exact ⟨_, aresult1 (ares_tmp rfl), rfl⟩
theorem Same1_item (x y : Item) (cs ds : List Value) (H : Hp) (hc : kItem.rep H x cs) (hd : kItem.rep H y ds) (hl : x.nodes.length < 9223372036854775807) (hl2 : y.nodes.length < 9223372036854775807) :
    ACalls Try.prog 27 #[.agg cs.toArray, .agg ds.toArray] H (fun r H' => r = .bool (decide (cmpItem x y = 0)) ∧ H' = H) := by
  obtain ⟨v, rfl, hv⟩ := hc
  obtain ⟨u, rfl, hu⟩ := hd
  exact ACalls.pure (fun v h => by rw [h]; rfl) (Same1_raw x y v u H.ro (hv.mono H.sees_ro) (hu.mono H.sees_ro) hl hl2)
theorem EqualFunc_raw (xs ys : List Item) (v u : Value) (H : Hp) (hs : Sl kItem H v xs) (hu : Sl kItem H u ys) (hx : Good xs) (hy : Good ys) (hl : xs.length < 9223372036854775807) :
    ACalls Try.prog 26 #[v, u, .func (.func 27) #[] #[]] H (fun r _ => r = .bool (sameL xs ys)) := by
  obtain ⟨A, c, rfl⟩ := hs.shape
  obtain ⟨B, c2, rfl⟩ := hu.shape
  refine acalls_of_code Try.func26 rfl rfl rfl (by simp) ?_
  refine ac_seq ?_
  refine ac_region (by kernel_rfl) ?_
  first | refine aops_val (av_assign_bool rfl) ?_ | refine aops_val (av_assign rfl) ?_
  refine ac_seq ?_
  refine ac_seq ?_
  refine ac_region (by kernel_rfl) ?_
  first | refine aops_val (av_move_sl rfl) ?_ | refine aops_val (av_move rfl) ?_
  refine aops_val (av_len rfl Try.underlying25) ?_
  first | refine aops_val (av_move_sl rfl) ?_ | refine aops_val (av_move rfl) ?_
  refine aops_val (av_len rfl Try.underlying25) ?_
  refine aops_val (av_ne rfl rfl) ?_
  refine ac_split rfl rfl ?_ ?_
  · intro hc1
    (try simp only [decide_eq_true_eq, decide_eq_false_iff_not, Bool.not_eq_true', Bool.not_eq_false'] at hc1)
    refine ac_seq ?_
    refine ac_region (by kernel_rfl) ?_
    first | refine aops_val (av_assign_bool rfl) ?_ | refine aops_val (av_assign rfl) ?_
    refine ac_ret ?_
    exact ⟨.bool false, aresult1 (ares_tmp rfl), by rw [sameL_len (by omega)]⟩
  · intro hc1
    (try simp only [decide_eq_true_eq, decide_eq_false_iff_not, Bool.not_eq_true', Bool.not_eq_false'] at hc1)
    refine ac_skip ?_
    refine ac_seq ?_
    refine ac_seq ?_
    refine ac_region (by kernel_rfl) ?_
    first | refine aops_val (av_move_sl rfl) ?_ | refine aops_val (av_move rfl) ?_
    refine aops_val (av_len rfl Try.underlying25) ?_
    first | refine aops_val (av_move_int rfl) ?_ | refine aops_val (av_move rfl) ?_
    refine ac_block ?_
    refine ac_loop (fun n t H' => ∃ i : Nat, i ≤ xs.length ∧ n = xs.length - i ∧ H.sees H' ∧ sameL xs ys = sameL (xs.drop i) (ys.drop i) ∧ t 1 = .slice B ys.length c2 ∧ t 2 = .func (.func 27) #[] #[] ∧ t 15 = .slice A xs.length c ∧ t 16 = .int .i64 xs.length ∧ t 17 = .int .i64 i) (_) (⟨0, by omega, rfl, .refl _, rfl, rfl, rfl, rfl, rfl, rfl⟩) ?_
    rintro n t H1 ⟨i, hi, rfl, hle, hor, e1, e2, e15, e16, e17⟩
    refine ac_seq ?_
    refine ac_region (by kernel_rfl) ?_
    refine aops_val (av_lt (by first | assumption | rfl) (by first | assumption | rfl)) ?_
    refine ac_seq ?_
    refine ac_split rfl rfl ?_ ?_
    · intro hc2
      (try simp only [decide_eq_true_eq, decide_eq_false_iff_not, Bool.not_eq_true', Bool.not_eq_false'] at hc2)
      refine ac_skip ?_
      refine ac_seq ?_
      refine ac_block ?_
      refine ac_seq ?_
      refine ac_region (by kernel_rfl) ?_
      first | refine aops_val (av_move_int (by first | assumption | rfl)) ?_ | refine aops_val (av_move (by first | assumption | rfl)) ?_
      have hix : i < xs.length := by omega
      have hiy : i < ys.length := by omega
      obtain ⟨b, o, cs, rfl, hb, ⟨w1, rfl, hw1⟩, hcells⟩ := (hs.mono hle).elem_at hix
      obtain ⟨b2, o2, ds, rfl, hb2, ⟨w2, rfl, hw2⟩, hcells2⟩ := (hu.mono hle).elem_at hiy
      obtain ⟨A6, c6, rfl⟩ := hw1.shape
      obtain ⟨A7, c7, rfl⟩ := hw2.shape
      have d1 : xs.drop i = xs[i] :: xs.drop (i + 1) := List.drop_eq_getElem_cons hix
      have d2 : ys.drop i = ys[i] :: ys.drop (i + 1) := List.drop_eq_getElem_cons hiy
      refine aops_val (av_indexAddr (by first | assumption | rfl) (by first | assumption | rfl) Try.underlying25 inf24.size (by (first | assumption | omega | (simp only [Int.toNat_natCast] at *; omega))) (by (first | assumption | omega | (simp only [Int.toNat_natCast] at *; omega)))) ?_
      first | refine aops_val (av_loadN (cs := [.int .i64 _, .slice _ _ _, .int .i64 _, .int .i64 _]) rfl Try.underlying24 rfl inf24.size (by (first | assumption | exact cells_get (by (repeat (first | assumption | exact Hp.push_new _ _ | exact Hp.put_same _ _ _ | refine (Hp.push_old _ _ (by (first | assumption | (simp; done) | (simp; omega) | omega))).trans ?_ | refine (Hp.put_other _ _ (by (first | assumption | omega | (simp; done) | (simp; omega)))).trans ?_ | refine le_got (by assumption) (by (first | assumption | (simp; done) | (simp; omega) | omega)) (by intro e; cases e) ?_))) rfl | exact Cells.le (by assumption) (by (repeat (first | assumption | exact Hp.le_refl _ | refine Hp.le_put_new ?_ (by (first | assumption | (simp; done) | (simp; omega) | omega)) _ | refine Hp.le_push' ?_ _ | refine Hp.le_trans ?_ (by assumption)))) (by (first | assumption | (simp; done) | (simp; omega) | omega))))) ?_ | refine aops_val (av_loadN (cs := [.int .i64 _, _, .int .i64 _, .int .i64 _]) rfl Try.underlying24 rfl inf24.size (by (first | assumption | exact cells_get (by (repeat (first | assumption | exact Hp.push_new _ _ | exact Hp.put_same _ _ _ | refine (Hp.push_old _ _ (by (first | assumption | (simp; done) | (simp; omega) | omega))).trans ?_ | refine (Hp.put_other _ _ (by (first | assumption | omega | (simp; done) | (simp; omega)))).trans ?_ | refine le_got (by assumption) (by (first | assumption | (simp; done) | (simp; omega) | omega)) (by intro e; cases e) ?_))) rfl | exact Cells.le (by assumption) (by (repeat (first | assumption | exact Hp.le_refl _ | refine Hp.le_put_new ?_ (by (first | assumption | (simp; done) | (simp; omega) | omega)) _ | refine Hp.le_push' ?_ _ | refine Hp.le_trans ?_ (by assumption)))) (by (first | assumption | (simp; done) | (simp; omega) | omega))))) ?_
      refine aops_make (am_zero (l := [.int .i64 0, .slice none 0 0, .int .i64 0, .int .i64 0]) inf24.zero rfl (by decide)) ?_
      first | refine aops_val (av_assign_int rfl) ?_ | refine aops_val (av_assign rfl) ?_
      first | refine aops_op (aop_putN (vs := [.int .i64 _, .slice _ _ _, .int .i64 _, .int .i64 _]) rfl rfl inf24.size (by (repeat (first | assumption | exact Hp.push_new _ _ | exact Hp.put_same _ _ _ | refine (Hp.push_old _ _ (by (first | assumption | (simp; done) | (simp; omega) | omega))).trans ?_ | refine (Hp.put_other _ _ (by (first | assumption | omega | (simp; done) | (simp; omega)))).trans ?_ | refine le_got (by assumption) (by (first | assumption | (simp; done) | (simp; omega) | omega)) (by intro e; cases e) ?_))) (by (first | (simp; done) | (simp; omega) | omega | (rw [setR_length (by first | (simp; omega) | omega)]; first | (simp; omega) | omega))) rfl rfl ?_) | refine aops_op (aop_putN (vs := [.int .i64 _, _, .int .i64 _, .int .i64 _]) rfl rfl inf24.size (by (repeat (first | assumption | exact Hp.push_new _ _ | exact Hp.put_same _ _ _ | refine (Hp.push_old _ _ (by (first | assumption | (simp; done) | (simp; omega) | omega))).trans ?_ | refine (Hp.put_other _ _ (by (first | assumption | omega | (simp; done) | (simp; omega)))).trans ?_ | refine le_got (by assumption) (by (first | assumption | (simp; done) | (simp; omega) | omega)) (by intro e; cases e) ?_))) (by (first | (simp; done) | (simp; omega) | omega | (rw [setR_length (by first | (simp; omega) | omega)]; first | (simp; omega) | omega))) rfl rfl ?_)
      refine ac_seq ?_
      refine ac_region (by kernel_rfl) ?_
      first | refine aops_val (av_move_sl (by first | assumption | rfl)) ?_ | refine aops_val (av_move (by first | assumption | rfl)) ?_
      first | refine aops_val (av_move_int rfl) ?_ | refine aops_val (av_move rfl) ?_
      refine aops_val (av_indexAddr rfl rfl Try.underlying25 inf24.size (by (first | assumption | omega | (simp only [Int.toNat_natCast] at *; omega))) (by (first | assumption | omega | (simp only [Int.toNat_natCast] at *; omega)))) ?_
      first | refine aops_val (av_loadN (cs := [.int .i64 _, .slice _ _ _, .int .i64 _, .int .i64 _]) rfl Try.underlying24 rfl inf24.size (by (first | assumption | exact cells_get (by (repeat (first | assumption | exact Hp.push_new _ _ | exact Hp.put_same _ _ _ | refine (Hp.push_old _ _ (by (first | assumption | (simp; done) | (simp; omega) | omega))).trans ?_ | refine (Hp.put_other _ _ (by (first | assumption | omega | (simp; done) | (simp; omega)))).trans ?_ | refine le_got (by assumption) (by (first | assumption | (simp; done) | (simp; omega) | omega)) (by intro e; cases e) ?_))) rfl | exact Cells.le (by assumption) (by (repeat (first | assumption | exact Hp.le_refl _ | refine Hp.le_put_new ?_ (by (first | assumption | (simp; done) | (simp; omega) | omega)) _ | refine Hp.le_push' ?_ _ | refine Hp.le_trans ?_ (by assumption)))) (by (first | assumption | (simp; done) | (simp; omega) | omega))))) ?_ | refine aops_val (av_loadN (cs := [.int .i64 _, _, .int .i64 _, .int .i64 _]) rfl Try.underlying24 rfl inf24.size (by (first | assumption | exact cells_get (by (repeat (first | assumption | exact Hp.push_new _ _ | exact Hp.put_same _ _ _ | refine (Hp.push_old _ _ (by (first | assumption | (simp; done) | (simp; omega) | omega))).trans ?_ | refine (Hp.put_other _ _ (by (first | assumption | omega | (simp; done) | (simp; omega)))).trans ?_ | refine le_got (by assumption) (by (first | assumption | (simp; done) | (simp; omega) | omega)) (by intro e; cases e) ?_))) rfl | exact Cells.le (by assumption) (by (repeat (first | assumption | exact Hp.le_refl _ | refine Hp.le_put_new ?_ (by (first | assumption | (simp; done) | (simp; omega) | omega)) _ | refine Hp.le_push' ?_ _ | refine Hp.le_trans ?_ (by assumption)))) (by (first | assumption | (simp; done) | (simp; omega) | omega))))) ?_
      refine aops_make (am_zero (l := [.int .i64 0, .slice none 0 0, .int .i64 0, .int .i64 0]) inf24.zero rfl (by decide)) ?_
      first | refine aops_op (aop_putN (vs := [.int .i64 _, .slice _ _ _, .int .i64 _, .int .i64 _]) rfl rfl inf24.size (by (repeat (first | assumption | exact Hp.push_new _ _ | exact Hp.put_same _ _ _ | refine (Hp.push_old _ _ (by (first | assumption | (simp; done) | (simp; omega) | omega))).trans ?_ | refine (Hp.put_other _ _ (by (first | assumption | omega | (simp; done) | (simp; omega)))).trans ?_ | refine le_got (by assumption) (by (first | assumption | (simp; done) | (simp; omega) | omega)) (by intro e; cases e) ?_))) (by (first | (simp; done) | (simp; omega) | omega | (rw [setR_length (by first | (simp; omega) | omega)]; first | (simp; omega) | omega))) rfl rfl ?_) | refine aops_op (aop_putN (vs := [.int .i64 _, _, .int .i64 _, .int .i64 _]) rfl rfl inf24.size (by (repeat (first | assumption | exact Hp.push_new _ _ | exact Hp.put_same _ _ _ | refine (Hp.push_old _ _ (by (first | assumption | (simp; done) | (simp; omega) | omega))).trans ?_ | refine (Hp.put_other _ _ (by (first | assumption | omega | (simp; done) | (simp; omega)))).trans ?_ | refine le_got (by assumption) (by (first | assumption | (simp; done) | (simp; omega) | omega)) (by intro e; cases e) ?_))) (by (first | (simp; done) | (simp; omega) | omega | (rw [setR_length (by first | (simp; omega) | omega)]; first | (simp; omega) | omega))) rfl rfl ?_)
      refine ac_seq ?_
      refine ac_region (by kernel_rfl) ?_
      first | refine aops_val (av_move_func (by first | assumption | rfl)) ?_ | refine aops_val (av_move (by first | assumption | rfl)) ?_
      first | refine aops_val (av_loadN (cs := [.int .i64 _, .slice _ _ _, .int .i64 _, .int .i64 _]) rfl Try.underlying24 rfl inf24.size (by (first | assumption | exact cells_get (by (repeat (first | assumption | exact Hp.push_new _ _ | exact Hp.put_same _ _ _ | refine (Hp.push_old _ _ (by (first | assumption | (simp; done) | (simp; omega) | omega))).trans ?_ | refine (Hp.put_other _ _ (by (first | assumption | omega | (simp; done) | (simp; omega)))).trans ?_ | refine le_got (by assumption) (by (first | assumption | (simp; done) | (simp; omega) | omega)) (by intro e; cases e) ?_))) rfl | exact Cells.le (by assumption) (by (repeat (first | assumption | exact Hp.le_refl _ | refine Hp.le_put_new ?_ (by (first | assumption | (simp; done) | (simp; omega) | omega)) _ | refine Hp.le_push' ?_ _ | refine Hp.le_trans ?_ (by assumption)))) (by (first | assumption | (simp; done) | (simp; omega) | omega))))) ?_ | refine aops_val (av_loadN (cs := [.int .i64 _, _, .int .i64 _, .int .i64 _]) rfl Try.underlying24 rfl inf24.size (by (first | assumption | exact cells_get (by (repeat (first | assumption | exact Hp.push_new _ _ | exact Hp.put_same _ _ _ | refine (Hp.push_old _ _ (by (first | assumption | (simp; done) | (simp; omega) | omega))).trans ?_ | refine (Hp.put_other _ _ (by (first | assumption | omega | (simp; done) | (simp; omega)))).trans ?_ | refine le_got (by assumption) (by (first | assumption | (simp; done) | (simp; omega) | omega)) (by intro e; cases e) ?_))) rfl | exact Cells.le (by assumption) (by (repeat (first | assumption | exact Hp.le_refl _ | refine Hp.le_put_new ?_ (by (first | assumption | (simp; done) | (simp; omega) | omega)) _ | refine Hp.le_push' ?_ _ | refine Hp.le_trans ?_ (by assumption)))) (by (first | assumption | (simp; done) | (simp; omega) | omega))))) ?_
      first | refine aops_val (av_loadN (cs := [.int .i64 _, .slice _ _ _, .int .i64 _, .int .i64 _]) rfl Try.underlying24 rfl inf24.size (by (first | assumption | exact cells_get (by (repeat (first | assumption | exact Hp.push_new _ _ | exact Hp.put_same _ _ _ | refine (Hp.push_old _ _ (by (first | assumption | (simp; done) | (simp; omega) | omega))).trans ?_ | refine (Hp.put_other _ _ (by (first | assumption | omega | (simp; done) | (simp; omega)))).trans ?_ | refine le_got (by assumption) (by (first | assumption | (simp; done) | (simp; omega) | omega)) (by intro e; cases e) ?_))) rfl | exact Cells.le (by assumption) (by (repeat (first | assumption | exact Hp.le_refl _ | refine Hp.le_put_new ?_ (by (first | assumption | (simp; done) | (simp; omega) | omega)) _ | refine Hp.le_push' ?_ _ | refine Hp.le_trans ?_ (by assumption)))) (by (first | assumption | (simp; done) | (simp; omega) | omega))))) ?_ | refine aops_val (av_loadN (cs := [.int .i64 _, _, .int .i64 _, .int .i64 _]) rfl Try.underlying24 rfl inf24.size (by (first | assumption | exact cells_get (by (repeat (first | assumption | exact Hp.push_new _ _ | exact Hp.put_same _ _ _ | refine (Hp.push_old _ _ (by (first | assumption | (simp; done) | (simp; omega) | omega))).trans ?_ | refine (Hp.put_other _ _ (by (first | assumption | omega | (simp; done) | (simp; omega)))).trans ?_ | refine le_got (by assumption) (by (first | assumption | (simp; done) | (simp; omega) | omega)) (by intro e; cases e) ?_))) rfl | exact Cells.le (by assumption) (by (repeat (first | assumption | exact Hp.le_refl _ | refine Hp.le_put_new ?_ (by (first | assumption | (simp; done) | (simp; omega) | omega)) _ | refine Hp.le_push' ?_ _ | refine Hp.le_trans ?_ (by assumption)))) (by (first | assumption | (simp; done) | (simp; omega) | omega))))) ?_
      refine aops_op (aop_call (Same1_item xs[i] ys[i] _ _ _ ⟨_, rfl, hw1.mono (by (repeat (first | assumption | exact Hp.sees.refl _ | refine Hp.sees_put_new ?_ (by (first | assumption | (simp; done) | (simp; omega) | omega)) _ | refine Hp.sees.push ?_ _ | refine Hp.sees.trans ?_ (by assumption) | refine Hp.sees.trans ?_ (Hp.le.sees (by assumption)) | refine Hp.sees.box ?_ (by (repeat (first | assumption | exact Hp.push_new _ _ | exact Hp.put_same _ _ _ | refine (Hp.push_old _ _ (by (first | assumption | (simp; done) | (simp; omega) | omega))).trans ?_ | refine (Hp.put_other _ _ (by (first | assumption | omega | (simp; done) | (simp; omega)))).trans ?_ | refine le_got (by assumption) (by (first | assumption | (simp; done) | (simp; omega) | omega)) (by intro e; cases e) ?_))))))⟩ ⟨_, rfl, hw2.mono (by (repeat (first | assumption | exact Hp.sees.refl _ | refine Hp.sees_put_new ?_ (by (first | assumption | (simp; done) | (simp; omega) | omega)) _ | refine Hp.sees.push ?_ _ | refine Hp.sees.trans ?_ (by assumption) | refine Hp.sees.trans ?_ (Hp.le.sees (by assumption)) | refine Hp.sees.box ?_ (by (repeat (first | assumption | exact Hp.push_new _ _ | exact Hp.put_same _ _ _ | refine (Hp.push_old _ _ (by (first | assumption | (simp; done) | (simp; omega) | omega))).trans ?_ | refine (Hp.put_other _ _ (by (first | assumption | omega | (simp; done) | (simp; omega)))).trans ?_ | refine le_got (by assumption) (by (first | assumption | (simp; done) | (simp; omega) | omega)) (by intro e; cases e) ?_))))))⟩ (hx _ (List.getElem_mem hix)) (hy _ (List.getElem_mem hiy))) rfl Try.func27 rfl rfl rfl ?_)
      rintro v H ⟨rfl, rfl⟩
      refine aops_val (av_not rfl) ?_
      refine ac_split rfl rfl ?_ ?_
      · intro hc3
        (try simp only [decide_eq_true_eq, decide_eq_false_iff_not, Bool.not_eq_true', Bool.not_eq_false'] at hc3)
        refine ac_seq ?_
        refine ac_region (by kernel_rfl) ?_
        first | refine aops_val (av_assign_bool rfl) ?_ | refine aops_val (av_assign rfl) ?_
        refine ac_ret ?_
        exact ⟨.bool false, aresult1 (ares_tmp rfl), by rw [hor, d1, d2, sameL, decide_eq_false (by assumption)]; rfl⟩
      · intro hc3
        (try simp only [decide_eq_true_eq, decide_eq_false_iff_not, Bool.not_eq_true', Bool.not_eq_false'] at hc3)
        refine ac_skip ?_
        refine ac_region (by kernel_rfl) ?_
        first | refine aops_val (av_add64 (by first | assumption | rfl) (by first | assumption | rfl) (by (first | assumption | omega | (simp; omega)))) ?_ | refine aops_val (av_add (by first | assumption | rfl) (by first | assumption | rfl)) ?_
        first | refine aops_val (av_move_int rfl) ?_ | refine aops_val (av_move rfl) ?_
        exact ⟨xs.length - (i + 1), by omega, i + 1, by omega, rfl, by (repeat (first | assumption | exact Hp.sees.refl _ | refine Hp.sees_put_new ?_ (by (first | assumption | (simp; done) | (simp; omega) | omega)) _ | refine Hp.sees.push ?_ _ | refine Hp.sees.trans ?_ (by assumption) | refine Hp.sees.trans ?_ (Hp.le.sees (by assumption)) | refine Hp.sees.box ?_ (by (repeat (first | assumption | exact Hp.push_new _ _ | exact Hp.put_same _ _ _ | refine (Hp.push_old _ _ (by (first | assumption | (simp; done) | (simp; omega) | omega))).trans ?_ | refine (Hp.put_other _ _ (by (first | assumption | omega | (simp; done) | (simp; omega)))).trans ?_ | refine le_got (by assumption) (by (first | assumption | (simp; done) | (simp; omega) | omega)) (by intro e; cases e) ?_))))), by rw [hor, d1, d2, sameL, decide_eq_true (by assumption)]; rfl, e1, e2, e15, e16, rfl⟩
    · intro hc2
      (try simp only [decide_eq_true_eq, decide_eq_false_iff_not, Bool.not_eq_true', Bool.not_eq_false'] at hc2)
      refine ac_exit ?_
      refine ac_seq ?_
      refine ac_region (by kernel_rfl) ?_
      first | refine aops_val (av_assign_bool rfl) ?_ | refine aops_val (av_assign rfl) ?_
      refine ac_ret ?_
      exact ⟨.bool true, aresult1 (ares_tmp rfl), by rw [hor, List.drop_of_length_le (by omega), List.drop_of_length_le (by omega)]; rfl⟩
theorem Same_items (xs ys : List Item) (v u : Value) (H : Hp) (hs : Sl kItem H v xs) (hu : Sl kItem H u ys) (hx : Good xs) (hy : Good ys) (hl : xs.length < 9223372036854775807) :
    ACalls Try.prog 12 #[v, u] H (fun r H' => r = .bool (sameL xs ys) ∧ H' = H) := by
  refine ACalls.pure (R := fun r => r = .bool (sameL xs ys)) (fun v h => by rw [h]; rfl) ?_
  have hs' := hs.mono H.sees_ro
  have hu' := hu.mono H.sees_ro
  revert hs' hu'
  generalize H.ro = H
  intro hs hu
  obtain ⟨A, c, rfl⟩ := hs.shape
  obtain ⟨B, c2, rfl⟩ := hu.shape
  refine acalls_of_code Try.func12 rfl rfl rfl (by simp) ?_
  refine ac_seq ?_
  refine ac_region (by kernel_rfl) ?_
  first | refine aops_val (av_assign_bool rfl) ?_ | refine aops_val (av_assign rfl) ?_
  refine ac_seq ?_
  refine ac_region (by kernel_rfl) ?_
  first | refine aops_val (av_move_sl rfl) ?_ | refine aops_val (av_move rfl) ?_
  first | refine aops_val (av_move_sl rfl) ?_ | refine aops_val (av_move rfl) ?_
  refine aops_op (aop_call (EqualFunc_raw xs ys _ _ _ hs hu hx hy hl) rfl Try.func26 rfl rfl rfl ?_)
  rintro v5 H5 rfl
  first | refine aops_val (av_assign_bool rfl) ?_ | refine aops_val (av_assign rfl) ?_
  refine ac_ret ?_
  exact ⟨.bool (sameL xs ys), aresult1 (ares_tmp rfl), rfl⟩
end Go.Proofs.Ytinfigghaonceaa.Am
