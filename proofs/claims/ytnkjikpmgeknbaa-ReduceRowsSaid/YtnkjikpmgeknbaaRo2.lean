/- Texts that the proof rests on, part 2: lemmas for every heap that is related to a world, no condition beyond each lemma's own. -/
import Derived.Test.YtnkjikpmgeknbaaRo1
namespace Go.Proofs.Ytnkjikpmgeknbaa.Am
open Go Go.RowKit
set_option maxRecDepth 100000
set_option linter.unusedVariables false
set_option linter.unusedSimpArgs false

theorem isNaN_int (x : Int) (H : Hp) : ACalls Try.prog 229 #[.int .i64 x] H (fun r H' => r = .bool false ∧ H' = H) := by
  refine acalls_of_code Try.func229 rfl rfl rfl (by simp) ?_
  refine ac_seq ?_
  refine ac_region (by kernel_rfl) ?_
  first | refine aops_val (av_assign_bool rfl) ?_ | refine aops_val (av_assign rfl) ?_
  refine ac_seq ?_
  refine ac_region (by kernel_rfl) ?_
  first | refine aops_val (av_move_int rfl) ?_ | refine aops_val (av_move rfl) ?_
  first | refine aops_val (av_move_int rfl) ?_ | refine aops_val (av_move rfl) ?_
  refine aops_val (av_ne rfl rfl) ?_
  first | refine aops_val (av_assign_bool rfl) ?_ | refine aops_val (av_assign rfl) ?_
  refine ac_ret ?_
  exact ⟨.bool false, aresult1 (ares_tmp (by simp [Fr.put])), rfl, rfl⟩
theorem isNaNc_int (x : Int) (H : Hp) : ACalls Try.prog 204 #[.int .i64 x] H (fun r H' => r = .bool false ∧ H' = H) := by
  refine acalls_of_code Try.func204 rfl rfl rfl (by simp) ?_
  refine ac_seq ?_
  refine ac_region (by kernel_rfl) ?_
  first | refine aops_val (av_assign_bool rfl) ?_ | refine aops_val (av_assign rfl) ?_
  refine ac_seq ?_
  refine ac_region (by kernel_rfl) ?_
  first | refine aops_val (av_move_int rfl) ?_ | refine aops_val (av_move rfl) ?_
  first | refine aops_val (av_move_int rfl) ?_ | refine aops_val (av_move rfl) ?_
  refine aops_val (av_ne rfl rfl) ?_
  first | refine aops_val (av_assign_bool rfl) ?_ | refine aops_val (av_assign rfl) ?_
  refine ac_ret ?_
  exact ⟨.bool false, aresult1 (ares_tmp (by simp [Fr.put])), rfl, rfl⟩
theorem Less_int (x y : Int) (H : Hp) : ACalls Try.prog 169 #[.int .i64 x, .int .i64 y] H (fun r H' => r = .bool (decide (x < y)) ∧ H' = H) := by
  refine acalls_of_code Try.func169 rfl rfl rfl (by simp) ?_
  refine ac_seq ?_
  refine ac_region (by kernel_rfl) ?_
  first | refine aops_val (av_assign_bool rfl) ?_ | refine aops_val (av_assign rfl) ?_
  refine ac_seq ?_
  refine ac_region (by kernel_rfl) ?_
  first | refine aops_val (av_move_int rfl) ?_ | refine aops_val (av_move rfl) ?_
  refine aops_op (aop_call (isNaNc_int _ _) rfl Try.func204 rfl rfl rfl ?_)
  rintro v5 H5 ⟨rfl, rfl⟩
  first | refine aops_val (av_move_bool rfl) ?_ | refine aops_val (av_move rfl) ?_
  refine aops_guard rfl rfl rfl ?_ ?_
  · intro hg1
    cases hg1
  · intro hg1
    have hp1 := hg1; try simp only [decide_eq_true_eq, decide_eq_false_iff_not, Bool.not_eq_true', Bool.not_eq_false'] at hp1
    refine aops_skip (want_no rfl rfl rfl hg1 rfl) ?_
    refine aops_skip (want_no rfl rfl rfl hg1 rfl) ?_
    refine aops_skip (want_no rfl rfl rfl hg1 rfl) ?_
    refine aops_val (av_pick_bool (congrArg Value.bool hg1) rfl) ?_
    first | refine aops_val (av_move_bool rfl) ?_ | refine aops_val (av_move rfl) ?_
    first | refine aops_wval (want_yes rfl rfl rfl rfl) (av_move_int rfl) ?_ | refine aops_wval (want_yes rfl rfl rfl rfl) (av_move rfl) ?_
    first | refine aops_wval (want_yes rfl rfl rfl rfl) (av_move_int rfl) ?_ | refine aops_wval (want_yes rfl rfl rfl rfl) (av_move rfl) ?_
    refine aops_wval (want_yes rfl rfl rfl rfl) (av_lt rfl rfl) ?_
    refine aops_val (av_pick_bool (congrArg Value.bool rfl) rfl) ?_
    first | refine aops_val (av_assign_bool rfl) ?_ | refine aops_val (av_assign rfl) ?_
    refine ac_ret ?_
    exact ⟨_, aresult1 (ares_tmp rfl), rfl, rfl⟩
theorem bin_mem {xs : List Int} {x : Int} {i : Nat} (hmono : ∀ (i j : Nat), i ≤ j → j < xs.length → xs.getD i 0 ≤ xs.getD j 0) (hlo : ∀ k, k < i → xs.getD k 0 < x) (hhi : ∀ k, i ≤ k → k < xs.length → ¬ xs.getD k 0 < x) : x ∈ xs ↔ i < xs.length ∧ xs.getD i 0 = x := by
  constructor
  · intro h
    obtain ⟨k, hk, rfl⟩ := List.getElem_of_mem h
    have hki : ¬ k < i := fun h1 => by have := hlo k h1; rw [getD_at hk] at this; omega
    have h1 : i < xs.length := by omega
    have h2 := hmono i k (by omega) hk
    have h3 := hhi i (Nat.le_refl _) h1
    rw [getD_at hk] at h2
    exact ⟨h1, by omega⟩
  · rintro ⟨h1, rfl⟩
    rw [getD_at h1]
    exact List.getElem_mem h1
theorem Bin_int (xs : List Int) (A : Option Addr) (c : Nat) (x : Int) (H : Hp) (hs : Sl (kInt .i64) H (.slice A xs.length c) xs) (hl : xs.length ≤ 1000000) (hr : xs.Pairwise (· ≤ ·)) :
    ACalls Try.prog 223 #[.slice A xs.length c, .int .i64 x] H (fun r H' => (∃ i : Int, r = .tuple #[.int .i64 i, .bool (decide (x ∈ xs))]) ∧ H' = H) := by
  have hmono : ∀ (i j : Nat), i ≤ j → j < xs.length → xs.getD i 0 ≤ xs.getD j 0 := fun i j hij hj => by
    rw [getD_at hj, getD_at (by omega : i < xs.length)]
    rcases Nat.lt_or_eq_of_le hij with h | h
    · exact List.pairwise_iff_getElem.1 hr i j (by omega) hj h
    · subst h; exact Int.le_refl _
  refine acalls_of_code Try.func223 rfl rfl rfl (by simp) ?_
  refine ac_seq ?_
  refine ac_region (by kernel_rfl) ?_
  first | refine aops_val (av_assign_int rfl) ?_ | refine aops_val (av_assign rfl) ?_
  first | refine aops_val (av_assign_bool rfl) ?_ | refine aops_val (av_assign rfl) ?_
  refine ac_seq ?_
  refine ac_region (by kernel_rfl) ?_
  first | refine aops_val (av_move_sl rfl) ?_ | refine aops_val (av_move rfl) ?_
  refine aops_val (av_len rfl Try.underlying29) ?_
  first | refine aops_val (av_assign_int rfl) ?_ | refine aops_val (av_assign rfl) ?_
  refine ac_seq ?_
  refine ac_region (by kernel_rfl) ?_
  first | refine aops_val (av_move_int rfl) ?_ | refine aops_val (av_move rfl) ?_
  first | refine aops_val (av_assign_int rfl) ?_ | refine aops_val (av_assign rfl) ?_
  first | refine aops_val (av_assign_int rfl) ?_ | refine aops_val (av_assign rfl) ?_
  refine ac_seq ?_
  refine ac_block ?_
  refine ac_loop (fun m t H' => ∃ (i j : Nat), i ≤ j ∧ j ≤ xs.length ∧ m = j - i ∧ H' = H ∧ (∀ k, k < i → xs.getD k 0 < x) ∧ (∀ k, j ≤ k → k < xs.length → ¬ xs.getD k 0 < x) ∧ t 0 = .slice A xs.length c ∧ t 1 = .int .i64 x ∧ t 6 = .int .i64 xs.length ∧ t 7 = .int .i64 i ∧ t 8 = .int .i64 j) (xs.length) (⟨0, xs.length, Nat.zero_le _, Nat.le_refl _, by omega, rfl, fun x h => by omega, fun x h h2 => by omega, rfl, rfl, rfl, rfl, rfl⟩) ?_
  rintro m t _ ⟨i, j, hij, hjn, rfl, rfl, hlo, hhi, e0, e1, e6, e7, e8⟩
  refine ac_seq ?_
  refine ac_seq ?_
  refine ac_region (by kernel_rfl) ?_
  first | refine aops_val (av_move_int (by first | assumption | rfl)) ?_ | refine aops_val (av_move (by first | assumption | rfl)) ?_
  first | refine aops_val (av_move_int (by first | assumption | rfl)) ?_ | refine aops_val (av_move (by first | assumption | rfl)) ?_
  refine aops_val (av_lt rfl rfl) ?_
  refine ac_split rfl rfl ?_ ?_
  · intro hc1
    (try simp only [decide_eq_true_eq, decide_eq_false_iff_not, Bool.not_eq_true', Bool.not_eq_false'] at hc1)
    refine ac_skip ?_
    refine ac_block ?_
    refine ac_seq ?_
    refine ac_region (by kernel_rfl) ?_
    first | refine aops_val (av_move_int (by first | assumption | rfl)) ?_ | refine aops_val (av_move (by first | assumption | rfl)) ?_
    first | refine aops_val (av_move_int (by first | assumption | rfl)) ?_ | refine aops_val (av_move (by first | assumption | rfl)) ?_
    first | refine aops_val (av_add64 rfl rfl t_fits) ?_ | refine aops_val (av_add rfl rfl) ?_
    refine aops_val (av_conv rfl (by rw [Try.underlying3]; rfl) Try.underlying179) ?_
    refine aops_val (av_shr rfl rfl (by omega)) ?_
    refine aops_val (av_conv rfl (by rw [Try.underlying179]; rfl) Try.underlying3) ?_
    refine aops_val (av_assign_int (n := (((i + j) / 2 : Nat) : Int)) (mid_val hij hjn (by omega))) ?_
    have hm1 : i ≤ (i + j) / 2 := by omega
    have hm2 : (i + j) / 2 < j := by omega
    obtain ⟨b, o, rfl, hb, hcell⟩ := hs.int_at (i := (((i + j) / 2 : Nat) : Int)) (by omega) (by omega)
    rw [Int.toNat_natCast] at hcell
    refine ac_seq ?_
    refine ac_region (by kernel_rfl) ?_
    first | refine aops_val (av_move_sl (by first | assumption | rfl)) ?_ | refine aops_val (av_move (by first | assumption | rfl)) ?_
    first | refine aops_val (av_move_int rfl) ?_ | refine aops_val (av_move rfl) ?_
    refine aops_val (av_indexAddr rfl rfl Try.underlying29 inf3.size t_idx t_idx) ?_
    refine aops_val (av_load1 rfl Try.underlying3 rfl t_cell) ?_
    first | refine aops_val (av_move_int (by first | assumption | rfl)) ?_ | refine aops_val (av_move (by first | assumption | rfl)) ?_
    refine aops_op (aop_call (Less_int _ _ _) rfl Try.func169 rfl rfl rfl ?_)
    rintro v5 H5 ⟨rfl, rfl⟩
    refine ac_split rfl rfl ?_ ?_
    · intro hc2
      have hc : xs.getD ((i + j) / 2) 0 < x := by simpa using hc2
      refine ac_region (by kernel_rfl) ?_
      first | refine aops_val (av_move_int rfl) ?_ | refine aops_val (av_move rfl) ?_
      first | refine aops_val (av_add64 rfl rfl t_fits) ?_ | refine aops_val (av_add rfl rfl) ?_
      first | refine aops_val (av_assign_int rfl) ?_ | refine aops_val (av_assign rfl) ?_
      exact ⟨j - ((i + j) / 2 + 1), by omega, (i + j) / 2 + 1, j, by omega, hjn, rfl, rfl, fun k hk => Int.lt_of_le_of_lt (hmono k ((i + j) / 2) (by omega) (by omega)) hc, hhi, e0, e1, e6, rfl, e8⟩
    · intro hc2
      have hc : ¬ xs.getD ((i + j) / 2) 0 < x := by simpa using hc2
      refine ac_region (by kernel_rfl) ?_
      first | refine aops_val (av_move_int rfl) ?_ | refine aops_val (av_move rfl) ?_
      first | refine aops_val (av_assign_int rfl) ?_ | refine aops_val (av_assign rfl) ?_
      exact ⟨(i + j) / 2 - i, by omega, i, (i + j) / 2, by omega, by omega, rfl, rfl, hlo, fun k h h2 => by have := hmono ((i + j) / 2) k h h2; omega, e0, e1, e6, e7, rfl⟩
  · intro hc1
    (try simp only [decide_eq_true_eq, decide_eq_false_iff_not, Bool.not_eq_true', Bool.not_eq_false'] at hc1)
    refine ac_exit ?_
    refine ac_seq ?_
    have hij2 : i = j := by omega
    subst hij2
    have hmem := bin_mem hmono hlo hhi
    refine ac_region (by kernel_rfl) ?_
    first | refine aops_val (av_move_int (by first | assumption | rfl)) ?_ | refine aops_val (av_move (by first | assumption | rfl)) ?_
    first | refine aops_val (av_move_int (by first | assumption | rfl)) ?_ | refine aops_val (av_move (by first | assumption | rfl)) ?_
    first | refine aops_val (av_move_int (by first | assumption | rfl)) ?_ | refine aops_val (av_move (by first | assumption | rfl)) ?_
    refine aops_val (av_lt rfl rfl) ?_
    first | refine aops_val (av_move_bool rfl) ?_ | refine aops_val (av_move rfl) ?_
    refine aops_guard rfl rfl rfl ?_ ?_
    · intro hg3
      have hi8 : i < xs.length := by have := of_decide_eq_true hg3; omega
      obtain ⟨b, o, rfl, hb, hcell⟩ := hs.int_at (i := (i : Int)) (by omega) (by omega)
      rw [Int.toNat_natCast] at hcell
      first | refine aops_wval (want_yes rfl rfl rfl hg3) (av_move_sl (by first | assumption | rfl)) ?_ | refine aops_wval (want_yes rfl rfl rfl hg3) (av_move (by first | assumption | rfl)) ?_
      first | refine aops_wval (want_yes rfl rfl rfl hg3) (av_move_int (by first | assumption | rfl)) ?_ | refine aops_wval (want_yes rfl rfl rfl hg3) (av_move (by first | assumption | rfl)) ?_
      refine aops_wval (want_yes rfl rfl rfl hg3) (av_indexAddr rfl rfl Try.underlying29 inf3.size t_idx t_idx) ?_
      refine aops_wval (want_yes rfl rfl rfl hg3) (av_load1 rfl Try.underlying3 rfl t_cell) ?_
      first | refine aops_wval (want_yes rfl rfl rfl hg3) (av_move_int (by first | assumption | rfl)) ?_ | refine aops_wval (want_yes rfl rfl rfl hg3) (av_move (by first | assumption | rfl)) ?_
      refine aops_wval (want_yes rfl rfl rfl hg3) (av_eq rfl rfl) ?_
      first | refine aops_wval (want_yes rfl rfl rfl hg3) (av_move_bool rfl) ?_ | refine aops_wval (want_yes rfl rfl rfl hg3) (av_move rfl) ?_
      refine aops_guard rfl rfl rfl ?_ ?_
      · intro hg4
        have hp4 := hg4; try simp only [decide_eq_true_eq, decide_eq_false_iff_not, Bool.not_eq_true', Bool.not_eq_false'] at hp4
        refine aops_skip (want_no rfl rfl rfl hg4 rfl) ?_
        refine aops_skip (want_no rfl rfl rfl hg4 rfl) ?_
        refine aops_skip (want_no rfl rfl rfl hg4 rfl) ?_
        refine aops_skip (want_no rfl rfl rfl hg4 rfl) ?_
        refine aops_skip (want_no rfl rfl rfl hg4 rfl) ?_
        refine aops_skip (want_no rfl rfl rfl hg4 rfl) ?_
        refine aops_skip (want_gone rfl rfl rfl) ?_
        refine aops_skip (want_gone rfl rfl rfl) ?_
        refine aops_skip (want_no rfl rfl rfl hg4 rfl) ?_
        refine aops_wval (want_yes rfl rfl rfl hg3) (av_pick_bool (congrArg Value.bool hg4) (by first | assumption | rfl)) ?_
        refine aops_val (av_pick_bool (congrArg Value.bool hg3) rfl) ?_
        first | refine aops_val (av_assign_int rfl) ?_ | refine aops_val (av_assign rfl) ?_
        first | refine aops_val (av_assign_bool rfl) ?_ | refine aops_val (av_assign rfl) ?_
        refine ac_ret ?_
        have hd : decide (x ∈ xs) = (decide (i < xs.length) && decide (xs.getD i 0 = x)) := by rw [← Bool.decide_and]; exact decide_eq_decide.2 hmem
        refine ⟨.tuple #[.int .i64 i, .bool (decide (x ∈ xs))], aresult2 (ares_tmp rfl) (ares_tmp (congrArg Value.bool ?_)), ⟨_, rfl⟩, rfl⟩
        rw [hd]
        simp_all
      · intro hg4
        have hp4 := hg4; try simp only [decide_eq_true_eq, decide_eq_false_iff_not, Bool.not_eq_true', Bool.not_eq_false'] at hp4
        first | refine aops_wval (want_yes rfl rfl rfl hg4) (av_move_sl (by first | assumption | rfl)) ?_ | refine aops_wval (want_yes rfl rfl rfl hg4) (av_move (by first | assumption | rfl)) ?_
        first | refine aops_wval (want_yes rfl rfl rfl hg4) (av_move_int (by first | assumption | rfl)) ?_ | refine aops_wval (want_yes rfl rfl rfl hg4) (av_move (by first | assumption | rfl)) ?_
        refine aops_wval (want_yes rfl rfl rfl hg4) (av_indexAddr rfl rfl Try.underlying29 inf3.size t_idx t_idx) ?_
        refine aops_wval (want_yes rfl rfl rfl hg4) (av_load1 rfl Try.underlying3 rfl t_cell) ?_
        refine aops_want (want_yes rfl rfl rfl hg4) (aop_call (isNaN_int _ _) rfl Try.func229 rfl rfl rfl ?_)
        rintro v5 H5 ⟨rfl, rfl⟩
        first | refine aops_wval (want_yes rfl rfl rfl hg4) (av_move_bool rfl) ?_ | refine aops_wval (want_yes rfl rfl rfl hg4) (av_move rfl) ?_
        refine aops_guard rfl rfl rfl ?_ ?_
        · intro hg5
          cases hg5
        · intro hg5
          have hp5 := hg5; try simp only [decide_eq_true_eq, decide_eq_false_iff_not, Bool.not_eq_true', Bool.not_eq_false'] at hp5
          refine aops_skip (want_no rfl rfl rfl hg5 rfl) ?_
          refine aops_skip (want_no rfl rfl rfl hg5 rfl) ?_
          refine aops_wval (want_yes rfl rfl rfl hg4) (av_pick_bool (congrArg Value.bool hg5) (by first | assumption | rfl)) ?_
          refine aops_wval (want_yes rfl rfl rfl hg3) (av_pick_bool (congrArg Value.bool hg4) rfl) ?_
          refine aops_val (av_pick_bool (congrArg Value.bool hg3) rfl) ?_
          first | refine aops_val (av_assign_int rfl) ?_ | refine aops_val (av_assign rfl) ?_
          first | refine aops_val (av_assign_bool rfl) ?_ | refine aops_val (av_assign rfl) ?_
          refine ac_ret ?_
          have hd : decide (x ∈ xs) = (decide (i < xs.length) && decide (xs.getD i 0 = x)) := by rw [← Bool.decide_and]; exact decide_eq_decide.2 hmem
          refine ⟨.tuple #[.int .i64 i, .bool (decide (x ∈ xs))], aresult2 (ares_tmp rfl) (ares_tmp (congrArg Value.bool ?_)), ⟨_, rfl⟩, rfl⟩
          rw [hd]
          simp_all
    · intro hg3
      have hi8 : ¬ i < xs.length := by have := of_decide_eq_false hg3; omega
      refine aops_skip (want_no rfl rfl rfl hg3 rfl) ?_
      refine aops_skip (want_no rfl rfl rfl hg3 rfl) ?_
      refine aops_skip (want_no rfl rfl rfl hg3 rfl) ?_
      refine aops_skip (want_no rfl rfl rfl hg3 rfl) ?_
      refine aops_skip (want_no rfl rfl rfl hg3 rfl) ?_
      refine aops_skip (want_no rfl rfl rfl hg3 rfl) ?_
      refine aops_skip (want_no rfl rfl rfl hg3 rfl) ?_
      refine aops_skip (want_gone rfl rfl rfl) ?_
      refine aops_skip (want_gone rfl rfl rfl) ?_
      refine aops_skip (want_gone rfl rfl rfl) ?_
      refine aops_skip (want_gone rfl rfl rfl) ?_
      refine aops_skip (want_gone rfl rfl rfl) ?_
      refine aops_skip (want_gone rfl rfl rfl) ?_
      refine aops_skip (want_gone rfl rfl rfl) ?_
      refine aops_skip (want_gone rfl rfl rfl) ?_
      refine aops_skip (want_gone rfl rfl rfl) ?_
      refine aops_skip (want_no rfl rfl rfl hg3 rfl) ?_
      refine aops_val (av_pick_bool (congrArg Value.bool hg3) (by first | assumption | rfl)) ?_
      first | refine aops_val (av_assign_int rfl) ?_ | refine aops_val (av_assign rfl) ?_
      first | refine aops_val (av_assign_bool rfl) ?_ | refine aops_val (av_assign rfl) ?_
      refine ac_ret ?_
      have hd : decide (x ∈ xs) = (decide (i < xs.length) && decide (xs.getD i 0 = x)) := by rw [← Bool.decide_and]; exact decide_eq_decide.2 hmem
      refine ⟨.tuple #[.int .i64 i, .bool (decide (x ∈ xs))], aresult2 (ares_tmp rfl) (ares_tmp (congrArg Value.bool ?_)), ⟨_, rfl⟩, rfl⟩
      rw [hd]
      simp_all
theorem In_int (xs : List Int) (A : Option Addr) (c : Nat) (x : Int) (H : Hp) (hs : Sl (kInt .i64) H (.slice A xs.length c) xs) (hl : xs.length ≤ 1000000) (hr : xs.Pairwise (· ≤ ·)) :
    ACalls Try.prog 212 #[.slice A xs.length c, .int .i64 x] H (fun r H' => r = .bool (decide (x ∈ xs)) ∧ H' = H) := by
  refine acalls_of_code Try.func212 rfl rfl rfl (by simp) ?_
  refine ac_seq ?_
  refine ac_region (by kernel_rfl) ?_
  first | refine aops_val (av_assign_bool rfl) ?_ | refine aops_val (av_assign rfl) ?_
  refine ac_seq ?_
  refine ac_region (by kernel_rfl) ?_
  first | refine aops_val (av_move_sl rfl) ?_ | refine aops_val (av_move rfl) ?_
  first | refine aops_val (av_move_int rfl) ?_ | refine aops_val (av_move rfl) ?_
  refine aops_op (aop_call (Bin_int xs A c x H hs hl hr) rfl Try.func223 rfl rfl rfl ?_)
  rintro v5 H5 ⟨⟨i5, rfl⟩, rfl⟩
  refine aops_val (av_move rfl) ?_
  refine aops_val (av_extract rfl rfl) ?_
  refine aops_val (av_extract rfl rfl) ?_
  first | refine aops_val (av_assign_int rfl) ?_ | refine aops_val (av_assign rfl) ?_
  first | refine aops_val (av_assign_bool rfl) ?_ | refine aops_val (av_assign rfl) ?_
  refine ac_seq ?_
  refine ac_region (by kernel_rfl) ?_
  first | refine aops_val (av_move_bool rfl) ?_ | refine aops_val (av_move rfl) ?_
  first | refine aops_val (av_assign_bool rfl) ?_ | refine aops_val (av_assign rfl) ?_
  refine ac_ret ?_
  exact ⟨_, aresult1 (ares_tmp rfl), rfl, rfl⟩
/-- The links whose ends are in two lists. -/
def withinL (xs : List Link) (from' to' : List Int) : List Link := xs.filter fun x => decide (x.a ∈ from') && decide (x.b ∈ to')
theorem Within_links (xs : List Link) (fs ts : List Int) (v vf vt : Value) (H : Hp) (hs : Sl kLink H v xs) (hf : Sl (kInt .i64) H vf fs) (ht : Sl (kInt .i64) H vt ts) (hl : xs.length ≤ 1000000) (hlf : fs.length ≤ 1000000) (hlt : ts.length ≤ 1000000) (hrf : fs.Pairwise (· ≤ ·)) (hrt : ts.Pairwise (· ≤ ·)) :
    ACalls Try.prog 192 #[v, vf, vt] H (fun r H' => ∃ G', H.le G' ∧ OwnP kLink G' H' r (withinL xs fs ts)) := by
  obtain ⟨A, c, rfl⟩ := hs.shape
  obtain ⟨Af, cf, rfl⟩ := hf.shape
  obtain ⟨At, ct, rfl⟩ := ht.shape
  refine acalls_of_code Try.func192 rfl rfl rfl (by simp) ?_
  refine ac_seq ?_
  refine ac_region (by kernel_rfl) ?_
  first | refine aops_val (av_assign_sl rfl) ?_ | refine aops_val (av_assign rfl) ?_
  refine ac_seq ?_
  refine ac_region (by kernel_rfl) ?_
  first | refine aops_val (av_assign_sl rfl) ?_ | refine aops_val (av_assign rfl) ?_
  refine ac_seq ?_
  refine ac_seq ?_
  refine ac_region (by kernel_rfl) ?_
  first | refine aops_val (av_move_sl rfl) ?_ | refine aops_val (av_move rfl) ?_
  refine aops_val (av_len rfl Try.underlying22) ?_
  first | refine aops_val (av_move_int rfl) ?_ | refine aops_val (av_move rfl) ?_
  refine ac_block ?_
  refine ac_loop (fun n t H' => ∃ (i : Nat) (G : Hp) (B : Option Addr) (c5 : Nat), i ≤ xs.length ∧ n = xs.length - i ∧ H.le G ∧ OwnP kLink G H' (.slice B (withinL (xs.take i) fs ts).length c5) (withinL (xs.take i) fs ts) ∧ t 1 = .slice Af fs.length cf ∧ t 2 = .slice At ts.length ct ∧ t 7 = .slice B (withinL (xs.take i) fs ts).length c5 ∧ t 10 = .slice A xs.length c ∧ t 11 = .int .i64 xs.length ∧ t 12 = .int .i64 i) (xs.length) (⟨0, H, _, _, by omega, rfl, Hp.le_refl _, OwnP.nil _ _, rfl, rfl, rfl, rfl, rfl, rfl⟩) ?_
  rintro n t H1 ⟨i, G, B, c5, hi, rfl, hle, hown, e1, e2, e7, e10, e11, e12⟩
  have hz := hown.size
  have hlen : (withinL (xs.take i) fs ts).length ≤ i := by
    have := List.length_filter_le (fun x : Link => decide (x.a ∈ fs) && decide (x.b ∈ ts)) (xs.take i)
    rw [List.length_take] at this
    unfold withinL
    omega
  refine ac_seq ?_
  refine ac_region (by kernel_rfl) ?_
  refine aops_val (av_lt (by first | assumption | rfl) (by first | assumption | rfl)) ?_
  refine ac_seq ?_
  refine ac_split rfl rfl ?_ ?_
  · intro hc1
    (try simp only [decide_eq_true_eq, decide_eq_false_iff_not, Bool.not_eq_true', Bool.not_eq_false'] at hc1)
    refine ac_skip ?_
    refine ac_seq ?_
    refine ac_block ?_
    refine ac_seq ?_
    refine ac_region (by kernel_rfl) ?_
    have hix : i < xs.length := by omega
    obtain ⟨b, o, rfl, hb, hcell0⟩ := (hs.mono hle.sees).link_at hix
    have hcells := hown.le.cells hb hcell0
    have hownE := hown.boxed [.int .i64 0, .int .i64 0, .int .i64 0, .int .u64 0] [.int .i64 xs[i].a, .int .i64 xs[i].b, .int .i64 xs[i].cost, .int .u64 xs[i].n]
    have hleE := Hp.le_put_new (b := H1.size) (Hp.le_push' hle (.own 0 [.int .i64 0, .int .i64 0, .int .i64 0, .int .u64 0])) (by rw [hz]; exact hle.1) (.own 0 [.int .i64 xs[i].a, .int .i64 xs[i].b, .int .i64 xs[i].cost, .int .u64 xs[i].n])
    have hseE := (Hp.le_trans hleE hownE.le).sees
    refine aops_val (av_indexAddr (by first | assumption | rfl) (by first | assumption | rfl) Try.underlying22 inf28.size t_idx t_idx) ?_
    refine aops_val (av_loadN (cs := [.int .i64 _, .int .i64 _, .int .i64 _, .int .u64 _]) rfl Try.underlying28 rfl inf28.size t_cells) ?_
    refine aops_make (am_zero (l := [.int .i64 0, .int .i64 0, .int .i64 0, .int .u64 0]) inf28.zero rfl (by decide)) ?_
    first | refine aops_op (aop_putN (vs := [.int .i64 _, .int .i64 _, .int .i64 _, .int .u64 _]) rfl rfl inf28.size t_get t_room rfl rfl ?_)
    refine ac_seq ?_
    refine ac_region (by kernel_rfl) ?_
    first | refine aops_val (av_move_sl (by first | assumption | rfl)) ?_ | refine aops_val (av_move (by first | assumption | rfl)) ?_
    refine aops_val (av_fieldOff (off := 0) rfl Try.underlying28 rfl inf3.size (by decide) rfl) ?_
    refine aops_val (av_load1 rfl Try.underlying3 rfl t_cell) ?_
    refine aops_op (aop_call (In_int fs Af cf xs[i].a _ (hf.mono hseE) hlf hrf) rfl Try.func212 rfl rfl rfl ?_)
    rintro v6 H6 ⟨rfl, hH6⟩; subst hH6
    first | refine aops_val (av_move_bool rfl) ?_ | refine aops_val (av_move rfl) ?_
    refine aops_guard rfl rfl rfl ?_ ?_
    · intro hg2
      have hp2 := hg2; try simp only [decide_eq_true_eq, decide_eq_false_iff_not, Bool.not_eq_true', Bool.not_eq_false'] at hp2
      first | refine aops_wval (want_yes rfl rfl rfl hg2) (av_move_sl (by first | assumption | rfl)) ?_ | refine aops_wval (want_yes rfl rfl rfl hg2) (av_move (by first | assumption | rfl)) ?_
      refine aops_wval (want_yes rfl rfl rfl hg2) (av_fieldOff (off := 1) rfl Try.underlying28 rfl inf3.size (by decide) rfl) ?_
      refine aops_wval (want_yes rfl rfl rfl hg2) (av_load1 rfl Try.underlying3 rfl t_cell) ?_
      refine aops_want (want_yes rfl rfl rfl hg2) (aop_call (In_int ts At ct xs[i].b _ (ht.mono hseE) hlt hrt) rfl Try.func212 rfl rfl rfl ?_)
      rintro v7 H7 ⟨rfl, hH7⟩; subst hH7
      refine aops_val (av_pick_bool (congrArg Value.bool hg2) rfl) ?_
      refine ac_split rfl rfl ?_ ?_
      · intro hc3
        have hin : withinL [xs[i]] fs ts = [xs[i]] := by unfold withinL; simp_all
        have hstep : withinL (xs.take (i + 1)) fs ts = withinL (xs.take i) fs ts ++ [xs[i]] := by rw [← hin]; unfold withinL; rw [← List.filter_append, take_next hix]
        refine ac_region (by kernel_rfl) ?_
        first | refine aops_val (av_move_sl (by first | assumption | rfl)) ?_ | refine aops_val (av_move (by first | assumption | rfl)) ?_
        refine aops_val (av_loadN (cs := [.int .i64 _, .int .i64 _, .int .i64 _, .int .u64 _]) rfl Try.underlying28 rfl inf28.size t_cells) ?_
        first | refine aops_make (am_buildSlice (r := [.int .i64 _, .int .i64 _, .int .i64 _, .int .u64 _]) Try.underlying22 inf28.size inf28.zero rfl (by decide) (by decide) (by decide) rfl) ?_
        refine aops_op (OwnP.append (ys := [xs[i]]) (hownE.push _) Try.underlying22 inf28 rfl rfl rfl (sl_one (k := kLink) rfl rfl hownE.size rfl) (by simp; omega) (by simp; omega) ?_)
        rintro v6 G6 H6 hle6 hown6
        obtain ⟨B', c', e6⟩ := hown6.shape
        subst e6
        first | refine aops_val (av_assign_sl rfl) ?_ | refine aops_val (av_assign rfl) ?_
        refine ac_region (by kernel_rfl) ?_
        first | refine aops_val (av_add64 (by first | assumption | rfl) (by first | assumption | rfl) t_fits) ?_ | refine aops_val (av_add (by first | assumption | rfl) (by first | assumption | rfl)) ?_
        first | refine aops_val (av_move_int rfl) ?_ | refine aops_val (av_move rfl) ?_
        first
          | (rw [← hstep] at hown6
             exact ⟨xs.length - (i + 1), by omega, i + 1, G6, B', c', by omega, rfl, Hp.le_trans (Hp.le_push' hleE _) hle6, hown6, e1, e2, by rw [hstep]; rfl, e10, e11, rfl⟩)
          | (have hin : withinL [xs[i]] fs ts = [] := by unfold withinL; simp_all
             have hstep : withinL (xs.take (i + 1)) fs ts = withinL (xs.take i) fs ts := by rw [← List.append_nil (withinL (xs.take i) fs ts), ← hin]; unfold withinL; rw [← List.filter_append, take_next hix]
             refine ⟨xs.length - (i + 1), by omega, i + 1, _, B, c5, by omega, rfl, hleE, by rw [hstep]; exact hownE, e1, e2, by rw [hstep]; exact e7, e10, e11, rfl⟩)
      · intro hc3
        (try simp only [decide_eq_true_eq, decide_eq_false_iff_not, Bool.not_eq_true', Bool.not_eq_false'] at hc3)
        refine ac_skip ?_
        refine ac_region (by kernel_rfl) ?_
        first | refine aops_val (av_add64 (by first | assumption | rfl) (by first | assumption | rfl) t_fits) ?_ | refine aops_val (av_add (by first | assumption | rfl) (by first | assumption | rfl)) ?_
        first | refine aops_val (av_move_int rfl) ?_ | refine aops_val (av_move rfl) ?_
        first
          | (rw [← hstep] at hown6
             exact ⟨xs.length - (i + 1), by omega, i + 1, G6, B', c', by omega, rfl, Hp.le_trans (Hp.le_push' hleE _) hle6, hown6, e1, e2, by rw [hstep]; rfl, e10, e11, rfl⟩)
          | (have hin : withinL [xs[i]] fs ts = [] := by unfold withinL; simp_all
             have hstep : withinL (xs.take (i + 1)) fs ts = withinL (xs.take i) fs ts := by rw [← List.append_nil (withinL (xs.take i) fs ts), ← hin]; unfold withinL; rw [← List.filter_append, take_next hix]
             refine ⟨xs.length - (i + 1), by omega, i + 1, _, B, c5, by omega, rfl, hleE, by rw [hstep]; exact hownE, e1, e2, by rw [hstep]; exact e7, e10, e11, rfl⟩)
    · intro hg2
      have hp2 := hg2; try simp only [decide_eq_true_eq, decide_eq_false_iff_not, Bool.not_eq_true', Bool.not_eq_false'] at hp2
      refine aops_skip (want_no rfl rfl rfl hg2 rfl) ?_
      refine aops_skip (want_no rfl rfl rfl hg2 rfl) ?_
      refine aops_skip (want_no rfl rfl rfl hg2 rfl) ?_
      refine aops_skip (want_no rfl rfl rfl hg2 rfl) ?_
      refine aops_val (av_pick_bool (congrArg Value.bool hg2) (by first | assumption | rfl)) ?_
      refine ac_cond_false rfl rfl ?_
      refine ac_skip ?_
      refine ac_region (by kernel_rfl) ?_
      first | refine aops_val (av_add64 (by first | assumption | rfl) (by first | assumption | rfl) t_fits) ?_ | refine aops_val (av_add (by first | assumption | rfl) (by first | assumption | rfl)) ?_
      first | refine aops_val (av_move_int rfl) ?_ | refine aops_val (av_move rfl) ?_
      first
        | (rw [← hstep] at hown6
           exact ⟨xs.length - (i + 1), by omega, i + 1, G6, B', c', by omega, rfl, Hp.le_trans (Hp.le_push' hleE _) hle6, hown6, e1, e2, by rw [hstep]; rfl, e10, e11, rfl⟩)
        | (have hin : withinL [xs[i]] fs ts = [] := by unfold withinL; simp_all
           have hstep : withinL (xs.take (i + 1)) fs ts = withinL (xs.take i) fs ts := by rw [← List.append_nil (withinL (xs.take i) fs ts), ← hin]; unfold withinL; rw [← List.filter_append, take_next hix]
           refine ⟨xs.length - (i + 1), by omega, i + 1, _, B, c5, by omega, rfl, hleE, by rw [hstep]; exact hownE, e1, e2, by rw [hstep]; exact e7, e10, e11, rfl⟩)
  · intro hc1
    (try simp only [decide_eq_true_eq, decide_eq_false_iff_not, Bool.not_eq_true', Bool.not_eq_false'] at hc1)
    refine ac_exit ?_
    refine ac_seq ?_
    rw [List.take_of_length_le (by omega)] at hown e7
    refine ac_region (by kernel_rfl) ?_
    first | refine aops_val (av_move_sl (by first | assumption | rfl)) ?_ | refine aops_val (av_move (by first | assumption | rfl)) ?_
    first | refine aops_val (av_assign_sl rfl) ?_ | refine aops_val (av_assign rfl) ?_
    refine ac_ret ?_
    exact ⟨_, aresult1 (ares_tmp rfl), G, hle, hown⟩
end Go.Proofs.Ytnkjikpmgeknbaa.Am

namespace Go.Proofs.Ytnkjikpmgeknbaa.Am
open Go Go.RowKit
set_option maxRecDepth 100000
set_option linter.unusedVariables false
set_option linter.unusedSimpArgs false

/-- Whatever comes, as long as all that is there stays. -/
theorem OwnP.after {G H H1 : Hp} {v : Value} {xs : List (List Link)} (h : OwnP (kSl kLink) G H v xs) (hle : H.le H1) : ∃ G1, G.le G1 ∧ OwnP (kSl kLink) G1 H1 v xs ∧ ∀ (r : Value) (ys : List Link), Sl kLink H1 r ys → Sl kLink G1 r ys := by
  rcases h with ⟨rfl, rfl, rfl⟩ | ⟨b, cs, c, rfl, hb, hd, rfl, hcap, he⟩
  · exact ⟨H1, hle, .inl ⟨rfl, rfl, rfl⟩, fun _ _ h => h⟩
  · have hg : H1.get b = .own 1 cs := by
      rw [hle.2 b (by simpa using hb) (by rw [Hp.put_same]; intro e; cases e), Hp.put_same]; rfl
    have hle1 : G.le (H1.put b .dead) := ⟨by have := hle.1; simpa using this, fun i hi hn => by
      have hne : i ≠ b := fun e => by subst e; exact hn hd
      rw [Hp.put_other _ _ hne, hle.2 i (by simpa using hi) (by rw [Hp.put_other _ _ hne]; exact hn), Hp.put_other _ _ hne]⟩
    refine ⟨H1.put b .dead, hle1, .inr ⟨b, cs, c, rfl, by have := hle.1; simp at *; omega, Hp.put_same _ _ _, by rw [Hp.put_put]; exact (Hp.put_self _ hg).symm, hcap, he.mono hle1.sees⟩, fun r ys h => h.links_put hg _⟩
/-- Two rows of lists of one's own. -/
def PartsP (G H : Hp) (N L : Value) (ns ls : List (List Link)) : Prop := ∃ Gm, OwnP (kSl kLink) G Gm N ns ∧ OwnP (kSl kLink) Gm H L ls
theorem PartsP.swap {G H : Hp} {N L : Value} {ns ls : List (List Link)} (h : PartsP G H N L ns ls) : PartsP G H L N ls ns := by
  obtain ⟨Gm, h1, h2⟩ := h
  rcases h1 with ⟨rfl, rfl, rfl⟩ | ⟨b, cs, c, rfl, hb, hd, rfl, hcap, he⟩
  · exact ⟨H, h2, .inl ⟨rfl, rfl, rfl⟩⟩
  · rcases h2 with ⟨rfl, rfl, rfl⟩ | ⟨b2, cs2, c2, rfl, hb2, hd2, rfl, hcap2, he2⟩
    · exact ⟨G, .inl ⟨rfl, rfl, rfl⟩, .inr ⟨b, cs, c, rfl, hb, hd, rfl, hcap, he⟩⟩
    · have hne : b2 ≠ b := fun e => by subst e; rw [Hp.put_same] at hd2; cases hd2
      have hd2' : G.get b2 = .dead := by rw [Hp.put_other _ _ hne] at hd2; exact hd2
      have he2' : Els (kSl kLink) G ls cs2 := by
        have := he2.lists_put (Hp.put_same _ _ _) .dead
        rw [Hp.put_put, Hp.put_self _ hd] at this
        exact this
      exact ⟨G.put b2 (.own 1 cs2), .inr ⟨b2, cs2, c2, rfl, by simpa using hb2, hd2', rfl, hcap2, he2'⟩, .inr ⟨b, cs, c, rfl, by simpa using hb, by rw [Hp.put_other _ _ (Ne.symm hne)]; exact hd, Hp.put_comm _ (Ne.symm hne) _ _, hcap, he.mono (G.le_put hd2' _).sees⟩⟩
theorem PartsP.slL {G H : Hp} {N L : Value} {ns ls : List (List Link)} (h : PartsP G H N L ns ls) : Sl (kSl kLink) H L ls := let ⟨_, _, h2⟩ := h; h2.sl
theorem PartsP.slN {G H : Hp} {N L : Value} {ns ls : List (List Link)} (h : PartsP G H N L ns ls) : Sl (kSl kLink) H N ns := h.swap.slL
theorem PartsP.le {G H : Hp} {N L : Value} {ns ls : List (List Link)} (h : PartsP G H N L ns ls) : G.le H := let ⟨_, h1, h2⟩ := h; Hp.le_trans h1.le h2.le
theorem PartsP.size {G H : Hp} {N L : Value} {ns ls : List (List Link)} (h : PartsP G H N L ns ls) : H.size = G.size := let ⟨_, h1, h2⟩ := h; h2.size.trans h1.size
theorem PartsP.after {G H H1 : Hp} {N L : Value} {ns ls : List (List Link)} (h : PartsP G H N L ns ls) (hle : H.le H1) : ∃ G1, G.le G1 ∧ PartsP G1 H1 N L ns ls := by
  obtain ⟨Gm, h1, h2⟩ := h
  obtain ⟨Gm1, k1, k2, _⟩ := h2.after hle
  obtain ⟨G1, k3, k4, _⟩ := h1.after k1
  exact ⟨G1, k3, Gm1, k4, k2⟩
theorem PartsP.box_put {G H : Hp} {N L : Value} {ns ls : List (List Link)} (h : PartsP G H N L ns ls) {b : Nat} {cs : List Value} (hb : b < G.size) (hg : G.get b = .own 0 cs) (ds : List Value) : PartsP (G.put b (.own 0 ds)) (H.put b (.own 0 ds)) N L ns ls := by
  obtain ⟨Gm, h1, h2⟩ := h
  have hg1 := le_got h1.le hb (by intro e; cases e) hg
  exact ⟨_, h1.box_put hg ds, h2.box_put hg1 ds⟩
/-- Where a row of one's own lies, and an element. -/
theorem OwnP.spot {G H : Hp} {v : Value} {xs : List (List Link)} (h : OwnP (kSl kLink) G H v xs) {i : Nat} (hi : i < xs.length) : ∃ b c cs w, v = .slice (some ⟨b, 0, none⟩) xs.length c ∧ b < H.size ∧ H.get b = .own 1 cs ∧ H.cell? b (0 + (i : Int).toNat * 1) = some w ∧ i < cs.length ∧ Sl kLink H w xs[i] := by
  rcases h with ⟨rfl, rfl, rfl⟩ | ⟨b, cs, c, rfl, hb, hd, rfl, hcap, he⟩
  · simp at hi
  · obtain ⟨d, ⟨w, rfl, hw⟩, hc⟩ := he.2 i xs[i] (List.getElem?_eq_getElem hi)
    have h1 := hc 0 w rfl
    have hw' := hw.mono (G.le_put hd (.own (kSl kLink).sz cs)).sees
    refine ⟨b, c, cs, w, rfl, by simpa using hb, Hp.put_same _ _ _, ?_, ?_, hw'⟩
    · rw [cell_put_new]
      simpa [kSl] using h1
    · have := (List.getElem?_eq_some_iff.1 h1).1
      simpa [kSl] using this
theorem PartsP.spotL {G H : Hp} {N L : Value} {ns ls : List (List Link)} (h : PartsP G H N L ns ls) {i : Nat} (hi : i < ls.length) : ∃ b c cs w, L = .slice (some ⟨b, 0, none⟩) ls.length c ∧ b < H.size ∧ H.get b = .own 1 cs ∧ H.cell? b (0 + (i : Int).toNat * 1) = some w ∧ i < cs.length ∧ Sl kLink H w ls[i] := let ⟨_, _, h2⟩ := h; h2.spot hi
theorem PartsP.spotN {G H : Hp} {N L : Value} {ns ls : List (List Link)} (h : PartsP G H N L ns ls) {i : Nat} (hi : i < ns.length) : ∃ b c cs w, N = .slice (some ⟨b, 0, none⟩) ns.length c ∧ b < H.size ∧ H.get b = .own 1 cs ∧ H.cell? b (0 + (i : Int).toNat * 1) = some w ∧ i < cs.length ∧ Sl kLink H w ns[i] := h.swap.spotL hi
/-- One list is written. -/
theorem PartsP.storeL {G H H1 : Hp} {N : Value} {b o n c : Nat} {ns ls : List (List Link)} (h : PartsP G H N (.slice (some ⟨b, o, none⟩) n c) ns ls) (hle : H.le H1) {r : Value} {ys : List Link} (hr : Sl kLink H1 r ys) {i off : Nat} (hi : i < ls.length) {st : Nat} {cs0 : List Value} (hg : H1.get b = .own st cs0) (ho : off = i * 1) :
    ∃ G1, G.le G1 ∧ PartsP G1 (H1.put b (.own st (setR cs0 off [r]))) N (.slice (some ⟨b, o, none⟩) n c) ns (ls.set i ys) := by
  obtain ⟨Gm, h1, h2⟩ := h
  obtain ⟨Gm1, k1, k2, k3⟩ := h2.after hle
  obtain ⟨G1, k4, k5, _⟩ := h1.after k1
  exact ⟨G1, k4, Gm1, k5, k2.store hg hi (x := ys) ⟨r, rfl, k3 r ys hr⟩ ho⟩
theorem PartsP.storeN {G H H1 : Hp} {L : Value} {b o n c : Nat} {ns ls : List (List Link)} (h : PartsP G H (.slice (some ⟨b, o, none⟩) n c) L ns ls) (hle : H.le H1) {r : Value} {ys : List Link} (hr : Sl kLink H1 r ys) {i off : Nat} (hi : i < ns.length) {st : Nat} {cs0 : List Value} (hg : H1.get b = .own st cs0) (ho : off = i * 1) :
    ∃ G1, G.le G1 ∧ PartsP G1 (H1.put b (.own st (setR cs0 off [r]))) (.slice (some ⟨b, o, none⟩) n c) L (ns.set i ys) ls := by
  obtain ⟨G1, k1, k2⟩ := h.swap.storeL hle hr hi hg ho
  exact ⟨G1, k1, k2.swap⟩
theorem lists_links (xs : List (List Link)) (v : Value) (H : Hp) (hs : Sl (kSl kLink) H v xs) (hl : xs.length ≤ 1000000) (hx : ∀ l ∈ xs, l.length ≤ 1000000) :
    ACalls Try.prog 190 #[v] H (fun r H' => ∃ G', H.le G' ∧ OwnP (kSl kLink) G' H' r xs) := by
  obtain ⟨A, c, rfl⟩ := hs.shape
  refine acalls_of_code Try.func190 rfl rfl rfl (by simp) ?_
  refine ac_seq ?_
  refine ac_region (by kernel_rfl) ?_
  first | refine aops_val (av_assign_sl rfl) ?_ | refine aops_val (av_assign rfl) ?_
  refine ac_seq ?_
  refine ac_region (by kernel_rfl) ?_
  first | refine aops_val (av_assign_sl rfl) ?_ | refine aops_val (av_assign rfl) ?_
  refine ac_seq ?_
  refine ac_seq ?_
  refine ac_region (by kernel_rfl) ?_
  first | refine aops_val (av_move_sl rfl) ?_ | refine aops_val (av_move rfl) ?_
  refine aops_val (av_len rfl Try.underlying63) ?_
  first | refine aops_val (av_move_int rfl) ?_ | refine aops_val (av_move rfl) ?_
  refine ac_block ?_
  refine ac_loop (fun n t H' => ∃ (i : Nat) (G : Hp) (B : Option Addr) (c5 : Nat), i ≤ xs.length ∧ n = xs.length - i ∧ H.le G ∧ OwnP (kSl kLink) G H' (.slice B i c5) (xs.take i) ∧ t 3 = .slice B i c5 ∧ t 6 = .slice A xs.length c ∧ t 7 = .int .i64 xs.length ∧ t 8 = .int .i64 i) (xs.length) (⟨0, H, _, _, by omega, rfl, Hp.le_refl _, OwnP.nil _ _, rfl, rfl, rfl, rfl⟩) ?_
  rintro n t H1 ⟨i, G, B, c5, hi, rfl, hle, hown, e3, e6, e7, e8⟩
  have hz := hown.size
  have hlen : (xs.take i).length = i := by rw [List.length_take]; omega
  refine ac_seq ?_
  refine ac_region (by kernel_rfl) ?_
  refine aops_val (av_lt (by first | assumption | rfl) (by first | assumption | rfl)) ?_
  refine ac_seq ?_
  refine ac_split rfl rfl ?_ ?_
  · intro hc1
    (try simp only [decide_eq_true_eq, decide_eq_false_iff_not, Bool.not_eq_true', Bool.not_eq_false'] at hc1)
    refine ac_skip ?_
    refine ac_seq ?_
    refine ac_block ?_
    refine ac_seq ?_
    refine ac_region (by kernel_rfl) ?_
    have hix : i < xs.length := by omega
    obtain ⟨b, o, ks, eB, hb, ⟨w0, rfl, hw0⟩, hcell0⟩ := (hs.mono hle.sees).elem_at hix
    subst eB
    have hcell0' := (hown.le.cells hb hcell0).one
    obtain ⟨A6, c6, rfl⟩ := hw0.shape
    refine aops_val (av_indexAddr (by first | assumption | rfl) (by first | assumption | rfl) Try.underlying63 inf22.size t_idx t_idx) ?_
    refine aops_val (av_load1 rfl Try.underlying22 rfl t_cell) ?_
    first | refine aops_val (av_assign_sl rfl) ?_ | refine aops_val (av_assign rfl) ?_
    refine ac_region (by kernel_rfl) ?_
    first | refine aops_val (av_move_sl (by first | assumption | rfl)) ?_ | refine aops_val (av_move (by first | assumption | rfl)) ?_
    first | refine aops_val (av_move_sl rfl) ?_ | refine aops_val (av_move rfl) ?_
    refine aops_op (aop_call (hown.calls (Clone_links xs[i] _ _ hw0 (hx _ (List.getElem_mem hix))) (fun r G' ⟨G2, a, b⟩ => Hp.le_trans a b.le)) rfl Try.func85 rfl rfl rfl ?_)
    rintro v5 H5 ⟨G5, ⟨G50, hle50, hown50⟩, hown5, hleH5⟩; have hs5 := hown50.sl; have hle5 := Hp.le_trans hle50 hown50.le; obtain ⟨A5, c50, rfl⟩ := hs5.shape
    first | refine aops_make (am_buildSlice (r := [.slice _ _ _]) Try.underlying63 inf22.size inf22.zero rfl (by decide) (by decide) (by decide) rfl) ?_ | refine aops_make (am_buildSlice (r := [_]) Try.underlying63 inf22.size inf22.zero rfl (by decide) (by decide) (by decide) rfl) ?_
    refine aops_op (OwnP.append (ys := [xs[i]]) (hown5.push _) Try.underlying63 inf22 rfl rfl rfl (sl_one (k := kSl kLink) ⟨_, rfl, hs5⟩ rfl hown5.size rfl) (by rw [hlen]; simp only [List.length_singleton]; omega) (by rw [hlen]; simp only [List.length_singleton]; omega) ?_)
    rintro v6 G6 H6 hle6 hown6
    obtain ⟨B', c', e6⟩ := hown6.shape
    rw [List.length_append, hlen, List.length_singleton] at e6
    subst e6
    first | refine aops_val (av_assign_sl rfl) ?_ | refine aops_val (av_assign rfl) ?_
    refine ac_region (by kernel_rfl) ?_
    first | refine aops_val (av_add64 (by first | assumption | rfl) (by first | assumption | rfl) t_fits) ?_ | refine aops_val (av_add (by first | assumption | rfl) (by first | assumption | rfl)) ?_
    first | refine aops_val (av_move_int rfl) ?_ | refine aops_val (av_move rfl) ?_
    rw [take_next hix] at hown6
    exact ⟨xs.length - (i + 1), by omega, i + 1, G6, B', c', by omega, rfl, Hp.le_trans (Hp.le_push' (Hp.le_trans hle hle5) _) hle6, hown6, rfl, e6, e7, rfl⟩
  · intro hc1
    (try simp only [decide_eq_true_eq, decide_eq_false_iff_not, Bool.not_eq_true', Bool.not_eq_false'] at hc1)
    refine ac_exit ?_
    refine ac_seq ?_
    rw [List.take_of_length_le (by omega)] at hown
    refine ac_region (by kernel_rfl) ?_
    first | refine aops_val (av_move_sl (by first | assumption | rfl)) ?_ | refine aops_val (av_move (by first | assumption | rfl)) ?_
    first | refine aops_val (av_assign_sl rfl) ?_ | refine aops_val (av_assign rfl) ?_
    refine ac_ret ?_
    exact ⟨_, aresult1 (ares_tmp rfl), G, hle, hown⟩
theorem Own_parts (p : Parts) (ds : List Value) (H : Hp) (hq : kParts.rep H p ds) (h1 : p.nodes.length ≤ 1000000) (h2 : p.links.length ≤ 1000000) (h3 : ∀ l ∈ p.nodes, l.length ≤ 1000000) (h4 : ∀ l ∈ p.links, l.length ≤ 1000000) :
    ACalls Try.prog 143 #[.agg ds.toArray] H (fun r H' => ∃ G' N L, H.le G' ∧ r = .agg #[N, L] ∧ PartsP G' H' N L p.nodes p.links) := by
  obtain ⟨u0, u1, rfl, hn0, hn1⟩ := hq
  obtain ⟨B0, d0, rfl⟩ := hn0.shape
  obtain ⟨B1, d1, rfl⟩ := hn1.shape
  refine acalls_of_code Try.func143 rfl rfl rfl (by simp) ?_
  refine ac_seq ?_
  refine ac_region (by kernel_rfl) ?_
  refine aops_make (am_box_agg rfl) ?_
  refine aops_make (am_zero (l := [.slice none 0 0, .slice none 0 0]) inf65.zero rfl (by decide)) ?_
  refine ac_seq ?_
  refine ac_draw (by kernel_rfl) (reg_of (B := [0, 1, 3, 0, 8, 31, 63, 127]) (π := [0, 1, 3, 4, 2, 5, 6, 7]) (by kernel_rfl)) ?_
  refine adr_val rfl rfl (av_fieldOff (off := 0) rfl Try.underlying65 rfl inf63.size (by decide) rfl) t_lt ?_
  refine adr_val rfl rfl (av_load1 rfl Try.underlying63 rfl t_cell) t_lt ?_
  refine adr_val rfl rfl (av_fieldOff (off := 1) rfl Try.underlying65 rfl inf63.size (by decide) rfl) t_lt ?_
  refine adr_val rfl rfl (av_load1 rfl Try.underlying63 rfl t_cell) t_lt ?_
  refine adr_op rfl rfl (aop_call (lists_links p.nodes _ _ (hn0.mono t_sees) h1 h3) rfl Try.func190 rfl rfl rfl ?_)
  rintro v5 H5 ⟨G5, hle5, hown5⟩; have hleC5 := Hp.le_trans hle5 hown5.le; have hzC5 := hleC5.1; simp only [Hp.push_size] at hzC5; obtain ⟨A5, c5, rfl⟩ := hown5.shape
  refine ⟨t_pend, ?_⟩
  refine adr_op rfl rfl (aop_call (lists_links p.links _ _ (hn1.mono t_sees) h2 h4) rfl Try.func190 rfl rfl rfl ?_)
  rintro v6 H6 ⟨G6, hle6, hown6⟩; have hleC6 := Hp.le_trans hle6 hown6.le; have hzC6 := hleC6.1; obtain ⟨A6, c6, rfl⟩ := hown6.shape
  refine ⟨t_pend, ?_⟩
  first | refine adr_val rfl rfl (av_build (pl := [(0, 1), (1, 1)]) (r := [.slice _ _ _, .slice _ _ _]) Try.underlying65 inf65.zero (by decide) rfl rfl) t_lt ?_ | refine adr_val rfl rfl (av_build (pl := [(0, 1), (1, 1)]) (r := [_, _]) Try.underlying65 inf65.zero (by decide) rfl rfl) t_lt ?_
  first | refine adr_op rfl rfl (aop_putN (vs := [.slice _ _ _, .slice _ _ _]) rfl rfl inf65.size t_get t_room rfl rfl ?_) | refine adr_op rfl rfl (aop_putN (vs := [_, _]) rfl rfl inf65.size t_get t_room rfl rfl ?_)
  refine ⟨t_pend, ?_⟩
  refine ac_ret ?_
  obtain ⟨G7, hle7, hown7, _⟩ := hown5.after hle6
  have kb := le_got (Hp.le_trans hle5 hle7) (by simp) (by intro e; cases e) ((Hp.push_new (H.push (.own 0 [.slice B0 p.nodes.length d0, .slice B1 p.links.length d1])) (.own 0 [.slice none 0 0, .slice none 0 0])))
  have hpp : PartsP G7 H6 (.slice A5 p.nodes.length c5) (.slice A6 p.links.length c6) p.nodes p.links := ⟨G6, hown7, hown6⟩
  have hz7 := (Hp.le_trans hle5 hle7).1
  simp only [Hp.push_size] at hz7 kb
  exact ⟨_, aresult1 (ares_cell rfl (aload_agg (cs := [.slice A5 p.nodes.length c5, .slice A6 p.links.length c6]) Try.underlying65 rfl inf65.size t_cells)), _, _, _, Hp.le_put_new (Hp.le_trans (Hp.le_push' (H.le_push _) _) (Hp.le_trans hle5 hle7)) (by omega) _, rfl, hpp.box_put (by omega) kb _⟩
end Go.Proofs.Ytnkjikpmgeknbaa.Am

namespace Go.Proofs.Ytnkjikpmgeknbaa.Am
open Go Go.RowKit
set_option maxRecDepth 100000
set_option linter.unusedVariables false
set_option linter.unusedSimpArgs false

theorem compact_sub (xs : List Int) : (Lib.compact xs).Sublist xs := by
  have h : ((List.range xs.length).map fun i => xs.toArray[i]!) = xs := by
    apply List.ext_getElem
    · simp
    · intro i h1 h2
      simp at h1 ⊢
      rw [List.getElem?_eq_getElem h2]; rfl
  have : (Lib.compact xs).Sublist ((List.range xs.length).map fun i => xs.toArray[i]!) := by
    unfold Lib.compact Lib.compactUpTo
    exact List.filter_sublist.map _
  rwa [h] at this
theorem compact_mem {xs : List Int} {x : Int} : x ∈ Lib.compact xs ↔ x ∈ xs := by
  refine ⟨fun h => (compact_sub xs).subset h, fun h => ?_⟩
  have key : ∀ i (hi : i < xs.length), xs[i] ∈ Lib.compact xs := by
    intro i
    induction i with
    | zero =>
      intro hi
      unfold Lib.compact Lib.compactUpTo
      refine List.mem_map.2 ⟨0, List.mem_filter.2 ⟨List.mem_range.2 hi, by simp [Lib.keeps]⟩, ?_⟩
      simp [List.getElem?_eq_getElem hi]
    | succ i ih =>
      intro hi
      have h0 := ih (by omega)
      by_cases he : xs[i + 1] = xs[i]
      · rw [he]; exact h0
      · unfold Lib.compact Lib.compactUpTo
        refine List.mem_map.2 ⟨i + 1, List.mem_filter.2 ⟨List.mem_range.2 hi, ?_⟩, ?_⟩
        · unfold Lib.keeps
          simp [List.getElem?_eq_getElem hi, List.getElem?_eq_getElem (by omega : i < xs.length), he]
        · simp [List.getElem?_eq_getElem hi]
  obtain ⟨i, hi, rfl⟩ := List.getElem_of_mem h
  exact key i hi
theorem endsL_sorted (xs : List Link) (second : Bool) : (endsL xs second).Pairwise (· ≤ ·) := by
  unfold endsL
  refine List.Pairwise.sublist (compact_sub _) ?_
  have := List.pairwise_mergeSort (le := fun x y : Int => decide (x ≤ y)) (fun a b c h1 h2 => by simp at *; omega) (fun a b => by simp; omega) (xs.map fun x => if second then x.b else x.a)
  exact this.imp fun h => by simpa using h
theorem endsL_mem {xs : List Link} {second : Bool} {n : Int} : n ∈ endsL xs second ↔ ∃ x ∈ xs, (if second then x.b else x.a) = n := by
  unfold endsL
  rw [compact_mem, List.mem_mergeSort, List.mem_map]
theorem endsL_len (xs : List Link) (second : Bool) : (endsL xs second).length ≤ xs.length := by
  unfold endsL
  have h1 := (compact_sub ((xs.map fun x => if second then x.b else x.a).mergeSort fun x y => decide (x ≤ y))).length_le
  rw [List.length_mergeSort, List.length_map] at h1
  exact h1
theorem withinL_len (xs : List Link) (fs ts : List Int) : (withinL xs fs ts).length ≤ xs.length := List.length_filter_le _ _
end Go.Proofs.Ytnkjikpmgeknbaa.Am

namespace Go.Proofs.Ytnkjikpmgeknbaa.Am
open Go Go.RowKit
set_option maxRecDepth 100000
set_option linter.unusedVariables false
set_option linter.unusedSimpArgs false

theorem take_map_few {α β : Type} {i : Nat} {xs : List α} (g : α → β) (h : i ≤ xs.length) (h8 : i ≤ 8) (hx : ¬ (i : Int) < xs.length ∨ ¬ (i : Int) < 8) : (xs.take 8).map g = (xs.take i).map g := by
  rcases Nat.lt_or_ge i xs.length with h1 | h1
  · rw [show i = 8 by omega]
  · rw [List.take_of_length_le (by omega), List.take_of_length_le (by omega)]
set_option maxHeartbeats 2000000 in
theorem Few_forest (f : Forest) (cs : List Value) (H : Hp) (hp : kForest.rep H f cs) (hl0 : f.vars.length ≤ 9223372036854775807) (hl1 : f.order.length ≤ 9223372036854775807) (hl2 : f.parent.length ≤ 9223372036854775807) (hl3 : f.links.length ≤ 9223372036854775807) (hl4 : f.loops.length ≤ 9223372036854775807) (hnlinks : ∀ l ∈ f.links, l.length ≤ 9223372036854775807) (hnloops : ∀ l ∈ f.loops, l.length ≤ 9223372036854775807) :
    ACalls Try.prog 94 #[.agg cs.toArray] H (fun r H' => H.le H' ∧ ∃ ds, r = .agg ds.toArray ∧ kForest.rep H' f.few ds) := by
  obtain ⟨v0, v1, v2, v3, v4, rfl, hs0, hs1, hs2, hs3, hs4⟩ := hp
  obtain ⟨A0, c0, rfl⟩ := hs0.shape
  obtain ⟨A1, c1, rfl⟩ := hs1.shape
  obtain ⟨A2, c2, rfl⟩ := hs2.shape
  obtain ⟨A3, c3, rfl⟩ := hs3.shape
  obtain ⟨A4, c4, rfl⟩ := hs4.shape
  refine acalls_of_code Try.func94 rfl rfl rfl (by simp) ?_
  refine ac_seq ?_
  refine ac_region (by kernel_rfl) ?_
  refine aops_make (am_box_agg rfl) ?_
  refine aops_make (am_zero (l := [.slice none 0 0, .slice none 0 0, .slice none 0 0, .slice none 0 0, .slice none 0 0]) inf62.zero rfl (by decide)) ?_
  refine ac_seq ?_
  refine ac_draw (by kernel_rfl) (reg_of (B := [0, 1, 3, 0, 8, 31, 63, 0, 255]) (π := [0, 1, 3, 4, 7, 2, 5, 6, 8]) (by kernel_rfl)) ?_
  refine adr_val rfl rfl (av_fieldOff (off := 1) rfl Try.underlying62 rfl inf29.size (by decide) rfl) t_lt ?_
  refine adr_val rfl rfl (av_load1 rfl Try.underlying29 rfl t_cell) t_lt ?_
  refine adr_val rfl rfl (av_fieldOff (off := 2) rfl Try.underlying62 rfl inf29.size (by decide) rfl) t_lt ?_
  refine adr_val rfl rfl (av_load1 rfl Try.underlying29 rfl t_cell) t_lt ?_
  refine adr_make rfl rfl (am_zero (l := [.slice none 0 0, .slice none 0 0, .slice none 0 0, .slice none 0 0, .slice none 0 0]) inf62.zero rfl (by decide)) ?_
  refine adr_op rfl rfl (aop_call (Few_ints f.order _ 8 _ (hs1.mono (Hp.le_push' (Hp.le_push' (H.le_push _) _) _).sees) hl1 (by omega) (by omega)) rfl Try.func136 rfl rfl rfl ?_)
  rintro w1 H1 ⟨hle1, hr1⟩; rw [show (8 : Int).toNat = 8 from rfl] at hr1; obtain ⟨O, co, rfl⟩ := hr1.shape; have js := hle1.1; simp only [Hp.push_size] at js; have j0 : H1.get H.size = .own 0 [.slice A0 f.vars.length c0, .slice A1 f.order.length c1, .slice A2 f.parent.length c2, .slice A3 f.links.length c3, .slice A4 f.loops.length c4] := le_got hle1 (by simp only [Hp.push_size]; omega) (by intro e; cases e) t_get; have j1 : H1.get (H.size + 1) = .own 0 [.slice none 0 0, .slice none 0 0, .slice none 0 0, .slice none 0 0, .slice none 0 0] := le_got hle1 (by simp only [Hp.push_size]; omega) (by intro e; cases e) t_get; have j2 : H1.get (H.size + 2) = .own 0 [.slice none 0 0, .slice none 0 0, .slice none 0 0, .slice none 0 0, .slice none 0 0] := le_got hle1 (by simp only [Hp.push_size]; omega) (by intro e; cases e) t_get
  refine ⟨t_pend, ?_⟩
  refine adr_op rfl rfl (aop_call (Few_ints f.parent _ 8 _ (hs2.mono ((Hp.le_push' (Hp.le_push' (H.le_push _) _) _).sees.trans hle1.sees)) hl2 (by omega) (by omega)) rfl Try.func136 rfl rfl rfl ?_)
  rintro w2 H2 ⟨hle2, hr2⟩; rw [show (8 : Int).toNat = 8 from rfl] at hr2; obtain ⟨Q, cq, rfl⟩ := hr2.shape; have ks := hle2.1; have k0 := le_got hle2 (by omega) (by intro e; cases e) j0; have k1 := le_got hle2 (by omega) (by intro e; cases e) j1; have k2 := le_got hle2 (by omega) (by intro e; cases e) j2
  refine ⟨t_pend, ?_⟩
  first | refine adr_val rfl rfl (av_build (pl := [(0, 1), (1, 1), (2, 1), (3, 1), (4, 1)]) (r := [.slice _ _ _, .slice _ _ _, .slice _ _ _, .slice _ _ _, .slice _ _ _]) Try.underlying62 inf62.zero (by decide) rfl rfl) t_lt ?_ | refine adr_val rfl rfl (av_build (pl := [(0, 1), (1, 1), (2, 1), (3, 1), (4, 1)]) (r := [_, _, _, _, _]) Try.underlying62 inf62.zero (by decide) rfl rfl) t_lt ?_
  first | refine adr_op rfl rfl (aop_putN (vs := [.slice _ _ _, .slice _ _ _, .slice _ _ _, .slice _ _ _, .slice _ _ _]) rfl rfl inf62.size t_get t_room rfl rfl ?_) | refine adr_op rfl rfl (aop_putN (vs := [_, _, _, _, _]) rfl rfl inf62.size t_get t_room rfl rfl ?_)
  refine ⟨t_pend, ?_⟩
  refine ac_seq ?_
  refine ac_seq ?_
  have hle02 := Hp.le_trans hle1 hle2
  have hs02 := hle02.1
  simp only [Hp.push_size] at hs02
  have hleH2 : H.le H2 := Hp.le_trans (Hp.le_push' (Hp.le_push' (H.le_push _) _) _) hle02
  obtain ⟨b3, hb3⟩ : ∃ b3, b3 = H.size + 2 := ⟨_, rfl⟩
  have h3s : H.size + 1 < b3 := by omega
  refine ac_region (by kernel_rfl) ?_
  first | refine aops_val (av_assign_int rfl) ?_ | refine aops_val (av_assign rfl) ?_
  refine ac_block ?_
  refine ac_loop (fun n t H' => ∃ (i : Nat) (G : Hp) (B : Option Addr) (c5 : Nat), i ≤ f.vars.length ∧ i ≤ 8 ∧ n = f.vars.length - i ∧ H.le G ∧ OwnP kStr G H' (.slice B i c5) ((f.vars.take i).map (fun s => cutS s 32)) ∧ G.get H.size = .own 0 [.slice A0 f.vars.length c0, .slice A1 f.order.length c1, .slice A2 f.parent.length c2, .slice A3 f.links.length c3, .slice A4 f.loops.length c4] ∧ G.get (H.size + 1) = .own 0 [.slice none 0 0, .slice none 0 0, .slice none 0 0, .slice none 0 0, .slice none 0 0] ∧ G.get b3 = .own 0 [.slice B i c5, .slice O (f.order.take 8).length co, .slice Q (f.parent.take 8).length cq, .slice none 0 0, .slice none 0 0] ∧ b3 < G.size ∧ Sl (kInt .i64) G (.slice O (f.order.take 8).length co) (f.order.take 8) ∧ Sl (kInt .i64) G (.slice Q (f.parent.take 8).length cq) (f.parent.take 8) ∧ t 1 = .pointer (some ⟨H.size, 0, none⟩) ∧ t 2 = .pointer (some ⟨H.size + 1, 0, none⟩) ∧ t 3 = .pointer (some ⟨b3, 0, none⟩) ∧ t 4 = .int .i64 i) (f.vars.length) (⟨0, H2.put b3 (.own 0 [.slice none 0 0, .slice O (f.order.take 8).length co, .slice Q (f.parent.take 8).length cq, .slice none 0 0, .slice none 0 0]), _, _, by omega, by omega, rfl, Hp.le_put_new hleH2 (by omega) _, by rw [hb3]; exact OwnP.nil _ _, by rw [Hp.put_other _ _ (by omega)]; exact k0, by rw [Hp.put_other _ _ (by omega)]; exact k1, Hp.put_same _ _ _, by simp; omega, (hr1.mono hle2.sees).mono (Hp.sees_box _ (by rw [hb3]; exact k2)), hr2.mono (Hp.sees_box _ (by rw [hb3]; exact k2)), rfl, rfl, by rw [hb3]; rfl, rfl⟩) ?_
  rintro n t H1 ⟨i, G, B, c5, hi, hi8, rfl, hle, hown, kb0, kb1, kb2, hgs, so, sp, e1, e2, e3, e4⟩
  have hz := hown.size
  have hleH1 := Hp.le_trans hle hown.le
  have hh0 := le_got hown.le (by omega) (by intro e; cases e) kb0
  have hh1 := le_got hown.le (by omega) (by intro e; cases e) kb1
  have hh2 := le_got hown.le hgs (by intro e; cases e) kb2
  have hlen : ((f.vars.take i).map (fun s => cutS s 32)).length = i := by rw [List.length_map, List.length_take]; omega
  refine ac_seq ?_
  refine ac_seq ?_
  refine ac_region (by kernel_rfl) ?_
  first | refine aops_val (av_move_int (by first | assumption | rfl)) ?_ | refine aops_val (av_move (by first | assumption | rfl)) ?_
  refine aops_val (av_fieldOff (off := 0) (by first | assumption | rfl) Try.underlying62 (by first | assumption | rfl) inf59.size (by decide) (by first | assumption | rfl)) ?_
  refine aops_val (av_load1 rfl Try.underlying59 rfl t_cell) ?_
  refine aops_val (av_len rfl Try.underlying59) ?_
  refine aops_val (av_lt rfl rfl) ?_
  first | refine aops_val (av_move_bool rfl) ?_ | refine aops_val (av_move rfl) ?_
  refine aops_guard rfl rfl rfl ?_ ?_
  · intro hg1
    have hp1 := hg1; try simp only [decide_eq_true_eq, decide_eq_false_iff_not, Bool.not_eq_true', Bool.not_eq_false'] at hp1
    first | refine aops_wval (want_yes rfl rfl rfl hg1) (av_move_int (by first | assumption | rfl)) ?_ | refine aops_wval (want_yes rfl rfl rfl hg1) (av_move (by first | assumption | rfl)) ?_
    refine aops_wval (want_yes rfl rfl rfl hg1) (av_lt rfl rfl) ?_
    refine aops_val (av_pick_bool (congrArg Value.bool hg1) rfl) ?_
    refine ac_split rfl rfl ?_ ?_
    · intro hc2
      (try simp only [decide_eq_true_eq, decide_eq_false_iff_not, Bool.not_eq_true', Bool.not_eq_false'] at hc2)
      refine ac_skip ?_
      refine ac_seq ?_
      refine ac_block ?_
      have hix : i < f.vars.length := by omega
      obtain ⟨b, o, rfl, _, hb4, hcut, hx4⟩ := hs0.place (by omega)
      obtain ⟨cs, hr0, hcell0⟩ := hx4 i _ (List.getElem?_eq_getElem hix)
      have hcs : cs = [.string f.vars[i]] := hr0
      subst hcs
      have hcell1 := (hleH1.cells hb4 hcell0).one
      have hdd := Blk.cut_ne hcut
      have hS4 : ∀ x ∈ [b], x < H.size ∧ H.get x ≠ .dead := fun x hx => by simp at hx; subst hx; exact ⟨hb4, hdd⟩
      have hbH : b < H1.size := by omega
      refine ac_draw (by kernel_rfl) (reg_of (B := [0, 1, 0, 4, 0, 28, 60, 124, 252, 511, 1023, 2047]) (π := [0, 1, 2, 3, 4, 5, 6, 7, 8, 9, 10, 11]) (by kernel_rfl)) ?_
      refine adr_val rfl rfl (av_fieldOff (off := 0) (by first | assumption | rfl) Try.underlying62 (by first | assumption | rfl) inf59.size (by decide) (by first | assumption | rfl)) t_lt ?_
      refine adr_val rfl rfl (av_load1 rfl Try.underlying59 rfl t_cell) t_lt ?_
      refine adr_val rfl rfl (av_fieldOff (off := 0) (by first | assumption | rfl) Try.underlying62 (by first | assumption | rfl) inf59.size (by decide) (by first | assumption | rfl)) t_lt ?_
      refine adr_val rfl rfl (av_load1 rfl Try.underlying59 rfl t_cell) t_lt ?_
      first | refine adr_val rfl rfl (av_move_int (by first | assumption | rfl)) t_lt ?_ | refine adr_val rfl rfl (av_move (by first | assumption | rfl)) t_lt ?_
      refine adr_val rfl rfl (av_indexAddr rfl rfl Try.underlying59 inf9.size t_idx t_idx) t_lt ?_
      refine adr_val rfl rfl (av_load1 rfl Try.underlying9 rfl t_cell) t_lt ?_
      refine adr_op rfl rfl (aop_call (Cut_str f.vars[i] 32 _) rfl Try.func54 rfl rfl rfl ?_)
      rintro v5 H1 ⟨rfl, rfl⟩
      refine ⟨t_pend, ?_⟩
      first | refine adr_make rfl rfl (am_buildSlice (r := [.string _]) Try.underlying59 inf9.size inf9.zero rfl (by decide) (by decide) (by decide) rfl) ?_
      have hX := trivial
      have hown5 := hown
      have hle5 := Hp.le_refl G
      have hle5' := Hp.le_refl H1
      have hg52 := le_got hle5 hgs (by intro e; cases e) kb2
      have hg50 := le_got hle5 (by omega) (by intro e; cases e) kb0
      have hg51 := le_got hle5 (by omega) (by intro e; cases e) kb1
      have hgs5 : b3 < G.size := Nat.lt_of_lt_of_le hgs hle5.1
      refine adr_op rfl rfl (OwnP.append (ys := [cutS f.vars[i] 32]) (hown5.push _) Try.underlying59 inf9 rfl rfl rfl (sl_one (k := kStr) rfl rfl hown5.size rfl) (by rw [hlen]; simp only [List.length_singleton]; omega) (by rw [hlen]; simp only [List.length_singleton]; omega) ?_)
      rintro v6 G6 H6 hle6 hown6
      have hsame := OwnP.sameS (hown5.push _) hle6 hown6 (H0 := H) (Hp.le_push' (Hp.le_trans hle hle5) _) hS4
      have hsameO := OwnP.sameO (hown5.push _) hle6 hown6
      have hs6 := hle6.1
      simp only [Hp.push_size] at hs6
      have hg62 := le_got hle6 (by simp; omega) (by intro e; cases e) ((Hp.push_old _ _ hgs5).trans hg52)
      have hg60 := le_got hle6 (by simp; omega) (by intro e; cases e) ((Hp.push_old _ _ (by omega)).trans hg50)
      have hg61 := le_got hle6 (by simp; omega) (by intro e; cases e) ((Hp.push_old _ _ (by omega)).trans hg51)
      have hg62H := le_got hown6.le (by omega) (by intro e; cases e) hg62
      obtain ⟨B', c', e6⟩ := hown6.shape
      rw [List.length_append, hlen, List.length_singleton] at e6
      subst e6
      refine ⟨t_pend, ?_⟩
      refine adr_val rfl rfl (av_fieldOff (off := 0) (by first | assumption | rfl) Try.underlying62 (by first | assumption | rfl) inf59.size (by decide) (by first | assumption | rfl)) t_lt ?_
      first | refine adr_op rfl rfl (aop_put1 rfl rfl rfl inf59.size t_get t_room rfl ?_)
      refine ⟨t_pend, ?_⟩
      refine ac_region (by kernel_rfl) ?_
      first | refine aops_val (av_move_int (by first | assumption | rfl)) ?_ | refine aops_val (av_move (by first | assumption | rfl)) ?_
      first | refine aops_val (av_add64 rfl rfl t_fits) ?_ | refine aops_val (av_add rfl rfl) ?_
      first | refine aops_val (av_assign_int rfl) ?_ | refine aops_val (av_assign rfl) ?_
      rw [show ((f.vars.take i).map (fun s => cutS s 32)) ++ [cutS f.vars[i] 32] = ((f.vars.take (i + 1)).map (fun s => cutS s 32)) by rw [← take_next hix, List.map_append]; rfl] at hown6
      have hleHG6 := Hp.le_trans (Hp.le_push' (Hp.le_trans hle hle5) _) hle6
      have hse := ((hle5.sees.push _).trans hle6.sees).trans (Hp.sees_box (cs' := [.slice B' (i + 1) c', .slice O (f.order.take 8).length co, .slice Q (f.parent.take 8).length cq, .slice none 0 0, .slice none 0 0]) _ hg62)
      exact ⟨f.vars.length - (i + 1), by omega, i + 1, G6.put b3 (.own 0 [.slice B' (i + 1) c', .slice O (f.order.take 8).length co, .slice Q (f.parent.take 8).length cq, .slice none 0 0, .slice none 0 0]), B', c', by omega, by omega, rfl, Hp.le_put_new hleHG6 (by omega) _, hown6.box_put hg62 _, by rw [Hp.put_other _ _ (by omega)]; exact hg60, by rw [Hp.put_other _ _ (by omega)]; exact hg61, Hp.put_same _ _ _, by simp; omega, so.mono hse, sp.mono hse, e1, e2, e3, rfl⟩
    · intro hc2
      (try simp only [decide_eq_true_eq, decide_eq_false_iff_not, Bool.not_eq_true', Bool.not_eq_false'] at hc2)
      refine ac_exit ?_
      refine ac_seq ?_
      refine ac_seq ?_
      have hfv : f.few.vars = (f.vars.take i).map (fun s => cutS s 32) := take_map_few _ hi hi8 (by first | exact .inl (by omega) | exact .inr (by omega))
      have sv := hown.sl
      rw [← hfv] at sv
      have so := so.mono hown.le.sees
      have sp := sp.mono hown.le.sees
      generalize hB2 : B = BV at sv hh2
      generalize hc2 : c5 = cV at sv hh2
      generalize hn2 : i = nV at sv hh2
      refine ac_region (by kernel_rfl) ?_
      first | refine aops_val (av_assign_int rfl) ?_ | refine aops_val (av_assign rfl) ?_
      refine ac_block ?_
      refine ac_loop (fun n t H' => ∃ (i : Nat) (G : Hp) (B : Option Addr) (c5 : Nat), i ≤ f.links.length ∧ i ≤ 8 ∧ n = f.links.length - i ∧ H.le G ∧ OwnP (kSl (kInt .i64)) G H' (.slice B i c5) ((f.links.take i).map (fun l => l.take 4)) ∧ G.get H.size = .own 0 [.slice A0 f.vars.length c0, .slice A1 f.order.length c1, .slice A2 f.parent.length c2, .slice A3 f.links.length c3, .slice A4 f.loops.length c4] ∧ G.get (H.size + 1) = .own 0 [.slice none 0 0, .slice none 0 0, .slice none 0 0, .slice none 0 0, .slice none 0 0] ∧ G.get b3 = .own 0 [.slice BV nV cV, .slice O (f.order.take 8).length co, .slice Q (f.parent.take 8).length cq, .slice B i c5, .slice none 0 0] ∧ b3 < G.size ∧ Sl (kInt .i64) G (.slice O (f.order.take 8).length co) (f.order.take 8) ∧ Sl (kInt .i64) G (.slice Q (f.parent.take 8).length cq) (f.parent.take 8) ∧ Sl kStr G (.slice BV nV cV) f.few.vars ∧ t 1 = .pointer (some ⟨H.size, 0, none⟩) ∧ t 2 = .pointer (some ⟨H.size + 1, 0, none⟩) ∧ t 3 = .pointer (some ⟨b3, 0, none⟩) ∧ t 5 = .int .i64 i) (f.links.length) (⟨0, H1, _, _, by omega, by omega, rfl, hleH1, OwnP.nil _ _, hh0, hh1, hh2, by omega, so, sp, sv, e1, e2, e3, rfl⟩) ?_
      rintro n t H1 ⟨i, G, B, c5, hi, hi8, rfl, hle, hown, kb0, kb1, kb2, hgs, so, sp, sv, e1, e2, e3, e4⟩
      have hz := hown.size
      have hleH1 := Hp.le_trans hle hown.le
      have hh0 := le_got hown.le (by omega) (by intro e; cases e) kb0
      have hh1 := le_got hown.le (by omega) (by intro e; cases e) kb1
      have hh2 := le_got hown.le hgs (by intro e; cases e) kb2
      have hlen : ((f.links.take i).map (fun l => l.take 4)).length = i := by rw [List.length_map, List.length_take]; omega
      refine ac_seq ?_
      refine ac_seq ?_
      refine ac_region (by kernel_rfl) ?_
      first | refine aops_val (av_move_int (by first | assumption | rfl)) ?_ | refine aops_val (av_move (by first | assumption | rfl)) ?_
      refine aops_val (av_fieldOff (off := 3) (by first | assumption | rfl) Try.underlying62 (by first | assumption | rfl) inf60.size (by decide) (by first | assumption | rfl)) ?_
      refine aops_val (av_load1 rfl Try.underlying60 rfl t_cell) ?_
      refine aops_val (av_len rfl Try.underlying60) ?_
      refine aops_val (av_lt rfl rfl) ?_
      first | refine aops_val (av_move_bool rfl) ?_ | refine aops_val (av_move rfl) ?_
      refine aops_guard rfl rfl rfl ?_ ?_
      · intro hg3
        have hp3 := hg3; try simp only [decide_eq_true_eq, decide_eq_false_iff_not, Bool.not_eq_true', Bool.not_eq_false'] at hp3
        first | refine aops_wval (want_yes rfl rfl rfl hg3) (av_move_int (by first | assumption | rfl)) ?_ | refine aops_wval (want_yes rfl rfl rfl hg3) (av_move (by first | assumption | rfl)) ?_
        refine aops_wval (want_yes rfl rfl rfl hg3) (av_lt rfl rfl) ?_
        refine aops_val (av_pick_bool (congrArg Value.bool hg3) rfl) ?_
        refine ac_split rfl rfl ?_ ?_
        · intro hc4
          (try simp only [decide_eq_true_eq, decide_eq_false_iff_not, Bool.not_eq_true', Bool.not_eq_false'] at hc4)
          refine ac_skip ?_
          refine ac_seq ?_
          refine ac_block ?_
          have hix : i < f.links.length := by omega
          obtain ⟨b, o, rfl, _, hb4, hcut, hx4⟩ := hs3.place (by omega)
          obtain ⟨cs, hr0, hcell0⟩ := hx4 i _ (List.getElem?_eq_getElem hix)
          obtain ⟨u, rfl, hu⟩ := hr0
          obtain ⟨A6, c6, rfl⟩ := hu.shape
          have hcell1 := (hleH1.cells hb4 hcell0).one
          have hdd := Blk.cut_ne hcut
          have hS4 : ∀ x ∈ [b], x < H.size ∧ H.get x ≠ .dead := fun x hx => by simp at hx; subst hx; exact ⟨hb4, hdd⟩
          have hbH : b < H1.size := by omega
          refine ac_draw (by kernel_rfl) (reg_of (B := [0, 1, 0, 4, 0, 28, 60, 124, 252, 511, 1023, 2047]) (π := [0, 1, 2, 3, 4, 5, 6, 7, 8, 9, 10, 11]) (by kernel_rfl)) ?_
          refine adr_val rfl rfl (av_fieldOff (off := 3) (by first | assumption | rfl) Try.underlying62 (by first | assumption | rfl) inf60.size (by decide) (by first | assumption | rfl)) t_lt ?_
          refine adr_val rfl rfl (av_load1 rfl Try.underlying60 rfl t_cell) t_lt ?_
          refine adr_val rfl rfl (av_fieldOff (off := 3) (by first | assumption | rfl) Try.underlying62 (by first | assumption | rfl) inf60.size (by decide) (by first | assumption | rfl)) t_lt ?_
          refine adr_val rfl rfl (av_load1 rfl Try.underlying60 rfl t_cell) t_lt ?_
          first | refine adr_val rfl rfl (av_move_int (by first | assumption | rfl)) t_lt ?_ | refine adr_val rfl rfl (av_move (by first | assumption | rfl)) t_lt ?_
          refine adr_val rfl rfl (av_indexAddr rfl rfl Try.underlying60 inf29.size t_idx t_idx) t_lt ?_
          refine adr_val rfl rfl (av_load1 rfl Try.underlying29 rfl t_cell) t_lt ?_
          refine adr_op rfl rfl (aop_call (hown.calls (Few_ints f.links[i] _ 4 _ (hu.mono hle.sees) (hnlinks _ (List.getElem_mem hix)) (by omega) (by omega)) (fun r G' h => h.1)) rfl Try.func136 rfl rfl rfl ?_)
          rintro v5 H5 ⟨G5, ⟨hle5, hs5⟩, hown5, hleH5⟩; rw [show (4 : Int).toNat = 4 from rfl] at hs5; have hz5 := hleH5.1; have hsame : ∀ x ∈ [b], H5.get x = H1.get x := (fun x hx => hleH5.2 x (by simp at hx; omega) (by rw [hleH1.2 x (hS4 x hx).1 (hS4 x hx).2]; exact (hS4 x hx).2)); obtain ⟨A5, c50, rfl⟩ := hs5.shape
          refine ⟨t_pend, ?_⟩
          first | refine adr_make rfl rfl (am_buildSlice (r := [.slice _ _ _]) Try.underlying60 inf29.size inf29.zero rfl (by decide) (by decide) (by decide) rfl) ?_ | refine adr_make rfl rfl (am_buildSlice (r := [_]) Try.underlying60 inf29.size inf29.zero rfl (by decide) (by decide) (by decide) rfl) ?_
          have hX := trivial
          have hg52 := le_got hle5 hgs (by intro e; cases e) kb2
          have hg50 := le_got hle5 (by omega) (by intro e; cases e) kb0
          have hg51 := le_got hle5 (by omega) (by intro e; cases e) kb1
          have hgs5 : b3 < G5.size := Nat.lt_of_lt_of_le hgs hle5.1
          refine adr_op rfl rfl (OwnP.append (ys := [f.links[i].take 4]) (hown5.push _) Try.underlying60 inf29 rfl rfl rfl (sl_one (k := (kSl (kInt .i64))) ⟨_, rfl, hs5⟩ rfl hown5.size rfl) (by rw [hlen]; simp only [List.length_singleton]; omega) (by rw [hlen]; simp only [List.length_singleton]; omega) ?_)
          rintro v6 G6 H6 hle6 hown6
          have hsame := OwnP.sameS (hown5.push _) hle6 hown6 (H0 := H) (Hp.le_push' (Hp.le_trans hle hle5) _) hS4
          have hsameO := OwnP.sameO (hown5.push _) hle6 hown6
          have hs6 := hle6.1
          simp only [Hp.push_size] at hs6
          have hg62 := le_got hle6 (by simp; omega) (by intro e; cases e) ((Hp.push_old _ _ hgs5).trans hg52)
          have hg60 := le_got hle6 (by simp; omega) (by intro e; cases e) ((Hp.push_old _ _ (by omega)).trans hg50)
          have hg61 := le_got hle6 (by simp; omega) (by intro e; cases e) ((Hp.push_old _ _ (by omega)).trans hg51)
          have hg62H := le_got hown6.le (by omega) (by intro e; cases e) hg62
          obtain ⟨B', c', e6⟩ := hown6.shape
          rw [List.length_append, hlen, List.length_singleton] at e6
          subst e6
          refine ⟨t_pend, ?_⟩
          refine adr_val rfl rfl (av_fieldOff (off := 3) (by first | assumption | rfl) Try.underlying62 (by first | assumption | rfl) inf60.size (by decide) (by first | assumption | rfl)) t_lt ?_
          first | refine adr_op rfl rfl (aop_put1 rfl rfl rfl inf60.size t_get t_room rfl ?_)
          refine ⟨t_pend, ?_⟩
          refine ac_region (by kernel_rfl) ?_
          first | refine aops_val (av_move_int (by first | assumption | rfl)) ?_ | refine aops_val (av_move (by first | assumption | rfl)) ?_
          first | refine aops_val (av_add64 rfl rfl t_fits) ?_ | refine aops_val (av_add rfl rfl) ?_
          first | refine aops_val (av_assign_int rfl) ?_ | refine aops_val (av_assign rfl) ?_
          rw [show ((f.links.take i).map (fun l => l.take 4)) ++ [f.links[i].take 4] = ((f.links.take (i + 1)).map (fun l => l.take 4)) by rw [← take_next hix, List.map_append]; rfl] at hown6
          have hleHG6 := Hp.le_trans (Hp.le_push' (Hp.le_trans hle hle5) _) hle6
          have hse := ((hle5.sees.push _).trans hle6.sees).trans (Hp.sees_box (cs' := [.slice BV nV cV, .slice O (f.order.take 8).length co, .slice Q (f.parent.take 8).length cq, .slice B' (i + 1) c', .slice none 0 0]) _ hg62)
          exact ⟨f.links.length - (i + 1), by omega, i + 1, G6.put b3 (.own 0 [.slice BV nV cV, .slice O (f.order.take 8).length co, .slice Q (f.parent.take 8).length cq, .slice B' (i + 1) c', .slice none 0 0]), B', c', by omega, by omega, rfl, Hp.le_put_new hleHG6 (by omega) _, hown6.box_put hg62 _, by rw [Hp.put_other _ _ (by omega)]; exact hg60, by rw [Hp.put_other _ _ (by omega)]; exact hg61, Hp.put_same _ _ _, by simp; omega, so.mono hse, sp.mono hse, sv.mono hse, e1, e2, e3, rfl⟩
        · intro hc4
          (try simp only [decide_eq_true_eq, decide_eq_false_iff_not, Bool.not_eq_true', Bool.not_eq_false'] at hc4)
          refine ac_exit ?_
          refine ac_seq ?_
          refine ac_seq ?_
          have hfl : f.few.links = (f.links.take i).map (fun l => l.take 4) := take_map_few _ hi hi8 (by first | exact .inl (by omega) | exact .inr (by omega))
          have sl := hown.sl
          rw [← hfl] at sl
          have so := so.mono hown.le.sees
          have sp := sp.mono hown.le.sees
          have sv := sv.mono hown.le.sees
          generalize hB3 : B = BL at sl hh2
          generalize hc3 : c5 = cL at sl hh2
          generalize hn3 : i = nL at sl hh2
          refine ac_region (by kernel_rfl) ?_
          first | refine aops_val (av_assign_int rfl) ?_ | refine aops_val (av_assign rfl) ?_
          refine ac_block ?_
          refine ac_loop (fun n t H' => ∃ (i : Nat) (G : Hp) (B : Option Addr) (c5 : Nat), i ≤ f.loops.length ∧ i ≤ 8 ∧ n = f.loops.length - i ∧ H.le G ∧ OwnP (kSl (kInt .i64)) G H' (.slice B i c5) ((f.loops.take i).map (fun l => l.take 4)) ∧ G.get H.size = .own 0 [.slice A0 f.vars.length c0, .slice A1 f.order.length c1, .slice A2 f.parent.length c2, .slice A3 f.links.length c3, .slice A4 f.loops.length c4] ∧ G.get (H.size + 1) = .own 0 [.slice none 0 0, .slice none 0 0, .slice none 0 0, .slice none 0 0, .slice none 0 0] ∧ G.get b3 = .own 0 [.slice BV nV cV, .slice O (f.order.take 8).length co, .slice Q (f.parent.take 8).length cq, .slice BL nL cL, .slice B i c5] ∧ b3 < G.size ∧ Sl (kInt .i64) G (.slice O (f.order.take 8).length co) (f.order.take 8) ∧ Sl (kInt .i64) G (.slice Q (f.parent.take 8).length cq) (f.parent.take 8) ∧ Sl kStr G (.slice BV nV cV) f.few.vars ∧ Sl (kSl (kInt .i64)) G (.slice BL nL cL) f.few.links ∧ t 1 = .pointer (some ⟨H.size, 0, none⟩) ∧ t 2 = .pointer (some ⟨H.size + 1, 0, none⟩) ∧ t 3 = .pointer (some ⟨b3, 0, none⟩) ∧ t 6 = .int .i64 i) (f.loops.length) (⟨0, H1, _, _, by omega, by omega, rfl, hleH1, OwnP.nil _ _, hh0, hh1, hh2, by omega, so, sp, sv, sl, e1, e2, e3, rfl⟩) ?_
          rintro n t H1 ⟨i, G, B, c5, hi, hi8, rfl, hle, hown, kb0, kb1, kb2, hgs, so, sp, sv, sl, e1, e2, e3, e4⟩
          have hz := hown.size
          have hleH1 := Hp.le_trans hle hown.le
          have hh0 := le_got hown.le (by omega) (by intro e; cases e) kb0
          have hh1 := le_got hown.le (by omega) (by intro e; cases e) kb1
          have hh2 := le_got hown.le hgs (by intro e; cases e) kb2
          have hlen : ((f.loops.take i).map (fun l => l.take 4)).length = i := by rw [List.length_map, List.length_take]; omega
          refine ac_seq ?_
          refine ac_seq ?_
          refine ac_region (by kernel_rfl) ?_
          first | refine aops_val (av_move_int (by first | assumption | rfl)) ?_ | refine aops_val (av_move (by first | assumption | rfl)) ?_
          refine aops_val (av_fieldOff (off := 4) (by first | assumption | rfl) Try.underlying62 (by first | assumption | rfl) inf60.size (by decide) (by first | assumption | rfl)) ?_
          refine aops_val (av_load1 rfl Try.underlying60 rfl t_cell) ?_
          refine aops_val (av_len rfl Try.underlying60) ?_
          refine aops_val (av_lt rfl rfl) ?_
          first | refine aops_val (av_move_bool rfl) ?_ | refine aops_val (av_move rfl) ?_
          refine aops_guard rfl rfl rfl ?_ ?_
          · intro hg5
            have hp5 := hg5; try simp only [decide_eq_true_eq, decide_eq_false_iff_not, Bool.not_eq_true', Bool.not_eq_false'] at hp5
            first | refine aops_wval (want_yes rfl rfl rfl hg5) (av_move_int (by first | assumption | rfl)) ?_ | refine aops_wval (want_yes rfl rfl rfl hg5) (av_move (by first | assumption | rfl)) ?_
            refine aops_wval (want_yes rfl rfl rfl hg5) (av_lt rfl rfl) ?_
            refine aops_val (av_pick_bool (congrArg Value.bool hg5) rfl) ?_
            refine ac_split rfl rfl ?_ ?_
            · intro hc6
              (try simp only [decide_eq_true_eq, decide_eq_false_iff_not, Bool.not_eq_true', Bool.not_eq_false'] at hc6)
              refine ac_skip ?_
              refine ac_seq ?_
              refine ac_block ?_
              have hix : i < f.loops.length := by omega
              obtain ⟨b, o, rfl, _, hb4, hcut, hx4⟩ := hs4.place (by omega)
              obtain ⟨cs, hr0, hcell0⟩ := hx4 i _ (List.getElem?_eq_getElem hix)
              obtain ⟨u, rfl, hu⟩ := hr0
              obtain ⟨A6, c6, rfl⟩ := hu.shape
              have hcell1 := (hleH1.cells hb4 hcell0).one
              have hdd := Blk.cut_ne hcut
              have hS4 : ∀ x ∈ [b], x < H.size ∧ H.get x ≠ .dead := fun x hx => by simp at hx; subst hx; exact ⟨hb4, hdd⟩
              have hbH : b < H1.size := by omega
              refine ac_draw (by kernel_rfl) (reg_of (B := [0, 1, 0, 4, 0, 28, 60, 124, 252, 511, 1023, 2047]) (π := [0, 1, 2, 3, 4, 5, 6, 7, 8, 9, 10, 11]) (by kernel_rfl)) ?_
              refine adr_val rfl rfl (av_fieldOff (off := 4) (by first | assumption | rfl) Try.underlying62 (by first | assumption | rfl) inf60.size (by decide) (by first | assumption | rfl)) t_lt ?_
              refine adr_val rfl rfl (av_load1 rfl Try.underlying60 rfl t_cell) t_lt ?_
              refine adr_val rfl rfl (av_fieldOff (off := 4) (by first | assumption | rfl) Try.underlying62 (by first | assumption | rfl) inf60.size (by decide) (by first | assumption | rfl)) t_lt ?_
              refine adr_val rfl rfl (av_load1 rfl Try.underlying60 rfl t_cell) t_lt ?_
              first | refine adr_val rfl rfl (av_move_int (by first | assumption | rfl)) t_lt ?_ | refine adr_val rfl rfl (av_move (by first | assumption | rfl)) t_lt ?_
              refine adr_val rfl rfl (av_indexAddr rfl rfl Try.underlying60 inf29.size t_idx t_idx) t_lt ?_
              refine adr_val rfl rfl (av_load1 rfl Try.underlying29 rfl t_cell) t_lt ?_
              refine adr_op rfl rfl (aop_call (hown.calls (Few_ints f.loops[i] _ 4 _ (hu.mono hle.sees) (hnloops _ (List.getElem_mem hix)) (by omega) (by omega)) (fun r G' h => h.1)) rfl Try.func136 rfl rfl rfl ?_)
              rintro v5 H5 ⟨G5, ⟨hle5, hs5⟩, hown5, hleH5⟩; rw [show (4 : Int).toNat = 4 from rfl] at hs5; have hz5 := hleH5.1; have hsame : ∀ x ∈ [b], H5.get x = H1.get x := (fun x hx => hleH5.2 x (by simp at hx; omega) (by rw [hleH1.2 x (hS4 x hx).1 (hS4 x hx).2]; exact (hS4 x hx).2)); obtain ⟨A5, c50, rfl⟩ := hs5.shape
              refine ⟨t_pend, ?_⟩
              first | refine adr_make rfl rfl (am_buildSlice (r := [.slice _ _ _]) Try.underlying60 inf29.size inf29.zero rfl (by decide) (by decide) (by decide) rfl) ?_ | refine adr_make rfl rfl (am_buildSlice (r := [_]) Try.underlying60 inf29.size inf29.zero rfl (by decide) (by decide) (by decide) rfl) ?_
              have hX := trivial
              have hg52 := le_got hle5 hgs (by intro e; cases e) kb2
              have hg50 := le_got hle5 (by omega) (by intro e; cases e) kb0
              have hg51 := le_got hle5 (by omega) (by intro e; cases e) kb1
              have hgs5 : b3 < G5.size := Nat.lt_of_lt_of_le hgs hle5.1
              refine adr_op rfl rfl (OwnP.append (ys := [f.loops[i].take 4]) (hown5.push _) Try.underlying60 inf29 rfl rfl rfl (sl_one (k := (kSl (kInt .i64))) ⟨_, rfl, hs5⟩ rfl hown5.size rfl) (by rw [hlen]; simp only [List.length_singleton]; omega) (by rw [hlen]; simp only [List.length_singleton]; omega) ?_)
              rintro v6 G6 H6 hle6 hown6
              have hsame := OwnP.sameS (hown5.push _) hle6 hown6 (H0 := H) (Hp.le_push' (Hp.le_trans hle hle5) _) hS4
              have hsameO := OwnP.sameO (hown5.push _) hle6 hown6
              have hs6 := hle6.1
              simp only [Hp.push_size] at hs6
              have hg62 := le_got hle6 (by simp; omega) (by intro e; cases e) ((Hp.push_old _ _ hgs5).trans hg52)
              have hg60 := le_got hle6 (by simp; omega) (by intro e; cases e) ((Hp.push_old _ _ (by omega)).trans hg50)
              have hg61 := le_got hle6 (by simp; omega) (by intro e; cases e) ((Hp.push_old _ _ (by omega)).trans hg51)
              have hg62H := le_got hown6.le (by omega) (by intro e; cases e) hg62
              obtain ⟨B', c', e6⟩ := hown6.shape
              rw [List.length_append, hlen, List.length_singleton] at e6
              subst e6
              refine ⟨t_pend, ?_⟩
              refine adr_val rfl rfl (av_fieldOff (off := 4) (by first | assumption | rfl) Try.underlying62 (by first | assumption | rfl) inf60.size (by decide) (by first | assumption | rfl)) t_lt ?_
              first | refine adr_op rfl rfl (aop_put1 rfl rfl rfl inf60.size t_get t_room rfl ?_)
              refine ⟨t_pend, ?_⟩
              refine ac_region (by kernel_rfl) ?_
              first | refine aops_val (av_move_int (by first | assumption | rfl)) ?_ | refine aops_val (av_move (by first | assumption | rfl)) ?_
              first | refine aops_val (av_add64 rfl rfl t_fits) ?_ | refine aops_val (av_add rfl rfl) ?_
              first | refine aops_val (av_assign_int rfl) ?_ | refine aops_val (av_assign rfl) ?_
              rw [show ((f.loops.take i).map (fun l => l.take 4)) ++ [f.loops[i].take 4] = ((f.loops.take (i + 1)).map (fun l => l.take 4)) by rw [← take_next hix, List.map_append]; rfl] at hown6
              have hleHG6 := Hp.le_trans (Hp.le_push' (Hp.le_trans hle hle5) _) hle6
              have hse := ((hle5.sees.push _).trans hle6.sees).trans (Hp.sees_box (cs' := [.slice BV nV cV, .slice O (f.order.take 8).length co, .slice Q (f.parent.take 8).length cq, .slice BL nL cL, .slice B' (i + 1) c']) _ hg62)
              exact ⟨f.loops.length - (i + 1), by omega, i + 1, G6.put b3 (.own 0 [.slice BV nV cV, .slice O (f.order.take 8).length co, .slice Q (f.parent.take 8).length cq, .slice BL nL cL, .slice B' (i + 1) c']), B', c', by omega, by omega, rfl, Hp.le_put_new hleHG6 (by omega) _, hown6.box_put hg62 _, by rw [Hp.put_other _ _ (by omega)]; exact hg60, by rw [Hp.put_other _ _ (by omega)]; exact hg61, Hp.put_same _ _ _, by simp; omega, so.mono hse, sp.mono hse, sv.mono hse, sl.mono hse, e1, e2, e3, rfl⟩
            · intro hc6
              (try simp only [decide_eq_true_eq, decide_eq_false_iff_not, Bool.not_eq_true', Bool.not_eq_false'] at hc6)
              refine ac_exit ?_
              refine ac_seq ?_
              refine ac_region (by kernel_rfl) ?_
              first | refine aops_val (av_loadN (cs := [.slice _ _ _, .slice _ _ _, .slice _ _ _, .slice _ _ _, .slice _ _ _]) (by first | assumption | rfl) Try.underlying62 (by first | assumption | rfl) inf62.size t_cells) ?_ | refine aops_val (av_loadN (cs := [_, _, _, _, _]) (by first | assumption | rfl) Try.underlying62 (by first | assumption | rfl) inf62.size t_cells) ?_
              first | refine aops_op (aop_putN (vs := [.slice _ _ _, .slice _ _ _, .slice _ _ _, .slice _ _ _, .slice _ _ _]) (by first | assumption | rfl) (by first | assumption | rfl) inf62.size t_get t_room (by first | assumption | rfl) (by first | assumption | rfl) ?_) | refine aops_op (aop_putN (vs := [_, _, _, _, _]) (by first | assumption | rfl) (by first | assumption | rfl) inf62.size t_get t_room (by first | assumption | rfl) (by first | assumption | rfl) ?_)
              refine ac_ret ?_
              have hfo : f.few.loops = (f.loops.take i).map (fun l => l.take 4) := take_map_few _ hi hi8 (by first | exact .inl (by omega) | exact .inr (by omega))
              have so5 := hown.sl
              rw [← hfo] at so5
              have hse := hown.le.sees
              have hbx : H1.sees (H1.put (H.size + 1) (.own 0 [.slice BV nV cV, .slice O (f.order.take 8).length co, .slice Q (f.parent.take 8).length cq, .slice BL nL cL, .slice B i c5])) := Hp.sees_box _ hh1
              exact ⟨.agg #[.slice BV nV cV, .slice O (f.order.take 8).length co, .slice Q (f.parent.take 8).length cq, .slice BL nL cL, .slice B i c5], aresult1 (ares_cell (by first | assumption | rfl) (aload_agg (cs := [.slice BV nV cV, .slice O (f.order.take 8).length co, .slice Q (f.parent.take 8).length cq, .slice BL nL cL, .slice B i c5]) Try.underlying62 rfl inf62.size t_cells)), Hp.le_put_new hleH1 (by omega) _, [.slice BV nV cV, .slice O (f.order.take 8).length co, .slice Q (f.parent.take 8).length cq, .slice BL nL cL, .slice B i c5], rfl, _, _, _, _, _, rfl, (sv.mono hse).mono hbx, (so.mono hse).mono hbx, (sp.mono hse).mono hbx, (sl.mono hse).mono hbx, so5.mono hbx⟩
          · intro hg5
            have hp5 := hg5; try simp only [decide_eq_true_eq, decide_eq_false_iff_not, Bool.not_eq_true', Bool.not_eq_false'] at hp5
            refine aops_skip (want_no rfl rfl rfl hg5 rfl) ?_
            refine aops_skip (want_no rfl rfl rfl hg5 rfl) ?_
            refine aops_val (av_pick_bool (congrArg Value.bool hg5) (by first | assumption | rfl)) ?_
            refine ac_cond_false rfl rfl ?_
            refine ac_exit ?_
            refine ac_seq ?_
            refine ac_region (by kernel_rfl) ?_
            first | refine aops_val (av_loadN (cs := [.slice _ _ _, .slice _ _ _, .slice _ _ _, .slice _ _ _, .slice _ _ _]) (by first | assumption | rfl) Try.underlying62 (by first | assumption | rfl) inf62.size t_cells) ?_ | refine aops_val (av_loadN (cs := [_, _, _, _, _]) (by first | assumption | rfl) Try.underlying62 (by first | assumption | rfl) inf62.size t_cells) ?_
            first | refine aops_op (aop_putN (vs := [.slice _ _ _, .slice _ _ _, .slice _ _ _, .slice _ _ _, .slice _ _ _]) (by first | assumption | rfl) (by first | assumption | rfl) inf62.size t_get t_room (by first | assumption | rfl) (by first | assumption | rfl) ?_) | refine aops_op (aop_putN (vs := [_, _, _, _, _]) (by first | assumption | rfl) (by first | assumption | rfl) inf62.size t_get t_room (by first | assumption | rfl) (by first | assumption | rfl) ?_)
            refine ac_ret ?_
            have hfo : f.few.loops = (f.loops.take i).map (fun l => l.take 4) := take_map_few _ hi hi8 (by first | exact .inl (by omega) | exact .inr (by omega))
            have so5 := hown.sl
            rw [← hfo] at so5
            have hse := hown.le.sees
            have hbx : H1.sees (H1.put (H.size + 1) (.own 0 [.slice BV nV cV, .slice O (f.order.take 8).length co, .slice Q (f.parent.take 8).length cq, .slice BL nL cL, .slice B i c5])) := Hp.sees_box _ hh1
            exact ⟨.agg #[.slice BV nV cV, .slice O (f.order.take 8).length co, .slice Q (f.parent.take 8).length cq, .slice BL nL cL, .slice B i c5], aresult1 (ares_cell (by first | assumption | rfl) (aload_agg (cs := [.slice BV nV cV, .slice O (f.order.take 8).length co, .slice Q (f.parent.take 8).length cq, .slice BL nL cL, .slice B i c5]) Try.underlying62 rfl inf62.size t_cells)), Hp.le_put_new hleH1 (by omega) _, [.slice BV nV cV, .slice O (f.order.take 8).length co, .slice Q (f.parent.take 8).length cq, .slice BL nL cL, .slice B i c5], rfl, _, _, _, _, _, rfl, (sv.mono hse).mono hbx, (so.mono hse).mono hbx, (sp.mono hse).mono hbx, (sl.mono hse).mono hbx, so5.mono hbx⟩
      · intro hg3
        have hp3 := hg3; try simp only [decide_eq_true_eq, decide_eq_false_iff_not, Bool.not_eq_true', Bool.not_eq_false'] at hp3
        refine aops_skip (want_no rfl rfl rfl hg3 rfl) ?_
        refine aops_skip (want_no rfl rfl rfl hg3 rfl) ?_
        refine aops_val (av_pick_bool (congrArg Value.bool hg3) (by first | assumption | rfl)) ?_
        refine ac_cond_false rfl rfl ?_
        refine ac_exit ?_
        refine ac_seq ?_
        refine ac_seq ?_
        have hfl : f.few.links = (f.links.take i).map (fun l => l.take 4) := take_map_few _ hi hi8 (by first | exact .inl (by omega) | exact .inr (by omega))
        have sl := hown.sl
        rw [← hfl] at sl
        have so := so.mono hown.le.sees
        have sp := sp.mono hown.le.sees
        have sv := sv.mono hown.le.sees
        generalize hB3 : B = BL at sl hh2
        generalize hc3 : c5 = cL at sl hh2
        generalize hn3 : i = nL at sl hh2
        refine ac_region (by kernel_rfl) ?_
        first | refine aops_val (av_assign_int rfl) ?_ | refine aops_val (av_assign rfl) ?_
        refine ac_block ?_
        refine ac_loop (fun n t H' => ∃ (i : Nat) (G : Hp) (B : Option Addr) (c5 : Nat), i ≤ f.loops.length ∧ i ≤ 8 ∧ n = f.loops.length - i ∧ H.le G ∧ OwnP (kSl (kInt .i64)) G H' (.slice B i c5) ((f.loops.take i).map (fun l => l.take 4)) ∧ G.get H.size = .own 0 [.slice A0 f.vars.length c0, .slice A1 f.order.length c1, .slice A2 f.parent.length c2, .slice A3 f.links.length c3, .slice A4 f.loops.length c4] ∧ G.get (H.size + 1) = .own 0 [.slice none 0 0, .slice none 0 0, .slice none 0 0, .slice none 0 0, .slice none 0 0] ∧ G.get b3 = .own 0 [.slice BV nV cV, .slice O (f.order.take 8).length co, .slice Q (f.parent.take 8).length cq, .slice BL nL cL, .slice B i c5] ∧ b3 < G.size ∧ Sl (kInt .i64) G (.slice O (f.order.take 8).length co) (f.order.take 8) ∧ Sl (kInt .i64) G (.slice Q (f.parent.take 8).length cq) (f.parent.take 8) ∧ Sl kStr G (.slice BV nV cV) f.few.vars ∧ Sl (kSl (kInt .i64)) G (.slice BL nL cL) f.few.links ∧ t 1 = .pointer (some ⟨H.size, 0, none⟩) ∧ t 2 = .pointer (some ⟨H.size + 1, 0, none⟩) ∧ t 3 = .pointer (some ⟨b3, 0, none⟩) ∧ t 6 = .int .i64 i) (f.loops.length) (⟨0, H1, _, _, by omega, by omega, rfl, hleH1, OwnP.nil _ _, hh0, hh1, hh2, by omega, so, sp, sv, sl, e1, e2, e3, rfl⟩) ?_
        rintro n t H1 ⟨i, G, B, c5, hi, hi8, rfl, hle, hown, kb0, kb1, kb2, hgs, so, sp, sv, sl, e1, e2, e3, e4⟩
        have hz := hown.size
        have hleH1 := Hp.le_trans hle hown.le
        have hh0 := le_got hown.le (by omega) (by intro e; cases e) kb0
        have hh1 := le_got hown.le (by omega) (by intro e; cases e) kb1
        have hh2 := le_got hown.le hgs (by intro e; cases e) kb2
        have hlen : ((f.loops.take i).map (fun l => l.take 4)).length = i := by rw [List.length_map, List.length_take]; omega
        refine ac_seq ?_
        refine ac_seq ?_
        refine ac_region (by kernel_rfl) ?_
        first | refine aops_val (av_move_int (by first | assumption | rfl)) ?_ | refine aops_val (av_move (by first | assumption | rfl)) ?_
        refine aops_val (av_fieldOff (off := 4) (by first | assumption | rfl) Try.underlying62 (by first | assumption | rfl) inf60.size (by decide) (by first | assumption | rfl)) ?_
        refine aops_val (av_load1 rfl Try.underlying60 rfl t_cell) ?_
        refine aops_val (av_len rfl Try.underlying60) ?_
        refine aops_val (av_lt rfl rfl) ?_
        first | refine aops_val (av_move_bool rfl) ?_ | refine aops_val (av_move rfl) ?_
        refine aops_guard rfl rfl rfl ?_ ?_
        · intro hg9
          have hp9 := hg9; try simp only [decide_eq_true_eq, decide_eq_false_iff_not, Bool.not_eq_true', Bool.not_eq_false'] at hp9
          first | refine aops_wval (want_yes rfl rfl rfl hg9) (av_move_int (by first | assumption | rfl)) ?_ | refine aops_wval (want_yes rfl rfl rfl hg9) (av_move (by first | assumption | rfl)) ?_
          refine aops_wval (want_yes rfl rfl rfl hg9) (av_lt rfl rfl) ?_
          refine aops_val (av_pick_bool (congrArg Value.bool hg9) rfl) ?_
          refine ac_split rfl rfl ?_ ?_
          · intro hc10
            (try simp only [decide_eq_true_eq, decide_eq_false_iff_not, Bool.not_eq_true', Bool.not_eq_false'] at hc10)
            refine ac_skip ?_
            refine ac_seq ?_
            refine ac_block ?_
            have hix : i < f.loops.length := by omega
            obtain ⟨b, o, rfl, _, hb4, hcut, hx4⟩ := hs4.place (by omega)
            obtain ⟨cs, hr0, hcell0⟩ := hx4 i _ (List.getElem?_eq_getElem hix)
            obtain ⟨u, rfl, hu⟩ := hr0
            obtain ⟨A6, c6, rfl⟩ := hu.shape
            have hcell1 := (hleH1.cells hb4 hcell0).one
            have hdd := Blk.cut_ne hcut
            have hS4 : ∀ x ∈ [b], x < H.size ∧ H.get x ≠ .dead := fun x hx => by simp at hx; subst hx; exact ⟨hb4, hdd⟩
            have hbH : b < H1.size := by omega
            refine ac_draw (by kernel_rfl) (reg_of (B := [0, 1, 0, 4, 0, 28, 60, 124, 252, 511, 1023, 2047]) (π := [0, 1, 2, 3, 4, 5, 6, 7, 8, 9, 10, 11]) (by kernel_rfl)) ?_
            refine adr_val rfl rfl (av_fieldOff (off := 4) (by first | assumption | rfl) Try.underlying62 (by first | assumption | rfl) inf60.size (by decide) (by first | assumption | rfl)) t_lt ?_
            refine adr_val rfl rfl (av_load1 rfl Try.underlying60 rfl t_cell) t_lt ?_
            refine adr_val rfl rfl (av_fieldOff (off := 4) (by first | assumption | rfl) Try.underlying62 (by first | assumption | rfl) inf60.size (by decide) (by first | assumption | rfl)) t_lt ?_
            refine adr_val rfl rfl (av_load1 rfl Try.underlying60 rfl t_cell) t_lt ?_
            first | refine adr_val rfl rfl (av_move_int (by first | assumption | rfl)) t_lt ?_ | refine adr_val rfl rfl (av_move (by first | assumption | rfl)) t_lt ?_
            refine adr_val rfl rfl (av_indexAddr rfl rfl Try.underlying60 inf29.size t_idx t_idx) t_lt ?_
            refine adr_val rfl rfl (av_load1 rfl Try.underlying29 rfl t_cell) t_lt ?_
            refine adr_op rfl rfl (aop_call (hown.calls (Few_ints f.loops[i] _ 4 _ (hu.mono hle.sees) (hnloops _ (List.getElem_mem hix)) (by omega) (by omega)) (fun r G' h => h.1)) rfl Try.func136 rfl rfl rfl ?_)
            rintro v5 H5 ⟨G5, ⟨hle5, hs5⟩, hown5, hleH5⟩; rw [show (4 : Int).toNat = 4 from rfl] at hs5; have hz5 := hleH5.1; have hsame : ∀ x ∈ [b], H5.get x = H1.get x := (fun x hx => hleH5.2 x (by simp at hx; omega) (by rw [hleH1.2 x (hS4 x hx).1 (hS4 x hx).2]; exact (hS4 x hx).2)); obtain ⟨A5, c50, rfl⟩ := hs5.shape
            refine ⟨t_pend, ?_⟩
            first | refine adr_make rfl rfl (am_buildSlice (r := [.slice _ _ _]) Try.underlying60 inf29.size inf29.zero rfl (by decide) (by decide) (by decide) rfl) ?_ | refine adr_make rfl rfl (am_buildSlice (r := [_]) Try.underlying60 inf29.size inf29.zero rfl (by decide) (by decide) (by decide) rfl) ?_
            have hX := trivial
            have hg52 := le_got hle5 hgs (by intro e; cases e) kb2
            have hg50 := le_got hle5 (by omega) (by intro e; cases e) kb0
            have hg51 := le_got hle5 (by omega) (by intro e; cases e) kb1
            have hgs5 : b3 < G5.size := Nat.lt_of_lt_of_le hgs hle5.1
            refine adr_op rfl rfl (OwnP.append (ys := [f.loops[i].take 4]) (hown5.push _) Try.underlying60 inf29 rfl rfl rfl (sl_one (k := (kSl (kInt .i64))) ⟨_, rfl, hs5⟩ rfl hown5.size rfl) (by rw [hlen]; simp only [List.length_singleton]; omega) (by rw [hlen]; simp only [List.length_singleton]; omega) ?_)
            rintro v6 G6 H6 hle6 hown6
            have hsame := OwnP.sameS (hown5.push _) hle6 hown6 (H0 := H) (Hp.le_push' (Hp.le_trans hle hle5) _) hS4
            have hsameO := OwnP.sameO (hown5.push _) hle6 hown6
            have hs6 := hle6.1
            simp only [Hp.push_size] at hs6
            have hg62 := le_got hle6 (by simp; omega) (by intro e; cases e) ((Hp.push_old _ _ hgs5).trans hg52)
            have hg60 := le_got hle6 (by simp; omega) (by intro e; cases e) ((Hp.push_old _ _ (by omega)).trans hg50)
            have hg61 := le_got hle6 (by simp; omega) (by intro e; cases e) ((Hp.push_old _ _ (by omega)).trans hg51)
            have hg62H := le_got hown6.le (by omega) (by intro e; cases e) hg62
            obtain ⟨B', c', e6⟩ := hown6.shape
            rw [List.length_append, hlen, List.length_singleton] at e6
            subst e6
            refine ⟨t_pend, ?_⟩
            refine adr_val rfl rfl (av_fieldOff (off := 4) (by first | assumption | rfl) Try.underlying62 (by first | assumption | rfl) inf60.size (by decide) (by first | assumption | rfl)) t_lt ?_
            first | refine adr_op rfl rfl (aop_put1 rfl rfl rfl inf60.size t_get t_room rfl ?_)
            refine ⟨t_pend, ?_⟩
            refine ac_region (by kernel_rfl) ?_
            first | refine aops_val (av_move_int (by first | assumption | rfl)) ?_ | refine aops_val (av_move (by first | assumption | rfl)) ?_
            first | refine aops_val (av_add64 rfl rfl t_fits) ?_ | refine aops_val (av_add rfl rfl) ?_
            first | refine aops_val (av_assign_int rfl) ?_ | refine aops_val (av_assign rfl) ?_
            rw [show ((f.loops.take i).map (fun l => l.take 4)) ++ [f.loops[i].take 4] = ((f.loops.take (i + 1)).map (fun l => l.take 4)) by rw [← take_next hix, List.map_append]; rfl] at hown6
            have hleHG6 := Hp.le_trans (Hp.le_push' (Hp.le_trans hle hle5) _) hle6
            have hse := ((hle5.sees.push _).trans hle6.sees).trans (Hp.sees_box (cs' := [.slice BV nV cV, .slice O (f.order.take 8).length co, .slice Q (f.parent.take 8).length cq, .slice BL nL cL, .slice B' (i + 1) c']) _ hg62)
            exact ⟨f.loops.length - (i + 1), by omega, i + 1, G6.put b3 (.own 0 [.slice BV nV cV, .slice O (f.order.take 8).length co, .slice Q (f.parent.take 8).length cq, .slice BL nL cL, .slice B' (i + 1) c']), B', c', by omega, by omega, rfl, Hp.le_put_new hleHG6 (by omega) _, hown6.box_put hg62 _, by rw [Hp.put_other _ _ (by omega)]; exact hg60, by rw [Hp.put_other _ _ (by omega)]; exact hg61, Hp.put_same _ _ _, by simp; omega, so.mono hse, sp.mono hse, sv.mono hse, sl.mono hse, e1, e2, e3, rfl⟩
          · intro hc10
            (try simp only [decide_eq_true_eq, decide_eq_false_iff_not, Bool.not_eq_true', Bool.not_eq_false'] at hc10)
            refine ac_exit ?_
            refine ac_seq ?_
            refine ac_region (by kernel_rfl) ?_
            first | refine aops_val (av_loadN (cs := [.slice _ _ _, .slice _ _ _, .slice _ _ _, .slice _ _ _, .slice _ _ _]) (by first | assumption | rfl) Try.underlying62 (by first | assumption | rfl) inf62.size t_cells) ?_ | refine aops_val (av_loadN (cs := [_, _, _, _, _]) (by first | assumption | rfl) Try.underlying62 (by first | assumption | rfl) inf62.size t_cells) ?_
            first | refine aops_op (aop_putN (vs := [.slice _ _ _, .slice _ _ _, .slice _ _ _, .slice _ _ _, .slice _ _ _]) (by first | assumption | rfl) (by first | assumption | rfl) inf62.size t_get t_room (by first | assumption | rfl) (by first | assumption | rfl) ?_) | refine aops_op (aop_putN (vs := [_, _, _, _, _]) (by first | assumption | rfl) (by first | assumption | rfl) inf62.size t_get t_room (by first | assumption | rfl) (by first | assumption | rfl) ?_)
            refine ac_ret ?_
            have hfo : f.few.loops = (f.loops.take i).map (fun l => l.take 4) := take_map_few _ hi hi8 (by first | exact .inl (by omega) | exact .inr (by omega))
            have so5 := hown.sl
            rw [← hfo] at so5
            have hse := hown.le.sees
            have hbx : H1.sees (H1.put (H.size + 1) (.own 0 [.slice BV nV cV, .slice O (f.order.take 8).length co, .slice Q (f.parent.take 8).length cq, .slice BL nL cL, .slice B i c5])) := Hp.sees_box _ hh1
            exact ⟨.agg #[.slice BV nV cV, .slice O (f.order.take 8).length co, .slice Q (f.parent.take 8).length cq, .slice BL nL cL, .slice B i c5], aresult1 (ares_cell (by first | assumption | rfl) (aload_agg (cs := [.slice BV nV cV, .slice O (f.order.take 8).length co, .slice Q (f.parent.take 8).length cq, .slice BL nL cL, .slice B i c5]) Try.underlying62 rfl inf62.size t_cells)), Hp.le_put_new hleH1 (by omega) _, [.slice BV nV cV, .slice O (f.order.take 8).length co, .slice Q (f.parent.take 8).length cq, .slice BL nL cL, .slice B i c5], rfl, _, _, _, _, _, rfl, (sv.mono hse).mono hbx, (so.mono hse).mono hbx, (sp.mono hse).mono hbx, (sl.mono hse).mono hbx, so5.mono hbx⟩
        · intro hg9
          have hp9 := hg9; try simp only [decide_eq_true_eq, decide_eq_false_iff_not, Bool.not_eq_true', Bool.not_eq_false'] at hp9
          refine aops_skip (want_no rfl rfl rfl hg9 rfl) ?_
          refine aops_skip (want_no rfl rfl rfl hg9 rfl) ?_
          refine aops_val (av_pick_bool (congrArg Value.bool hg9) (by first | assumption | rfl)) ?_
          refine ac_cond_false rfl rfl ?_
          refine ac_exit ?_
          refine ac_seq ?_
          refine ac_region (by kernel_rfl) ?_
          first | refine aops_val (av_loadN (cs := [.slice _ _ _, .slice _ _ _, .slice _ _ _, .slice _ _ _, .slice _ _ _]) (by first | assumption | rfl) Try.underlying62 (by first | assumption | rfl) inf62.size t_cells) ?_ | refine aops_val (av_loadN (cs := [_, _, _, _, _]) (by first | assumption | rfl) Try.underlying62 (by first | assumption | rfl) inf62.size t_cells) ?_
          first | refine aops_op (aop_putN (vs := [.slice _ _ _, .slice _ _ _, .slice _ _ _, .slice _ _ _, .slice _ _ _]) (by first | assumption | rfl) (by first | assumption | rfl) inf62.size t_get t_room (by first | assumption | rfl) (by first | assumption | rfl) ?_) | refine aops_op (aop_putN (vs := [_, _, _, _, _]) (by first | assumption | rfl) (by first | assumption | rfl) inf62.size t_get t_room (by first | assumption | rfl) (by first | assumption | rfl) ?_)
          refine ac_ret ?_
          have hfo : f.few.loops = (f.loops.take i).map (fun l => l.take 4) := take_map_few _ hi hi8 (by first | exact .inl (by omega) | exact .inr (by omega))
          have so5 := hown.sl
          rw [← hfo] at so5
          have hse := hown.le.sees
          have hbx : H1.sees (H1.put (H.size + 1) (.own 0 [.slice BV nV cV, .slice O (f.order.take 8).length co, .slice Q (f.parent.take 8).length cq, .slice BL nL cL, .slice B i c5])) := Hp.sees_box _ hh1
          exact ⟨.agg #[.slice BV nV cV, .slice O (f.order.take 8).length co, .slice Q (f.parent.take 8).length cq, .slice BL nL cL, .slice B i c5], aresult1 (ares_cell (by first | assumption | rfl) (aload_agg (cs := [.slice BV nV cV, .slice O (f.order.take 8).length co, .slice Q (f.parent.take 8).length cq, .slice BL nL cL, .slice B i c5]) Try.underlying62 rfl inf62.size t_cells)), Hp.le_put_new hleH1 (by omega) _, [.slice BV nV cV, .slice O (f.order.take 8).length co, .slice Q (f.parent.take 8).length cq, .slice BL nL cL, .slice B i c5], rfl, _, _, _, _, _, rfl, (sv.mono hse).mono hbx, (so.mono hse).mono hbx, (sp.mono hse).mono hbx, (sl.mono hse).mono hbx, so5.mono hbx⟩
  · intro hg1
    have hp1 := hg1; try simp only [decide_eq_true_eq, decide_eq_false_iff_not, Bool.not_eq_true', Bool.not_eq_false'] at hp1
    refine aops_skip (want_no rfl rfl rfl hg1 rfl) ?_
    refine aops_skip (want_no rfl rfl rfl hg1 rfl) ?_
    refine aops_val (av_pick_bool (congrArg Value.bool hg1) (by first | assumption | rfl)) ?_
    refine ac_cond_false rfl rfl ?_
    refine ac_exit ?_
    refine ac_seq ?_
    refine ac_seq ?_
    have hfv : f.few.vars = (f.vars.take i).map (fun s => cutS s 32) := take_map_few _ hi hi8 (by first | exact .inl (by omega) | exact .inr (by omega))
    have sv := hown.sl
    rw [← hfv] at sv
    have so := so.mono hown.le.sees
    have sp := sp.mono hown.le.sees
    generalize hB2 : B = BV at sv hh2
    generalize hc2 : c5 = cV at sv hh2
    generalize hn2 : i = nV at sv hh2
    refine ac_region (by kernel_rfl) ?_
    first | refine aops_val (av_assign_int rfl) ?_ | refine aops_val (av_assign rfl) ?_
    refine ac_block ?_
    refine ac_loop (fun n t H' => ∃ (i : Nat) (G : Hp) (B : Option Addr) (c5 : Nat), i ≤ f.links.length ∧ i ≤ 8 ∧ n = f.links.length - i ∧ H.le G ∧ OwnP (kSl (kInt .i64)) G H' (.slice B i c5) ((f.links.take i).map (fun l => l.take 4)) ∧ G.get H.size = .own 0 [.slice A0 f.vars.length c0, .slice A1 f.order.length c1, .slice A2 f.parent.length c2, .slice A3 f.links.length c3, .slice A4 f.loops.length c4] ∧ G.get (H.size + 1) = .own 0 [.slice none 0 0, .slice none 0 0, .slice none 0 0, .slice none 0 0, .slice none 0 0] ∧ G.get b3 = .own 0 [.slice BV nV cV, .slice O (f.order.take 8).length co, .slice Q (f.parent.take 8).length cq, .slice B i c5, .slice none 0 0] ∧ b3 < G.size ∧ Sl (kInt .i64) G (.slice O (f.order.take 8).length co) (f.order.take 8) ∧ Sl (kInt .i64) G (.slice Q (f.parent.take 8).length cq) (f.parent.take 8) ∧ Sl kStr G (.slice BV nV cV) f.few.vars ∧ t 1 = .pointer (some ⟨H.size, 0, none⟩) ∧ t 2 = .pointer (some ⟨H.size + 1, 0, none⟩) ∧ t 3 = .pointer (some ⟨b3, 0, none⟩) ∧ t 5 = .int .i64 i) (f.links.length) (⟨0, H1, _, _, by omega, by omega, rfl, hleH1, OwnP.nil _ _, hh0, hh1, hh2, by omega, so, sp, sv, e1, e2, e3, rfl⟩) ?_
    rintro n t H1 ⟨i, G, B, c5, hi, hi8, rfl, hle, hown, kb0, kb1, kb2, hgs, so, sp, sv, e1, e2, e3, e4⟩
    have hz := hown.size
    have hleH1 := Hp.le_trans hle hown.le
    have hh0 := le_got hown.le (by omega) (by intro e; cases e) kb0
    have hh1 := le_got hown.le (by omega) (by intro e; cases e) kb1
    have hh2 := le_got hown.le hgs (by intro e; cases e) kb2
    have hlen : ((f.links.take i).map (fun l => l.take 4)).length = i := by rw [List.length_map, List.length_take]; omega
    refine ac_seq ?_
    refine ac_seq ?_
    refine ac_region (by kernel_rfl) ?_
    first | refine aops_val (av_move_int (by first | assumption | rfl)) ?_ | refine aops_val (av_move (by first | assumption | rfl)) ?_
    refine aops_val (av_fieldOff (off := 3) (by first | assumption | rfl) Try.underlying62 (by first | assumption | rfl) inf60.size (by decide) (by first | assumption | rfl)) ?_
    refine aops_val (av_load1 rfl Try.underlying60 rfl t_cell) ?_
    refine aops_val (av_len rfl Try.underlying60) ?_
    refine aops_val (av_lt rfl rfl) ?_
    first | refine aops_val (av_move_bool rfl) ?_ | refine aops_val (av_move rfl) ?_
    refine aops_guard rfl rfl rfl ?_ ?_
    · intro hg13
      have hp13 := hg13; try simp only [decide_eq_true_eq, decide_eq_false_iff_not, Bool.not_eq_true', Bool.not_eq_false'] at hp13
      first | refine aops_wval (want_yes rfl rfl rfl hg13) (av_move_int (by first | assumption | rfl)) ?_ | refine aops_wval (want_yes rfl rfl rfl hg13) (av_move (by first | assumption | rfl)) ?_
      refine aops_wval (want_yes rfl rfl rfl hg13) (av_lt rfl rfl) ?_
      refine aops_val (av_pick_bool (congrArg Value.bool hg13) rfl) ?_
      refine ac_split rfl rfl ?_ ?_
      · intro hc14
        (try simp only [decide_eq_true_eq, decide_eq_false_iff_not, Bool.not_eq_true', Bool.not_eq_false'] at hc14)
        refine ac_skip ?_
        refine ac_seq ?_
        refine ac_block ?_
        have hix : i < f.links.length := by omega
        obtain ⟨b, o, rfl, _, hb4, hcut, hx4⟩ := hs3.place (by omega)
        obtain ⟨cs, hr0, hcell0⟩ := hx4 i _ (List.getElem?_eq_getElem hix)
        obtain ⟨u, rfl, hu⟩ := hr0
        obtain ⟨A6, c6, rfl⟩ := hu.shape
        have hcell1 := (hleH1.cells hb4 hcell0).one
        have hdd := Blk.cut_ne hcut
        have hS4 : ∀ x ∈ [b], x < H.size ∧ H.get x ≠ .dead := fun x hx => by simp at hx; subst hx; exact ⟨hb4, hdd⟩
        have hbH : b < H1.size := by omega
        refine ac_draw (by kernel_rfl) (reg_of (B := [0, 1, 0, 4, 0, 28, 60, 124, 252, 511, 1023, 2047]) (π := [0, 1, 2, 3, 4, 5, 6, 7, 8, 9, 10, 11]) (by kernel_rfl)) ?_
        refine adr_val rfl rfl (av_fieldOff (off := 3) (by first | assumption | rfl) Try.underlying62 (by first | assumption | rfl) inf60.size (by decide) (by first | assumption | rfl)) t_lt ?_
        refine adr_val rfl rfl (av_load1 rfl Try.underlying60 rfl t_cell) t_lt ?_
        refine adr_val rfl rfl (av_fieldOff (off := 3) (by first | assumption | rfl) Try.underlying62 (by first | assumption | rfl) inf60.size (by decide) (by first | assumption | rfl)) t_lt ?_
        refine adr_val rfl rfl (av_load1 rfl Try.underlying60 rfl t_cell) t_lt ?_
        first | refine adr_val rfl rfl (av_move_int (by first | assumption | rfl)) t_lt ?_ | refine adr_val rfl rfl (av_move (by first | assumption | rfl)) t_lt ?_
        refine adr_val rfl rfl (av_indexAddr rfl rfl Try.underlying60 inf29.size t_idx t_idx) t_lt ?_
        refine adr_val rfl rfl (av_load1 rfl Try.underlying29 rfl t_cell) t_lt ?_
        refine adr_op rfl rfl (aop_call (hown.calls (Few_ints f.links[i] _ 4 _ (hu.mono hle.sees) (hnlinks _ (List.getElem_mem hix)) (by omega) (by omega)) (fun r G' h => h.1)) rfl Try.func136 rfl rfl rfl ?_)
        rintro v5 H5 ⟨G5, ⟨hle5, hs5⟩, hown5, hleH5⟩; rw [show (4 : Int).toNat = 4 from rfl] at hs5; have hz5 := hleH5.1; have hsame : ∀ x ∈ [b], H5.get x = H1.get x := (fun x hx => hleH5.2 x (by simp at hx; omega) (by rw [hleH1.2 x (hS4 x hx).1 (hS4 x hx).2]; exact (hS4 x hx).2)); obtain ⟨A5, c50, rfl⟩ := hs5.shape
        refine ⟨t_pend, ?_⟩
        first | refine adr_make rfl rfl (am_buildSlice (r := [.slice _ _ _]) Try.underlying60 inf29.size inf29.zero rfl (by decide) (by decide) (by decide) rfl) ?_ | refine adr_make rfl rfl (am_buildSlice (r := [_]) Try.underlying60 inf29.size inf29.zero rfl (by decide) (by decide) (by decide) rfl) ?_
        have hX := trivial
        have hg52 := le_got hle5 hgs (by intro e; cases e) kb2
        have hg50 := le_got hle5 (by omega) (by intro e; cases e) kb0
        have hg51 := le_got hle5 (by omega) (by intro e; cases e) kb1
        have hgs5 : b3 < G5.size := Nat.lt_of_lt_of_le hgs hle5.1
        refine adr_op rfl rfl (OwnP.append (ys := [f.links[i].take 4]) (hown5.push _) Try.underlying60 inf29 rfl rfl rfl (sl_one (k := (kSl (kInt .i64))) ⟨_, rfl, hs5⟩ rfl hown5.size rfl) (by rw [hlen]; simp only [List.length_singleton]; omega) (by rw [hlen]; simp only [List.length_singleton]; omega) ?_)
        rintro v6 G6 H6 hle6 hown6
        have hsame := OwnP.sameS (hown5.push _) hle6 hown6 (H0 := H) (Hp.le_push' (Hp.le_trans hle hle5) _) hS4
        have hsameO := OwnP.sameO (hown5.push _) hle6 hown6
        have hs6 := hle6.1
        simp only [Hp.push_size] at hs6
        have hg62 := le_got hle6 (by simp; omega) (by intro e; cases e) ((Hp.push_old _ _ hgs5).trans hg52)
        have hg60 := le_got hle6 (by simp; omega) (by intro e; cases e) ((Hp.push_old _ _ (by omega)).trans hg50)
        have hg61 := le_got hle6 (by simp; omega) (by intro e; cases e) ((Hp.push_old _ _ (by omega)).trans hg51)
        have hg62H := le_got hown6.le (by omega) (by intro e; cases e) hg62
        obtain ⟨B', c', e6⟩ := hown6.shape
        rw [List.length_append, hlen, List.length_singleton] at e6
        subst e6
        refine ⟨t_pend, ?_⟩
        refine adr_val rfl rfl (av_fieldOff (off := 3) (by first | assumption | rfl) Try.underlying62 (by first | assumption | rfl) inf60.size (by decide) (by first | assumption | rfl)) t_lt ?_
        first | refine adr_op rfl rfl (aop_put1 rfl rfl rfl inf60.size t_get t_room rfl ?_)
        refine ⟨t_pend, ?_⟩
        refine ac_region (by kernel_rfl) ?_
        first | refine aops_val (av_move_int (by first | assumption | rfl)) ?_ | refine aops_val (av_move (by first | assumption | rfl)) ?_
        first | refine aops_val (av_add64 rfl rfl t_fits) ?_ | refine aops_val (av_add rfl rfl) ?_
        first | refine aops_val (av_assign_int rfl) ?_ | refine aops_val (av_assign rfl) ?_
        rw [show ((f.links.take i).map (fun l => l.take 4)) ++ [f.links[i].take 4] = ((f.links.take (i + 1)).map (fun l => l.take 4)) by rw [← take_next hix, List.map_append]; rfl] at hown6
        have hleHG6 := Hp.le_trans (Hp.le_push' (Hp.le_trans hle hle5) _) hle6
        have hse := ((hle5.sees.push _).trans hle6.sees).trans (Hp.sees_box (cs' := [.slice BV nV cV, .slice O (f.order.take 8).length co, .slice Q (f.parent.take 8).length cq, .slice B' (i + 1) c', .slice none 0 0]) _ hg62)
        exact ⟨f.links.length - (i + 1), by omega, i + 1, G6.put b3 (.own 0 [.slice BV nV cV, .slice O (f.order.take 8).length co, .slice Q (f.parent.take 8).length cq, .slice B' (i + 1) c', .slice none 0 0]), B', c', by omega, by omega, rfl, Hp.le_put_new hleHG6 (by omega) _, hown6.box_put hg62 _, by rw [Hp.put_other _ _ (by omega)]; exact hg60, by rw [Hp.put_other _ _ (by omega)]; exact hg61, Hp.put_same _ _ _, by simp; omega, so.mono hse, sp.mono hse, sv.mono hse, e1, e2, e3, rfl⟩
      · intro hc14
        (try simp only [decide_eq_true_eq, decide_eq_false_iff_not, Bool.not_eq_true', Bool.not_eq_false'] at hc14)
        refine ac_exit ?_
        refine ac_seq ?_
        refine ac_seq ?_
        have hfl : f.few.links = (f.links.take i).map (fun l => l.take 4) := take_map_few _ hi hi8 (by first | exact .inl (by omega) | exact .inr (by omega))
        have sl := hown.sl
        rw [← hfl] at sl
        have so := so.mono hown.le.sees
        have sp := sp.mono hown.le.sees
        have sv := sv.mono hown.le.sees
        generalize hB3 : B = BL at sl hh2
        generalize hc3 : c5 = cL at sl hh2
        generalize hn3 : i = nL at sl hh2
        refine ac_region (by kernel_rfl) ?_
        first | refine aops_val (av_assign_int rfl) ?_ | refine aops_val (av_assign rfl) ?_
        refine ac_block ?_
        refine ac_loop (fun n t H' => ∃ (i : Nat) (G : Hp) (B : Option Addr) (c5 : Nat), i ≤ f.loops.length ∧ i ≤ 8 ∧ n = f.loops.length - i ∧ H.le G ∧ OwnP (kSl (kInt .i64)) G H' (.slice B i c5) ((f.loops.take i).map (fun l => l.take 4)) ∧ G.get H.size = .own 0 [.slice A0 f.vars.length c0, .slice A1 f.order.length c1, .slice A2 f.parent.length c2, .slice A3 f.links.length c3, .slice A4 f.loops.length c4] ∧ G.get (H.size + 1) = .own 0 [.slice none 0 0, .slice none 0 0, .slice none 0 0, .slice none 0 0, .slice none 0 0] ∧ G.get b3 = .own 0 [.slice BV nV cV, .slice O (f.order.take 8).length co, .slice Q (f.parent.take 8).length cq, .slice BL nL cL, .slice B i c5] ∧ b3 < G.size ∧ Sl (kInt .i64) G (.slice O (f.order.take 8).length co) (f.order.take 8) ∧ Sl (kInt .i64) G (.slice Q (f.parent.take 8).length cq) (f.parent.take 8) ∧ Sl kStr G (.slice BV nV cV) f.few.vars ∧ Sl (kSl (kInt .i64)) G (.slice BL nL cL) f.few.links ∧ t 1 = .pointer (some ⟨H.size, 0, none⟩) ∧ t 2 = .pointer (some ⟨H.size + 1, 0, none⟩) ∧ t 3 = .pointer (some ⟨b3, 0, none⟩) ∧ t 6 = .int .i64 i) (f.loops.length) (⟨0, H1, _, _, by omega, by omega, rfl, hleH1, OwnP.nil _ _, hh0, hh1, hh2, by omega, so, sp, sv, sl, e1, e2, e3, rfl⟩) ?_
        rintro n t H1 ⟨i, G, B, c5, hi, hi8, rfl, hle, hown, kb0, kb1, kb2, hgs, so, sp, sv, sl, e1, e2, e3, e4⟩
        have hz := hown.size
        have hleH1 := Hp.le_trans hle hown.le
        have hh0 := le_got hown.le (by omega) (by intro e; cases e) kb0
        have hh1 := le_got hown.le (by omega) (by intro e; cases e) kb1
        have hh2 := le_got hown.le hgs (by intro e; cases e) kb2
        have hlen : ((f.loops.take i).map (fun l => l.take 4)).length = i := by rw [List.length_map, List.length_take]; omega
        refine ac_seq ?_
        refine ac_seq ?_
        refine ac_region (by kernel_rfl) ?_
        first | refine aops_val (av_move_int (by first | assumption | rfl)) ?_ | refine aops_val (av_move (by first | assumption | rfl)) ?_
        refine aops_val (av_fieldOff (off := 4) (by first | assumption | rfl) Try.underlying62 (by first | assumption | rfl) inf60.size (by decide) (by first | assumption | rfl)) ?_
        refine aops_val (av_load1 rfl Try.underlying60 rfl t_cell) ?_
        refine aops_val (av_len rfl Try.underlying60) ?_
        refine aops_val (av_lt rfl rfl) ?_
        first | refine aops_val (av_move_bool rfl) ?_ | refine aops_val (av_move rfl) ?_
        refine aops_guard rfl rfl rfl ?_ ?_
        · intro hg15
          have hp15 := hg15; try simp only [decide_eq_true_eq, decide_eq_false_iff_not, Bool.not_eq_true', Bool.not_eq_false'] at hp15
          first | refine aops_wval (want_yes rfl rfl rfl hg15) (av_move_int (by first | assumption | rfl)) ?_ | refine aops_wval (want_yes rfl rfl rfl hg15) (av_move (by first | assumption | rfl)) ?_
          refine aops_wval (want_yes rfl rfl rfl hg15) (av_lt rfl rfl) ?_
          refine aops_val (av_pick_bool (congrArg Value.bool hg15) rfl) ?_
          refine ac_split rfl rfl ?_ ?_
          · intro hc16
            (try simp only [decide_eq_true_eq, decide_eq_false_iff_not, Bool.not_eq_true', Bool.not_eq_false'] at hc16)
            refine ac_skip ?_
            refine ac_seq ?_
            refine ac_block ?_
            have hix : i < f.loops.length := by omega
            obtain ⟨b, o, rfl, _, hb4, hcut, hx4⟩ := hs4.place (by omega)
            obtain ⟨cs, hr0, hcell0⟩ := hx4 i _ (List.getElem?_eq_getElem hix)
            obtain ⟨u, rfl, hu⟩ := hr0
            obtain ⟨A6, c6, rfl⟩ := hu.shape
            have hcell1 := (hleH1.cells hb4 hcell0).one
            have hdd := Blk.cut_ne hcut
            have hS4 : ∀ x ∈ [b], x < H.size ∧ H.get x ≠ .dead := fun x hx => by simp at hx; subst hx; exact ⟨hb4, hdd⟩
            have hbH : b < H1.size := by omega
            refine ac_draw (by kernel_rfl) (reg_of (B := [0, 1, 0, 4, 0, 28, 60, 124, 252, 511, 1023, 2047]) (π := [0, 1, 2, 3, 4, 5, 6, 7, 8, 9, 10, 11]) (by kernel_rfl)) ?_
            refine adr_val rfl rfl (av_fieldOff (off := 4) (by first | assumption | rfl) Try.underlying62 (by first | assumption | rfl) inf60.size (by decide) (by first | assumption | rfl)) t_lt ?_
            refine adr_val rfl rfl (av_load1 rfl Try.underlying60 rfl t_cell) t_lt ?_
            refine adr_val rfl rfl (av_fieldOff (off := 4) (by first | assumption | rfl) Try.underlying62 (by first | assumption | rfl) inf60.size (by decide) (by first | assumption | rfl)) t_lt ?_
            refine adr_val rfl rfl (av_load1 rfl Try.underlying60 rfl t_cell) t_lt ?_
            first | refine adr_val rfl rfl (av_move_int (by first | assumption | rfl)) t_lt ?_ | refine adr_val rfl rfl (av_move (by first | assumption | rfl)) t_lt ?_
            refine adr_val rfl rfl (av_indexAddr rfl rfl Try.underlying60 inf29.size t_idx t_idx) t_lt ?_
            refine adr_val rfl rfl (av_load1 rfl Try.underlying29 rfl t_cell) t_lt ?_
            refine adr_op rfl rfl (aop_call (hown.calls (Few_ints f.loops[i] _ 4 _ (hu.mono hle.sees) (hnloops _ (List.getElem_mem hix)) (by omega) (by omega)) (fun r G' h => h.1)) rfl Try.func136 rfl rfl rfl ?_)
            rintro v5 H5 ⟨G5, ⟨hle5, hs5⟩, hown5, hleH5⟩; rw [show (4 : Int).toNat = 4 from rfl] at hs5; have hz5 := hleH5.1; have hsame : ∀ x ∈ [b], H5.get x = H1.get x := (fun x hx => hleH5.2 x (by simp at hx; omega) (by rw [hleH1.2 x (hS4 x hx).1 (hS4 x hx).2]; exact (hS4 x hx).2)); obtain ⟨A5, c50, rfl⟩ := hs5.shape
            refine ⟨t_pend, ?_⟩
            first | refine adr_make rfl rfl (am_buildSlice (r := [.slice _ _ _]) Try.underlying60 inf29.size inf29.zero rfl (by decide) (by decide) (by decide) rfl) ?_ | refine adr_make rfl rfl (am_buildSlice (r := [_]) Try.underlying60 inf29.size inf29.zero rfl (by decide) (by decide) (by decide) rfl) ?_
            have hX := trivial
            have hg52 := le_got hle5 hgs (by intro e; cases e) kb2
            have hg50 := le_got hle5 (by omega) (by intro e; cases e) kb0
            have hg51 := le_got hle5 (by omega) (by intro e; cases e) kb1
            have hgs5 : b3 < G5.size := Nat.lt_of_lt_of_le hgs hle5.1
            refine adr_op rfl rfl (OwnP.append (ys := [f.loops[i].take 4]) (hown5.push _) Try.underlying60 inf29 rfl rfl rfl (sl_one (k := (kSl (kInt .i64))) ⟨_, rfl, hs5⟩ rfl hown5.size rfl) (by rw [hlen]; simp only [List.length_singleton]; omega) (by rw [hlen]; simp only [List.length_singleton]; omega) ?_)
            rintro v6 G6 H6 hle6 hown6
            have hsame := OwnP.sameS (hown5.push _) hle6 hown6 (H0 := H) (Hp.le_push' (Hp.le_trans hle hle5) _) hS4
            have hsameO := OwnP.sameO (hown5.push _) hle6 hown6
            have hs6 := hle6.1
            simp only [Hp.push_size] at hs6
            have hg62 := le_got hle6 (by simp; omega) (by intro e; cases e) ((Hp.push_old _ _ hgs5).trans hg52)
            have hg60 := le_got hle6 (by simp; omega) (by intro e; cases e) ((Hp.push_old _ _ (by omega)).trans hg50)
            have hg61 := le_got hle6 (by simp; omega) (by intro e; cases e) ((Hp.push_old _ _ (by omega)).trans hg51)
            have hg62H := le_got hown6.le (by omega) (by intro e; cases e) hg62
            obtain ⟨B', c', e6⟩ := hown6.shape
            rw [List.length_append, hlen, List.length_singleton] at e6
            subst e6
            refine ⟨t_pend, ?_⟩
            refine adr_val rfl rfl (av_fieldOff (off := 4) (by first | assumption | rfl) Try.underlying62 (by first | assumption | rfl) inf60.size (by decide) (by first | assumption | rfl)) t_lt ?_
            first | refine adr_op rfl rfl (aop_put1 rfl rfl rfl inf60.size t_get t_room rfl ?_)
            refine ⟨t_pend, ?_⟩
            refine ac_region (by kernel_rfl) ?_
            first | refine aops_val (av_move_int (by first | assumption | rfl)) ?_ | refine aops_val (av_move (by first | assumption | rfl)) ?_
            first | refine aops_val (av_add64 rfl rfl t_fits) ?_ | refine aops_val (av_add rfl rfl) ?_
            first | refine aops_val (av_assign_int rfl) ?_ | refine aops_val (av_assign rfl) ?_
            rw [show ((f.loops.take i).map (fun l => l.take 4)) ++ [f.loops[i].take 4] = ((f.loops.take (i + 1)).map (fun l => l.take 4)) by rw [← take_next hix, List.map_append]; rfl] at hown6
            have hleHG6 := Hp.le_trans (Hp.le_push' (Hp.le_trans hle hle5) _) hle6
            have hse := ((hle5.sees.push _).trans hle6.sees).trans (Hp.sees_box (cs' := [.slice BV nV cV, .slice O (f.order.take 8).length co, .slice Q (f.parent.take 8).length cq, .slice BL nL cL, .slice B' (i + 1) c']) _ hg62)
            exact ⟨f.loops.length - (i + 1), by omega, i + 1, G6.put b3 (.own 0 [.slice BV nV cV, .slice O (f.order.take 8).length co, .slice Q (f.parent.take 8).length cq, .slice BL nL cL, .slice B' (i + 1) c']), B', c', by omega, by omega, rfl, Hp.le_put_new hleHG6 (by omega) _, hown6.box_put hg62 _, by rw [Hp.put_other _ _ (by omega)]; exact hg60, by rw [Hp.put_other _ _ (by omega)]; exact hg61, Hp.put_same _ _ _, by simp; omega, so.mono hse, sp.mono hse, sv.mono hse, sl.mono hse, e1, e2, e3, rfl⟩
          · intro hc16
            (try simp only [decide_eq_true_eq, decide_eq_false_iff_not, Bool.not_eq_true', Bool.not_eq_false'] at hc16)
            refine ac_exit ?_
            refine ac_seq ?_
            refine ac_region (by kernel_rfl) ?_
            first | refine aops_val (av_loadN (cs := [.slice _ _ _, .slice _ _ _, .slice _ _ _, .slice _ _ _, .slice _ _ _]) (by first | assumption | rfl) Try.underlying62 (by first | assumption | rfl) inf62.size t_cells) ?_ | refine aops_val (av_loadN (cs := [_, _, _, _, _]) (by first | assumption | rfl) Try.underlying62 (by first | assumption | rfl) inf62.size t_cells) ?_
            first | refine aops_op (aop_putN (vs := [.slice _ _ _, .slice _ _ _, .slice _ _ _, .slice _ _ _, .slice _ _ _]) (by first | assumption | rfl) (by first | assumption | rfl) inf62.size t_get t_room (by first | assumption | rfl) (by first | assumption | rfl) ?_) | refine aops_op (aop_putN (vs := [_, _, _, _, _]) (by first | assumption | rfl) (by first | assumption | rfl) inf62.size t_get t_room (by first | assumption | rfl) (by first | assumption | rfl) ?_)
            refine ac_ret ?_
            have hfo : f.few.loops = (f.loops.take i).map (fun l => l.take 4) := take_map_few _ hi hi8 (by first | exact .inl (by omega) | exact .inr (by omega))
            have so5 := hown.sl
            rw [← hfo] at so5
            have hse := hown.le.sees
            have hbx : H1.sees (H1.put (H.size + 1) (.own 0 [.slice BV nV cV, .slice O (f.order.take 8).length co, .slice Q (f.parent.take 8).length cq, .slice BL nL cL, .slice B i c5])) := Hp.sees_box _ hh1
            exact ⟨.agg #[.slice BV nV cV, .slice O (f.order.take 8).length co, .slice Q (f.parent.take 8).length cq, .slice BL nL cL, .slice B i c5], aresult1 (ares_cell (by first | assumption | rfl) (aload_agg (cs := [.slice BV nV cV, .slice O (f.order.take 8).length co, .slice Q (f.parent.take 8).length cq, .slice BL nL cL, .slice B i c5]) Try.underlying62 rfl inf62.size t_cells)), Hp.le_put_new hleH1 (by omega) _, [.slice BV nV cV, .slice O (f.order.take 8).length co, .slice Q (f.parent.take 8).length cq, .slice BL nL cL, .slice B i c5], rfl, _, _, _, _, _, rfl, (sv.mono hse).mono hbx, (so.mono hse).mono hbx, (sp.mono hse).mono hbx, (sl.mono hse).mono hbx, so5.mono hbx⟩
        · intro hg15
          have hp15 := hg15; try simp only [decide_eq_true_eq, decide_eq_false_iff_not, Bool.not_eq_true', Bool.not_eq_false'] at hp15
          refine aops_skip (want_no rfl rfl rfl hg15 rfl) ?_
          refine aops_skip (want_no rfl rfl rfl hg15 rfl) ?_
          refine aops_val (av_pick_bool (congrArg Value.bool hg15) (by first | assumption | rfl)) ?_
          refine ac_cond_false rfl rfl ?_
          refine ac_exit ?_
          refine ac_seq ?_
          refine ac_region (by kernel_rfl) ?_
          first | refine aops_val (av_loadN (cs := [.slice _ _ _, .slice _ _ _, .slice _ _ _, .slice _ _ _, .slice _ _ _]) (by first | assumption | rfl) Try.underlying62 (by first | assumption | rfl) inf62.size t_cells) ?_ | refine aops_val (av_loadN (cs := [_, _, _, _, _]) (by first | assumption | rfl) Try.underlying62 (by first | assumption | rfl) inf62.size t_cells) ?_
          first | refine aops_op (aop_putN (vs := [.slice _ _ _, .slice _ _ _, .slice _ _ _, .slice _ _ _, .slice _ _ _]) (by first | assumption | rfl) (by first | assumption | rfl) inf62.size t_get t_room (by first | assumption | rfl) (by first | assumption | rfl) ?_) | refine aops_op (aop_putN (vs := [_, _, _, _, _]) (by first | assumption | rfl) (by first | assumption | rfl) inf62.size t_get t_room (by first | assumption | rfl) (by first | assumption | rfl) ?_)
          refine ac_ret ?_
          have hfo : f.few.loops = (f.loops.take i).map (fun l => l.take 4) := take_map_few _ hi hi8 (by first | exact .inl (by omega) | exact .inr (by omega))
          have so5 := hown.sl
          rw [← hfo] at so5
          have hse := hown.le.sees
          have hbx : H1.sees (H1.put (H.size + 1) (.own 0 [.slice BV nV cV, .slice O (f.order.take 8).length co, .slice Q (f.parent.take 8).length cq, .slice BL nL cL, .slice B i c5])) := Hp.sees_box _ hh1
          exact ⟨.agg #[.slice BV nV cV, .slice O (f.order.take 8).length co, .slice Q (f.parent.take 8).length cq, .slice BL nL cL, .slice B i c5], aresult1 (ares_cell (by first | assumption | rfl) (aload_agg (cs := [.slice BV nV cV, .slice O (f.order.take 8).length co, .slice Q (f.parent.take 8).length cq, .slice BL nL cL, .slice B i c5]) Try.underlying62 rfl inf62.size t_cells)), Hp.le_put_new hleH1 (by omega) _, [.slice BV nV cV, .slice O (f.order.take 8).length co, .slice Q (f.parent.take 8).length cq, .slice BL nL cL, .slice B i c5], rfl, _, _, _, _, _, rfl, (sv.mono hse).mono hbx, (so.mono hse).mono hbx, (sp.mono hse).mono hbx, (sl.mono hse).mono hbx, so5.mono hbx⟩
    · intro hg13
      have hp13 := hg13; try simp only [decide_eq_true_eq, decide_eq_false_iff_not, Bool.not_eq_true', Bool.not_eq_false'] at hp13
      refine aops_skip (want_no rfl rfl rfl hg13 rfl) ?_
      refine aops_skip (want_no rfl rfl rfl hg13 rfl) ?_
      refine aops_val (av_pick_bool (congrArg Value.bool hg13) (by first | assumption | rfl)) ?_
      refine ac_cond_false rfl rfl ?_
      refine ac_exit ?_
      refine ac_seq ?_
      refine ac_seq ?_
      have hfl : f.few.links = (f.links.take i).map (fun l => l.take 4) := take_map_few _ hi hi8 (by first | exact .inl (by omega) | exact .inr (by omega))
      have sl := hown.sl
      rw [← hfl] at sl
      have so := so.mono hown.le.sees
      have sp := sp.mono hown.le.sees
      have sv := sv.mono hown.le.sees
      generalize hB3 : B = BL at sl hh2
      generalize hc3 : c5 = cL at sl hh2
      generalize hn3 : i = nL at sl hh2
      refine ac_region (by kernel_rfl) ?_
      first | refine aops_val (av_assign_int rfl) ?_ | refine aops_val (av_assign rfl) ?_
      refine ac_block ?_
      refine ac_loop (fun n t H' => ∃ (i : Nat) (G : Hp) (B : Option Addr) (c5 : Nat), i ≤ f.loops.length ∧ i ≤ 8 ∧ n = f.loops.length - i ∧ H.le G ∧ OwnP (kSl (kInt .i64)) G H' (.slice B i c5) ((f.loops.take i).map (fun l => l.take 4)) ∧ G.get H.size = .own 0 [.slice A0 f.vars.length c0, .slice A1 f.order.length c1, .slice A2 f.parent.length c2, .slice A3 f.links.length c3, .slice A4 f.loops.length c4] ∧ G.get (H.size + 1) = .own 0 [.slice none 0 0, .slice none 0 0, .slice none 0 0, .slice none 0 0, .slice none 0 0] ∧ G.get b3 = .own 0 [.slice BV nV cV, .slice O (f.order.take 8).length co, .slice Q (f.parent.take 8).length cq, .slice BL nL cL, .slice B i c5] ∧ b3 < G.size ∧ Sl (kInt .i64) G (.slice O (f.order.take 8).length co) (f.order.take 8) ∧ Sl (kInt .i64) G (.slice Q (f.parent.take 8).length cq) (f.parent.take 8) ∧ Sl kStr G (.slice BV nV cV) f.few.vars ∧ Sl (kSl (kInt .i64)) G (.slice BL nL cL) f.few.links ∧ t 1 = .pointer (some ⟨H.size, 0, none⟩) ∧ t 2 = .pointer (some ⟨H.size + 1, 0, none⟩) ∧ t 3 = .pointer (some ⟨b3, 0, none⟩) ∧ t 6 = .int .i64 i) (f.loops.length) (⟨0, H1, _, _, by omega, by omega, rfl, hleH1, OwnP.nil _ _, hh0, hh1, hh2, by omega, so, sp, sv, sl, e1, e2, e3, rfl⟩) ?_
      rintro n t H1 ⟨i, G, B, c5, hi, hi8, rfl, hle, hown, kb0, kb1, kb2, hgs, so, sp, sv, sl, e1, e2, e3, e4⟩
      have hz := hown.size
      have hleH1 := Hp.le_trans hle hown.le
      have hh0 := le_got hown.le (by omega) (by intro e; cases e) kb0
      have hh1 := le_got hown.le (by omega) (by intro e; cases e) kb1
      have hh2 := le_got hown.le hgs (by intro e; cases e) kb2
      have hlen : ((f.loops.take i).map (fun l => l.take 4)).length = i := by rw [List.length_map, List.length_take]; omega
      refine ac_seq ?_
      refine ac_seq ?_
      refine ac_region (by kernel_rfl) ?_
      first | refine aops_val (av_move_int (by first | assumption | rfl)) ?_ | refine aops_val (av_move (by first | assumption | rfl)) ?_
      refine aops_val (av_fieldOff (off := 4) (by first | assumption | rfl) Try.underlying62 (by first | assumption | rfl) inf60.size (by decide) (by first | assumption | rfl)) ?_
      refine aops_val (av_load1 rfl Try.underlying60 rfl t_cell) ?_
      refine aops_val (av_len rfl Try.underlying60) ?_
      refine aops_val (av_lt rfl rfl) ?_
      first | refine aops_val (av_move_bool rfl) ?_ | refine aops_val (av_move rfl) ?_
      refine aops_guard rfl rfl rfl ?_ ?_
      · intro hg19
        have hp19 := hg19; try simp only [decide_eq_true_eq, decide_eq_false_iff_not, Bool.not_eq_true', Bool.not_eq_false'] at hp19
        first | refine aops_wval (want_yes rfl rfl rfl hg19) (av_move_int (by first | assumption | rfl)) ?_ | refine aops_wval (want_yes rfl rfl rfl hg19) (av_move (by first | assumption | rfl)) ?_
        refine aops_wval (want_yes rfl rfl rfl hg19) (av_lt rfl rfl) ?_
        refine aops_val (av_pick_bool (congrArg Value.bool hg19) rfl) ?_
        refine ac_split rfl rfl ?_ ?_
        · intro hc20
          (try simp only [decide_eq_true_eq, decide_eq_false_iff_not, Bool.not_eq_true', Bool.not_eq_false'] at hc20)
          refine ac_skip ?_
          refine ac_seq ?_
          refine ac_block ?_
          have hix : i < f.loops.length := by omega
          obtain ⟨b, o, rfl, _, hb4, hcut, hx4⟩ := hs4.place (by omega)
          obtain ⟨cs, hr0, hcell0⟩ := hx4 i _ (List.getElem?_eq_getElem hix)
          obtain ⟨u, rfl, hu⟩ := hr0
          obtain ⟨A6, c6, rfl⟩ := hu.shape
          have hcell1 := (hleH1.cells hb4 hcell0).one
          have hdd := Blk.cut_ne hcut
          have hS4 : ∀ x ∈ [b], x < H.size ∧ H.get x ≠ .dead := fun x hx => by simp at hx; subst hx; exact ⟨hb4, hdd⟩
          have hbH : b < H1.size := by omega
          refine ac_draw (by kernel_rfl) (reg_of (B := [0, 1, 0, 4, 0, 28, 60, 124, 252, 511, 1023, 2047]) (π := [0, 1, 2, 3, 4, 5, 6, 7, 8, 9, 10, 11]) (by kernel_rfl)) ?_
          refine adr_val rfl rfl (av_fieldOff (off := 4) (by first | assumption | rfl) Try.underlying62 (by first | assumption | rfl) inf60.size (by decide) (by first | assumption | rfl)) t_lt ?_
          refine adr_val rfl rfl (av_load1 rfl Try.underlying60 rfl t_cell) t_lt ?_
          refine adr_val rfl rfl (av_fieldOff (off := 4) (by first | assumption | rfl) Try.underlying62 (by first | assumption | rfl) inf60.size (by decide) (by first | assumption | rfl)) t_lt ?_
          refine adr_val rfl rfl (av_load1 rfl Try.underlying60 rfl t_cell) t_lt ?_
          first | refine adr_val rfl rfl (av_move_int (by first | assumption | rfl)) t_lt ?_ | refine adr_val rfl rfl (av_move (by first | assumption | rfl)) t_lt ?_
          refine adr_val rfl rfl (av_indexAddr rfl rfl Try.underlying60 inf29.size t_idx t_idx) t_lt ?_
          refine adr_val rfl rfl (av_load1 rfl Try.underlying29 rfl t_cell) t_lt ?_
          refine adr_op rfl rfl (aop_call (hown.calls (Few_ints f.loops[i] _ 4 _ (hu.mono hle.sees) (hnloops _ (List.getElem_mem hix)) (by omega) (by omega)) (fun r G' h => h.1)) rfl Try.func136 rfl rfl rfl ?_)
          rintro v5 H5 ⟨G5, ⟨hle5, hs5⟩, hown5, hleH5⟩; rw [show (4 : Int).toNat = 4 from rfl] at hs5; have hz5 := hleH5.1; have hsame : ∀ x ∈ [b], H5.get x = H1.get x := (fun x hx => hleH5.2 x (by simp at hx; omega) (by rw [hleH1.2 x (hS4 x hx).1 (hS4 x hx).2]; exact (hS4 x hx).2)); obtain ⟨A5, c50, rfl⟩ := hs5.shape
          refine ⟨t_pend, ?_⟩
          first | refine adr_make rfl rfl (am_buildSlice (r := [.slice _ _ _]) Try.underlying60 inf29.size inf29.zero rfl (by decide) (by decide) (by decide) rfl) ?_ | refine adr_make rfl rfl (am_buildSlice (r := [_]) Try.underlying60 inf29.size inf29.zero rfl (by decide) (by decide) (by decide) rfl) ?_
          have hX := trivial
          have hg52 := le_got hle5 hgs (by intro e; cases e) kb2
          have hg50 := le_got hle5 (by omega) (by intro e; cases e) kb0
          have hg51 := le_got hle5 (by omega) (by intro e; cases e) kb1
          have hgs5 : b3 < G5.size := Nat.lt_of_lt_of_le hgs hle5.1
          refine adr_op rfl rfl (OwnP.append (ys := [f.loops[i].take 4]) (hown5.push _) Try.underlying60 inf29 rfl rfl rfl (sl_one (k := (kSl (kInt .i64))) ⟨_, rfl, hs5⟩ rfl hown5.size rfl) (by rw [hlen]; simp only [List.length_singleton]; omega) (by rw [hlen]; simp only [List.length_singleton]; omega) ?_)
          rintro v6 G6 H6 hle6 hown6
          have hsame := OwnP.sameS (hown5.push _) hle6 hown6 (H0 := H) (Hp.le_push' (Hp.le_trans hle hle5) _) hS4
          have hsameO := OwnP.sameO (hown5.push _) hle6 hown6
          have hs6 := hle6.1
          simp only [Hp.push_size] at hs6
          have hg62 := le_got hle6 (by simp; omega) (by intro e; cases e) ((Hp.push_old _ _ hgs5).trans hg52)
          have hg60 := le_got hle6 (by simp; omega) (by intro e; cases e) ((Hp.push_old _ _ (by omega)).trans hg50)
          have hg61 := le_got hle6 (by simp; omega) (by intro e; cases e) ((Hp.push_old _ _ (by omega)).trans hg51)
          have hg62H := le_got hown6.le (by omega) (by intro e; cases e) hg62
          obtain ⟨B', c', e6⟩ := hown6.shape
          rw [List.length_append, hlen, List.length_singleton] at e6
          subst e6
          refine ⟨t_pend, ?_⟩
          refine adr_val rfl rfl (av_fieldOff (off := 4) (by first | assumption | rfl) Try.underlying62 (by first | assumption | rfl) inf60.size (by decide) (by first | assumption | rfl)) t_lt ?_
          first | refine adr_op rfl rfl (aop_put1 rfl rfl rfl inf60.size t_get t_room rfl ?_)
          refine ⟨t_pend, ?_⟩
          refine ac_region (by kernel_rfl) ?_
          first | refine aops_val (av_move_int (by first | assumption | rfl)) ?_ | refine aops_val (av_move (by first | assumption | rfl)) ?_
          first | refine aops_val (av_add64 rfl rfl t_fits) ?_ | refine aops_val (av_add rfl rfl) ?_
          first | refine aops_val (av_assign_int rfl) ?_ | refine aops_val (av_assign rfl) ?_
          rw [show ((f.loops.take i).map (fun l => l.take 4)) ++ [f.loops[i].take 4] = ((f.loops.take (i + 1)).map (fun l => l.take 4)) by rw [← take_next hix, List.map_append]; rfl] at hown6
          have hleHG6 := Hp.le_trans (Hp.le_push' (Hp.le_trans hle hle5) _) hle6
          have hse := ((hle5.sees.push _).trans hle6.sees).trans (Hp.sees_box (cs' := [.slice BV nV cV, .slice O (f.order.take 8).length co, .slice Q (f.parent.take 8).length cq, .slice BL nL cL, .slice B' (i + 1) c']) _ hg62)
          exact ⟨f.loops.length - (i + 1), by omega, i + 1, G6.put b3 (.own 0 [.slice BV nV cV, .slice O (f.order.take 8).length co, .slice Q (f.parent.take 8).length cq, .slice BL nL cL, .slice B' (i + 1) c']), B', c', by omega, by omega, rfl, Hp.le_put_new hleHG6 (by omega) _, hown6.box_put hg62 _, by rw [Hp.put_other _ _ (by omega)]; exact hg60, by rw [Hp.put_other _ _ (by omega)]; exact hg61, Hp.put_same _ _ _, by simp; omega, so.mono hse, sp.mono hse, sv.mono hse, sl.mono hse, e1, e2, e3, rfl⟩
        · intro hc20
          (try simp only [decide_eq_true_eq, decide_eq_false_iff_not, Bool.not_eq_true', Bool.not_eq_false'] at hc20)
          refine ac_exit ?_
          refine ac_seq ?_
          refine ac_region (by kernel_rfl) ?_
          first | refine aops_val (av_loadN (cs := [.slice _ _ _, .slice _ _ _, .slice _ _ _, .slice _ _ _, .slice _ _ _]) (by first | assumption | rfl) Try.underlying62 (by first | assumption | rfl) inf62.size t_cells) ?_ | refine aops_val (av_loadN (cs := [_, _, _, _, _]) (by first | assumption | rfl) Try.underlying62 (by first | assumption | rfl) inf62.size t_cells) ?_
          first | refine aops_op (aop_putN (vs := [.slice _ _ _, .slice _ _ _, .slice _ _ _, .slice _ _ _, .slice _ _ _]) (by first | assumption | rfl) (by first | assumption | rfl) inf62.size t_get t_room (by first | assumption | rfl) (by first | assumption | rfl) ?_) | refine aops_op (aop_putN (vs := [_, _, _, _, _]) (by first | assumption | rfl) (by first | assumption | rfl) inf62.size t_get t_room (by first | assumption | rfl) (by first | assumption | rfl) ?_)
          refine ac_ret ?_
          have hfo : f.few.loops = (f.loops.take i).map (fun l => l.take 4) := take_map_few _ hi hi8 (by first | exact .inl (by omega) | exact .inr (by omega))
          have so5 := hown.sl
          rw [← hfo] at so5
          have hse := hown.le.sees
          have hbx : H1.sees (H1.put (H.size + 1) (.own 0 [.slice BV nV cV, .slice O (f.order.take 8).length co, .slice Q (f.parent.take 8).length cq, .slice BL nL cL, .slice B i c5])) := Hp.sees_box _ hh1
          exact ⟨.agg #[.slice BV nV cV, .slice O (f.order.take 8).length co, .slice Q (f.parent.take 8).length cq, .slice BL nL cL, .slice B i c5], aresult1 (ares_cell (by first | assumption | rfl) (aload_agg (cs := [.slice BV nV cV, .slice O (f.order.take 8).length co, .slice Q (f.parent.take 8).length cq, .slice BL nL cL, .slice B i c5]) Try.underlying62 rfl inf62.size t_cells)), Hp.le_put_new hleH1 (by omega) _, [.slice BV nV cV, .slice O (f.order.take 8).length co, .slice Q (f.parent.take 8).length cq, .slice BL nL cL, .slice B i c5], rfl, _, _, _, _, _, rfl, (sv.mono hse).mono hbx, (so.mono hse).mono hbx, (sp.mono hse).mono hbx, (sl.mono hse).mono hbx, so5.mono hbx⟩
      · intro hg19
        have hp19 := hg19; try simp only [decide_eq_true_eq, decide_eq_false_iff_not, Bool.not_eq_true', Bool.not_eq_false'] at hp19
        refine aops_skip (want_no rfl rfl rfl hg19 rfl) ?_
        refine aops_skip (want_no rfl rfl rfl hg19 rfl) ?_
        refine aops_val (av_pick_bool (congrArg Value.bool hg19) (by first | assumption | rfl)) ?_
        refine ac_cond_false rfl rfl ?_
        refine ac_exit ?_
        refine ac_seq ?_
        refine ac_region (by kernel_rfl) ?_
        first | refine aops_val (av_loadN (cs := [.slice _ _ _, .slice _ _ _, .slice _ _ _, .slice _ _ _, .slice _ _ _]) (by first | assumption | rfl) Try.underlying62 (by first | assumption | rfl) inf62.size t_cells) ?_ | refine aops_val (av_loadN (cs := [_, _, _, _, _]) (by first | assumption | rfl) Try.underlying62 (by first | assumption | rfl) inf62.size t_cells) ?_
        first | refine aops_op (aop_putN (vs := [.slice _ _ _, .slice _ _ _, .slice _ _ _, .slice _ _ _, .slice _ _ _]) (by first | assumption | rfl) (by first | assumption | rfl) inf62.size t_get t_room (by first | assumption | rfl) (by first | assumption | rfl) ?_) | refine aops_op (aop_putN (vs := [_, _, _, _, _]) (by first | assumption | rfl) (by first | assumption | rfl) inf62.size t_get t_room (by first | assumption | rfl) (by first | assumption | rfl) ?_)
        refine ac_ret ?_
        have hfo : f.few.loops = (f.loops.take i).map (fun l => l.take 4) := take_map_few _ hi hi8 (by first | exact .inl (by omega) | exact .inr (by omega))
        have so5 := hown.sl
        rw [← hfo] at so5
        have hse := hown.le.sees
        have hbx : H1.sees (H1.put (H.size + 1) (.own 0 [.slice BV nV cV, .slice O (f.order.take 8).length co, .slice Q (f.parent.take 8).length cq, .slice BL nL cL, .slice B i c5])) := Hp.sees_box _ hh1
        exact ⟨.agg #[.slice BV nV cV, .slice O (f.order.take 8).length co, .slice Q (f.parent.take 8).length cq, .slice BL nL cL, .slice B i c5], aresult1 (ares_cell (by first | assumption | rfl) (aload_agg (cs := [.slice BV nV cV, .slice O (f.order.take 8).length co, .slice Q (f.parent.take 8).length cq, .slice BL nL cL, .slice B i c5]) Try.underlying62 rfl inf62.size t_cells)), Hp.le_put_new hleH1 (by omega) _, [.slice BV nV cV, .slice O (f.order.take 8).length co, .slice Q (f.parent.take 8).length cq, .slice BL nL cL, .slice B i c5], rfl, _, _, _, _, _, rfl, (sv.mono hse).mono hbx, (so.mono hse).mono hbx, (sp.mono hse).mono hbx, (sl.mono hse).mono hbx, so5.mono hbx⟩
end Go.Proofs.Ytnkjikpmgeknbaa.Am
