/- Texts that the proof rests on, part 2: lemmas for every heap that is related to a world, no condition beyond each lemma's own. -/
import Derived.Test.YtcaeoebphfjfiaaTn1
import Derived.Test.YtcaeoebphfjfiaaTnBack
import Derived.Test.YtcaeoebphfjfiaaTnMaps
import Derived.Test.YtcaeoebphfjfiaaTnOwn2
import Derived.Test.YtcaeoebphfjfiaaTnTy

/- The links within two lists of nodes. -/
namespace Go.Proofs.Ytcaeoebphfjfiaa.Am
open Go Go.RowKit
set_option maxRecDepth 100000
set_option linter.unusedVariables false
set_option linter.unusedSimpArgs false

theorem isNaN_int (x : Int) (H : Hp) : ACalls Try.prog 128 #[.int .i64 x] H (fun r H' => r = .bool false ∧ H' = H) := by
  refine acalls_of_code Try.func128 rfl rfl rfl (by simp) ?_
  refine ac_seq ?_
  refine ac_region (by kernel_rfl) ?_
  first | refine aops_val (av_assign_bool rfl) ?_ | refine aops_val (av_assign rfl) ?_
  refine ac_seq ?_
  refine ac_region (by kernel_rfl) ?_
  first | refine aops_val (av_move_int rfl) ?_ | refine aops_val (av_move rfl) ?_
  first | refine aops_val (av_move_int rfl) ?_ | refine aops_val (av_move rfl) ?_
  refine aops_val (av_ne rfl rfl) ?_
  first | refine aops_val (av_assign_bool rfl) ?_ | refine aops_val (av_assign rfl) ?_
  refine ac_ret ?_
  exact ⟨.bool false, aresult1 (ares_tmp (by simp [Fr.put])), rfl, rfl⟩
theorem isNaNc_int (x : Int) (H : Hp) : ACalls Try.prog 134 #[.int .i64 x] H (fun r H' => r = .bool false ∧ H' = H) := by
  refine acalls_of_code Try.func134 rfl rfl rfl (by simp) ?_
  refine ac_seq ?_
  refine ac_region (by kernel_rfl) ?_
  first | refine aops_val (av_assign_bool rfl) ?_ | refine aops_val (av_assign rfl) ?_
  refine ac_seq ?_
  refine ac_region (by kernel_rfl) ?_
  first | refine aops_val (av_move_int rfl) ?_ | refine aops_val (av_move rfl) ?_
  first | refine aops_val (av_move_int rfl) ?_ | refine aops_val (av_move rfl) ?_
  refine aops_val (av_ne rfl rfl) ?_
  first | refine aops_val (av_assign_bool rfl) ?_ | refine aops_val (av_assign rfl) ?_
  refine ac_ret ?_
  exact ⟨.bool false, aresult1 (ares_tmp (by simp [Fr.put])), rfl, rfl⟩
theorem Less_int (x y : Int) (H : Hp) : ACalls Try.prog 123 #[.int .i64 x, .int .i64 y] H (fun r H' => r = .bool (decide (x < y)) ∧ H' = H) := by
  refine acalls_of_code Try.func123 rfl rfl rfl (by simp) ?_
  refine ac_seq ?_
  refine ac_region (by kernel_rfl) ?_
  first | refine aops_val (av_assign_bool rfl) ?_ | refine aops_val (av_assign rfl) ?_
  refine ac_seq ?_
  refine ac_region (by kernel_rfl) ?_
  first | refine aops_val (av_move_int rfl) ?_ | refine aops_val (av_move rfl) ?_
  refine aops_op (aop_call (isNaNc_int _ _) rfl Try.func134 rfl rfl rfl ?_)
  rintro v5 H5 ⟨rfl, rfl⟩
  first | refine aops_val (av_move_bool rfl) ?_ | refine aops_val (av_move rfl) ?_
  refine aops_guard rfl rfl rfl ?_ ?_
  · intro hg1
    cases hg1
  · intro hg1
    have hp1 := hg1; try simp only [decide_eq_true_eq, decide_eq_false_iff_not, Bool.not_eq_true', Bool.not_eq_false'] at hp1
    refine aops_skip (want_no rfl rfl rfl hg1 rfl) ?_
    refine aops_skip (want_no rfl rfl rfl hg1 rfl) ?_
    refine aops_skip (want_no rfl rfl rfl hg1 rfl) ?_
    refine aops_val (av_pick_bool (congrArg Value.bool hg1) rfl) ?_
    first | refine aops_val (av_move_bool rfl) ?_ | refine aops_val (av_move rfl) ?_
    first | refine aops_wval (want_yes rfl rfl rfl rfl) (av_move_int rfl) ?_ | refine aops_wval (want_yes rfl rfl rfl rfl) (av_move rfl) ?_
    first | refine aops_wval (want_yes rfl rfl rfl rfl) (av_move_int rfl) ?_ | refine aops_wval (want_yes rfl rfl rfl rfl) (av_move rfl) ?_
    refine aops_wval (want_yes rfl rfl rfl rfl) (av_lt rfl rfl) ?_
    refine aops_val (av_pick_bool (congrArg Value.bool rfl) rfl) ?_
    first | refine aops_val (av_assign_bool rfl) ?_ | refine aops_val (av_assign rfl) ?_
    refine ac_ret ?_
    exact ⟨_, aresult1 (ares_tmp rfl), rfl, rfl⟩
theorem bin_mem {xs : List Int} {x : Int} {i : Nat} (hmono : ∀ (i j : Nat), i ≤ j → j < xs.length → xs.getD i 0 ≤ xs.getD j 0) (hlo : ∀ k, k < i → xs.getD k 0 < x) (hhi : ∀ k, i ≤ k → k < xs.length → ¬ xs.getD k 0 < x) : x ∈ xs ↔ i < xs.length ∧ xs.getD i 0 = x := by
  constructor
  · intro h
    obtain ⟨k, hk, rfl⟩ := List.getElem_of_mem h
    have hki : ¬ k < i := fun h1 => by have := hlo k h1; rw [getD_at hk] at this; omega
    have h1 : i < xs.length := by omega
    have h2 := hmono i k (by omega) hk
    have h3 := hhi i (Nat.le_refl _) h1
    rw [getD_at hk] at h2
    exact ⟨h1, by omega⟩
  · rintro ⟨h1, rfl⟩
    rw [getD_at h1]
    exact List.getElem_mem h1
theorem Bin_int (xs : List Int) (A : Option Addr) (c : Nat) (x : Int) (H : Hp) (hs : Sl (kInt .i64) H (.slice A xs.length c) xs) (hl : xs.length ≤ 1000000) (hr : xs.Pairwise (· ≤ ·)) :
    ACalls Try.prog 116 #[.slice A xs.length c, .int .i64 x] H (fun r H' => (∃ i : Int, r = .tuple #[.int .i64 i, .bool (decide (x ∈ xs))]) ∧ H' = H) := by
  have hmono : ∀ (i j : Nat), i ≤ j → j < xs.length → xs.getD i 0 ≤ xs.getD j 0 := fun i j hij hj => by
    rw [getD_at hj, getD_at (by omega : i < xs.length)]
    rcases Nat.lt_or_eq_of_le hij with h | h
    · exact List.pairwise_iff_getElem.1 hr i j (by omega) hj h
    · subst h; exact Int.le_refl _
  refine acalls_of_code Try.func116 rfl rfl rfl (by simp) ?_
  refine ac_seq ?_
  refine ac_region (by kernel_rfl) ?_
  first | refine aops_val (av_assign_int rfl) ?_ | refine aops_val (av_assign rfl) ?_
  first | refine aops_val (av_assign_bool rfl) ?_ | refine aops_val (av_assign rfl) ?_
  refine ac_seq ?_
  refine ac_region (by kernel_rfl) ?_
  first | refine aops_val (av_move_sl rfl) ?_ | refine aops_val (av_move rfl) ?_
  refine aops_val (av_len rfl Try.underlying23) ?_
  first | refine aops_val (av_assign_int rfl) ?_ | refine aops_val (av_assign rfl) ?_
  refine ac_seq ?_
  refine ac_region (by kernel_rfl) ?_
  first | refine aops_val (av_move_int rfl) ?_ | refine aops_val (av_move rfl) ?_
  first | refine aops_val (av_assign_int rfl) ?_ | refine aops_val (av_assign rfl) ?_
  first | refine aops_val (av_assign_int rfl) ?_ | refine aops_val (av_assign rfl) ?_
  refine ac_seq ?_
  refine ac_block ?_
  refine ac_loop (fun m t H' => ∃ (i j : Nat), i ≤ j ∧ j ≤ xs.length ∧ m = j - i ∧ H' = H ∧ (∀ k, k < i → xs.getD k 0 < x) ∧ (∀ k, j ≤ k → k < xs.length → ¬ xs.getD k 0 < x) ∧ t 0 = .slice A xs.length c ∧ t 1 = .int .i64 x ∧ t 6 = .int .i64 xs.length ∧ t 7 = .int .i64 i ∧ t 8 = .int .i64 j) (xs.length) (⟨0, xs.length, Nat.zero_le _, Nat.le_refl _, by omega, rfl, fun x h => by omega, fun x h h2 => by omega, rfl, rfl, rfl, rfl, rfl⟩) ?_
  rintro m t _ ⟨i, j, hij, hjn, rfl, rfl, hlo, hhi, e0, e1, e6, e7, e8⟩
  refine ac_seq ?_
  refine ac_seq ?_
  refine ac_region (by kernel_rfl) ?_
  first | refine aops_val (av_move_int (by first | assumption | rfl)) ?_ | refine aops_val (av_move (by first | assumption | rfl)) ?_
  first | refine aops_val (av_move_int (by first | assumption | rfl)) ?_ | refine aops_val (av_move (by first | assumption | rfl)) ?_
  refine aops_val (av_lt rfl rfl) ?_
  refine ac_split rfl rfl ?_ ?_
  · intro hc1
    (try simp only [decide_eq_true_eq, decide_eq_false_iff_not, Bool.not_eq_true', Bool.not_eq_false'] at hc1)
    refine ac_skip ?_
    refine ac_block ?_
    refine ac_seq ?_
    refine ac_region (by kernel_rfl) ?_
    first | refine aops_val (av_move_int (by first | assumption | rfl)) ?_ | refine aops_val (av_move (by first | assumption | rfl)) ?_
    first | refine aops_val (av_move_int (by first | assumption | rfl)) ?_ | refine aops_val (av_move (by first | assumption | rfl)) ?_
    first | refine aops_val (av_add64 rfl rfl t_fits) ?_ | refine aops_val (av_add rfl rfl) ?_
    refine aops_val (av_conv rfl (by rw [Try.underlying3]; rfl) Try.underlying122) ?_
    refine aops_val (av_shr rfl rfl (by omega)) ?_
    refine aops_val (av_conv rfl (by rw [Try.underlying122]; rfl) Try.underlying3) ?_
    refine aops_val (av_assign_int (n := (((i + j) / 2 : Nat) : Int)) (mid_val hij hjn (by omega))) ?_
    have hm1 : i ≤ (i + j) / 2 := by omega
    have hm2 : (i + j) / 2 < j := by omega
    obtain ⟨b, o, rfl, hb, hcell⟩ := hs.int_at (i := (((i + j) / 2 : Nat) : Int)) (by omega) (by omega)
    rw [Int.toNat_natCast] at hcell
    refine ac_seq ?_
    refine ac_region (by kernel_rfl) ?_
    first | refine aops_val (av_move_sl (by first | assumption | rfl)) ?_ | refine aops_val (av_move (by first | assumption | rfl)) ?_
    first | refine aops_val (av_move_int rfl) ?_ | refine aops_val (av_move rfl) ?_
    refine aops_val (av_indexAddr rfl rfl Try.underlying23 inf3.size t_idx t_idx) ?_
    refine aops_val (av_load1 rfl Try.underlying3 rfl t_cell) ?_
    first | refine aops_val (av_move_int (by first | assumption | rfl)) ?_ | refine aops_val (av_move (by first | assumption | rfl)) ?_
    refine aops_op (aop_call (Less_int _ _ _) rfl Try.func123 rfl rfl rfl ?_)
    rintro v5 H5 ⟨rfl, rfl⟩
    refine ac_split rfl rfl ?_ ?_
    · intro hc2
      have hc : xs.getD ((i + j) / 2) 0 < x := by simpa using hc2
      refine ac_region (by kernel_rfl) ?_
      first | refine aops_val (av_move_int rfl) ?_ | refine aops_val (av_move rfl) ?_
      first | refine aops_val (av_add64 rfl rfl t_fits) ?_ | refine aops_val (av_add rfl rfl) ?_
      first | refine aops_val (av_assign_int rfl) ?_ | refine aops_val (av_assign rfl) ?_
      exact ⟨j - ((i + j) / 2 + 1), by omega, (i + j) / 2 + 1, j, by omega, hjn, rfl, rfl, fun k hk => Int.lt_of_le_of_lt (hmono k ((i + j) / 2) (by omega) (by omega)) hc, hhi, e0, e1, e6, rfl, e8⟩
    · intro hc2
      have hc : ¬ xs.getD ((i + j) / 2) 0 < x := by simpa using hc2
      refine ac_region (by kernel_rfl) ?_
      first | refine aops_val (av_move_int rfl) ?_ | refine aops_val (av_move rfl) ?_
      first | refine aops_val (av_assign_int rfl) ?_ | refine aops_val (av_assign rfl) ?_
      exact ⟨(i + j) / 2 - i, by omega, i, (i + j) / 2, by omega, by omega, rfl, rfl, hlo, fun k h h2 => by have := hmono ((i + j) / 2) k h h2; omega, e0, e1, e6, e7, rfl⟩
  · intro hc1
    (try simp only [decide_eq_true_eq, decide_eq_false_iff_not, Bool.not_eq_true', Bool.not_eq_false'] at hc1)
    refine ac_exit ?_
    refine ac_seq ?_
    have hij2 : i = j := by omega
    subst hij2
    have hmem := bin_mem hmono hlo hhi
    refine ac_region (by kernel_rfl) ?_
    first | refine aops_val (av_move_int (by first | assumption | rfl)) ?_ | refine aops_val (av_move (by first | assumption | rfl)) ?_
    first | refine aops_val (av_move_int (by first | assumption | rfl)) ?_ | refine aops_val (av_move (by first | assumption | rfl)) ?_
    first | refine aops_val (av_move_int (by first | assumption | rfl)) ?_ | refine aops_val (av_move (by first | assumption | rfl)) ?_
    refine aops_val (av_lt rfl rfl) ?_
    first | refine aops_val (av_move_bool rfl) ?_ | refine aops_val (av_move rfl) ?_
    refine aops_guard rfl rfl rfl ?_ ?_
    · intro hg3
      have hi8 : i < xs.length := by have := of_decide_eq_true hg3; omega
      obtain ⟨b, o, rfl, hb, hcell⟩ := hs.int_at (i := (i : Int)) (by omega) (by omega)
      rw [Int.toNat_natCast] at hcell
      first | refine aops_wval (want_yes rfl rfl rfl hg3) (av_move_sl (by first | assumption | rfl)) ?_ | refine aops_wval (want_yes rfl rfl rfl hg3) (av_move (by first | assumption | rfl)) ?_
      first | refine aops_wval (want_yes rfl rfl rfl hg3) (av_move_int (by first | assumption | rfl)) ?_ | refine aops_wval (want_yes rfl rfl rfl hg3) (av_move (by first | assumption | rfl)) ?_
      refine aops_wval (want_yes rfl rfl rfl hg3) (av_indexAddr rfl rfl Try.underlying23 inf3.size t_idx t_idx) ?_
      refine aops_wval (want_yes rfl rfl rfl hg3) (av_load1 rfl Try.underlying3 rfl t_cell) ?_
      first | refine aops_wval (want_yes rfl rfl rfl hg3) (av_move_int (by first | assumption | rfl)) ?_ | refine aops_wval (want_yes rfl rfl rfl hg3) (av_move (by first | assumption | rfl)) ?_
      refine aops_wval (want_yes rfl rfl rfl hg3) (av_eq rfl rfl) ?_
      first | refine aops_wval (want_yes rfl rfl rfl hg3) (av_move_bool rfl) ?_ | refine aops_wval (want_yes rfl rfl rfl hg3) (av_move rfl) ?_
      refine aops_guard rfl rfl rfl ?_ ?_
      · intro hg4
        have hp4 := hg4; try simp only [decide_eq_true_eq, decide_eq_false_iff_not, Bool.not_eq_true', Bool.not_eq_false'] at hp4
        refine aops_skip (want_no rfl rfl rfl hg4 rfl) ?_
        refine aops_skip (want_no rfl rfl rfl hg4 rfl) ?_
        refine aops_skip (want_no rfl rfl rfl hg4 rfl) ?_
        refine aops_skip (want_no rfl rfl rfl hg4 rfl) ?_
        refine aops_skip (want_no rfl rfl rfl hg4 rfl) ?_
        refine aops_skip (want_no rfl rfl rfl hg4 rfl) ?_
        refine aops_skip (want_gone rfl rfl rfl) ?_
        refine aops_skip (want_gone rfl rfl rfl) ?_
        refine aops_skip (want_no rfl rfl rfl hg4 rfl) ?_
        refine aops_wval (want_yes rfl rfl rfl hg3) (av_pick_bool (congrArg Value.bool hg4) (by first | assumption | rfl)) ?_
        refine aops_val (av_pick_bool (congrArg Value.bool hg3) rfl) ?_
        first | refine aops_val (av_assign_int rfl) ?_ | refine aops_val (av_assign rfl) ?_
        first | refine aops_val (av_assign_bool rfl) ?_ | refine aops_val (av_assign rfl) ?_
        refine ac_ret ?_
        have hd : decide (x ∈ xs) = (decide (i < xs.length) && decide (xs.getD i 0 = x)) := by rw [← Bool.decide_and]; exact decide_eq_decide.2 hmem
        refine ⟨.tuple #[.int .i64 i, .bool (decide (x ∈ xs))], aresult2 (ares_tmp rfl) (ares_tmp (congrArg Value.bool ?_)), ⟨_, rfl⟩, rfl⟩
        rw [hd]
        simp_all
      · intro hg4
        have hp4 := hg4; try simp only [decide_eq_true_eq, decide_eq_false_iff_not, Bool.not_eq_true', Bool.not_eq_false'] at hp4
        first | refine aops_wval (want_yes rfl rfl rfl hg4) (av_move_sl (by first | assumption | rfl)) ?_ | refine aops_wval (want_yes rfl rfl rfl hg4) (av_move (by first | assumption | rfl)) ?_
        first | refine aops_wval (want_yes rfl rfl rfl hg4) (av_move_int (by first | assumption | rfl)) ?_ | refine aops_wval (want_yes rfl rfl rfl hg4) (av_move (by first | assumption | rfl)) ?_
        refine aops_wval (want_yes rfl rfl rfl hg4) (av_indexAddr rfl rfl Try.underlying23 inf3.size t_idx t_idx) ?_
        refine aops_wval (want_yes rfl rfl rfl hg4) (av_load1 rfl Try.underlying3 rfl t_cell) ?_
        refine aops_want (want_yes rfl rfl rfl hg4) (aop_call (isNaN_int _ _) rfl Try.func128 rfl rfl rfl ?_)
        rintro v5 H5 ⟨rfl, rfl⟩
        first | refine aops_wval (want_yes rfl rfl rfl hg4) (av_move_bool rfl) ?_ | refine aops_wval (want_yes rfl rfl rfl hg4) (av_move rfl) ?_
        refine aops_guard rfl rfl rfl ?_ ?_
        · intro hg5
          cases hg5
        · intro hg5
          have hp5 := hg5; try simp only [decide_eq_true_eq, decide_eq_false_iff_not, Bool.not_eq_true', Bool.not_eq_false'] at hp5
          refine aops_skip (want_no rfl rfl rfl hg5 rfl) ?_
          refine aops_skip (want_no rfl rfl rfl hg5 rfl) ?_
          refine aops_wval (want_yes rfl rfl rfl hg4) (av_pick_bool (congrArg Value.bool hg5) (by first | assumption | rfl)) ?_
          refine aops_wval (want_yes rfl rfl rfl hg3) (av_pick_bool (congrArg Value.bool hg4) rfl) ?_
          refine aops_val (av_pick_bool (congrArg Value.bool hg3) rfl) ?_
          first | refine aops_val (av_assign_int rfl) ?_ | refine aops_val (av_assign rfl) ?_
          first | refine aops_val (av_assign_bool rfl) ?_ | refine aops_val (av_assign rfl) ?_
          refine ac_ret ?_
          have hd : decide (x ∈ xs) = (decide (i < xs.length) && decide (xs.getD i 0 = x)) := by rw [← Bool.decide_and]; exact decide_eq_decide.2 hmem
          refine ⟨.tuple #[.int .i64 i, .bool (decide (x ∈ xs))], aresult2 (ares_tmp rfl) (ares_tmp (congrArg Value.bool ?_)), ⟨_, rfl⟩, rfl⟩
          rw [hd]
          simp_all
    · intro hg3
      have hi8 : ¬ i < xs.length := by have := of_decide_eq_false hg3; omega
      refine aops_skip (want_no rfl rfl rfl hg3 rfl) ?_
      refine aops_skip (want_no rfl rfl rfl hg3 rfl) ?_
      refine aops_skip (want_no rfl rfl rfl hg3 rfl) ?_
      refine aops_skip (want_no rfl rfl rfl hg3 rfl) ?_
      refine aops_skip (want_no rfl rfl rfl hg3 rfl) ?_
      refine aops_skip (want_no rfl rfl rfl hg3 rfl) ?_
      refine aops_skip (want_no rfl rfl rfl hg3 rfl) ?_
      refine aops_skip (want_gone rfl rfl rfl) ?_
      refine aops_skip (want_gone rfl rfl rfl) ?_
      refine aops_skip (want_gone rfl rfl rfl) ?_
      refine aops_skip (want_gone rfl rfl rfl) ?_
      refine aops_skip (want_gone rfl rfl rfl) ?_
      refine aops_skip (want_gone rfl rfl rfl) ?_
      refine aops_skip (want_gone rfl rfl rfl) ?_
      refine aops_skip (want_gone rfl rfl rfl) ?_
      refine aops_skip (want_gone rfl rfl rfl) ?_
      refine aops_skip (want_no rfl rfl rfl hg3 rfl) ?_
      refine aops_val (av_pick_bool (congrArg Value.bool hg3) (by first | assumption | rfl)) ?_
      first | refine aops_val (av_assign_int rfl) ?_ | refine aops_val (av_assign rfl) ?_
      first | refine aops_val (av_assign_bool rfl) ?_ | refine aops_val (av_assign rfl) ?_
      refine ac_ret ?_
      have hd : decide (x ∈ xs) = (decide (i < xs.length) && decide (xs.getD i 0 = x)) := by rw [← Bool.decide_and]; exact decide_eq_decide.2 hmem
      refine ⟨.tuple #[.int .i64 i, .bool (decide (x ∈ xs))], aresult2 (ares_tmp rfl) (ares_tmp (congrArg Value.bool ?_)), ⟨_, rfl⟩, rfl⟩
      rw [hd]
      simp_all
theorem In_int (xs : List Int) (A : Option Addr) (c : Nat) (x : Int) (H : Hp) (hs : Sl (kInt .i64) H (.slice A xs.length c) xs) (hl : xs.length ≤ 1000000) (hr : xs.Pairwise (· ≤ ·)) :
    ACalls Try.prog 113 #[.slice A xs.length c, .int .i64 x] H (fun r H' => r = .bool (decide (x ∈ xs)) ∧ H' = H) := by
  refine acalls_of_code Try.func113 rfl rfl rfl (by simp) ?_
  refine ac_seq ?_
  refine ac_region (by kernel_rfl) ?_
  first | refine aops_val (av_assign_bool rfl) ?_ | refine aops_val (av_assign rfl) ?_
  refine ac_seq ?_
  refine ac_region (by kernel_rfl) ?_
  first | refine aops_val (av_move_sl rfl) ?_ | refine aops_val (av_move rfl) ?_
  first | refine aops_val (av_move_int rfl) ?_ | refine aops_val (av_move rfl) ?_
  refine aops_op (aop_call (Bin_int xs A c x H hs hl hr) rfl Try.func116 rfl rfl rfl ?_)
  rintro v5 H5 ⟨⟨i5, rfl⟩, rfl⟩
  refine aops_val (av_move rfl) ?_
  refine aops_val (av_extract rfl rfl) ?_
  refine aops_val (av_extract rfl rfl) ?_
  first | refine aops_val (av_assign_int rfl) ?_ | refine aops_val (av_assign rfl) ?_
  first | refine aops_val (av_assign_bool rfl) ?_ | refine aops_val (av_assign rfl) ?_
  refine ac_seq ?_
  refine ac_region (by kernel_rfl) ?_
  first | refine aops_val (av_move_bool rfl) ?_ | refine aops_val (av_move rfl) ?_
  first | refine aops_val (av_assign_bool rfl) ?_ | refine aops_val (av_assign rfl) ?_
  refine ac_ret ?_
  exact ⟨_, aresult1 (ares_tmp rfl), rfl, rfl⟩
/-- The links whose ends are in two lists. -/
def withinL (xs : List Link) (from' to' : List Int) : List Link := xs.filter fun x => decide (x.a ∈ from') && decide (x.b ∈ to')
theorem Within_links (xs : List Link) (fs ts : List Int) (v vf vt : Value) (H : Hp) (hs : Sl kLink H v xs) (hf : Sl (kInt .i64) H vf fs) (ht : Sl (kInt .i64) H vt ts) (hl : xs.length ≤ 1000000) (hlf : fs.length ≤ 1000000) (hlt : ts.length ≤ 1000000) (hrf : fs.Pairwise (· ≤ ·)) (hrt : ts.Pairwise (· ≤ ·)) :
    ACalls Try.prog 108 #[v, vf, vt] H (fun r H' => ∃ G', H.le G' ∧ OwnP kLink G' H' r (withinL xs fs ts)) := by
  obtain ⟨A, c, rfl⟩ := hs.shape
  obtain ⟨Af, cf, rfl⟩ := hf.shape
  obtain ⟨At, ct, rfl⟩ := ht.shape
  refine acalls_of_code Try.func108 rfl rfl rfl (by simp) ?_
  refine ac_seq ?_
  refine ac_region (by kernel_rfl) ?_
  first | refine aops_val (av_assign_sl rfl) ?_ | refine aops_val (av_assign rfl) ?_
  refine ac_seq ?_
  refine ac_region (by kernel_rfl) ?_
  first | refine aops_val (av_assign_sl rfl) ?_ | refine aops_val (av_assign rfl) ?_
  refine ac_seq ?_
  refine ac_seq ?_
  refine ac_region (by kernel_rfl) ?_
  first | refine aops_val (av_move_sl rfl) ?_ | refine aops_val (av_move rfl) ?_
  refine aops_val (av_len rfl Try.underlying50) ?_
  first | refine aops_val (av_move_int rfl) ?_ | refine aops_val (av_move rfl) ?_
  refine ac_block ?_
  refine ac_loop (fun n t H' => ∃ (i : Nat) (G : Hp) (B : Option Addr) (c5 : Nat), i ≤ xs.length ∧ n = xs.length - i ∧ H.le G ∧ OwnP kLink G H' (.slice B (withinL (xs.take i) fs ts).length c5) (withinL (xs.take i) fs ts) ∧ t 1 = .slice Af fs.length cf ∧ t 2 = .slice At ts.length ct ∧ t 7 = .slice B (withinL (xs.take i) fs ts).length c5 ∧ t 10 = .slice A xs.length c ∧ t 11 = .int .i64 xs.length ∧ t 12 = .int .i64 i) (xs.length) (⟨0, H, _, _, by omega, rfl, Hp.le_refl _, OwnP.nil _ _, rfl, rfl, rfl, rfl, rfl, rfl⟩) ?_
  rintro n t H1 ⟨i, G, B, c5, hi, rfl, hle, hown, e1, e2, e7, e10, e11, e12⟩
  have hz := hown.size
  have hlen : (withinL (xs.take i) fs ts).length ≤ i := by
    have := List.length_filter_le (fun x : Link => decide (x.a ∈ fs) && decide (x.b ∈ ts)) (xs.take i)
    rw [List.length_take] at this
    unfold withinL
    omega
  refine ac_seq ?_
  refine ac_region (by kernel_rfl) ?_
  refine aops_val (av_lt (by first | assumption | rfl) (by first | assumption | rfl)) ?_
  refine ac_seq ?_
  refine ac_split rfl rfl ?_ ?_
  · intro hc1
    (try simp only [decide_eq_true_eq, decide_eq_false_iff_not, Bool.not_eq_true', Bool.not_eq_false'] at hc1)
    refine ac_skip ?_
    refine ac_seq ?_
    refine ac_block ?_
    refine ac_seq ?_
    refine ac_region (by kernel_rfl) ?_
    have hix : i < xs.length := by omega
    obtain ⟨b, o, rfl, hb, hcell0⟩ := (hs.mono hle.sees).link_at hix
    have hcells := hown.le.cells hb hcell0
    have hownE := hown.boxed [.int .i64 0, .int .i64 0, .int .i64 0, .int .u64 0] [.int .i64 xs[i].a, .int .i64 xs[i].b, .int .i64 xs[i].cost, .int .u64 xs[i].n]
    have hleE := Hp.le_put_new (b := H1.size) (Hp.le_push' hle (.own 0 [.int .i64 0, .int .i64 0, .int .i64 0, .int .u64 0])) (by rw [hz]; exact hle.1) (.own 0 [.int .i64 xs[i].a, .int .i64 xs[i].b, .int .i64 xs[i].cost, .int .u64 xs[i].n])
    have hseE := (Hp.le_trans hleE hownE.le).sees
    refine aops_val (av_indexAddr (by first | assumption | rfl) (by first | assumption | rfl) Try.underlying50 inf54.size t_idx t_idx) ?_
    refine aops_val (av_loadN (cs := [.int .i64 _, .int .i64 _, .int .i64 _, .int .u64 _]) rfl Try.underlying54 rfl inf54.size t_cells) ?_
    refine aops_make (am_zero (l := [.int .i64 0, .int .i64 0, .int .i64 0, .int .u64 0]) inf54.zero rfl (by decide)) ?_
    first | refine aops_op (aop_putN (vs := [.int .i64 _, .int .i64 _, .int .i64 _, .int .u64 _]) rfl rfl inf54.size t_get t_room rfl rfl ?_)
    refine ac_seq ?_
    refine ac_region (by kernel_rfl) ?_
    first | refine aops_val (av_move_sl (by first | assumption | rfl)) ?_ | refine aops_val (av_move (by first | assumption | rfl)) ?_
    refine aops_val (av_fieldOff (off := 0) rfl Try.underlying54 rfl inf3.size (by decide) rfl) ?_
    refine aops_val (av_load1 rfl Try.underlying3 rfl t_cell) ?_
    refine aops_op (aop_call (In_int fs Af cf xs[i].a _ (hf.mono hseE) hlf hrf) rfl Try.func113 rfl rfl rfl ?_)
    rintro v6 H6 ⟨rfl, hH6⟩; subst hH6
    first | refine aops_val (av_move_bool rfl) ?_ | refine aops_val (av_move rfl) ?_
    refine aops_guard rfl rfl rfl ?_ ?_
    · intro hg2
      have hp2 := hg2; try simp only [decide_eq_true_eq, decide_eq_false_iff_not, Bool.not_eq_true', Bool.not_eq_false'] at hp2
      first | refine aops_wval (want_yes rfl rfl rfl hg2) (av_move_sl (by first | assumption | rfl)) ?_ | refine aops_wval (want_yes rfl rfl rfl hg2) (av_move (by first | assumption | rfl)) ?_
      refine aops_wval (want_yes rfl rfl rfl hg2) (av_fieldOff (off := 1) rfl Try.underlying54 rfl inf3.size (by decide) rfl) ?_
      refine aops_wval (want_yes rfl rfl rfl hg2) (av_load1 rfl Try.underlying3 rfl t_cell) ?_
      refine aops_want (want_yes rfl rfl rfl hg2) (aop_call (In_int ts At ct xs[i].b _ (ht.mono hseE) hlt hrt) rfl Try.func113 rfl rfl rfl ?_)
      rintro v7 H7 ⟨rfl, hH7⟩; subst hH7
      refine aops_val (av_pick_bool (congrArg Value.bool hg2) rfl) ?_
      refine ac_split rfl rfl ?_ ?_
      · intro hc3
        have hin : withinL [xs[i]] fs ts = [xs[i]] := by unfold withinL; simp_all
        have hstep : withinL (xs.take (i + 1)) fs ts = withinL (xs.take i) fs ts ++ [xs[i]] := by rw [← hin]; unfold withinL; rw [← List.filter_append, take_next hix]
        refine ac_region (by kernel_rfl) ?_
        first | refine aops_val (av_move_sl (by first | assumption | rfl)) ?_ | refine aops_val (av_move (by first | assumption | rfl)) ?_
        refine aops_val (av_loadN (cs := [.int .i64 _, .int .i64 _, .int .i64 _, .int .u64 _]) rfl Try.underlying54 rfl inf54.size t_cells) ?_
        first | refine aops_make (am_buildSlice (r := [.int .i64 _, .int .i64 _, .int .i64 _, .int .u64 _]) Try.underlying50 inf54.size inf54.zero rfl (by decide) (by decide) (by decide) rfl) ?_
        refine aops_op (OwnP.append (ys := [xs[i]]) (hownE.push _) Try.underlying50 inf54 rfl rfl rfl (sl_one (k := kLink) rfl rfl hownE.size rfl) (by simp; omega) (by simp; omega) ?_)
        rintro v6 G6 H6 hle6 hown6
        obtain ⟨B', c', e6⟩ := hown6.shape
        subst e6
        first | refine aops_val (av_assign_sl rfl) ?_ | refine aops_val (av_assign rfl) ?_
        refine ac_region (by kernel_rfl) ?_
        first | refine aops_val (av_add64 (by first | assumption | rfl) (by first | assumption | rfl) t_fits) ?_ | refine aops_val (av_add (by first | assumption | rfl) (by first | assumption | rfl)) ?_
        first | refine aops_val (av_move_int rfl) ?_ | refine aops_val (av_move rfl) ?_
        first
          | (rw [← hstep] at hown6
             exact ⟨xs.length - (i + 1), by omega, i + 1, G6, B', c', by omega, rfl, Hp.le_trans (Hp.le_push' hleE _) hle6, hown6, e1, e2, by rw [hstep]; rfl, e10, e11, rfl⟩)
          | (have hin : withinL [xs[i]] fs ts = [] := by unfold withinL; simp_all
             have hstep : withinL (xs.take (i + 1)) fs ts = withinL (xs.take i) fs ts := by rw [← List.append_nil (withinL (xs.take i) fs ts), ← hin]; unfold withinL; rw [← List.filter_append, take_next hix]
             refine ⟨xs.length - (i + 1), by omega, i + 1, _, B, c5, by omega, rfl, hleE, by rw [hstep]; exact hownE, e1, e2, by rw [hstep]; exact e7, e10, e11, rfl⟩)
      · intro hc3
        (try simp only [decide_eq_true_eq, decide_eq_false_iff_not, Bool.not_eq_true', Bool.not_eq_false'] at hc3)
        refine ac_skip ?_
        refine ac_region (by kernel_rfl) ?_
        first | refine aops_val (av_add64 (by first | assumption | rfl) (by first | assumption | rfl) t_fits) ?_ | refine aops_val (av_add (by first | assumption | rfl) (by first | assumption | rfl)) ?_
        first | refine aops_val (av_move_int rfl) ?_ | refine aops_val (av_move rfl) ?_
        first
          | (rw [← hstep] at hown6
             exact ⟨xs.length - (i + 1), by omega, i + 1, G6, B', c', by omega, rfl, Hp.le_trans (Hp.le_push' hleE _) hle6, hown6, e1, e2, by rw [hstep]; rfl, e10, e11, rfl⟩)
          | (have hin : withinL [xs[i]] fs ts = [] := by unfold withinL; simp_all
             have hstep : withinL (xs.take (i + 1)) fs ts = withinL (xs.take i) fs ts := by rw [← List.append_nil (withinL (xs.take i) fs ts), ← hin]; unfold withinL; rw [← List.filter_append, take_next hix]
             refine ⟨xs.length - (i + 1), by omega, i + 1, _, B, c5, by omega, rfl, hleE, by rw [hstep]; exact hownE, e1, e2, by rw [hstep]; exact e7, e10, e11, rfl⟩)
    · intro hg2
      have hp2 := hg2; try simp only [decide_eq_true_eq, decide_eq_false_iff_not, Bool.not_eq_true', Bool.not_eq_false'] at hp2
      refine aops_skip (want_no rfl rfl rfl hg2 rfl) ?_
      refine aops_skip (want_no rfl rfl rfl hg2 rfl) ?_
      refine aops_skip (want_no rfl rfl rfl hg2 rfl) ?_
      refine aops_skip (want_no rfl rfl rfl hg2 rfl) ?_
      refine aops_val (av_pick_bool (congrArg Value.bool hg2) (by first | assumption | rfl)) ?_
      refine ac_cond_false rfl rfl ?_
      refine ac_skip ?_
      refine ac_region (by kernel_rfl) ?_
      first | refine aops_val (av_add64 (by first | assumption | rfl) (by first | assumption | rfl) t_fits) ?_ | refine aops_val (av_add (by first | assumption | rfl) (by first | assumption | rfl)) ?_
      first | refine aops_val (av_move_int rfl) ?_ | refine aops_val (av_move rfl) ?_
      first
        | (rw [← hstep] at hown6
           exact ⟨xs.length - (i + 1), by omega, i + 1, G6, B', c', by omega, rfl, Hp.le_trans (Hp.le_push' hleE _) hle6, hown6, e1, e2, by rw [hstep]; rfl, e10, e11, rfl⟩)
        | (have hin : withinL [xs[i]] fs ts = [] := by unfold withinL; simp_all
           have hstep : withinL (xs.take (i + 1)) fs ts = withinL (xs.take i) fs ts := by rw [← List.append_nil (withinL (xs.take i) fs ts), ← hin]; unfold withinL; rw [← List.filter_append, take_next hix]
           refine ⟨xs.length - (i + 1), by omega, i + 1, _, B, c5, by omega, rfl, hleE, by rw [hstep]; exact hownE, e1, e2, by rw [hstep]; exact e7, e10, e11, rfl⟩)
  · intro hc1
    (try simp only [decide_eq_true_eq, decide_eq_false_iff_not, Bool.not_eq_true', Bool.not_eq_false'] at hc1)
    refine ac_exit ?_
    refine ac_seq ?_
    rw [List.take_of_length_le (by omega)] at hown e7
    refine ac_region (by kernel_rfl) ?_
    first | refine aops_val (av_move_sl (by first | assumption | rfl)) ?_ | refine aops_val (av_move (by first | assumption | rfl)) ?_
    first | refine aops_val (av_assign_sl rfl) ?_ | refine aops_val (av_assign rfl) ?_
    refine ac_ret ?_
    exact ⟨_, aresult1 (ares_tmp rfl), G, hle, hown⟩
end Go.Proofs.Ytcaeoebphfjfiaa.Am


/- Parts in memory of one's own, written in place. -/
namespace Go.Proofs.Ytcaeoebphfjfiaa.Am
open Go Go.RowKit
set_option maxRecDepth 100000
set_option linter.unusedVariables false
set_option linter.unusedSimpArgs false

/-- Whatever comes, as long as all that is there stays. -/
theorem OwnP.after {G H H1 : Hp} {v : Value} {xs : List (List Link)} (h : OwnP (kSl kLink) G H v xs) (hle : H.le H1) : ∃ G1, G.le G1 ∧ OwnP (kSl kLink) G1 H1 v xs ∧ ∀ (r : Value) (ys : List Link), Sl kLink H1 r ys → Sl kLink G1 r ys := by
  rcases h with ⟨rfl, rfl, rfl⟩ | ⟨b, cs, c, rfl, hb, hd, rfl, hcap, he⟩
  · exact ⟨H1, hle, .inl ⟨rfl, rfl, rfl⟩, fun _ _ h => h⟩
  · have hg : H1.get b = .own 1 cs := by
      rw [hle.2 b (by simpa using hb) (by rw [Hp.put_same]; intro e; cases e), Hp.put_same]; rfl
    have hle1 : G.le (H1.put b .dead) := ⟨by have := hle.1; simpa using this, fun i hi hn => by
      have hne : i ≠ b := fun e => by subst e; exact hn hd
      rw [Hp.put_other _ _ hne, hle.2 i (by simpa using hi) (by rw [Hp.put_other _ _ hne]; exact hn), Hp.put_other _ _ hne]⟩
    refine ⟨H1.put b .dead, hle1, .inr ⟨b, cs, c, rfl, by have := hle.1; simp at *; omega, Hp.put_same _ _ _, by rw [Hp.put_put]; exact (Hp.put_self _ hg).symm, hcap, he.mono hle1.sees⟩, fun r ys h => h.links_put hg _⟩
/-- Two rows of lists of one's own. -/
def PartsP (G H : Hp) (N L : Value) (ns ls : List (List Link)) : Prop := ∃ Gm, OwnP (kSl kLink) G Gm N ns ∧ OwnP (kSl kLink) Gm H L ls
theorem PartsP.swap {G H : Hp} {N L : Value} {ns ls : List (List Link)} (h : PartsP G H N L ns ls) : PartsP G H L N ls ns := by
  obtain ⟨Gm, h1, h2⟩ := h
  rcases h1 with ⟨rfl, rfl, rfl⟩ | ⟨b, cs, c, rfl, hb, hd, rfl, hcap, he⟩
  · exact ⟨H, h2, .inl ⟨rfl, rfl, rfl⟩⟩
  · rcases h2 with ⟨rfl, rfl, rfl⟩ | ⟨b2, cs2, c2, rfl, hb2, hd2, rfl, hcap2, he2⟩
    · exact ⟨G, .inl ⟨rfl, rfl, rfl⟩, .inr ⟨b, cs, c, rfl, hb, hd, rfl, hcap, he⟩⟩
    · have hne : b2 ≠ b := fun e => by subst e; rw [Hp.put_same] at hd2; cases hd2
      have hd2' : G.get b2 = .dead := by rw [Hp.put_other _ _ hne] at hd2; exact hd2
      have he2' : Els (kSl kLink) G ls cs2 := by
        have := he2.lists_put (Hp.put_same _ _ _) .dead
        rw [Hp.put_put, Hp.put_self _ hd] at this
        exact this
      exact ⟨G.put b2 (.own 1 cs2), .inr ⟨b2, cs2, c2, rfl, by simpa using hb2, hd2', rfl, hcap2, he2'⟩, .inr ⟨b, cs, c, rfl, by simpa using hb, by rw [Hp.put_other _ _ (Ne.symm hne)]; exact hd, Hp.put_comm _ (Ne.symm hne) _ _, hcap, he.mono (G.le_put hd2' _).sees⟩⟩
theorem PartsP.slL {G H : Hp} {N L : Value} {ns ls : List (List Link)} (h : PartsP G H N L ns ls) : Sl (kSl kLink) H L ls := let ⟨_, _, h2⟩ := h; h2.sl
theorem PartsP.slN {G H : Hp} {N L : Value} {ns ls : List (List Link)} (h : PartsP G H N L ns ls) : Sl (kSl kLink) H N ns := h.swap.slL
theorem PartsP.le {G H : Hp} {N L : Value} {ns ls : List (List Link)} (h : PartsP G H N L ns ls) : G.le H := let ⟨_, h1, h2⟩ := h; Hp.le_trans h1.le h2.le
theorem PartsP.size {G H : Hp} {N L : Value} {ns ls : List (List Link)} (h : PartsP G H N L ns ls) : H.size = G.size := let ⟨_, h1, h2⟩ := h; h2.size.trans h1.size
theorem PartsP.after {G H H1 : Hp} {N L : Value} {ns ls : List (List Link)} (h : PartsP G H N L ns ls) (hle : H.le H1) : ∃ G1, G.le G1 ∧ PartsP G1 H1 N L ns ls := by
  obtain ⟨Gm, h1, h2⟩ := h
  obtain ⟨Gm1, k1, k2, _⟩ := h2.after hle
  obtain ⟨G1, k3, k4, _⟩ := h1.after k1
  exact ⟨G1, k3, Gm1, k4, k2⟩
theorem PartsP.box_put {G H : Hp} {N L : Value} {ns ls : List (List Link)} (h : PartsP G H N L ns ls) {b : Nat} {cs : List Value} (hb : b < G.size) (hg : G.get b = .own 0 cs) (ds : List Value) : PartsP (G.put b (.own 0 ds)) (H.put b (.own 0 ds)) N L ns ls := by
  obtain ⟨Gm, h1, h2⟩ := h
  have hg1 := le_got h1.le hb (by intro e; cases e) hg
  exact ⟨_, h1.box_put hg ds, h2.box_put hg1 ds⟩
/-- Where a row of one's own lies, and an element. -/
theorem OwnP.spot {G H : Hp} {v : Value} {xs : List (List Link)} (h : OwnP (kSl kLink) G H v xs) {i : Nat} (hi : i < xs.length) : ∃ b c cs w, v = .slice (some ⟨b, 0, none⟩) xs.length c ∧ b < H.size ∧ H.get b = .own 1 cs ∧ H.cell? b (0 + (i : Int).toNat * 1) = some w ∧ i < cs.length ∧ Sl kLink H w xs[i] := by
  rcases h with ⟨rfl, rfl, rfl⟩ | ⟨b, cs, c, rfl, hb, hd, rfl, hcap, he⟩
  · simp at hi
  · obtain ⟨d, ⟨w, rfl, hw⟩, hc⟩ := he.2 i xs[i] (List.getElem?_eq_getElem hi)
    have h1 := hc 0 w rfl
    have hw' := hw.mono (G.le_put hd (.own (kSl kLink).sz cs)).sees
    refine ⟨b, c, cs, w, rfl, by simpa using hb, Hp.put_same _ _ _, ?_, ?_, hw'⟩
    · rw [cell_put_new]
      simpa [kSl] using h1
    · have := (List.getElem?_eq_some_iff.1 h1).1
      simpa [kSl] using this
theorem PartsP.spotL {G H : Hp} {N L : Value} {ns ls : List (List Link)} (h : PartsP G H N L ns ls) {i : Nat} (hi : i < ls.length) : ∃ b c cs w, L = .slice (some ⟨b, 0, none⟩) ls.length c ∧ b < H.size ∧ H.get b = .own 1 cs ∧ H.cell? b (0 + (i : Int).toNat * 1) = some w ∧ i < cs.length ∧ Sl kLink H w ls[i] := let ⟨_, _, h2⟩ := h; h2.spot hi
theorem PartsP.spotN {G H : Hp} {N L : Value} {ns ls : List (List Link)} (h : PartsP G H N L ns ls) {i : Nat} (hi : i < ns.length) : ∃ b c cs w, N = .slice (some ⟨b, 0, none⟩) ns.length c ∧ b < H.size ∧ H.get b = .own 1 cs ∧ H.cell? b (0 + (i : Int).toNat * 1) = some w ∧ i < cs.length ∧ Sl kLink H w ns[i] := h.swap.spotL hi
/-- One list is written. -/
theorem PartsP.storeL {G H H1 : Hp} {N : Value} {b o n c : Nat} {ns ls : List (List Link)} (h : PartsP G H N (.slice (some ⟨b, o, none⟩) n c) ns ls) (hle : H.le H1) {r : Value} {ys : List Link} (hr : Sl kLink H1 r ys) {i off : Nat} (hi : i < ls.length) {st : Nat} {cs0 : List Value} (hg : H1.get b = .own st cs0) (ho : off = i * 1) :
    ∃ G1, G.le G1 ∧ PartsP G1 (H1.put b (.own st (setR cs0 off [r]))) N (.slice (some ⟨b, o, none⟩) n c) ns (ls.set i ys) := by
  obtain ⟨Gm, h1, h2⟩ := h
  obtain ⟨Gm1, k1, k2, k3⟩ := h2.after hle
  obtain ⟨G1, k4, k5, _⟩ := h1.after k1
  exact ⟨G1, k4, Gm1, k5, k2.store hg hi (x := ys) ⟨r, rfl, k3 r ys hr⟩ ho⟩
theorem PartsP.storeN {G H H1 : Hp} {L : Value} {b o n c : Nat} {ns ls : List (List Link)} (h : PartsP G H (.slice (some ⟨b, o, none⟩) n c) L ns ls) (hle : H.le H1) {r : Value} {ys : List Link} (hr : Sl kLink H1 r ys) {i off : Nat} (hi : i < ns.length) {st : Nat} {cs0 : List Value} (hg : H1.get b = .own st cs0) (ho : off = i * 1) :
    ∃ G1, G.le G1 ∧ PartsP G1 (H1.put b (.own st (setR cs0 off [r]))) (.slice (some ⟨b, o, none⟩) n c) L (ns.set i ys) ls := by
  obtain ⟨G1, k1, k2⟩ := h.swap.storeL hle hr hi hg ho
  exact ⟨G1, k1, k2.swap⟩
theorem lists_links (xs : List (List Link)) (v : Value) (H : Hp) (hs : Sl (kSl kLink) H v xs) (hl : xs.length ≤ 1000000) (hx : ∀ l ∈ xs, l.length ≤ 1000000) :
    ACalls Try.prog 107 #[v] H (fun r H' => ∃ G', H.le G' ∧ OwnP (kSl kLink) G' H' r xs) := by
  obtain ⟨A, c, rfl⟩ := hs.shape
  refine acalls_of_code Try.func107 rfl rfl rfl (by simp) ?_
  refine ac_seq ?_
  refine ac_region (by kernel_rfl) ?_
  first | refine aops_val (av_assign_sl rfl) ?_ | refine aops_val (av_assign rfl) ?_
  refine ac_seq ?_
  refine ac_region (by kernel_rfl) ?_
  first | refine aops_val (av_assign_sl rfl) ?_ | refine aops_val (av_assign rfl) ?_
  refine ac_seq ?_
  refine ac_seq ?_
  refine ac_region (by kernel_rfl) ?_
  first | refine aops_val (av_move_sl rfl) ?_ | refine aops_val (av_move rfl) ?_
  refine aops_val (av_len rfl Try.underlying27) ?_
  first | refine aops_val (av_move_int rfl) ?_ | refine aops_val (av_move rfl) ?_
  refine ac_block ?_
  refine ac_loop (fun n t H' => ∃ (i : Nat) (G : Hp) (B : Option Addr) (c5 : Nat), i ≤ xs.length ∧ n = xs.length - i ∧ H.le G ∧ OwnP (kSl kLink) G H' (.slice B i c5) (xs.take i) ∧ t 3 = .slice B i c5 ∧ t 6 = .slice A xs.length c ∧ t 7 = .int .i64 xs.length ∧ t 8 = .int .i64 i) (xs.length) (⟨0, H, _, _, by omega, rfl, Hp.le_refl _, OwnP.nil _ _, rfl, rfl, rfl, rfl⟩) ?_
  rintro n t H1 ⟨i, G, B, c5, hi, rfl, hle, hown, e3, e6, e7, e8⟩
  have hz := hown.size
  have hlen : (xs.take i).length = i := by rw [List.length_take]; omega
  refine ac_seq ?_
  refine ac_region (by kernel_rfl) ?_
  refine aops_val (av_lt (by first | assumption | rfl) (by first | assumption | rfl)) ?_
  refine ac_seq ?_
  refine ac_split rfl rfl ?_ ?_
  · intro hc1
    (try simp only [decide_eq_true_eq, decide_eq_false_iff_not, Bool.not_eq_true', Bool.not_eq_false'] at hc1)
    refine ac_skip ?_
    refine ac_seq ?_
    refine ac_block ?_
    refine ac_seq ?_
    refine ac_region (by kernel_rfl) ?_
    have hix : i < xs.length := by omega
    obtain ⟨b, o, ks, eB, hb, ⟨w0, rfl, hw0⟩, hcell0⟩ := (hs.mono hle.sees).elem_at hix
    subst eB
    have hcell0' := (hown.le.cells hb hcell0).one
    obtain ⟨A6, c6, rfl⟩ := hw0.shape
    refine aops_val (av_indexAddr (by first | assumption | rfl) (by first | assumption | rfl) Try.underlying27 inf50.size t_idx t_idx) ?_
    refine aops_val (av_load1 rfl Try.underlying50 rfl t_cell) ?_
    first | refine aops_val (av_assign_sl rfl) ?_ | refine aops_val (av_assign rfl) ?_
    refine ac_region (by kernel_rfl) ?_
    first | refine aops_val (av_move_sl (by first | assumption | rfl)) ?_ | refine aops_val (av_move (by first | assumption | rfl)) ?_
    first | refine aops_val (av_move_sl rfl) ?_ | refine aops_val (av_move rfl) ?_
    refine aops_op (aop_call (hown.calls (Clone_links xs[i] _ _ hw0 (hx _ (List.getElem_mem hix))) (fun r G' ⟨G2, a, b⟩ => Hp.le_trans a b.le)) rfl Try.func52 rfl rfl rfl ?_)
    rintro v5 H5 ⟨G5, ⟨G50, hle50, hown50⟩, hown5, hleH5⟩; have hs5 := hown50.sl; have hle5 := Hp.le_trans hle50 hown50.le; obtain ⟨A5, c50, rfl⟩ := hs5.shape
    first | refine aops_make (am_buildSlice (r := [.slice _ _ _]) Try.underlying27 inf50.size inf50.zero rfl (by decide) (by decide) (by decide) rfl) ?_ | refine aops_make (am_buildSlice (r := [_]) Try.underlying27 inf50.size inf50.zero rfl (by decide) (by decide) (by decide) rfl) ?_
    refine aops_op (OwnP.append (ys := [xs[i]]) (hown5.push _) Try.underlying27 inf50 rfl rfl rfl (sl_one (k := kSl kLink) ⟨_, rfl, hs5⟩ rfl hown5.size rfl) (by rw [hlen]; simp only [List.length_singleton]; omega) (by rw [hlen]; simp only [List.length_singleton]; omega) ?_)
    rintro v6 G6 H6 hle6 hown6
    obtain ⟨B', c', e6⟩ := hown6.shape
    rw [List.length_append, hlen, List.length_singleton] at e6
    subst e6
    first | refine aops_val (av_assign_sl rfl) ?_ | refine aops_val (av_assign rfl) ?_
    refine ac_region (by kernel_rfl) ?_
    first | refine aops_val (av_add64 (by first | assumption | rfl) (by first | assumption | rfl) t_fits) ?_ | refine aops_val (av_add (by first | assumption | rfl) (by first | assumption | rfl)) ?_
    first | refine aops_val (av_move_int rfl) ?_ | refine aops_val (av_move rfl) ?_
    rw [take_next hix] at hown6
    exact ⟨xs.length - (i + 1), by omega, i + 1, G6, B', c', by omega, rfl, Hp.le_trans (Hp.le_push' (Hp.le_trans hle hle5) _) hle6, hown6, rfl, e6, e7, rfl⟩
  · intro hc1
    (try simp only [decide_eq_true_eq, decide_eq_false_iff_not, Bool.not_eq_true', Bool.not_eq_false'] at hc1)
    refine ac_exit ?_
    refine ac_seq ?_
    rw [List.take_of_length_le (by omega)] at hown
    refine ac_region (by kernel_rfl) ?_
    first | refine aops_val (av_move_sl (by first | assumption | rfl)) ?_ | refine aops_val (av_move (by first | assumption | rfl)) ?_
    first | refine aops_val (av_assign_sl rfl) ?_ | refine aops_val (av_assign rfl) ?_
    refine ac_ret ?_
    exact ⟨_, aresult1 (ares_tmp rfl), G, hle, hown⟩
theorem Own_parts (p : Parts) (ds : List Value) (H : Hp) (hq : kParts.rep H p ds) (h1 : p.nodes.length ≤ 1000000) (h2 : p.links.length ≤ 1000000) (h3 : ∀ l ∈ p.nodes, l.length ≤ 1000000) (h4 : ∀ l ∈ p.links, l.length ≤ 1000000) :
    ACalls Try.prog 101 #[.agg ds.toArray] H (fun r H' => ∃ G' N L, H.le G' ∧ r = .agg #[N, L] ∧ PartsP G' H' N L p.nodes p.links) := by
  obtain ⟨u0, u1, rfl, hn0, hn1⟩ := hq
  obtain ⟨B0, d0, rfl⟩ := hn0.shape
  obtain ⟨B1, d1, rfl⟩ := hn1.shape
  refine acalls_of_code Try.func101 rfl rfl rfl (by simp) ?_
  refine ac_seq ?_
  refine ac_region (by kernel_rfl) ?_
  refine aops_make (am_box_agg rfl) ?_
  refine aops_make (am_zero (l := [.slice none 0 0, .slice none 0 0]) inf29.zero rfl (by decide)) ?_
  refine ac_seq ?_
  refine ac_draw (by kernel_rfl) (reg_of (B := [0, 1, 3, 0, 8, 31, 63, 127]) (π := [0, 1, 3, 4, 2, 5, 6, 7]) (by kernel_rfl)) ?_
  refine adr_val rfl rfl (av_fieldOff (off := 0) rfl Try.underlying29 rfl inf27.size (by decide) rfl) t_lt ?_
  refine adr_val rfl rfl (av_load1 rfl Try.underlying27 rfl t_cell) t_lt ?_
  refine adr_val rfl rfl (av_fieldOff (off := 1) rfl Try.underlying29 rfl inf27.size (by decide) rfl) t_lt ?_
  refine adr_val rfl rfl (av_load1 rfl Try.underlying27 rfl t_cell) t_lt ?_
  refine adr_op rfl rfl (aop_call (lists_links p.nodes _ _ (hn0.mono t_sees) h1 h3) rfl Try.func107 rfl rfl rfl ?_)
  rintro v5 H5 ⟨G5, hle5, hown5⟩; have hleC5 := Hp.le_trans hle5 hown5.le; have hzC5 := hleC5.1; simp only [Hp.push_size] at hzC5; obtain ⟨A5, c5, rfl⟩ := hown5.shape
  refine ⟨t_pend, ?_⟩
  refine adr_op rfl rfl (aop_call (lists_links p.links _ _ (hn1.mono t_sees) h2 h4) rfl Try.func107 rfl rfl rfl ?_)
  rintro v6 H6 ⟨G6, hle6, hown6⟩; have hleC6 := Hp.le_trans hle6 hown6.le; have hzC6 := hleC6.1; obtain ⟨A6, c6, rfl⟩ := hown6.shape
  refine ⟨t_pend, ?_⟩
  first | refine adr_val rfl rfl (av_build (pl := [(0, 1), (1, 1)]) (r := [.slice _ _ _, .slice _ _ _]) Try.underlying29 inf29.zero (by decide) rfl rfl) t_lt ?_ | refine adr_val rfl rfl (av_build (pl := [(0, 1), (1, 1)]) (r := [_, _]) Try.underlying29 inf29.zero (by decide) rfl rfl) t_lt ?_
  first | refine adr_op rfl rfl (aop_putN (vs := [.slice _ _ _, .slice _ _ _]) rfl rfl inf29.size t_get t_room rfl rfl ?_) | refine adr_op rfl rfl (aop_putN (vs := [_, _]) rfl rfl inf29.size t_get t_room rfl rfl ?_)
  refine ⟨t_pend, ?_⟩
  refine ac_ret ?_
  obtain ⟨G7, hle7, hown7, _⟩ := hown5.after hle6
  have kb := le_got (Hp.le_trans hle5 hle7) (by simp) (by intro e; cases e) ((Hp.push_new (H.push (.own 0 [.slice B0 p.nodes.length d0, .slice B1 p.links.length d1])) (.own 0 [.slice none 0 0, .slice none 0 0])))
  have hpp : PartsP G7 H6 (.slice A5 p.nodes.length c5) (.slice A6 p.links.length c6) p.nodes p.links := ⟨G6, hown7, hown6⟩
  have hz7 := (Hp.le_trans hle5 hle7).1
  simp only [Hp.push_size] at hz7 kb
  exact ⟨_, aresult1 (ares_cell rfl (aload_agg (cs := [.slice A5 p.nodes.length c5, .slice A6 p.links.length c6]) Try.underlying29 rfl inf29.size t_cells)), _, _, _, Hp.le_put_new (Hp.le_trans (Hp.le_push' (H.le_push _) _) (Hp.le_trans hle5 hle7)) (by omega) _, rfl, hpp.box_put (by omega) kb _⟩
end Go.Proofs.Ytcaeoebphfjfiaa.Am


/- Ends of links: in order, just those that there are. -/
namespace Go.Proofs.Ytcaeoebphfjfiaa.Am
open Go Go.RowKit
set_option maxRecDepth 100000
set_option linter.unusedVariables false
set_option linter.unusedSimpArgs false

theorem compact_sub (xs : List Int) : (Lib.compact xs).Sublist xs := by
  have h : ((List.range xs.length).map fun i => xs.toArray[i]!) = xs := by
    apply List.ext_getElem
    · simp
    · intro i h1 h2
      simp at h1 ⊢
      rw [List.getElem?_eq_getElem h2]; rfl
  have : (Lib.compact xs).Sublist ((List.range xs.length).map fun i => xs.toArray[i]!) := by
    unfold Lib.compact Lib.compactUpTo
    exact List.filter_sublist.map _
  rwa [h] at this
theorem compact_mem {xs : List Int} {x : Int} : x ∈ Lib.compact xs ↔ x ∈ xs := by
  refine ⟨fun h => (compact_sub xs).subset h, fun h => ?_⟩
  have key : ∀ i (hi : i < xs.length), xs[i] ∈ Lib.compact xs := by
    intro i
    induction i with
    | zero =>
      intro hi
      unfold Lib.compact Lib.compactUpTo
      refine List.mem_map.2 ⟨0, List.mem_filter.2 ⟨List.mem_range.2 hi, by simp [Lib.keeps]⟩, ?_⟩
      simp [List.getElem?_eq_getElem hi]
    | succ i ih =>
      intro hi
      have h0 := ih (by omega)
      by_cases he : xs[i + 1] = xs[i]
      · rw [he]; exact h0
      · unfold Lib.compact Lib.compactUpTo
        refine List.mem_map.2 ⟨i + 1, List.mem_filter.2 ⟨List.mem_range.2 hi, ?_⟩, ?_⟩
        · unfold Lib.keeps
          simp [List.getElem?_eq_getElem hi, List.getElem?_eq_getElem (by omega : i < xs.length), he]
        · simp [List.getElem?_eq_getElem hi]
  obtain ⟨i, hi, rfl⟩ := List.getElem_of_mem h
  exact key i hi
theorem endsL_sorted (xs : List Link) (second : Bool) : (endsL xs second).Pairwise (· ≤ ·) := by
  unfold endsL
  refine List.Pairwise.sublist (compact_sub _) ?_
  have := List.pairwise_mergeSort (le := fun x y : Int => decide (x ≤ y)) (fun a b c h1 h2 => by simp at *; omega) (fun a b => by simp; omega) (xs.map fun x => if second then x.b else x.a)
  exact this.imp fun h => by simpa using h
theorem endsL_mem {xs : List Link} {second : Bool} {n : Int} : n ∈ endsL xs second ↔ ∃ x ∈ xs, (if second then x.b else x.a) = n := by
  unfold endsL
  rw [compact_mem, List.mem_mergeSort, List.mem_map]
theorem endsL_len (xs : List Link) (second : Bool) : (endsL xs second).length ≤ xs.length := by
  unfold endsL
  have h1 := (compact_sub ((xs.map fun x => if second then x.b else x.a).mergeSort fun x y => decide (x ≤ y))).length_le
  rw [List.length_mergeSort, List.length_map] at h1
  exact h1
theorem withinL_len (xs : List Link) (fs ts : List Int) : (withinL xs fs ts).length ≤ xs.length := List.length_filter_le _ _
end Go.Proofs.Ytcaeoebphfjfiaa.Am


/- Good parts, as the document judges them; whether two are one. -/
namespace Go.Proofs.Ytcaeoebphfjfiaa.Am
open Go Go.RowKit
set_option maxRecDepth 100000
set_option linter.unusedVariables false
set_option linter.unusedSimpArgs false

end Go.Proofs.Ytcaeoebphfjfiaa.Am


/- The steps of reducing. -/
namespace Go.Proofs.Ytcaeoebphfjfiaa.Am
open Go Go.RowKit
set_option maxRecDepth 100000
set_option linter.unusedVariables false
set_option linter.unusedSimpArgs false

theorem ends_parts (ns : List (List Link)) (A AL : Option Addr) (c nL cL : Nat) (v : Nat) (H : Hp) (hN : Sl (kSl kLink) H (.slice A ns.length c) ns) (hv : v < ns.length) (hx : ∀ l ∈ ns, l.length ≤ 1000000) :
    ACalls Try.prog 109 #[.agg #[.slice A ns.length c, .slice AL nL cL], .int .i64 v] H (fun r H' => ∃ G', H.le G' ∧ OwnP (kInt .i64) G' H' r (endsL ns[v] false)) := by
  obtain ⟨b, o, ks, eB, hb, ⟨w0, rfl, hw0⟩, hcell0⟩ := hN.elem_at hv
  subst eB
  have hcell0' := hcell0.one
  obtain ⟨A6, c6, rfl⟩ := hw0.shape
  refine acalls_of_code Try.func109 rfl rfl rfl (by simp) ?_
  refine ac_seq ?_
  refine ac_region (by kernel_rfl) ?_
  refine aops_make (am_box_agg rfl) ?_
  first | refine aops_val (av_assign_sl rfl) ?_ | refine aops_val (av_assign rfl) ?_
  refine ac_seq ?_
  refine ac_region (by kernel_rfl) ?_
  refine aops_val (av_fieldOff (off := 0) rfl Try.underlying29 rfl inf27.size (by decide) rfl) ?_
  refine aops_val (av_load1 rfl Try.underlying27 rfl t_cell) ?_
  first | refine aops_val (av_move_int rfl) ?_ | refine aops_val (av_move rfl) ?_
  refine aops_val (av_indexAddr rfl rfl Try.underlying27 inf50.size t_idx t_idx) ?_
  refine aops_val (av_load1 rfl Try.underlying50 rfl t_cell) ?_
  refine aops_op (aop_call (Ends_links ns[v] _ false _ (hw0.mono t_sees) (hx _ (List.getElem_mem hv))) rfl Try.func104 rfl rfl rfl ?_)
  rintro v5 H5 ⟨G5, hle5, hown5⟩; have hle5' := Hp.le_trans (H.le_push _) hle5
  first | refine aops_val (av_assign_sl rfl) ?_ | refine aops_val (av_assign rfl) ?_
  refine ac_ret ?_
  exact ⟨_, aresult1 (ares_tmp rfl), G5, hle5', hown5⟩
def linksStep (ns ls : List (List Link)) (v u : Nat) : List (List Link) := ls.set v (withinL (ls.getD v []) (endsL (ns.getD u []) false) (endsL (ns.getD v []) false))
theorem links_parts (ns ls : List (List Link)) (N L : Value) (v u : Nat) (G H : Hp) (hp : PartsP G H N L ns ls) (hl : ns.length = ls.length) (hv : v < ls.length) (hu : u < ls.length) (hx : ∀ l ∈ ns, l.length ≤ 1000000) (hy : ∀ l ∈ ls, l.length ≤ 1000000) :
    ACalls Try.prog 102 #[.agg #[N, L], .int .i64 v, .int .i64 u] H (fun r H' => ∃ G', G.le G' ∧ PartsP G' H' N L ns (linksStep ns ls v u) ∧ r = .tuple #[]) := by
  obtain ⟨b, cL, cs, w0, rfl, hb, hgb, hcell0', hcs, hw0⟩ := hp.spotL hv
  have hN := hp.slN
  obtain ⟨A, c, rfl⟩ := hN.shape
  obtain ⟨A6, c6, rfl⟩ := hw0.shape
  have gv : ls.getD v [] = ls[v] := getD_list hv
  have gn : ns.getD v [] = ns[v] := getD_list (by omega)
  have gu : ns.getD u [] = ns[u] := getD_list (by omega)
  refine acalls_of_code Try.func102 rfl rfl rfl (by simp) ?_
  refine ac_seq ?_
  refine ac_region (by kernel_rfl) ?_
  refine aops_make (am_box_agg rfl) ?_
  refine ac_draw (by kernel_rfl) (reg_of (B := [0, 1, 0, 0, 8, 0, 56, 120, 0, 0, 768, 0, 0, 7936, 16376, 32767, 65535]) (π := [0, 1, 2, 3, 4, 5, 6, 7, 8, 9, 11, 12, 10, 13, 14, 15, 16]) (by kernel_rfl)) ?_
  refine adr_val rfl rfl (av_fieldOff (off := 1) rfl Try.underlying29 rfl inf27.size (by decide) rfl) t_lt ?_
  refine adr_val rfl rfl (av_load1 rfl Try.underlying27 rfl t_cell) t_lt ?_
  first | refine adr_val rfl rfl (av_move_int rfl) t_lt ?_ | refine adr_val rfl rfl (av_move rfl) t_lt ?_
  refine adr_val rfl rfl (av_fieldOff (off := 1) rfl Try.underlying29 rfl inf27.size (by decide) rfl) t_lt ?_
  refine adr_val rfl rfl (av_load1 rfl Try.underlying27 rfl t_cell) t_lt ?_
  first | refine adr_val rfl rfl (av_move_int rfl) t_lt ?_ | refine adr_val rfl rfl (av_move rfl) t_lt ?_
  refine adr_val rfl rfl (av_indexAddr rfl rfl Try.underlying27 inf50.size t_idx t_idx) t_lt ?_
  refine adr_val rfl rfl (av_load1 rfl Try.underlying50 rfl t_cell) t_lt ?_
  first | refine adr_val rfl rfl (av_loadN (cs := [.slice _ _ _, .slice _ _ _]) rfl Try.underlying29 rfl inf29.size t_cells) t_lt ?_ | refine adr_val rfl rfl (av_loadN (cs := [_, _]) rfl Try.underlying29 rfl inf29.size t_cells) t_lt ?_
  first | refine adr_val rfl rfl (av_move_int rfl) t_lt ?_ | refine adr_val rfl rfl (av_move rfl) t_lt ?_
  first | refine adr_val rfl rfl (av_loadN (cs := [.slice _ _ _, .slice _ _ _]) rfl Try.underlying29 rfl inf29.size t_cells) t_lt ?_ | refine adr_val rfl rfl (av_loadN (cs := [_, _]) rfl Try.underlying29 rfl inf29.size t_cells) t_lt ?_
  first | refine adr_val rfl rfl (av_move_int rfl) t_lt ?_ | refine adr_val rfl rfl (av_move rfl) t_lt ?_
  refine adr_op rfl rfl (aop_call (ends_parts ns A _ c _ _ u _ (hN.mono t_sees) (by omega) hx) rfl Try.func109 rfl rfl rfl ?_)
  rintro v5 H5 ⟨G5, hle5, hown5⟩; have hleC5 := Hp.le_trans hle5 hown5.le; have hzC5 := hleC5.1; simp only [Hp.push_size] at hzC5; obtain ⟨A5, c5, rfl⟩ := hown5.shape
  refine ⟨t_pend, ?_⟩
  refine adr_op rfl rfl (aop_call (ends_parts ns A _ c _ _ v _ (hN.mono t_sees) (by omega) hx) rfl Try.func109 rfl rfl rfl ?_)
  rintro v6 H6 ⟨G6, hle6, hown6⟩; have hleC6 := Hp.le_trans hle6 hown6.le; have hzC6 := hleC6.1; obtain ⟨A7, c7, rfl⟩ := hown6.shape
  refine ⟨t_pend, ?_⟩
  refine adr_op rfl rfl (aop_call (Within_links ls[v] (endsL ns[u] false) (endsL ns[v] false) _ _ _ _ (hw0.mono t_sees) (hown5.sl.mono t_sees) hown6.sl (hy _ (List.getElem_mem hv)) (by have := endsL_len ns[u] false; have := hx _ (List.getElem_mem (by omega : u < ns.length)); omega) (by have := endsL_len ns[v] false; have := hx _ (List.getElem_mem (by omega : v < ns.length)); omega) (endsL_sorted _ _) (endsL_sorted _ _)) rfl Try.func108 rfl rfl rfl ?_)
  rintro v8 H8 ⟨G8, hle8, hown8⟩; have hleC8 := Hp.le_trans hle8 hown8.le; have hzC8 := hleC8.1; obtain ⟨A9, c9, rfl⟩ := hown8.shape
  refine ⟨t_pend, ?_⟩
  refine adr_val rfl rfl (av_indexAddr rfl rfl Try.underlying27 inf50.size t_idx t_idx) t_lt ?_
  first | refine adr_op rfl rfl (aop_put1 rfl rfl rfl inf50.size t_get t_room rfl ?_)
  refine ⟨t_pend, ?_⟩
  have hleA : H.le H8 := Hp.le_trans (H.le_push _) (Hp.le_trans hleC5 (Hp.le_trans hleC6 hleC8))
  have hg8 : H8.get b = .own 1 cs := le_got hleA hb (by intro e; cases e) hgb
  obtain ⟨G9, hle9, hp9⟩ := hp.storeL hleA hown8.sl hv hg8 (off := 0 + (v : Int).toNat * 1) (by simp)
  rw [setR_one (by simp; omega)] at hp9
  unfold linksStep
  rw [gv, gn, gu]
  exact ⟨_, aresult0, G9, hle9, hp9, rfl⟩
def keepStep (ns : List (List Link)) (v : Nat) (l : List Int) : List (List Link) := ns.set v (withinL (ns.getD v []) l l)
theorem keep_parts (ns ls : List (List Link)) (N L : Value) (v : Nat) (l : List Int) (vl : Value) (G H : Hp) (hp : PartsP G H N L ns ls) (hv : v < ns.length) (hlv : Sl (kInt .i64) H vl l) (hll : l.length ≤ 1000000) (hlr : l.Pairwise (· ≤ ·)) (hx : ∀ l ∈ ns, l.length ≤ 1000000) :
    ACalls Try.prog 103 #[.agg #[N, L], .int .i64 v, vl] H (fun r H' => ∃ G', G.le G' ∧ PartsP G' H' N L (keepStep ns v l) ls ∧ r = .tuple #[]) := by
  obtain ⟨b, cN, cs, w0, rfl, hb, hgb, hcell0', hcs, hw0⟩ := hp.spotN hv
  have hL := hp.slL
  obtain ⟨AL, cL, rfl⟩ := hL.shape
  obtain ⟨A6, c6, rfl⟩ := hw0.shape
  obtain ⟨Al, cl, rfl⟩ := hlv.shape
  have gv : ns.getD v [] = ns[v] := getD_list hv
  refine acalls_of_code Try.func103 rfl rfl rfl (by simp) ?_
  refine ac_seq ?_
  refine ac_region (by kernel_rfl) ?_
  refine aops_make (am_box_agg rfl) ?_
  refine ac_draw (by kernel_rfl) (reg_of (B := [0, 1, 0, 0, 8, 0, 56, 120, 0, 0, 1016, 2047, 4095]) (π := [0, 1, 2, 3, 4, 5, 6, 7, 8, 9, 10, 11, 12]) (by kernel_rfl)) ?_
  refine adr_val rfl rfl (av_fieldOff (off := 0) rfl Try.underlying29 rfl inf27.size (by decide) rfl) t_lt ?_
  refine adr_val rfl rfl (av_load1 rfl Try.underlying27 rfl t_cell) t_lt ?_
  first | refine adr_val rfl rfl (av_move_int rfl) t_lt ?_ | refine adr_val rfl rfl (av_move rfl) t_lt ?_
  refine adr_val rfl rfl (av_fieldOff (off := 0) rfl Try.underlying29 rfl inf27.size (by decide) rfl) t_lt ?_
  refine adr_val rfl rfl (av_load1 rfl Try.underlying27 rfl t_cell) t_lt ?_
  first | refine adr_val rfl rfl (av_move_int rfl) t_lt ?_ | refine adr_val rfl rfl (av_move rfl) t_lt ?_
  refine adr_val rfl rfl (av_indexAddr rfl rfl Try.underlying27 inf50.size t_idx t_idx) t_lt ?_
  refine adr_val rfl rfl (av_load1 rfl Try.underlying50 rfl t_cell) t_lt ?_
  first | refine adr_val rfl rfl (av_move_sl rfl) t_lt ?_ | refine adr_val rfl rfl (av_move rfl) t_lt ?_
  first | refine adr_val rfl rfl (av_move_sl rfl) t_lt ?_ | refine adr_val rfl rfl (av_move rfl) t_lt ?_
  refine adr_op rfl rfl (aop_call (Within_links ns[v] l l _ _ _ _ (hw0.mono t_sees) (hlv.mono t_sees) (hlv.mono t_sees) (hx _ (List.getElem_mem hv)) hll hll hlr hlr) rfl Try.func108 rfl rfl rfl ?_)
  rintro v8 H8 ⟨G8, hle8, hown8⟩; have hleC8 := Hp.le_trans hle8 hown8.le; have hzC8 := hleC8.1; simp only [Hp.push_size] at hzC8; obtain ⟨A9, c9, rfl⟩ := hown8.shape
  refine ⟨t_pend, ?_⟩
  refine adr_val rfl rfl (av_indexAddr rfl rfl Try.underlying27 inf50.size t_idx t_idx) t_lt ?_
  first | refine adr_op rfl rfl (aop_put1 rfl rfl rfl inf50.size t_get t_room rfl ?_)
  refine ⟨t_pend, ?_⟩
  have hleA : H.le H8 := Hp.le_trans (H.le_push _) hleC8
  have hg8 : H8.get b = .own 1 cs := le_got hleA hb (by intro e; cases e) hgb
  obtain ⟨G9, hle9, hp9⟩ := hp.storeN hleA hown8.sl hv hg8 (off := 0 + (v : Int).toNat * 1) (by simp)
  rw [setR_one (by simp; omega)] at hp9
  unfold keepStep
  rw [gv]
  exact ⟨_, aresult0, G9, hle9, hp9, rfl⟩
end Go.Proofs.Ytcaeoebphfjfiaa.Am


/- What reducing does to parts, step by step. -/
namespace Go.Proofs.Ytcaeoebphfjfiaa.Am
open Go Go.RowKit
set_option maxRecDepth 100000
set_option linter.unusedVariables false
set_option linter.unusedSimpArgs false

structure Fits (n : Nat) (p : Parts) : Prop where
  n1 : p.nodes.length = n
  n2 : p.links.length = n
  s1 : ∀ l ∈ p.nodes, l.length ≤ 1000000
  s2 : ∀ l ∈ p.links, l.length ≤ 1000000
theorem getD_len {ns : List (List Link)} (h : ∀ l ∈ ns, l.length ≤ 1000000) (v : Nat) : (ns.getD v []).length ≤ 1000000 := by
  by_cases hv : v < ns.length
  · rw [getD_list hv]; exact h _ (List.getElem_mem hv)
  · rw [List.getD_eq_getElem?_getD, List.getElem?_eq_none (by omega)]; simp
theorem set_within {ns : List (List Link)} (h : ∀ l ∈ ns, l.length ≤ 1000000) (v : Nat) (fs ts : List Int) : ∀ l ∈ ns.set v (withinL (ns.getD v []) fs ts), l.length ≤ 1000000 := fun l hl => by
  rcases List.mem_or_eq_of_mem_set hl with hl | rfl
  · exact h l hl
  · exact Nat.le_trans (withinL_len _ _ _) (getD_len h v)
theorem linksStep_len (ns ls : List (List Link)) (v u : Nat) : (linksStep ns ls v u).length = ls.length := List.length_set
theorem keepStep_len (ns : List (List Link)) (v : Nat) (l : List Int) : (keepStep ns v l).length = ns.length := List.length_set
/-- One step up. -/
def upStep (f : Forest) (p : Parts) (v : Nat) : Parts :=
  if f.parent.getD v 0 = -1 then p else
    ⟨keepStep p.nodes (f.parent.getD v 0).toNat (endsL ((linksStep p.nodes p.links v (f.parent.getD v 0).toNat).getD v []) false), linksStep p.nodes p.links v (f.parent.getD v 0).toNat⟩
/-- One step down. -/
def downStep (f : Forest) (p : Parts) (v : Nat) : Parts :=
  if f.parent.getD v 0 = -1 then p else
    ⟨keepStep p.nodes v (endsL ((linksStep p.nodes p.links v (f.parent.getD v 0).toNat).getD v []) true), linksStep p.nodes p.links v (f.parent.getD v 0).toNat⟩
theorem Fits.up {n : Nat} {f : Forest} {p : Parts} (h : Fits n p) (v : Nat) : Fits n (upStep f p v) := by
  unfold upStep
  split
  · exact h
  · exact ⟨(keepStep_len _ _ _).trans h.n1, (linksStep_len _ _ _ _).trans h.n2, set_within h.s1 _ _ _, set_within h.s2 _ _ _⟩
theorem Fits.down {n : Nat} {f : Forest} {p : Parts} (h : Fits n p) (v : Nat) : Fits n (downStep f p v) := by
  unfold downStep
  split
  · exact h
  · exact ⟨(keepStep_len _ _ _).trans h.n1, (linksStep_len _ _ _ _).trans h.n2, set_within h.s1 _ _ _, set_within h.s2 _ _ _⟩
def upK (f : Forest) (p : Parts) (k : Nat) : Parts := (f.order.reverse.take k).foldl (fun p v => upStep f p v.toNat) p
def downK (f : Forest) (p : Parts) (k : Nat) : Parts := (f.order.take k).foldl (fun p v => downStep f p v.toNat) p
def upP (f : Forest) (p : Parts) : Parts := f.order.reverse.foldl (fun p v => upStep f p v.toNat) p
def downP (f : Forest) (p : Parts) : Parts := f.order.foldl (fun p v => downStep f p v.toNat) p
theorem upK_succ (f : Forest) (p : Parts) {k : Nat} (h : k < f.order.length) : upK f p (k + 1) = upStep f (upK f p k) (f.order[f.order.length - 1 - k]?.getD 0).toNat := by
  unfold upK
  rw [List.take_succ_eq_append_getElem (by simpa using h), List.foldl_append]
  simp only [List.foldl_cons, List.foldl_nil]
  rw [List.getElem_reverse, List.getElem?_eq_getElem (by omega)]
  rfl
theorem downK_succ (f : Forest) (p : Parts) {k : Nat} (h : k < f.order.length) : downK f p (k + 1) = downStep f (downK f p k) (f.order.getD k 0).toNat := by
  unfold downK
  rw [List.take_succ_eq_append_getElem h, List.foldl_append, getD_at h]
  rfl
theorem upK_all (f : Forest) (p : Parts) : upK f p f.order.length = upP f p := by
  unfold upK upP
  rw [List.take_of_length_le (by simp)]
theorem downK_all (f : Forest) (p : Parts) : downK f p f.order.length = downP f p := by
  unfold downK downP
  rw [List.take_of_length_le (Nat.le_refl _)]
theorem Fits.foldl {n : Nat} {p : Parts} {st : Parts → Int → Parts} (hs : ∀ p v, Fits n p → Fits n (st p v)) : ∀ (l : List Int) (p : Parts), Fits n p → Fits n (l.foldl st p)
  | [], _, h => h
  | v :: l, p, h => Fits.foldl (p := p) hs l _ (hs p v h)
theorem Fits.upK {n : Nat} {f : Forest} {p : Parts} (h : Fits n p) (k : Nat) : Fits n (upK f p k) := Fits.foldl (p := p) (fun p v h => h.up _) _ _ h
theorem Fits.downK {n : Nat} {f : Forest} {p : Parts} (h : Fits n p) (k : Nat) : Fits n (downK f p k) := Fits.foldl (p := p) (fun p v h => h.down _) _ _ h
theorem Fits.upP {n : Nat} {f : Forest} {p : Parts} (h : Fits n p) : Fits n (upP f p) := Fits.foldl (p := p) (fun p v h => h.up _) _ _ h
theorem Fits.downP {n : Nat} {f : Forest} {p : Parts} (h : Fits n p) : Fits n (downP f p) := Fits.foldl (p := p) (fun p v h => h.down _) _ _ h
theorem PartsP.push {G H : Hp} {N L : Value} {ns ls : List (List Link)} (h : PartsP G H N L ns ls) (x : Blk) : PartsP (G.push x) (H.push x) N L ns ls := let ⟨Gm, h1, h2⟩ := h; ⟨Gm.push x, h1.push x, h2.push x⟩
theorem PartsP.boxed {G H : Hp} {N L : Value} {ns ls : List (List Link)} (h : PartsP G H N L ns ls) (cs cs' : List Value) : PartsP ((G.push (.own 0 cs)).put H.size (.own 0 cs')) ((H.push (.own 0 cs)).put H.size (.own 0 cs')) N L ns ls := by
  have hz := h.size
  exact (h.push (.own 0 cs)).box_put (by simp; omega) (by rw [hz]; exact Hp.push_new _ _) cs'
theorem Backward_ints (v : Value) (H : Hp) (A : Option Addr) (n c : Nat) (hv : v = .slice A n c) : ACalls Try.prog 105 #[v] H (fun r H' => r = .func (.func 112) #[] #[.pointer (some ⟨H.size, 0, none⟩)] ∧ H' = H.push (.own 0 [v])) := by
  subst hv
  refine acalls_of_code Try.func105 rfl rfl rfl (by simp) ?_
  refine ac_seq ?_
  refine ac_region (by kernel_rfl) ?_
  refine aops_make (am_box_sl rfl) ?_
  first | refine aops_val (av_assign_func rfl) ?_ | refine aops_val (av_assign rfl) ?_
  refine ac_seq ?_
  refine ac_region (by kernel_rfl) ?_
  refine aops_val (av_makeFunc) ?_
  first | refine aops_val (av_assign_func rfl) ?_ | refine aops_val (av_assign rfl) ?_
  refine ac_ret ?_
  exact ⟨_, aresult1 (ares_tmp rfl), rfl, rfl⟩
end Go.Proofs.Ytcaeoebphfjfiaa.Am


/- Going up. -/
namespace Go.Proofs.Ytcaeoebphfjfiaa.Am
open Go Go.RowKit
set_option maxRecDepth 100000
set_option linter.unusedVariables false
set_option linter.unusedSimpArgs false

theorem GoodF.order_in {f : Forest} (h : GoodF f) {v : Int} (hv : v ∈ f.order) : 0 ≤ v ∧ v < f.vars.length := by
  obtain ⟨i, hi, rfl⟩ := List.getElem_of_mem hv
  have hl := h.l1
  have := h.ok i (by omega)
  rw [OkF, h.order_at (by omega)] at this
  exact ⟨this.1, this.2.1⟩
set_option maxHeartbeats 1000000 in
theorem up_parts (f : Forest) (p : Parts) (cs ds : List Value) (H : Hp) (hp : kForest.rep H f cs) (hq : kParts.rep H p ds) (hg : GoodF f) (hfit : Fits f.vars.length p) (hn : f.vars.length ≤ 1000000) :
    ACalls Try.prog 95 #[.agg cs.toArray, .agg ds.toArray] H (fun r H' => ∃ G' N L, H.le G' ∧ r = .agg #[N, L] ∧ PartsP G' H' N L (upP f p).nodes (upP f p).links) := by
  have hq0 := hq
  obtain ⟨v0, v1, v2, v3, v4, rfl, hs0, hs1, hs2, hs3, hs4⟩ := hp
  obtain ⟨A0, c0, rfl⟩ := hs0.shape
  obtain ⟨A1, c1, rfl⟩ := hs1.shape
  obtain ⟨A2, c2, rfl⟩ := hs2.shape
  obtain ⟨A3, c3, rfl⟩ := hs3.shape
  obtain ⟨A4, c4, rfl⟩ := hs4.shape
  obtain ⟨u0, u1, rfl, hn0, hn1⟩ := hq
  obtain ⟨B0, d0, rfl⟩ := hn0.shape
  obtain ⟨B1, d1, rfl⟩ := hn1.shape
  have hgl := hg.l1
  have hgp := hg.l2
  refine acalls_of_code Try.func95 rfl rfl rfl (by simp) ?_
  refine ac_seq ?_
  refine ac_region (by kernel_rfl) ?_
  refine aops_make (am_box_agg rfl) ?_
  refine aops_make (am_box_agg rfl) ?_
  refine aops_make (am_zero (l := [.slice none 0 0, .slice none 0 0]) inf29.zero rfl (by decide)) ?_
  refine ac_seq ?_
  refine ac_region (by kernel_rfl) ?_
  first | refine aops_val (av_loadN (cs := [.slice _ _ _, .slice _ _ _]) rfl Try.underlying29 rfl inf29.size t_cells) ?_ | refine aops_val (av_loadN (cs := [_, _]) rfl Try.underlying29 rfl inf29.size t_cells) ?_
  refine aops_op (aop_call (Own_parts p _ _ (kParts.mono t_sees hq0) (by have := hfit.n1; omega) (by have := hfit.n2; omega) hfit.s1 hfit.s2) rfl Try.func101 rfl rfl rfl ?_)
  rintro v5 H5 ⟨G5, N, L, hle5, rfl, hpp5⟩; obtain ⟨AN, cN, rfl⟩ := hpp5.slN.shape; obtain ⟨AL, cL, rfl⟩ := hpp5.slL.shape; have hz5 := hle5.1; simp only [Hp.push_size] at hz5; have hzz5 := hpp5.size
  refine aops_make (am_zero (l := [.slice none 0 0, .slice none 0 0]) inf29.zero rfl (by decide)) ?_
  first | refine aops_op (aop_putN (vs := [.slice _ _ _, .slice _ _ _]) rfl rfl inf29.size t_get t_room rfl rfl ?_) | refine aops_op (aop_putN (vs := [_, _]) rfl rfl inf29.size t_get t_room rfl rfl ?_)
  refine ac_seq ?_
  refine ac_seq ?_
  obtain ⟨H6, hH6⟩ : ∃ H6, H6 = (H5.push (.own 0 [.slice none 0 0, .slice none 0 0])).put H5.size (.own 0 [.slice AN p.nodes.length cN, .slice AL p.links.length cL]) := ⟨_, rfl⟩
  obtain ⟨G6, hG6⟩ : ∃ G6, G6 = (G5.push (.own 0 [.slice none 0 0, .slice none 0 0])).put H5.size (.own 0 [.slice AN p.nodes.length cN, .slice AL p.links.length cL]) := ⟨_, rfl⟩
  have hpp6 : PartsP G6 H6 (.slice AN p.nodes.length cN) (.slice AL p.links.length cL) p.nodes p.links := by rw [hH6, hG6]; exact hpp5.boxed _ _
  have hle6 : ((((H.push (.own 0 [.slice A0 f.vars.length c0, .slice A1 f.order.length c1, .slice A2 f.parent.length c2, .slice A3 f.links.length c3, .slice A4 f.loops.length c4])).push (.own 0 [.slice B0 p.nodes.length d0, .slice B1 p.links.length d1])).push (.own 0 [.slice none 0 0, .slice none 0 0]))).le G6 := by
    rw [hG6]; exact Hp.le_put_new (Hp.le_push' hle5 _) (by simp; omega) _
  have k0 : G6.get H.size = .own 0 [.slice A0 f.vars.length c0, .slice A1 f.order.length c1, .slice A2 f.parent.length c2, .slice A3 f.links.length c3, .slice A4 f.loops.length c4] := le_got hle6 (by simp; omega) (by intro e; cases e) t_get
  have k2 : G6.get (H.size + 2) = .own 0 [.slice none 0 0, .slice none 0 0] := le_got hle6 (by simp) (by intro e; cases e) t_get
  have k5 : G6.get H5.size = .own 0 [.slice AN p.nodes.length cN, .slice AL p.links.length cL] := by rw [hG6]; exact Hp.put_same _ _ _
  have hz6 : G6.size = H5.size + 1 := by rw [hG6]; simp; omega
  have hzz6 := hpp6.size
  have hleH6 : H.le G6 := Hp.le_trans (Hp.le_push' (Hp.le_push' (H.le_push _) _) _) hle6
  have h0 := le_got hpp6.le (by omega) (by intro e; cases e) k0
  change ACode true _ _ _ _ _ ((H5.push (.own 0 [.slice none 0 0, .slice none 0 0])).put H5.size (.own 0 [.slice AN p.nodes.length cN, .slice AL p.links.length cL]))
  rw [← hH6]
  refine ac_region (by kernel_rfl) ?_
  refine aops_val (av_fieldOff (off := 1) rfl Try.underlying26 rfl inf23.size (by decide) rfl) ?_
  refine aops_val (av_load1 rfl Try.underlying23 rfl t_cell) ?_
  refine aops_op (aop_call (Backward_ints _ H6 A1 _ c1 rfl) rfl Try.func105 rfl rfl rfl ?_)
  rintro v7 H7 ⟨rfl, rfl⟩
  refine ac_block ?_
  have hpp7 := hpp6.push (.own 0 [.slice A1 f.order.length c1])
  refine ac_rangeFunc (fun k H' => ∃ G', (G6.push (.own 0 [.slice A1 f.order.length c1])).le G' ∧ PartsP G' H' (.slice AN p.nodes.length cN) (.slice AL p.links.length cL) (upK f p k).nodes (upK f p k).links) rfl (Back_each (G := G6.push (.own 0 [.slice A1 f.order.length c1])) (b := H6.size) hpp7.le (by simp; omega) (by rw [hzz6]; exact Hp.push_new _ _) (hs1.mono ((hleH6.sees).push _)) (by omega)) (fun _ _ => .int _ _) (fun _ _ => .int _ _) rfl (⟨_, Hp.le_refl _, hpp7⟩) (fun k H' ⟨G', a, b⟩ => Hp.le_trans a b.le) ?_ ?_
  · rintro k H8 hk ⟨G8, hle8, hpp8⟩
    have hix : f.order.length - 1 - k < f.order.length := by omega
    have hwm : f.order[f.order.length - 1 - k]?.getD 0 ∈ f.order := by rw [List.getElem?_eq_getElem hix]; exact List.getElem_mem hix
    obtain ⟨w, hw⟩ : ∃ w : Nat, f.order[f.order.length - 1 - k]?.getD 0 = (w : Int) := ⟨(f.order[f.order.length - 1 - k]?.getD 0).toNat, by have := hg.order_in hwm; omega⟩
    have hwn : w < f.vars.length := by have := hg.order_in hwm; omega
    have hsucc := upK_succ f p hk
    rw [hw, Int.toNat_natCast] at hsucc
    simp only [hw]
    have hfk := hfit.upK (f := f) k
    obtain ⟨b2, o2, rfl, hb2, hcell2⟩ := hs2.int_at (i := (w : Int)) (by omega) (by omega)
    rw [Int.toNat_natCast] at hcell2
    have hle8' : G6.le G8 := Hp.le_trans (G6.le_push _) hle8
    have hleH8 : H.le H8 := Hp.le_trans hleH6 (Hp.le_trans hle8' hpp8.le)
    have hcell2' := hleH8.cell1 hb2 hcell2
    have hz8 := hle8'.1
    have hg0 : H8.get H.size = _ := le_got (Hp.le_trans hle8' hpp8.le) (by omega) (by intro e; cases e) k0
    have kg5 : G8.get H5.size = _ := le_got hle8' (by omega) (by intro e; cases e) k5
    have hg5 : H8.get H5.size = _ := le_got hpp8.le (by omega) (by intro e; cases e) kg5
    have hzz8 := hpp8.size
    refine ac_region (by kernel_rfl) ?_
    first | refine aops_val (av_assign_int rfl) ?_ | refine aops_val (av_assign rfl) ?_
    refine ac_block ?_
    refine ac_seq ?_
    refine ac_region (by kernel_rfl) ?_
    refine aops_val (av_fieldOff (off := 2) rfl Try.underlying26 rfl inf23.size (by decide) rfl) ?_
    refine aops_val (av_load1 rfl Try.underlying23 rfl t_cell) ?_
    first | refine aops_val (av_move_int rfl) ?_ | refine aops_val (av_move rfl) ?_
    refine aops_val (av_indexAddr rfl rfl Try.underlying23 inf3.size t_idx t_idx) ?_
    refine aops_val (av_load1 rfl Try.underlying3 rfl t_cell) ?_
    first | refine aops_val (av_assign_int rfl) ?_ | refine aops_val (av_assign rfl) ?_
    refine ac_seq ?_
    refine ac_region (by kernel_rfl) ?_
    first | refine aops_val (av_move_int rfl) ?_ | refine aops_val (av_move rfl) ?_
    refine aops_val (av_ne rfl rfl) ?_
    refine ac_split rfl rfl ?_ ?_
    · intro hc1
      have hpar : f.parent.getD w 0 ≠ -1 := of_decide_eq_true hc1
      obtain ⟨u, hu⟩ : ∃ u : Nat, f.parent.getD w 0 = (u : Int) := ⟨(f.parent.getD w 0).toNat, by have := hg.parent_ge hwn; omega⟩
      have hun : u < f.vars.length := by have := hg.parent_ge hwn; omega
      have hstep : upStep f (upK f p k) w = ⟨keepStep (upK f p k).nodes u (endsL ((linksStep (upK f p k).nodes (upK f p k).links w u).getD w []) false), linksStep (upK f p k).nodes (upK f p k).links w u⟩ := by unfold upStep; rw [if_neg hpar, hu, Int.toNat_natCast]
      rw [hstep] at hsucc
      rw [hu]
      refine ac_seq ?_
      refine ac_region (by kernel_rfl) ?_
      first | refine aops_val (av_loadN (cs := [.slice _ _ _, .slice _ _ _]) rfl Try.underlying29 rfl inf29.size t_cells) ?_ | refine aops_val (av_loadN (cs := [_, _]) rfl Try.underlying29 rfl inf29.size t_cells) ?_
      first | refine aops_val (av_move_int rfl) ?_ | refine aops_val (av_move rfl) ?_
      first | refine aops_val (av_move_int rfl) ?_ | refine aops_val (av_move rfl) ?_
      refine aops_op (aop_call (links_parts (upK f p k).nodes (upK f p k).links _ _ w u _ _ hpp8 (by rw [hfk.n1, hfk.n2]) (by rw [hfk.n2]; exact hwn) (by rw [hfk.n2]; exact hun) hfk.s1 hfk.s2) rfl Try.func102 rfl rfl rfl ?_)
      rintro v9 H9 ⟨G9, hle9, hpp9, rfl⟩; have kg59 := le_got hle9 (by omega) (by intro e; cases e) kg5; have hz9 := hle9.1; have hzz9 := hpp9.size; have hg59 := le_got hpp9.le (by omega) (by intro e; cases e) kg59
      have hll9 : (linksStep (upK f p k).nodes (upK f p k).links w u).length = f.vars.length := by rw [linksStep_len, hfk.n2]
      obtain ⟨b9, c9, cs9, w9, e9, hb9, hgb9, hcell9, hcs9, hw9⟩ := hpp9.spotL (i := w) (by omega)
      injection e9 with e91 e92 e93
      subst e91
      obtain ⟨A9, c90, rfl⟩ := hw9.shape
      have gl9 := getD_list (by omega : w < (linksStep (upK f p k).nodes (upK f p k).links w u).length)
      have hs9 : (linksStep (upK f p k).nodes (upK f p k).links w u)[w].length ≤ 1000000 := by rw [← gl9]; exact getD_len (set_within hfk.s2 _ _ _) w
      refine ac_draw (by kernel_rfl) (reg_of (B := [0, 0, 0, 4, 0, 28, 60, 124, 255]) (π := [0, 1, 2, 3, 4, 5, 6, 7, 8]) (by kernel_rfl)) ?_
      first | refine adr_val rfl rfl (av_loadN (cs := [.slice _ _ _, .slice _ _ _]) rfl Try.underlying29 rfl inf29.size t_cells) t_lt ?_ | refine adr_val rfl rfl (av_loadN (cs := [_, _]) rfl Try.underlying29 rfl inf29.size t_cells) t_lt ?_
      first | refine adr_val rfl rfl (av_move_int rfl) t_lt ?_ | refine adr_val rfl rfl (av_move rfl) t_lt ?_
      refine adr_val rfl rfl (av_fieldOff (off := 1) rfl Try.underlying29 rfl inf27.size (by decide) rfl) t_lt ?_
      refine adr_val rfl rfl (av_load1 rfl Try.underlying27 rfl t_cell) t_lt ?_
      first | refine adr_val rfl rfl (av_move_int rfl) t_lt ?_ | refine adr_val rfl rfl (av_move rfl) t_lt ?_
      refine adr_val rfl rfl (av_indexAddr rfl rfl Try.underlying27 inf50.size t_idx t_idx) t_lt ?_
      refine adr_val rfl rfl (av_load1 rfl Try.underlying50 rfl t_cell) t_lt ?_
      refine adr_op rfl rfl (aop_call (Ends_links (linksStep (upK f p k).nodes (upK f p k).links w u)[w] _ false _ hw9 hs9) rfl Try.func104 rfl rfl rfl ?_)
      rintro v10 H10 ⟨G10, hle10, hown10⟩; have hleC10 := Hp.le_trans hle10 hown10.le; obtain ⟨G10', hle10', hpp10⟩ := hpp9.after hleC10; have hzC10 := hleC10.1; obtain ⟨A10, c10, rfl⟩ := hown10.shape
      refine ⟨t_pend, ?_⟩
      refine adr_op rfl rfl (aop_call (keep_parts (upK f p k).nodes (linksStep (upK f p k).nodes (upK f p k).links w u) _ _ u _ _ _ _ hpp10 (by rw [hfk.n1]; exact hun) hown10.sl (by have := endsL_len (linksStep (upK f p k).nodes (upK f p k).links w u)[w] false; omega) (endsL_sorted _ _) hfk.s1) rfl Try.func103 rfl rfl rfl ?_)
      rintro v11 H11 ⟨G11, hle11, hpp11, rfl⟩
      refine ⟨t_pend, ?_⟩
      refine ⟨rfl, ?_⟩
      first
        | (rw [gl9] at hsucc
           rw [hsucc]
           exact ⟨G11, Hp.le_trans hle8 (Hp.le_trans hle9 (Hp.le_trans hle10' hle11)), hpp11⟩)
        | (rw [hsucc]
           exact ⟨G8, hle8, hpp8⟩)
    · intro hc1
      have hpar : f.parent.getD w 0 = -1 := by simpa using of_decide_eq_false hc1
      have hstep : upStep f (upK f p k) w = upK f p k := by unfold upStep; rw [if_pos hpar]
      rw [hstep] at hsucc
      refine ac_skip ?_
      refine ⟨rfl, ?_⟩
      first
        | (rw [gl9] at hsucc
           rw [hsucc]
           exact ⟨G11, Hp.le_trans hle8 (Hp.le_trans hle9 (Hp.le_trans hle10' hle11)), hpp11⟩)
        | (rw [hsucc]
           exact ⟨G8, hle8, hpp8⟩)
  · rintro H8 ⟨G8, hle8, hpp8⟩
    rw [upK_all] at hpp8
    have hle8' : G6.le G8 := Hp.le_trans (G6.le_push _) hle8
    have hz8 := hle8'.1
    have hzz8 := hpp8.size
    have kg2 : G8.get (H.size + 2) = _ := le_got hle8' (by omega) (by intro e; cases e) k2
    have hg2 : H8.get (H.size + 2) = _ := le_got hpp8.le (by omega) (by intro e; cases e) kg2
    have kg5 : G8.get H5.size = _ := le_got hle8' (by omega) (by intro e; cases e) k5
    have hg5 : H8.get H5.size = _ := le_got hpp8.le (by omega) (by intro e; cases e) kg5
    refine ac_seq ?_
    refine ac_region (by kernel_rfl) ?_
    first | refine aops_val (av_loadN (cs := [.slice _ _ _, .slice _ _ _]) rfl Try.underlying29 rfl inf29.size t_cells) ?_ | refine aops_val (av_loadN (cs := [_, _]) rfl Try.underlying29 rfl inf29.size t_cells) ?_
    first | refine aops_op (aop_putN (vs := [.slice _ _ _, .slice _ _ _]) rfl rfl inf29.size t_get t_room rfl rfl ?_) | refine aops_op (aop_putN (vs := [_, _]) rfl rfl inf29.size t_get t_room rfl rfl ?_)
    refine ac_ret ?_
    exact ⟨_, aresult1 (ares_cell rfl (aload_agg (cs := [.slice AN p.nodes.length cN, .slice AL p.links.length cL]) Try.underlying29 rfl inf29.size t_cells)), _, _, _, Hp.le_put_new (Hp.le_trans hleH6 hle8') (by omega) _, rfl, hpp8.box_put (by omega) kg2 _⟩
end Go.Proofs.Ytcaeoebphfjfiaa.Am


/- Going down. -/
namespace Go.Proofs.Ytcaeoebphfjfiaa.Am
open Go Go.RowKit
set_option maxRecDepth 100000
set_option linter.unusedVariables false
set_option linter.unusedSimpArgs false

set_option maxHeartbeats 1000000 in
theorem down_parts (f : Forest) (p : Parts) (cs ds : List Value) (H : Hp) (hp : kForest.rep H f cs) (hq : kParts.rep H p ds) (hg : GoodF f) (hfit : Fits f.vars.length p) (hn : f.vars.length ≤ 1000000) :
    ACalls Try.prog 94 #[.agg cs.toArray, .agg ds.toArray] H (fun r H' => ∃ G' N L, H.le G' ∧ r = .agg #[N, L] ∧ PartsP G' H' N L (downP f p).nodes (downP f p).links) := by
  have hq0 := hq
  obtain ⟨v0, v1, v2, v3, v4, rfl, hs0, hs1, hs2, hs3, hs4⟩ := hp
  obtain ⟨A0, c0, rfl⟩ := hs0.shape
  obtain ⟨A1, c1, rfl⟩ := hs1.shape
  obtain ⟨A2, c2, rfl⟩ := hs2.shape
  obtain ⟨A3, c3, rfl⟩ := hs3.shape
  obtain ⟨A4, c4, rfl⟩ := hs4.shape
  obtain ⟨u0, u1, rfl, hn0, hn1⟩ := hq
  obtain ⟨B0, d0, rfl⟩ := hn0.shape
  obtain ⟨B1, d1, rfl⟩ := hn1.shape
  have hgl := hg.l1
  have hgp := hg.l2
  refine acalls_of_code Try.func94 rfl rfl rfl (by simp) ?_
  refine ac_seq ?_
  refine ac_region (by kernel_rfl) ?_
  refine aops_make (am_box_agg rfl) ?_
  refine aops_make (am_box_agg rfl) ?_
  refine aops_make (am_zero (l := [.slice none 0 0, .slice none 0 0]) inf29.zero rfl (by decide)) ?_
  refine ac_seq ?_
  refine ac_region (by kernel_rfl) ?_
  first | refine aops_val (av_loadN (cs := [.slice _ _ _, .slice _ _ _]) rfl Try.underlying29 rfl inf29.size t_cells) ?_ | refine aops_val (av_loadN (cs := [_, _]) rfl Try.underlying29 rfl inf29.size t_cells) ?_
  refine aops_op (aop_call (Own_parts p _ _ (kParts.mono t_sees hq0) (by have := hfit.n1; omega) (by have := hfit.n2; omega) hfit.s1 hfit.s2) rfl Try.func101 rfl rfl rfl ?_)
  rintro v5 H5 ⟨G5, N, L, hle5, rfl, hpp5⟩; obtain ⟨AN, cN, rfl⟩ := hpp5.slN.shape; obtain ⟨AL, cL, rfl⟩ := hpp5.slL.shape; have hz5 := hle5.1; simp only [Hp.push_size] at hz5; have hzz5 := hpp5.size
  refine aops_make (am_zero (l := [.slice none 0 0, .slice none 0 0]) inf29.zero rfl (by decide)) ?_
  first | refine aops_op (aop_putN (vs := [.slice _ _ _, .slice _ _ _]) rfl rfl inf29.size t_get t_room rfl rfl ?_) | refine aops_op (aop_putN (vs := [_, _]) rfl rfl inf29.size t_get t_room rfl rfl ?_)
  refine ac_seq ?_
  refine ac_seq ?_
  obtain ⟨H6, hH6⟩ : ∃ H6, H6 = (H5.push (.own 0 [.slice none 0 0, .slice none 0 0])).put H5.size (.own 0 [.slice AN p.nodes.length cN, .slice AL p.links.length cL]) := ⟨_, rfl⟩
  obtain ⟨G6, hG6⟩ : ∃ G6, G6 = (G5.push (.own 0 [.slice none 0 0, .slice none 0 0])).put H5.size (.own 0 [.slice AN p.nodes.length cN, .slice AL p.links.length cL]) := ⟨_, rfl⟩
  have hpp6 : PartsP G6 H6 (.slice AN p.nodes.length cN) (.slice AL p.links.length cL) p.nodes p.links := by rw [hH6, hG6]; exact hpp5.boxed _ _
  have hle6 : ((((H.push (.own 0 [.slice A0 f.vars.length c0, .slice A1 f.order.length c1, .slice A2 f.parent.length c2, .slice A3 f.links.length c3, .slice A4 f.loops.length c4])).push (.own 0 [.slice B0 p.nodes.length d0, .slice B1 p.links.length d1])).push (.own 0 [.slice none 0 0, .slice none 0 0]))).le G6 := by
    rw [hG6]; exact Hp.le_put_new (Hp.le_push' hle5 _) (by simp; omega) _
  have k0 : G6.get H.size = .own 0 [.slice A0 f.vars.length c0, .slice A1 f.order.length c1, .slice A2 f.parent.length c2, .slice A3 f.links.length c3, .slice A4 f.loops.length c4] := le_got hle6 (by simp; omega) (by intro e; cases e) t_get
  have k2 : G6.get (H.size + 2) = .own 0 [.slice none 0 0, .slice none 0 0] := le_got hle6 (by simp) (by intro e; cases e) t_get
  have k5 : G6.get H5.size = .own 0 [.slice AN p.nodes.length cN, .slice AL p.links.length cL] := by rw [hG6]; exact Hp.put_same _ _ _
  have hz6 : G6.size = H5.size + 1 := by rw [hG6]; simp; omega
  have hzz6 := hpp6.size
  have hleH6 : H.le G6 := Hp.le_trans (Hp.le_push' (Hp.le_push' (H.le_push _) _) _) hle6
  have h0 := le_got hpp6.le (by omega) (by intro e; cases e) k0
  change ACode true _ _ _ _ _ ((H5.push (.own 0 [.slice none 0 0, .slice none 0 0])).put H5.size (.own 0 [.slice AN p.nodes.length cN, .slice AL p.links.length cL]))
  rw [← hH6]
  refine ac_region (by kernel_rfl) ?_
  refine aops_val (av_fieldOff (off := 1) rfl Try.underlying26 rfl inf23.size (by decide) rfl) ?_
  refine aops_val (av_load1 rfl Try.underlying23 rfl t_cell) ?_
  refine aops_val (av_len rfl Try.underlying23) ?_
  first | refine aops_val (av_move_int rfl) ?_ | refine aops_val (av_move rfl) ?_
  refine ac_block ?_
  refine ac_loop (fun n t H' => ∃ (k : Nat) (G' : Hp), k ≤ f.order.length ∧ n = f.order.length - k ∧ G6.le G' ∧ PartsP G' H' (.slice AN p.nodes.length cN) (.slice AL p.links.length cL) (downK f p k).nodes (downK f p k).links ∧ t 2 = .pointer (some ⟨H.size, 0, none⟩) ∧ t 4 = .pointer (some ⟨H.size + 2, 0, none⟩) ∧ t 5 = .pointer (some ⟨H5.size, 0, none⟩) ∧ t 12 = .slice A1 f.order.length c1 ∧ t 13 = .int .i64 f.order.length ∧ t 14 = .int .i64 k) (f.order.length) (⟨0, G6, by omega, rfl, Hp.le_refl _, hpp6, rfl, rfl, rfl, rfl, rfl, rfl⟩) ?_
  rintro n t H8 ⟨k, G8, hk, rfl, hle8', hpp8, e2, e4, e5, e12, e13, e14⟩
  have hfk := hfit.downK (f := f) k
  have hleH8 : H.le H8 := Hp.le_trans hleH6 (Hp.le_trans hle8' hpp8.le)
  have hz8 := hle8'.1
  have hg0 : H8.get H.size = _ := le_got (Hp.le_trans hle8' hpp8.le) (by omega) (by intro e; cases e) k0
  have kg5 : G8.get H5.size = _ := le_got hle8' (by omega) (by intro e; cases e) k5
  have hg5 : H8.get H5.size = _ := le_got hpp8.le (by omega) (by intro e; cases e) kg5
  have kg2 : G8.get (H.size + 2) = _ := le_got hle8' (by omega) (by intro e; cases e) k2
  have hg2 : H8.get (H.size + 2) = _ := le_got hpp8.le (by omega) (by intro e; cases e) kg2
  have hzz8 := hpp8.size
  refine ac_seq ?_
  refine ac_region (by kernel_rfl) ?_
  refine aops_val (av_lt (by first | assumption | rfl) (by first | assumption | rfl)) ?_
  refine ac_seq ?_
  refine ac_split rfl rfl ?_ ?_
  · intro hc1
    (try simp only [decide_eq_true_eq, decide_eq_false_iff_not, Bool.not_eq_true', Bool.not_eq_false'] at hc1)
    refine ac_skip ?_
    refine ac_seq ?_
    refine ac_block ?_
    refine ac_seq ?_
    refine ac_region (by kernel_rfl) ?_
    have hk' : k < f.order.length := by omega
    have hwm : f.order.getD k 0 ∈ f.order := by rw [getD_at hk']; exact List.getElem_mem hk'
    obtain ⟨b1, o1, rfl, hb1, hcell1⟩ := hs1.int_at (i := (k : Int)) (by omega) (by omega)
    rw [Int.toNat_natCast] at hcell1
    have hcell1' := hleH8.cell1 hb1 hcell1
    obtain ⟨w, hw⟩ : ∃ w : Nat, f.order.getD k 0 = (w : Int) := ⟨(f.order.getD k 0).toNat, by have := hg.order_in hwm; omega⟩
    have hwn : w < f.vars.length := by have := hg.order_in hwm; omega
    have hsucc := downK_succ f p hk'
    rw [hw, Int.toNat_natCast] at hsucc
    rw [hw] at hcell1'
    obtain ⟨b2, o2, rfl, hb2, hcell2⟩ := hs2.int_at (i := (w : Int)) (by omega) (by omega)
    rw [Int.toNat_natCast] at hcell2
    have hcell2' := hleH8.cell1 hb2 hcell2
    refine aops_val (av_indexAddr (by first | assumption | rfl) (by first | assumption | rfl) Try.underlying23 inf3.size t_idx t_idx) ?_
    refine aops_val (av_load1 rfl Try.underlying3 rfl t_cell) ?_
    first | refine aops_val (av_assign_int rfl) ?_ | refine aops_val (av_assign rfl) ?_
    refine ac_seq ?_
    refine ac_region (by kernel_rfl) ?_
    refine aops_val (av_fieldOff (off := 2) (by first | assumption | rfl) Try.underlying26 (by first | assumption | rfl) inf23.size (by decide) (by first | assumption | rfl)) ?_
    refine aops_val (av_load1 rfl Try.underlying23 rfl t_cell) ?_
    first | refine aops_val (av_move_int rfl) ?_ | refine aops_val (av_move rfl) ?_
    refine aops_val (av_indexAddr rfl rfl Try.underlying23 inf3.size t_idx t_idx) ?_
    refine aops_val (av_load1 rfl Try.underlying3 rfl t_cell) ?_
    first | refine aops_val (av_assign_int rfl) ?_ | refine aops_val (av_assign rfl) ?_
    refine ac_seq ?_
    refine ac_region (by kernel_rfl) ?_
    first | refine aops_val (av_move_int rfl) ?_ | refine aops_val (av_move rfl) ?_
    refine aops_val (av_ne rfl rfl) ?_
    refine ac_split rfl rfl ?_ ?_
    · intro hc2
      have hpar : f.parent.getD w 0 ≠ -1 := of_decide_eq_true hc2
      obtain ⟨u, hu⟩ : ∃ u : Nat, f.parent.getD w 0 = (u : Int) := ⟨(f.parent.getD w 0).toNat, by have := hg.parent_ge hwn; omega⟩
      have hun : u < f.vars.length := by have := hg.parent_ge hwn; omega
      have hstep : downStep f (downK f p k) w = ⟨keepStep (downK f p k).nodes w (endsL ((linksStep (downK f p k).nodes (downK f p k).links w u).getD w []) true), linksStep (downK f p k).nodes (downK f p k).links w u⟩ := by unfold downStep; rw [if_neg hpar, hu, Int.toNat_natCast]
      rw [hstep] at hsucc
      rw [hu]
      refine ac_seq ?_
      refine ac_region (by kernel_rfl) ?_
      first | refine aops_val (av_loadN (cs := [.slice _ _ _, .slice _ _ _]) (by first | assumption | rfl) Try.underlying29 (by first | assumption | rfl) inf29.size t_cells) ?_ | refine aops_val (av_loadN (cs := [_, _]) (by first | assumption | rfl) Try.underlying29 (by first | assumption | rfl) inf29.size t_cells) ?_
      first | refine aops_val (av_move_int rfl) ?_ | refine aops_val (av_move rfl) ?_
      first | refine aops_val (av_move_int rfl) ?_ | refine aops_val (av_move rfl) ?_
      refine aops_op (aop_call (links_parts (downK f p k).nodes (downK f p k).links _ _ w u _ _ hpp8 (by rw [hfk.n1, hfk.n2]) (by rw [hfk.n2]; exact hwn) (by rw [hfk.n2]; exact hun) hfk.s1 hfk.s2) rfl Try.func102 rfl rfl rfl ?_)
      rintro v9 H9 ⟨G9, hle9, hpp9, rfl⟩; have kg59 := le_got hle9 (by omega) (by intro e; cases e) kg5; have hz9 := hle9.1; have hzz9 := hpp9.size; have hg59 := le_got hpp9.le (by omega) (by intro e; cases e) kg59
      have hll9 : (linksStep (downK f p k).nodes (downK f p k).links w u).length = f.vars.length := by rw [linksStep_len, hfk.n2]
      obtain ⟨b9, c9, cs9, w9, e9, hb9, hgb9, hcell9, hcs9, hw9⟩ := hpp9.spotL (i := w) (by omega)
      injection e9 with e91 e92 e93
      subst e91
      obtain ⟨A9, c90, rfl⟩ := hw9.shape
      have gl9 := getD_list (by omega : w < (linksStep (downK f p k).nodes (downK f p k).links w u).length)
      have hs9 : (linksStep (downK f p k).nodes (downK f p k).links w u)[w].length ≤ 1000000 := by rw [← gl9]; exact getD_len (set_within hfk.s2 _ _ _) w
      refine ac_draw (by kernel_rfl) (reg_of (B := [0, 0, 0, 4, 0, 28, 60, 124, 255]) (π := [0, 1, 2, 3, 4, 5, 6, 7, 8]) (by kernel_rfl)) ?_
      first | refine adr_val rfl rfl (av_loadN (cs := [.slice _ _ _, .slice _ _ _]) (by first | assumption | rfl) Try.underlying29 (by first | assumption | rfl) inf29.size t_cells) t_lt ?_ | refine adr_val rfl rfl (av_loadN (cs := [_, _]) (by first | assumption | rfl) Try.underlying29 (by first | assumption | rfl) inf29.size t_cells) t_lt ?_
      first | refine adr_val rfl rfl (av_move_int rfl) t_lt ?_ | refine adr_val rfl rfl (av_move rfl) t_lt ?_
      refine adr_val rfl rfl (av_fieldOff (off := 1) (by first | assumption | rfl) Try.underlying29 (by first | assumption | rfl) inf27.size (by decide) (by first | assumption | rfl)) t_lt ?_
      refine adr_val rfl rfl (av_load1 rfl Try.underlying27 rfl t_cell) t_lt ?_
      first | refine adr_val rfl rfl (av_move_int rfl) t_lt ?_ | refine adr_val rfl rfl (av_move rfl) t_lt ?_
      refine adr_val rfl rfl (av_indexAddr rfl rfl Try.underlying27 inf50.size t_idx t_idx) t_lt ?_
      refine adr_val rfl rfl (av_load1 rfl Try.underlying50 rfl t_cell) t_lt ?_
      refine adr_op rfl rfl (aop_call (Ends_links (linksStep (downK f p k).nodes (downK f p k).links w u)[w] _ true _ hw9 hs9) rfl Try.func104 rfl rfl rfl ?_)
      rintro v10 H10 ⟨G10, hle10, hown10⟩; have hleC10 := Hp.le_trans hle10 hown10.le; obtain ⟨G10', hle10', hpp10⟩ := hpp9.after hleC10; have hzC10 := hleC10.1; obtain ⟨A10, c10, rfl⟩ := hown10.shape
      refine ⟨t_pend, ?_⟩
      refine adr_op rfl rfl (aop_call (keep_parts (downK f p k).nodes (linksStep (downK f p k).nodes (downK f p k).links w u) _ _ w _ _ _ _ hpp10 (by rw [hfk.n1]; exact hwn) hown10.sl (by have := endsL_len (linksStep (downK f p k).nodes (downK f p k).links w u)[w] true; omega) (endsL_sorted _ _) hfk.s1) rfl Try.func103 rfl rfl rfl ?_)
      rintro v11 H11 ⟨G11, hle11, hpp11, rfl⟩
      refine ⟨t_pend, ?_⟩
      refine ac_region (by kernel_rfl) ?_
      first | refine aops_val (av_add64 (by first | assumption | rfl) (by first | assumption | rfl) t_fits) ?_ | refine aops_val (av_add (by first | assumption | rfl) (by first | assumption | rfl)) ?_
      first | refine aops_val (av_move_int rfl) ?_ | refine aops_val (av_move rfl) ?_
      first
        | (rw [gl9] at hsucc
           refine ⟨f.order.length - (k + 1), by omega, k + 1, G11, by omega, rfl, Hp.le_trans hle8' (Hp.le_trans hle9 (Hp.le_trans hle10' hle11)), by rw [hsucc]; exact hpp11, e2, e4, e5, e12, e13, rfl⟩)
        | (refine ⟨f.order.length - (k + 1), by omega, k + 1, G8, by omega, rfl, hle8', by rw [hsucc]; exact hpp8, e2, e4, e5, e12, e13, rfl⟩)
    · intro hc2
      have hpar : f.parent.getD w 0 = -1 := by simpa using of_decide_eq_false hc2
      have hstep : downStep f (downK f p k) w = downK f p k := by unfold downStep; rw [if_pos hpar]
      rw [hstep] at hsucc
      refine ac_skip ?_
      refine ac_region (by kernel_rfl) ?_
      first | refine aops_val (av_add64 (by first | assumption | rfl) (by first | assumption | rfl) t_fits) ?_ | refine aops_val (av_add (by first | assumption | rfl) (by first | assumption | rfl)) ?_
      first | refine aops_val (av_move_int rfl) ?_ | refine aops_val (av_move rfl) ?_
      first
        | (rw [gl9] at hsucc
           refine ⟨f.order.length - (k + 1), by omega, k + 1, G11, by omega, rfl, Hp.le_trans hle8' (Hp.le_trans hle9 (Hp.le_trans hle10' hle11)), by rw [hsucc]; exact hpp11, e2, e4, e5, e12, e13, rfl⟩)
        | (refine ⟨f.order.length - (k + 1), by omega, k + 1, G8, by omega, rfl, hle8', by rw [hsucc]; exact hpp8, e2, e4, e5, e12, e13, rfl⟩)
  · intro hc1
    (try simp only [decide_eq_true_eq, decide_eq_false_iff_not, Bool.not_eq_true', Bool.not_eq_false'] at hc1)
    refine ac_exit ?_
    refine ac_seq ?_
    have hkn : k = f.order.length := by omega
    subst hkn
    rw [downK_all] at hpp8
    refine ac_region (by kernel_rfl) ?_
    first | refine aops_val (av_loadN (cs := [.slice _ _ _, .slice _ _ _]) (by first | assumption | rfl) Try.underlying29 (by first | assumption | rfl) inf29.size t_cells) ?_ | refine aops_val (av_loadN (cs := [_, _]) (by first | assumption | rfl) Try.underlying29 (by first | assumption | rfl) inf29.size t_cells) ?_
    first | refine aops_op (aop_putN (vs := [.slice _ _ _, .slice _ _ _]) (by first | assumption | rfl) (by first | assumption | rfl) inf29.size t_get t_room (by first | assumption | rfl) (by first | assumption | rfl) ?_) | refine aops_op (aop_putN (vs := [_, _]) (by first | assumption | rfl) (by first | assumption | rfl) inf29.size t_get t_room (by first | assumption | rfl) (by first | assumption | rfl) ?_)
    refine ac_ret ?_
    exact ⟨_, aresult1 (ares_cell (by first | assumption | rfl) (aload_agg (cs := [.slice AN p.nodes.length cN, .slice AL p.links.length cL]) Try.underlying29 rfl inf29.size t_cells)), _, _, _, Hp.le_put_new (Hp.le_trans hleH6 hle8') (by omega) _, rfl, hpp8.box_put (by omega) kg2 _⟩
end Go.Proofs.Ytcaeoebphfjfiaa.Am


/- Reducing: up, then down; nothing at all where a root has no nodes. -/
namespace Go.Proofs.Ytcaeoebphfjfiaa.Am
open Go Go.RowKit
set_option maxRecDepth 100000
set_option linter.unusedVariables false
set_option linter.unusedSimpArgs false

def rootless (f : Forest) (x : Parts) (v : Int) : Bool := decide (f.parent.getD v.toNat 0 = -1) && decide ((x.nodes.getD v.toNat []).length = 0)
def ofP (f : Forest) (p : Parts) : Parts := if f.order.any (rootless f (downP f (upP f p))) = true then ⟨List.replicate f.vars.length [], List.replicate f.vars.length []⟩ else downP f (upP f p)
theorem sl_empties {H : Hp} {b n : Nat} (hb : b < H.size) (hg : H.get b = .own 1 (List.replicate n [Value.slice none 0 0]).flatten) : Sl (kSl kLink) H (.slice (some ⟨b, 0, none⟩) n n) (List.replicate n []) := by
  refine .inr ⟨b, 0, n, by rw [List.length_replicate], hb, by rw [hg]; rfl, fun i x hi => ?_⟩
  have hl := (List.getElem?_eq_some_iff.1 hi).1
  rw [List.length_replicate] at hl
  rw [List.getElem?_replicate, if_pos hl] at hi
  injection hi with hi
  subst hi
  refine ⟨[.slice none 0 0], ⟨_, rfl, Sl.nil _ _⟩, fun j v hj => ?_⟩
  have hj0 : j = 0 := by have := (List.getElem?_eq_some_iff.1 hj).1; simp at this; exact this
  subst hj0
  simp at hj
  subst hj
  rw [cell_own hg, List.flatten_replicate_singleton, List.getElem?_replicate, if_pos (by simp [kSl]; omega)]
theorem Fits.of {n : Nat} {f : Forest} {p : Parts} (h : Fits n p) (hn : f.vars.length = n) : Fits n (ofP f p) := by
  unfold ofP
  split
  · exact ⟨by simp [hn], by simp [hn], fun l hl => by rw [List.eq_of_mem_replicate hl]; simp, fun l hl => by rw [List.eq_of_mem_replicate hl]; simp⟩
  · exact h.upP.downP
set_option maxHeartbeats 1000000 in
theorem of_parts (f : Forest) (p : Parts) (cs ds : List Value) (H : Hp) (hp : kForest.rep H f cs) (hq : kParts.rep H p ds) (hg : GoodF f) (hfit : Fits f.vars.length p) (hn : f.vars.length ≤ 1000000) :
    ACalls Try.prog 78 #[.agg cs.toArray, .agg ds.toArray] H (fun r H' => ∃ es, r = .agg es.toArray ∧ kParts.rep H' (ofP f p) es ∧ H.le H') := by
  have hp0 := hp
  have hq0 := hq
  obtain ⟨v0, v1, v2, v3, v4, rfl, hs0, hs1, hs2, hs3, hs4⟩ := hp
  obtain ⟨A0, c0, rfl⟩ := hs0.shape
  obtain ⟨A1, c1, rfl⟩ := hs1.shape
  obtain ⟨A2, c2, rfl⟩ := hs2.shape
  obtain ⟨A3, c3, rfl⟩ := hs3.shape
  obtain ⟨A4, c4, rfl⟩ := hs4.shape
  obtain ⟨u0, u1, rfl, hn0, hn1⟩ := hq
  obtain ⟨B0, d0, rfl⟩ := hn0.shape
  obtain ⟨B1, d1, rfl⟩ := hn1.shape
  have hgl := hg.l1
  have hgp := hg.l2
  have hfx : Fits f.vars.length (downP f (upP f p)) := hfit.upP.downP
  obtain ⟨x, hx⟩ : ∃ x, x = downP f (upP f p) := ⟨_, rfl⟩
  rw [← hx] at hfx
  refine acalls_of_code Try.func78 rfl rfl rfl (by simp) ?_
  refine ac_seq ?_
  refine ac_region (by kernel_rfl) ?_
  refine aops_make (am_box_agg rfl) ?_
  refine aops_make (am_box_agg rfl) ?_
  refine aops_make (am_zero (l := [.slice none 0 0, .slice none 0 0]) inf29.zero rfl (by decide)) ?_
  refine ac_seq ?_
  refine ac_draw (by kernel_rfl) (reg_of (B := [0, 0, 0, 6, 15, 0, 63]) (π := [0, 1, 2, 5, 3, 4, 6]) (by kernel_rfl)) ?_
  first | refine adr_val rfl rfl (av_loadN (cs := [.slice _ _ _, .slice _ _ _, .slice _ _ _, .slice _ _ _, .slice _ _ _]) rfl Try.underlying26 rfl inf26.size t_cells) t_lt ?_ | refine adr_val rfl rfl (av_loadN (cs := [_, _, _, _, _]) rfl Try.underlying26 rfl inf26.size t_cells) t_lt ?_
  first | refine adr_val rfl rfl (av_loadN (cs := [.slice _ _ _, .slice _ _ _, .slice _ _ _, .slice _ _ _, .slice _ _ _]) rfl Try.underlying26 rfl inf26.size t_cells) t_lt ?_ | refine adr_val rfl rfl (av_loadN (cs := [_, _, _, _, _]) rfl Try.underlying26 rfl inf26.size t_cells) t_lt ?_
  first | refine adr_val rfl rfl (av_loadN (cs := [.slice _ _ _, .slice _ _ _]) rfl Try.underlying29 rfl inf29.size t_cells) t_lt ?_ | refine adr_val rfl rfl (av_loadN (cs := [_, _]) rfl Try.underlying29 rfl inf29.size t_cells) t_lt ?_
  refine adr_make rfl rfl (am_zero (l := [.slice none 0 0, .slice none 0 0]) inf29.zero rfl (by decide)) ?_
  refine adr_op rfl rfl (aop_call (up_parts f p _ _ _ (kForest.mono t_sees hp0) (kParts.mono t_sees hq0) hg hfit hn) rfl Try.func95 rfl rfl rfl ?_)
  rintro v5 H5 ⟨G5, N5, L5, hle5, rfl, hpp5⟩; have hleC5 := Hp.le_trans hle5 hpp5.le; have hzC5 := hleC5.1; simp only [Hp.push_size] at hzC5; obtain ⟨A5, c5, rfl⟩ := hpp5.slN.shape; obtain ⟨A6, c6, rfl⟩ := hpp5.slL.shape
  refine ⟨t_pend, ?_⟩
  refine adr_op rfl rfl (aop_call (down_parts f (upP f p) _ [_, _] _ (kForest.mono t_sees hp0) ⟨_, _, rfl, hpp5.slN, hpp5.slL⟩ hg hfit.upP hn) rfl Try.func94 rfl rfl rfl ?_)
  rintro v6 H6 ⟨G6, N6, L6, hle6, rfl, hpp6⟩; rw [← hx] at hpp6; have hleC6 := Hp.le_trans hle6 hpp6.le; have hzC6 := hleC6.1; obtain ⟨AN, cN, rfl⟩ := hpp6.slN.shape; obtain ⟨AL, cL, rfl⟩ := hpp6.slL.shape
  refine ⟨t_pend, ?_⟩
  first | refine adr_op rfl rfl (aop_putN (vs := [.slice _ _ _, .slice _ _ _]) rfl rfl inf29.size t_get t_room rfl rfl ?_) | refine adr_op rfl rfl (aop_putN (vs := [_, _]) rfl rfl inf29.size t_get t_room rfl rfl ?_)
  refine ⟨t_pend, ?_⟩
  refine ac_seq ?_
  refine ac_seq ?_
  have h63 : H6.get (H.size + 3) = .own 0 [.slice none 0 0, .slice none 0 0] := le_got (Hp.le_trans hleC5 hleC6) (by simp) (by intro e; cases e) t_get
  obtain ⟨HS, hHS⟩ : ∃ HS, HS = H6.put (H.size + 3) (.own 0 [.slice AN x.nodes.length cN, .slice AL x.links.length cL]) := ⟨_, rfl⟩
  have hseS : H6.sees HS := by rw [hHS]; exact Hp.sees_box _ h63
  have hleA := Hp.le_put_new (b := H.size + 3) (Hp.le_trans (Hp.le_push _ _) (Hp.le_trans hleC5 hleC6)) (by simp) (.own 0 [.slice AN x.nodes.length cN, .slice AL x.links.length cL])
  rw [← hHS] at hleA
  have k0 : HS.get H.size = .own 0 [.slice A0 f.vars.length c0, .slice A1 f.order.length c1, .slice A2 f.parent.length c2, .slice A3 f.links.length c3, .slice A4 f.loops.length c4] := le_got hleA (by simp; omega) (by intro e; cases e) t_get
  have k2 : HS.get (H.size + 2) = .own 0 [.slice none 0 0, .slice none 0 0] := le_got hleA (by simp) (by intro e; cases e) t_get
  have k5 : HS.get (H.size + 3) = .own 0 [.slice AN x.nodes.length cN, .slice AL x.links.length cL] := by rw [hHS]; exact Hp.put_same _ _ _
  have hzS : HS.size = H6.size := by rw [hHS]; simp
  have hleHS : H.le HS := Hp.le_trans (Hp.le_push' (Hp.le_push' (H.le_push _) _) _) hleA
  have hsN : Sl (kSl kLink) HS (.slice AN x.nodes.length cN) x.nodes := hpp6.slN.mono hseS
  have hsL : Sl (kSl kLink) HS (.slice AL x.links.length cL) x.links := hpp6.slL.mono hseS
  change ACode true _ _ _ _ _ (H6.put (H.size + 3) (.own 0 [.slice AN x.nodes.length cN, .slice AL x.links.length cL]))
  rw [← hHS]
  refine ac_region (by kernel_rfl) ?_
  refine aops_val (av_fieldOff (off := 1) rfl Try.underlying26 rfl inf23.size (by decide) rfl) ?_
  refine aops_val (av_load1 rfl Try.underlying23 rfl t_cell) ?_
  refine aops_val (av_len rfl Try.underlying23) ?_
  first | refine aops_val (av_move_int rfl) ?_ | refine aops_val (av_move rfl) ?_
  refine ac_block ?_
  refine ac_loop (fun n t H' => ∃ (k : Nat), k ≤ f.order.length ∧ n = f.order.length - k ∧ H' = HS ∧ (∀ (j : Nat) (h : j < f.order.length), j < k → rootless f x f.order[j] = false) ∧ t 2 = .pointer (some ⟨H.size, 0, none⟩) ∧ t 4 = .pointer (some ⟨H.size + 2, 0, none⟩) ∧ t 5 = .pointer (some ⟨H.size + 3, 0, none⟩) ∧ t 15 = .slice A1 f.order.length c1 ∧ t 16 = .int .i64 f.order.length ∧ t 17 = .int .i64 k) (f.order.length) (⟨0, by omega, rfl, rfl, fun j h h0 => by omega, rfl, rfl, rfl, rfl, rfl, rfl⟩) ?_
  rintro n t HS ⟨k, hk, rfl, rfl, hok, e2, e4, e5, e15, e16, e17⟩
  refine ac_seq ?_
  refine ac_region (by kernel_rfl) ?_
  refine aops_val (av_lt (by first | assumption | rfl) (by first | assumption | rfl)) ?_
  refine ac_seq ?_
  refine ac_split rfl rfl ?_ ?_
  · intro hc1
    (try simp only [decide_eq_true_eq, decide_eq_false_iff_not, Bool.not_eq_true', Bool.not_eq_false'] at hc1)
    refine ac_skip ?_
    refine ac_seq ?_
    refine ac_block ?_
    refine ac_seq ?_
    refine ac_region (by kernel_rfl) ?_
    have hk' : k < f.order.length := by omega
    have hwm : f.order.getD k 0 ∈ f.order := by rw [getD_at hk']; exact List.getElem_mem hk'
    obtain ⟨b1, o1, rfl, hb1, hcell1⟩ := hs1.int_at (i := (k : Int)) (by omega) (by omega)
    rw [Int.toNat_natCast] at hcell1
    have hcell1' := hleHS.cell1 hb1 hcell1
    obtain ⟨w, hw⟩ : ∃ w : Nat, f.order.getD k 0 = (w : Int) := ⟨(f.order.getD k 0).toNat, by have := hg.order_in hwm; omega⟩
    have hwn : w < f.vars.length := by have := hg.order_in hwm; omega
    rw [hw] at hcell1'
    obtain ⟨b2, o2, rfl, hb2, hcell2⟩ := hs2.int_at (i := (w : Int)) (by omega) (by omega)
    rw [Int.toNat_natCast] at hcell2
    have hcell2' := hleHS.cell1 hb2 hcell2
    have hwx : w < x.nodes.length := by rw [hfx.n1]; exact hwn
    obtain ⟨b3, o3, ks, eB, hb3, ⟨w0, rfl, hw0⟩, hcell3⟩ := hsN.elem_at hwx
    subst eB
    have hcell3' := hcell3.one
    obtain ⟨A9, c9, rfl⟩ := hw0.shape
    have hwk : f.order[k] = (w : Int) := by rw [← getD_at hk']; exact hw
    refine aops_val (av_indexAddr (by first | assumption | rfl) (by first | assumption | rfl) Try.underlying23 inf3.size t_idx t_idx) ?_
    refine aops_val (av_load1 rfl Try.underlying3 rfl t_cell) ?_
    first | refine aops_val (av_assign_int rfl) ?_ | refine aops_val (av_assign rfl) ?_
    refine ac_seq ?_
    refine ac_region (by kernel_rfl) ?_
    refine aops_val (av_fieldOff (off := 2) (by first | assumption | rfl) Try.underlying26 (by first | assumption | rfl) inf23.size (by decide) (by first | assumption | rfl)) ?_
    refine aops_val (av_load1 rfl Try.underlying23 rfl t_cell) ?_
    first | refine aops_val (av_move_int rfl) ?_ | refine aops_val (av_move rfl) ?_
    refine aops_val (av_indexAddr rfl rfl Try.underlying23 inf3.size t_idx t_idx) ?_
    refine aops_val (av_load1 rfl Try.underlying3 rfl t_cell) ?_
    refine aops_val (av_eq rfl rfl) ?_
    first | refine aops_val (av_move_bool rfl) ?_ | refine aops_val (av_move rfl) ?_
    refine aops_guard rfl rfl rfl ?_ ?_
    · intro hg2
      have hpar : f.parent.getD w 0 = -1 := of_decide_eq_true hg2
      refine aops_wval (want_yes rfl rfl rfl hg2) (av_fieldOff (off := 0) (by first | assumption | rfl) Try.underlying29 (by first | assumption | rfl) inf27.size (by decide) (by first | assumption | rfl)) ?_
      refine aops_wval (want_yes rfl rfl rfl hg2) (av_load1 rfl Try.underlying27 rfl t_cell) ?_
      first | refine aops_wval (want_yes rfl rfl rfl hg2) (av_move_int rfl) ?_ | refine aops_wval (want_yes rfl rfl rfl hg2) (av_move rfl) ?_
      refine aops_wval (want_yes rfl rfl rfl hg2) (av_indexAddr rfl rfl Try.underlying27 inf50.size t_idx t_idx) ?_
      refine aops_wval (want_yes rfl rfl rfl hg2) (av_load1 rfl Try.underlying50 rfl t_cell) ?_
      refine aops_wval (want_yes rfl rfl rfl hg2) (av_len rfl Try.underlying50) ?_
      refine aops_wval (want_yes rfl rfl rfl hg2) (av_eq rfl rfl) ?_
      refine aops_val (av_pick_bool (congrArg Value.bool hg2) rfl) ?_
      refine ac_split rfl rfl ?_ ?_
      · intro hc3
        have hlen : x.nodes[w].length = 0 := by have := of_decide_eq_true hc3; omega
        have hany : f.order.any (rootless f x) = true := List.any_eq_true.2 ⟨_, List.getElem_mem hk', by rw [hwk]; unfold rootless; rw [Int.toNat_natCast, getD_list hwx, decide_eq_true hpar, decide_eq_true hlen]; rfl⟩
        refine ac_seq ?_
        refine ac_region (by kernel_rfl) ?_
        refine aops_val (av_fieldOff (off := 0) (by first | assumption | rfl) Try.underlying26 (by first | assumption | rfl) inf22.size (by decide) (by first | assumption | rfl)) ?_
        refine aops_val (av_load1 rfl Try.underlying22 rfl t_cell) ?_
        refine aops_val (av_len rfl Try.underlying22) ?_
        first | refine aops_val (av_assign_int rfl) ?_ | refine aops_val (av_assign rfl) ?_
        refine ac_seq ?_
        refine ac_draw (by kernel_rfl) (reg_of (B := [0, 1, 0, 4, 15, 31]) (π := [0, 1, 2, 3, 4, 5]) (by kernel_rfl)) ?_
        first | refine adr_val rfl rfl (av_move_int rfl) t_lt ?_ | refine adr_val rfl rfl (av_move rfl) t_lt ?_
        refine adr_make rfl rfl (am_makeSlice Try.underlying27 inf50 rfl (by decide) (by decide) rfl rfl (by omega) (by omega) (by omega)) ?_
        first | refine adr_val rfl rfl (av_move_int rfl) t_lt ?_ | refine adr_val rfl rfl (av_move rfl) t_lt ?_
        refine adr_make rfl rfl (am_makeSlice Try.underlying27 inf50 rfl (by decide) (by decide) rfl rfl (by omega) (by omega) (by omega)) ?_
        first | refine adr_val rfl rfl (av_build (pl := [(0, 1), (1, 1)]) (r := [.slice _ _ _, .slice _ _ _]) Try.underlying29 inf29.zero (by decide) rfl rfl) t_lt ?_ | refine adr_val rfl rfl (av_build (pl := [(0, 1), (1, 1)]) (r := [_, _]) Try.underlying29 inf29.zero (by decide) rfl rfl) t_lt ?_
        first | refine adr_op rfl rfl (aop_putN (vs := [.slice _ _ _, .slice _ _ _]) (by first | assumption | rfl) (by first | assumption | rfl) inf29.size t_get t_room (by first | assumption | rfl) (by first | assumption | rfl) ?_) | refine adr_op rfl rfl (aop_putN (vs := [_, _]) (by first | assumption | rfl) (by first | assumption | rfl) inf29.size t_get t_room (by first | assumption | rfl) (by first | assumption | rfl) ?_)
        refine ⟨t_pend, ?_⟩
        refine ac_ret ?_
        have hof : ofP f p = ⟨List.replicate f.vars.length [], List.replicate f.vars.length []⟩ := by unfold ofP; rw [← hx, if_pos hany]
        rw [hof]
        refine ⟨_, aresult1 (ares_cell (by first | assumption | rfl) (aload_agg (cs := [_, _]) Try.underlying29 rfl inf29.size t_cells)), [_, _], rfl, ⟨_, _, rfl, sl_empties ?_ ?_, sl_empties ?_ ?_⟩, ?_⟩
        · simp <;> omega
        · rw [Hp.put_other _ _ (by omega), Hp.push_old _ _ (by simp)]; exact Hp.push_new _ _
        · simp <;> omega
        · rw [Hp.put_other _ _ (by simp; omega)]; exact Hp.push_new _ _
        · exact Hp.le_put_new (Hp.le_push' (Hp.le_push' hleHS _) _) (by omega) _
      · intro hc3
        have hlen : x.nodes[w].length ≠ 0 := by have := of_decide_eq_false hc3; omega
        refine ac_skip ?_
        refine ac_region (by kernel_rfl) ?_
        first | refine aops_val (av_add64 (by first | assumption | rfl) (by first | assumption | rfl) t_fits) ?_ | refine aops_val (av_add (by first | assumption | rfl) (by first | assumption | rfl)) ?_
        first | refine aops_val (av_move_int rfl) ?_ | refine aops_val (av_move rfl) ?_
        refine ⟨f.order.length - (k + 1), by omega, k + 1, by omega, rfl, rfl, fun j h h0 => ?_, e2, e4, e5, e15, e16, rfl⟩
        rcases Nat.lt_or_ge j k with h1 | h1
        · exact hok j h h1
        · obtain rfl : j = k := by omega
          rw [hwk]; unfold rootless; rw [Int.toNat_natCast, getD_list hwx]
          first
            | (rw [decide_eq_false hpar]; rfl)
            | (rw [decide_eq_false hlen, Bool.and_false])
    · intro hg2
      have hpar : f.parent.getD w 0 ≠ -1 := of_decide_eq_false hg2
      refine aops_skip (want_no rfl rfl rfl hg2 rfl) ?_
      refine aops_skip (want_no rfl rfl rfl hg2 rfl) ?_
      refine aops_skip (want_no rfl rfl rfl hg2 rfl) ?_
      refine aops_skip (want_no rfl rfl rfl hg2 rfl) ?_
      refine aops_skip (want_no rfl rfl rfl hg2 rfl) ?_
      refine aops_skip (want_no rfl rfl rfl hg2 rfl) ?_
      refine aops_skip (want_no rfl rfl rfl hg2 rfl) ?_
      refine aops_val (av_pick_bool (congrArg Value.bool hg2) (by first | assumption | rfl)) ?_
      refine ac_cond_false rfl rfl ?_
      refine ac_skip ?_
      refine ac_region (by kernel_rfl) ?_
      first | refine aops_val (av_add64 (by first | assumption | rfl) (by first | assumption | rfl) t_fits) ?_ | refine aops_val (av_add (by first | assumption | rfl) (by first | assumption | rfl)) ?_
      first | refine aops_val (av_move_int rfl) ?_ | refine aops_val (av_move rfl) ?_
      refine ⟨f.order.length - (k + 1), by omega, k + 1, by omega, rfl, rfl, fun j h h0 => ?_, e2, e4, e5, e15, e16, rfl⟩
      rcases Nat.lt_or_ge j k with h1 | h1
      · exact hok j h h1
      · obtain rfl : j = k := by omega
        rw [hwk]; unfold rootless; rw [Int.toNat_natCast, getD_list hwx]
        first
          | (rw [decide_eq_false hpar]; rfl)
          | (rw [decide_eq_false hlen, Bool.and_false])
  · intro hc1
    (try simp only [decide_eq_true_eq, decide_eq_false_iff_not, Bool.not_eq_true', Bool.not_eq_false'] at hc1)
    refine ac_exit ?_
    refine ac_seq ?_
    refine ac_region (by kernel_rfl) ?_
    first | refine aops_val (av_loadN (cs := [.slice _ _ _, .slice _ _ _]) (by first | assumption | rfl) Try.underlying29 (by first | assumption | rfl) inf29.size t_cells) ?_ | refine aops_val (av_loadN (cs := [_, _]) (by first | assumption | rfl) Try.underlying29 (by first | assumption | rfl) inf29.size t_cells) ?_
    first | refine aops_op (aop_putN (vs := [.slice _ _ _, .slice _ _ _]) (by first | assumption | rfl) (by first | assumption | rfl) inf29.size t_get t_room (by first | assumption | rfl) (by first | assumption | rfl) ?_) | refine aops_op (aop_putN (vs := [_, _]) (by first | assumption | rfl) (by first | assumption | rfl) inf29.size t_get t_room (by first | assumption | rfl) (by first | assumption | rfl) ?_)
    refine ac_ret ?_
    have hof : ofP f p = x := by
      unfold ofP
      rw [← hx, if_neg]
      intro h
      obtain ⟨v, hv, hr⟩ := List.any_eq_true.1 h
      obtain ⟨j, hj, rfl⟩ := List.getElem_of_mem hv
      rw [hok j hj (by omega)] at hr
      cases hr
    rw [hof]
    exact ⟨_, aresult1 (ares_cell (by first | assumption | rfl) (aload_agg (cs := [_, _]) Try.underlying29 rfl inf29.size t_cells)), [_, _], rfl, ⟨_, _, rfl, hsN.mono (Hp.sees_box _ k2), hsL.mono (Hp.sees_box _ k2)⟩, Hp.le_put_new hleHS (by omega) _⟩
end Go.Proofs.Ytcaeoebphfjfiaa.Am


/- Reducing in plain words: what is left fits together, and stays. -/
namespace Go.Proofs.Ytcaeoebphfjfiaa.Am
open Go Go.RowKit
set_option maxRecDepth 100000
set_option linter.unusedVariables false
set_option linter.unusedSimpArgs false

def nd (p : Parts) (v : Nat) : List Link := p.nodes.getD v []
def lk (p : Parts) (v : Nat) : List Link := p.links.getD v []
def firsts (l : List Link) : List Int := l.map (·.a)
def lasts (l : List Link) : List Int := l.map (·.b)
def par (f : Forest) (v : Nat) : Int := f.parent.getD v 0
theorem getD_set {ns : List (List Link)} {u w : Nat} {l : List Link} (hu : u < ns.length) : (ns.set u l).getD w [] = if w = u then l else ns.getD w [] := by
  rw [List.getD_eq_getElem?_getD, List.getElem?_set, List.getD_eq_getElem?_getD]
  by_cases h : u = w
  · subst h; rw [if_pos rfl, if_pos hu, if_pos rfl]; rfl
  · rw [if_neg h, if_neg (fun e => h e.symm)]
/-- A variable's links whose ends are left. -/
def left (p : Parts) (v u : Nat) : List Link := (lk p v).filter fun x => decide (x.a ∈ firsts (nd p u)) && decide (x.b ∈ firsts (nd p v))
def upC (f : Forest) (p : Parts) (v : Nat) : Parts :=
  if par f v = -1 then p else ⟨p.nodes.set (par f v).toNat ((nd p (par f v).toNat).filter fun x => decide (x.a ∈ firsts (left p v (par f v).toNat))), p.links.set v (left p v (par f v).toNat)⟩
def downC (f : Forest) (p : Parts) (v : Nat) : Parts :=
  if par f v = -1 then p else ⟨p.nodes.set v ((nd p v).filter fun x => decide (x.a ∈ lasts (left p v (par f v).toNat))), p.links.set v (left p v (par f v).toNat)⟩
def NB (p : Parts) : Prop := ∀ v, ∀ x ∈ nd p v, x.a = x.b
theorem mem_firsts {l : List Link} {n : Int} : n ∈ endsL l false ↔ n ∈ firsts l := by rw [endsL_mem]; unfold firsts; simp [List.mem_map]
theorem mem_lasts {l : List Link} {n : Int} : n ∈ endsL l true ↔ n ∈ lasts l := by rw [endsL_mem]; unfold lasts; simp [List.mem_map]
theorem withinL_left (p : Parts) (v u : Nat) : withinL (lk p v) (endsL (nd p u) false) (endsL (nd p v) false) = left p v u := by
  unfold withinL left
  exact List.filter_congr fun x _ => by simp only [mem_firsts]
theorem withinL_keep {p : Parts} (hb : NB p) (v : Nat) (l : List Int) : withinL (nd p v) l l = (nd p v).filter fun x => decide (x.a ∈ l) := by
  unfold withinL
  exact List.filter_congr fun x hx => by rw [← hb v x hx, Bool.and_self]
theorem linksStep_eq {p : Parts} {v u : Nat} : linksStep p.nodes p.links v u = p.links.set v (left p v u) := by
  unfold linksStep
  exact congrArg _ (withinL_left p v u)
theorem upStep_eq {f : Forest} {p : Parts} {v : Nat} (hb : NB p) (hv : v < p.links.length) : upStep f p v = upC f p v := by
  unfold upStep upC
  split
  · rw [if_pos (by assumption)]
  · rw [if_neg (by assumption), linksStep_eq, getD_set hv, if_pos rfl]
    unfold keepStep
    rw [show p.nodes.getD (f.parent.getD v 0).toNat [] = nd p (par f v).toNat from rfl, withinL_keep hb]
    exact congrArg (fun l => Parts.mk (p.nodes.set _ l) _) (List.filter_congr fun x _ => by simp only [mem_firsts]; rfl)
theorem downStep_eq {f : Forest} {p : Parts} {v : Nat} (hb : NB p) (hv : v < p.links.length) : downStep f p v = downC f p v := by
  unfold downStep downC
  split
  · rw [if_pos (by assumption)]
  · rw [if_neg (by assumption), linksStep_eq, getD_set hv, if_pos rfl]
    unfold keepStep
    rw [show p.nodes.getD v [] = nd p v from rfl, withinL_keep hb]
    exact congrArg (fun l => Parts.mk (p.nodes.set _ l) _) (List.filter_congr fun x _ => by simp only [mem_lasts]; rfl)
/-- As many lists of each as variables. -/
def Lens (n : Nat) (p : Parts) : Prop := p.nodes.length = n ∧ p.links.length = n
theorem Lens.up {n : Nat} {f : Forest} {p : Parts} (h : Lens n p) (v : Nat) : Lens n (upC f p v) := by
  unfold upC; split
  · exact h
  · exact ⟨by simp [h.1], by simp [h.2]⟩
theorem Lens.down {n : Nat} {f : Forest} {p : Parts} (h : Lens n p) (v : Nat) : Lens n (downC f p v) := by
  unfold downC; split
  · exact h
  · exact ⟨by simp [h.1], by simp [h.2]⟩
theorem nd_up {n : Nat} {f : Forest} {p : Parts} {v : Nat} (h : Lens n p) (hu : (par f v).toNat < n) (w : Nat) : nd (upC f p v) w = if par f v ≠ -1 ∧ w = (par f v).toNat then (nd p w).filter (fun x => decide (x.a ∈ firsts (left p v (par f v).toNat))) else nd p w := by
  unfold upC
  by_cases hp : par f v = -1
  · rw [if_pos hp, if_neg (fun h => h.1 hp)]
  · rw [if_neg hp]
    show (p.nodes.set _ _).getD w [] = _
    rw [getD_set (by rw [h.1]; exact hu)]
    by_cases hw : w = (par f v).toNat
    · rw [if_pos hw, if_pos ⟨hp, hw⟩, hw]
    · rw [if_neg hw, if_neg (fun h => hw h.2)]; rfl
theorem lk_up {n : Nat} {f : Forest} {p : Parts} {v : Nat} (h : Lens n p) (hv : v < n) (w : Nat) : lk (upC f p v) w = if par f v ≠ -1 ∧ w = v then left p v (par f v).toNat else lk p w := by
  unfold upC
  by_cases hp : par f v = -1
  · rw [if_pos hp, if_neg (fun h => h.1 hp)]
  · rw [if_neg hp]
    show (p.links.set _ _).getD w [] = _
    rw [getD_set (by rw [h.2]; exact hv)]
    by_cases hw : w = v
    · rw [if_pos hw, if_pos ⟨hp, hw⟩]
    · rw [if_neg hw, if_neg (fun h => hw h.2)]; rfl
theorem nd_down {n : Nat} {f : Forest} {p : Parts} {v : Nat} (h : Lens n p) (hv : v < n) (w : Nat) : nd (downC f p v) w = if par f v ≠ -1 ∧ w = v then (nd p v).filter (fun x => decide (x.a ∈ lasts (left p v (par f v).toNat))) else nd p w := by
  unfold downC
  by_cases hp : par f v = -1
  · rw [if_pos hp, if_neg (fun h => h.1 hp)]
  · rw [if_neg hp]
    show (p.nodes.set _ _).getD w [] = _
    rw [getD_set (by rw [h.1]; exact hv)]
    by_cases hw : w = v
    · rw [if_pos hw, if_pos ⟨hp, hw⟩]
    · rw [if_neg hw, if_neg (fun h => hw h.2)]; rfl
theorem lk_down {n : Nat} {f : Forest} {p : Parts} {v : Nat} (h : Lens n p) (hv : v < n) (w : Nat) : lk (downC f p v) w = if par f v ≠ -1 ∧ w = v then left p v (par f v).toNat else lk p w := by
  unfold downC
  by_cases hp : par f v = -1
  · rw [if_pos hp, if_neg (fun h => h.1 hp)]
  · rw [if_neg hp]
    show (p.links.set _ _).getD w [] = _
    rw [getD_set (by rw [h.2]; exact hv)]
    by_cases hw : w = v
    · rw [if_pos hw, if_pos ⟨hp, hw⟩]
    · rw [if_neg hw, if_neg (fun h => hw h.2)]; rfl
/-- What is left is of what there was, in its order. -/
def Sub (q p : Parts) : Prop := ∀ v, (nd q v).Sublist (nd p v) ∧ (lk q v).Sublist (lk p v)
theorem Sub.refl (p : Parts) : Sub p p := fun _ => ⟨List.Sublist.refl _, List.Sublist.refl _⟩
theorem Sub.trans {p q r : Parts} (h : Sub r q) (k : Sub q p) : Sub r p := fun v => ⟨(h v).1.trans (k v).1, (h v).2.trans (k v).2⟩
theorem Sub.up {n : Nat} {f : Forest} {p : Parts} {v : Nat} (h : Lens n p) (hu : (par f v).toNat < n) (hv : v < n) : Sub (upC f p v) p := fun w => by
  rw [nd_up h hu, lk_up h hv]
  constructor
  · split
    · exact List.filter_sublist
    · exact List.Sublist.refl _
  · split
    · rename_i hw; rw [hw.2]; exact List.filter_sublist
    · exact List.Sublist.refl _
theorem Sub.down {n : Nat} {f : Forest} {p : Parts} {v : Nat} (h : Lens n p) (hv : v < n) : Sub (downC f p v) p := fun w => by
  rw [nd_down h hv, lk_down h hv]
  constructor
  · split
    · rename_i hw; rw [hw.2]; exact List.filter_sublist
    · exact List.Sublist.refl _
  · split
    · rename_i hw; rw [hw.2]; exact List.filter_sublist
    · exact List.Sublist.refl _
theorem NB.sub {p q : Parts} (h : NB p) (k : Sub q p) : NB q := fun v x hx => h v x ((k v).1.subset hx)
theorem left_mem {p : Parts} {v u : Nat} {x : Link} : x ∈ left p v u ↔ x ∈ lk p v ∧ x.a ∈ firsts (nd p u) ∧ x.b ∈ firsts (nd p v) := by
  unfold left; rw [List.mem_filter, Bool.and_eq_true, decide_eq_true_eq, decide_eq_true_eq]
/-- The order of a good forest, cut somewhere. -/
theorem GoodF.cut {f : Forest} (h : GoodF f) {d r : List Int} {w : Int} (e : f.order = d ++ w :: r) : (0 ≤ w ∧ w < f.vars.length) ∧ w ∉ d ∧ w ∉ r ∧ (par f w.toNat = -1 ∨ par f w.toNat ∈ d) := by
  have hl := h.l1
  have hlen : d.length < f.vars.length := by rw [← hl, e]; simp
  have h1 := h.ok d.length hlen
  have hw : f.order.getD d.length 0 = w := by rw [e]; simp [List.getD_eq_getElem?_getD]
  have ht : f.order.take d.length = d := by rw [e]; simp
  unfold OkF at h1
  rw [hw, ht] at h1
  refine ⟨⟨h1.1, h1.2.1⟩, h1.2.2.1, ?_, h1.2.2.2⟩
  have := h.nodup
  rw [e] at this
  have := (List.nodup_append.1 this).2.1
  exact (List.nodup_cons.1 this).1
end Go.Proofs.Ytcaeoebphfjfiaa.Am


/- What is left by going up and down fits together. -/
namespace Go.Proofs.Ytcaeoebphfjfiaa.Am
open Go Go.RowKit
set_option maxRecDepth 100000
set_option linter.unusedVariables false
set_option linter.unusedSimpArgs false

def BS (p : Parts) (v : Nat) : Prop := ∀ x ∈ lk p v, x.b ∈ firsts (nd p v)
def UP (f : Forest) (p : Parts) (v : Nat) : Prop := ∀ y ∈ nd p (par f v).toNat, y.a ∈ firsts (lk p v)
structure Full (f : Forest) (p : Parts) (v : Nat) : Prop where
  ends : ∀ x ∈ lk p v, x.a ∈ firsts (nd p (par f v).toNat) ∧ x.b ∈ firsts (nd p v)
  up : UP f p v
  down : ∀ y ∈ nd p v, y.a ∈ lasts (lk p v)
/-- A variable whose parent is another one. -/
structure Kid (f : Forest) (n w : Nat) : Prop where
  lt : w < n
  ge : -1 ≤ par f w
  up : (par f w).toNat < n
  ne : par f w ≠ w
theorem Kid.ne' {f : Forest} {n w : Nat} (h : Kid f n w) (hp : par f w ≠ -1) : w ≠ (par f w).toNat := fun e => h.ne (by have := h.ge; omega)
theorem GoodF.kid {f : Forest} (h : GoodF f) {d r : List Int} {w : Nat} (e : f.order = d ++ (w : Int) :: r) : Kid f f.vars.length w := by
  obtain ⟨⟨h1, h2⟩, h3, h4, h5⟩ := h.cut e
  have h6 := h.parent_ge (v := w) (by omega)
  have h7 : par f w ≠ w := fun e2 => by
    rw [Int.toNat_natCast] at h5
    rcases h5 with h5 | h5
    · omega
    · rw [e2] at h5; exact h3 h5
  exact ⟨by omega, h6.1, by have := h6.2; unfold par; omega, h7⟩
theorem up_step_inv {f : Forest} {n : Nat} {p : Parts} {w : Nat} {done : List Int} (hl : Lens n p) (hk : Kid f n w) (hwd : (w : Int) ∉ done) (hpd : par f w ∉ done) (h : ∀ v : Nat, (v : Int) ∈ done → par f v ≠ -1 → BS p v ∧ UP f p v) :
    ∀ v : Nat, (v : Int) ∈ done ++ [(w : Int)] → par f v ≠ -1 → BS (upC f p w) v ∧ UP f (upC f p w) v := by
  intro v hv hpv
  have hsub := Sub.up hl hk.up hk.lt
  rcases List.mem_append.1 hv with hv | hv
  · obtain ⟨h1, h2⟩ := h v hv hpv
    have hne : v ≠ w := fun e => hwd (e ▸ hv)
    have hlk : lk (upC f p w) v = lk p v := by rw [lk_up hl hk.lt, if_neg (fun h => hne h.2)]
    have hnd : nd (upC f p w) v = nd p v := by
      rw [nd_up hl hk.up, if_neg]
      intro ⟨h3, h4⟩
      exact hpd (by rwa [show par f w = (v : Int) by have := hk.ge; omega])
    refine ⟨fun x hx => ?_, fun y hy => ?_⟩
    · rw [hlk] at hx; rw [hnd]; exact h1 x hx
    · rw [hlk]; exact h2 y ((hsub _).1.subset hy)
  · obtain rfl : v = w := by have := List.mem_singleton.1 hv; omega
    have hlk : lk (upC f p v) v = left p v (par f v).toNat := by rw [lk_up hl hk.lt, if_pos ⟨hpv, rfl⟩]
    have hnd : nd (upC f p v) v = nd p v := by rw [nd_up hl hk.up, if_neg (fun h => hk.ne' hpv h.2)]
    refine ⟨fun x hx => ?_, fun y hy => ?_⟩
    · rw [hlk] at hx; rw [hnd]; exact (left_mem.1 hx).2.2
    · rw [hlk]
      unfold UP at *
      rw [nd_up hl hk.up, if_pos ⟨hpv, rfl⟩, List.mem_filter, decide_eq_true_eq] at hy
      exact hy.2
theorem down_step_inv {f : Forest} {n : Nat} {p : Parts} {w : Nat} {done : List Int} (hl : Lens n p) (hb : NB p) (hk : Kid f n w) (hwd : (w : Int) ∉ done) (hpd : ∀ v : Nat, (v : Int) ∈ done → par f v ≠ -1 → par f v ≠ w) (hge : ∀ v : Nat, (v : Int) ∈ done → -1 ≤ par f v)
    (h1 : ∀ v : Nat, (v : Int) ∈ done → par f v ≠ -1 → Full f p v) (h2 : ∀ v : Nat, v < n → (v : Int) ∉ done → par f v ≠ -1 → BS p v ∧ UP f p v) :
    (∀ v : Nat, (v : Int) ∈ done ++ [(w : Int)] → par f v ≠ -1 → Full f (downC f p w) v) ∧ (∀ v : Nat, v < n → (v : Int) ∉ done ++ [(w : Int)] → par f v ≠ -1 → BS (downC f p w) v ∧ UP f (downC f p w) v) := by
  have hsub := Sub.down (f := f) hl hk.lt
  constructor
  · intro v hv hpv
    rcases List.mem_append.1 hv with hv | hv
    · obtain ⟨k1, k2, k3⟩ := h1 v hv hpv
      have hne : v ≠ w := fun e => hwd (e ▸ hv)
      have hlk : lk (downC f p w) v = lk p v := by rw [lk_down hl hk.lt, if_neg (fun h => hne h.2)]
      have hnd : nd (downC f p w) v = nd p v := by rw [nd_down hl hk.lt, if_neg (fun h => hne h.2)]
      refine ⟨fun x hx => ?_, fun y hy => ?_, fun y hy => ?_⟩
      · rw [hlk] at hx
        rw [hnd]
        have hnu : nd (downC f p w) (par f v).toNat = nd p (par f v).toNat := by
          rw [nd_down hl hk.lt, if_neg (fun h => hpd v hv hpv (by have := h.2; have := hge v hv; omega))]
        rw [hnu]; exact k1 x hx
      · rw [hlk]; exact k2 y ((hsub _).1.subset hy)
      · rw [hlk]; rw [hnd] at hy; exact k3 y hy
    · obtain rfl : v = w := by have := List.mem_singleton.1 hv; omega
      obtain ⟨k1, k2⟩ := h2 v hk.lt hwd hpv
      have hlk : lk (downC f p v) v = left p v (par f v).toNat := by rw [lk_down hl hk.lt, if_pos ⟨hpv, rfl⟩]
      have hnu : nd (downC f p v) (par f v).toNat = nd p (par f v).toNat := by rw [nd_down hl hk.lt, if_neg (fun h => hk.ne' hpv h.2.symm)]
      have hnd : nd (downC f p v) v = (nd p v).filter fun x => decide (x.a ∈ lasts (left p v (par f v).toNat)) := by rw [nd_down hl hk.lt, if_pos ⟨hpv, rfl⟩]
      refine ⟨fun x hx => ?_, fun y hy => ?_, fun y hy => ?_⟩
      · rw [hlk] at hx
        obtain ⟨m1, m2, m3⟩ := left_mem.1 hx
        rw [hnu, hnd]
        refine ⟨m2, ?_⟩
        obtain ⟨z, hz, e⟩ := List.mem_map.1 m3
        exact List.mem_map.2 ⟨z, List.mem_filter.2 ⟨hz, by rw [decide_eq_true_eq, e]; exact List.mem_map.2 ⟨x, hx, rfl⟩⟩, e⟩
      · rw [hnu] at hy
        rw [hlk]
        obtain ⟨x, hx, e⟩ := List.mem_map.1 (k2 y hy)
        exact List.mem_map.2 ⟨x, left_mem.2 ⟨hx, by rw [e]; exact List.mem_map.2 ⟨y, hy, rfl⟩, k1 x hx⟩, e⟩
      · rw [hnd, List.mem_filter, decide_eq_true_eq] at hy
        rw [hlk]; exact hy.2
  · intro v hv hvd hpv
    simp only [List.mem_append, List.mem_singleton, not_or] at hvd
    obtain ⟨k1, k2⟩ := h2 v hv hvd.1 hpv
    have hne : v ≠ w := fun e => hvd.2 (by rw [e])
    have hlk : lk (downC f p w) v = lk p v := by rw [lk_down hl hk.lt, if_neg (fun h => hne h.2)]
    have hnd : nd (downC f p w) v = nd p v := by rw [nd_down hl hk.lt, if_neg (fun h => hne h.2)]
    refine ⟨fun x hx => ?_, fun y hy => ?_⟩
    · rw [hlk] at hx; rw [hnd]; exact k1 x hx
    · rw [hlk]; exact k2 y ((hsub _).1.subset hy)
theorem up_all {f : Forest} (hg : GoodF f) : ∀ (rest done : List Int) (p : Parts), f.order.reverse = done ++ rest → Lens f.vars.length p → NB p → (∀ v : Nat, (v : Int) ∈ done → par f v ≠ -1 → BS p v ∧ UP f p v) →
    Lens f.vars.length (rest.foldl (fun p v => upC f p v.toNat) p) ∧ Sub (rest.foldl (fun p v => upC f p v.toNat) p) p ∧ (∀ v : Nat, v < f.vars.length → par f v ≠ -1 → BS (rest.foldl (fun p v => upC f p v.toNat) p) v ∧ UP f (rest.foldl (fun p v => upC f p v.toNat) p) v) ∧ rest.foldl (fun p v => upStep f p v.toNat) p = rest.foldl (fun p v => upC f p v.toNat) p
  | [], done, p, e, hl, hb, h => ⟨hl, Sub.refl p, fun v hv hp => h v (by have := hg.in_order hv; rw [← List.mem_reverse, e, List.append_nil] at this; exact this) hp, rfl⟩
  | w :: rest, done, p, e, hl, hb, h => by
    have e' : f.order = rest.reverse ++ w :: done.reverse := by
      have := congrArg List.reverse e
      rw [List.reverse_reverse, List.reverse_append, List.reverse_cons, List.append_assoc] at this
      exact this
    obtain ⟨⟨w1, w2⟩, w3, w4, w5⟩ := hg.cut e'
    obtain ⟨m, rfl⟩ : ∃ m : Nat, w = m := ⟨w.toNat, by omega⟩
    have hk := hg.kid e'
    have hnd := hg.nodup
    rw [e'] at hnd
    have hdis := (List.nodup_append.1 hnd).2.2
    rw [Int.toNat_natCast] at w5
    have hpd : par f m ∉ done := fun hm => by
      rcases w5 with h5 | h5
      · rw [h5] at hm
        have : (-1 : Int) ∈ f.order := by rw [e']; simp [hm]
        have := (hg.order_in this).1
        omega
      · exact hdis _ h5 _ (List.mem_cons_of_mem _ (List.mem_reverse.2 hm)) rfl
    have hs := up_step_inv hl hk (fun hm => w4 (List.mem_reverse.2 hm)) hpd h
    have hsub := Sub.up hl hk.up hk.lt
    obtain ⟨k1, k2, k3, k4⟩ := up_all hg rest (done ++ [(m : Int)]) (upC f p m) (by rw [e, List.append_assoc]; rfl) (hl.up m) (hb.sub hsub) hs
    simp only [List.foldl_cons, Int.toNat_natCast]
    refine ⟨k1, k2.trans hsub, k3, ?_⟩
    rw [upStep_eq hb (by rw [hl.2]; exact hk.lt)]
    exact k4
theorem down_all {f : Forest} (hg : GoodF f) : ∀ (rest done : List Int) (p : Parts), f.order = done ++ rest → Lens f.vars.length p → NB p → (∀ v : Nat, (v : Int) ∈ done → par f v ≠ -1 → Full f p v) → (∀ v : Nat, v < f.vars.length → (v : Int) ∉ done → par f v ≠ -1 → BS p v ∧ UP f p v) →
    Lens f.vars.length (rest.foldl (fun p v => downC f p v.toNat) p) ∧ Sub (rest.foldl (fun p v => downC f p v.toNat) p) p ∧ (∀ v : Nat, v < f.vars.length → par f v ≠ -1 → Full f (rest.foldl (fun p v => downC f p v.toNat) p) v)
  | [], done, p, e, hl, hb, h, h2 => ⟨hl, Sub.refl p, fun v hv hp => h v (by have := hg.in_order hv; rw [e, List.append_nil] at this; exact this) hp⟩
  | w :: rest, done, p, e, hl, hb, h, h2 => by
    obtain ⟨⟨w1, w2⟩, w3, w4, w5⟩ := hg.cut e
    obtain ⟨m, rfl⟩ : ∃ m : Nat, w = m := ⟨w.toNat, by omega⟩
    have hk := hg.kid e
    have hpd : ∀ v : Nat, (v : Int) ∈ done → par f v ≠ -1 → par f v ≠ m := fun v hv hp hm => by
      obtain ⟨d1, d2, e2⟩ := List.append_of_mem hv
      have e3 : f.order = d1 ++ (v : Int) :: (d2 ++ (m : Int) :: rest) := by rw [e, e2]; simp
      obtain ⟨_, _, _, h5⟩ := hg.cut e3
      rw [Int.toNat_natCast] at h5
      rcases h5 with h5 | h5
      · exact hp h5
      · rw [hm] at h5; exact w3 (by rw [e2]; simp [h5])
    have hge : ∀ v : Nat, (v : Int) ∈ done → -1 ≤ par f v := fun v hv => (hg.parent_ge (by have := hg.order_in (v := v) (by rw [e]; simp [hv]); omega)).1
    obtain ⟨s1, s2⟩ := down_step_inv hl hb hk w3 hpd hge h h2
    have hsub := Sub.down (f := f) hl hk.lt
    obtain ⟨k1, k2, k3⟩ := down_all hg rest (done ++ [(m : Int)]) (downC f p m) (by rw [e, List.append_assoc]; rfl) (hl.down m) (hb.sub hsub) s1 s2
    simp only [List.foldl_cons, Int.toNat_natCast]
    exact ⟨k1, k2.trans hsub, k3⟩
theorem down_fold {f : Forest} {n : Nat} : ∀ (rest : List Int) (p : Parts), (∀ v ∈ rest, v.toNat < n) → Lens n p → NB p → rest.foldl (fun p v => downStep f p v.toNat) p = rest.foldl (fun p v => downC f p v.toNat) p
  | [], _, _, _, _ => rfl
  | w :: rest, p, hr, hl, hb => by
    have hw := hr w (by simp)
    simp only [List.foldl_cons]
    rw [downStep_eq hb (by rw [hl.2]; exact hw)]
    exact down_fold rest _ (fun v hv => hr v (by simp [hv])) (hl.down _) (hb.sub (Sub.down hl hw))
end Go.Proofs.Ytcaeoebphfjfiaa.Am


/- What was reduced is good, and stays. -/
namespace Go.Proofs.Ytcaeoebphfjfiaa.Am
open Go Go.RowKit
set_option maxRecDepth 100000
set_option linter.unusedVariables false
set_option linter.unusedSimpArgs false

theorem lessL_trans {x y z : Link} (h : lessL x y = true) (k : lessL y z = true) : lessL x z = true := by
  simp only [lessL, Bool.or_eq_true, Bool.and_eq_true, decide_eq_true_eq] at *
  omega
theorem pairwise_near {α : Type} {R : α → α → Prop} (tr : ∀ x y z, R x y → R y z → R x z) {xs : List α} (h : ∀ (i : Nat) (hi : i < xs.length), 0 < i → R (xs[i - 1]'(by omega)) xs[i]) : xs.Pairwise R := by
  rw [List.pairwise_iff_getElem]
  intro i j hi hj hij
  obtain ⟨d, rfl⟩ : ∃ d, j = i + 1 + d := ⟨j - i - 1, by omega⟩
  clear hij
  induction d with
  | zero => exact h (i + 1) hj (by omega)
  | succ d ih => exact tr _ _ _ (ih (by omega)) (h (i + 1 + d + 1) hj (by omega))
theorem goodL_iff {xs : List Link} : GoodL xs ↔ (∀ x ∈ xs, OkL x) ∧ xs.Pairwise fun x y => lessL x y = true := by
  constructor
  · intro h
    refine ⟨fun x hx => ?_, pairwise_near (R := fun x y => lessL x y = true) (fun _ _ _ h1 h2 => lessL_trans h1 h2) fun i hi h0 => (h i hi).2 h0⟩
    obtain ⟨i, hi, rfl⟩ := List.getElem_of_mem hx
    exact (h i hi).1
  · intro ⟨h1, h2⟩ i hi
    exact ⟨h1 _ (List.getElem_mem hi), fun h0 => (List.pairwise_iff_getElem.1 h2) (i - 1) i (by omega) hi (by omega)⟩
theorem GoodL.sub {xs ys : List Link} (h : GoodL xs) (hs : ys.Sublist xs) : GoodL ys := by
  rw [goodL_iff] at *
  exact ⟨fun x hx => h.1 x (hs.subset hx), h.2.sublist hs⟩
theorem GoodP.lens {f : Forest} {p : Parts} (h : GoodP f p) : Lens f.vars.length p := ⟨h.n1, h.n2⟩
theorem GoodP.nb {f : Forest} {p : Parts} (h : GoodP f p) : NB p := fun v x hx => by
  by_cases hv : v < f.vars.length
  · exact (h.ok v hv).2.2.1 x hx
  · unfold nd at hx
    rw [List.getD_eq_getElem?_getD, List.getElem?_eq_none (by have := h.n1; omega)] at hx
    simp at hx
theorem GoodP.sub {f : Forest} {p q : Parts} (h : GoodP f p) (hl : Lens f.vars.length q) (hs : Sub q p) : GoodP f q := by
  refine ⟨h.gf, hl.1, hl.2, fun v hv => ?_⟩
  obtain ⟨k1, k2, k3, k4⟩ := h.ok v hv
  obtain ⟨s1, s2⟩ := hs v
  unfold nd at s1
  unfold lk at s2
  refine ⟨k1.sub s1, k2.sub s2, fun x hx => k3 x (s1.subset hx), fun hp => ?_⟩
  have := k4 hp
  rw [this] at s2
  exact List.sublist_nil.1 s2
theorem reduced {f : Forest} {p : Parts} (h : GoodP f p) : Lens f.vars.length (upP f p) ∧ Sub (upP f p) p ∧ Lens f.vars.length (downP f (upP f p)) ∧ Sub (downP f (upP f p)) p ∧ ∀ v : Nat, v < f.vars.length → par f v ≠ -1 → Full f (downP f (upP f p)) v := by
  obtain ⟨k1, k2, k3, k4⟩ := up_all h.gf f.order.reverse [] p rfl h.lens h.nb (fun v hv => by simp at hv)
  have e1 : upP f p = f.order.reverse.foldl (fun p v => upC f p v.toNat) p := k4
  rw [← e1] at k1 k2 k3
  have hb := h.nb.sub k2
  obtain ⟨d1, d2, d3⟩ := down_all h.gf f.order [] (upP f p) rfl k1 hb (fun v hv => by simp at hv) (fun v hv _ hp => k3 v hv hp)
  have e2 : downP f (upP f p) = f.order.foldl (fun p v => downC f p v.toNat) (upP f p) := down_fold _ _ (fun v hv => by have := h.gf.order_in hv; omega) k1 hb
  rw [← e2] at d1 d2 d3
  exact ⟨k1, k2, d1, d2.trans k2, d3⟩
theorem Full.left {f : Forest} {p : Parts} {v : Nat} (h : Full f p v) : left p v (par f v).toNat = lk p v := by
  unfold Am.left
  rw [List.filter_eq_self]
  intro x hx
  obtain ⟨h1, h2⟩ := h.ends x hx
  rw [decide_eq_true h1, decide_eq_true h2]; rfl
def empties (n : Nat) : Parts := ⟨List.replicate n [], List.replicate n []⟩
theorem nd_empties (n v : Nat) : nd (empties n) v = [] := by
  unfold nd empties
  rw [List.getD_eq_getElem?_getD, List.getElem?_replicate]
  split <;> rfl
theorem lk_empties (n v : Nat) : lk (empties n) v = [] := nd_empties n v
theorem lens_empties (n : Nat) : Lens n (empties n) := ⟨by simp [empties], by simp [empties]⟩
theorem sub_empties (n : Nat) (p : Parts) : Sub (empties n) p := fun v => by rw [nd_empties, lk_empties]; exact ⟨List.nil_sublist _, List.nil_sublist _⟩
theorem full_empties (f : Forest) (n v : Nat) : Full f (empties n) v :=
  ⟨fun x hx => by rw [lk_empties] at hx; simp at hx, fun y hy => by rw [nd_empties] at hy; simp at hy, fun y hy => by rw [nd_empties] at hy; simp at hy⟩
/-- What is left fits together, and is of what there was. -/
theorem ofP_all {f : Forest} {p : Parts} (h : GoodP f p) : Lens f.vars.length (ofP f p) ∧ Sub (ofP f p) p ∧ (∀ v : Nat, v < f.vars.length → par f v ≠ -1 → Full f (ofP f p) v) ∧ (f.order.any (rootless f (ofP f p)) = true → ofP f p = empties f.vars.length) := by
  obtain ⟨k1, k2, d1, d2, d3⟩ := reduced h
  unfold ofP
  split
  · exact ⟨lens_empties _, sub_empties _ _, fun v _ _ => full_empties f _ v, fun _ => rfl⟩
  · rename_i hr
    exact ⟨d1, d2, d3, fun h => absurd h hr⟩
theorem ofP_good {f : Forest} {p : Parts} (h : GoodP f p) : GoodP f (ofP f p) := h.sub (ofP_all h).1 (ofP_all h).2.1
end Go.Proofs.Ytcaeoebphfjfiaa.Am


/- Parts in memory of their own, by the document's words. -/
namespace Go.Proofs.Ytcaeoebphfjfiaa.Am
open Go Go.RowKit
set_option maxRecDepth 100000
set_option linter.unusedVariables false
set_option linter.unusedSimpArgs false

theorem OwnP.lists_put {G H : Hp} {v : Value} {xs : List (List Link)} (h : OwnP (kSl kLink) G H v xs) {b1 : Nat} {cs : List Value} (hb : G.get b1 = .own 1 cs) (x : Blk) : OwnP (kSl kLink) (G.put b1 x) (H.put b1 x) v xs := by
  rcases h with ⟨rfl, rfl, rfl⟩ | ⟨b, ds, c, rfl, h1, hd, rfl, hc, he⟩
  · exact .inl ⟨rfl, rfl, rfl⟩
  · have hne : b ≠ b1 := fun e => by rw [e, hb] at hd; cases hd
    exact .inr ⟨b, ds, c, rfl, h1, by rw [Hp.put_other _ _ hne]; exact hd, (Hp.put_comm _ hne _ _), hc, he.lists_put hb x⟩
end Go.Proofs.Ytcaeoebphfjfiaa.Am


/- All rows of good parts, in plain words. -/
namespace Go.Proofs.Ytcaeoebphfjfiaa.Am
open Go Go.RowKit
set_option maxRecDepth 100000
set_option linter.unusedVariables false
set_option linter.unusedSimpArgs false

structure RowT where
  nodes : List Int
  cost : Int
  n : Int
def kRow : Kd RowT where
  sz := 3
  pos := by decide
  rep H r cs := ∃ v, cs = [v, .int .i64 r.cost, .int .u64 r.n] ∧ Sl (kInt .i64) H v r.nodes
  len h := by obtain ⟨_, rfl, _⟩ := h; rfl
  mono he h := by obtain ⟨v, rfl, h0⟩ := h; exact ⟨v, rfl, h0.mono he⟩
  one h u hu := by
    obtain ⟨v, rfl, h0⟩ := h
    obtain ⟨_, _, rfl⟩ := h0.shape
    simp at hu
    rcases hu with rfl | rfl | rfl <;> rfl
def dLink : Link := ⟨0, 0, 0, 0⟩
def linkOf (f : Forest) (p : Parts) (v : Nat) (r : RowT) (x : Link) : Int := findI (lk p v) (r.nodes.getD (atI f.order (par f v)).toNat 0) x.a
def rowOne (f : Forest) (p : Parts) (v : Nat) (r : RowT) (x : Link) : Option RowT :=
  if 0 ≤ par f v then
    if 0 ≤ linkOf f p v r x then some ⟨r.nodes ++ [x.a], r.cost + (x.cost + ((lk p v).getD (linkOf f p v r x).toNat dLink).cost), timesI r.n (timesI x.n ((lk p v).getD (linkOf f p v r x).toNat dLink).n)⟩ else none
  else some ⟨r.nodes ++ [x.a], r.cost + x.cost, timesI r.n x.n⟩
def vAt (f : Forest) (i : Nat) : Nat := (f.order.getD i 0).toNat
def rowsK (f : Forest) (p : Parts) : Nat → List RowT
  | 0 => [⟨[], 0, 1⟩]
  | i + 1 => (rowsK f p i).flatMap fun r => (nd p (vAt f i)).filterMap (rowOne f p (vAt f i) r)
def rowsP (f : Forest) (p : Parts) : List RowT := rowsK f p f.order.length
/-- Few enough variables, nodes, and costs. -/
structure Tiny (f : Forest) (p : Parts) : Prop where
  vars : f.vars.length ≤ 5
  nodes : ∀ v, (nd p v).length ≤ 4
  costN : ∀ v, ∀ x ∈ nd p v, 0 ≤ x.cost ∧ x.cost ≤ 1000000000 ∧ 0 ≤ x.n ∧ x.n ≤ 4611686018427387904
  costL : ∀ v, ∀ x ∈ lk p v, 0 ≤ x.cost ∧ x.cost ≤ 1000000000 ∧ 0 ≤ x.n ∧ x.n ≤ 4611686018427387904
structure RowOk (i : Nat) (r : RowT) : Prop where
  len : r.nodes.length = i
  c0 : 0 ≤ r.cost
  c1 : r.cost ≤ 2000000000 * i
  n0 : 0 ≤ r.n
  n1 : r.n ≤ 4611686018427387904
theorem timesI_le {a b : Int} (ha : 0 ≤ a) (hb : 0 ≤ b) : 0 ≤ timesI a b ∧ timesI a b ≤ 4611686018427387904 := by
  have h : 0 ≤ min a mostI * min b mostI := Int.mul_nonneg (by unfold mostI; omega) (by unfold mostI; omega)
  unfold timesI mostI at *
  omega
theorem atI_take {xs : List Int} {v : Int} {i : Nat} (h : v ∈ xs.take i) : ∃ q : Nat, atI xs v = q ∧ q < i ∧ ∃ hq : q < xs.length, xs[q] = v := by
  obtain ⟨j, hj, e⟩ := List.getElem_of_mem h
  rw [List.length_take] at hj
  rw [List.getElem_take] at e
  cases hf : xs.findIdx? (fun x => decide (x = v)) with
  | none =>
    rw [List.findIdx?_eq_none_iff] at hf
    have := hf xs[j] (List.getElem_mem _)
    simp [e] at this
  | some q =>
    obtain ⟨hq, h1, h2⟩ := List.findIdx?_eq_some_iff_getElem.1 hf
    refine ⟨q, by unfold atI; rw [hf], ?_, hq, of_decide_eq_true h1⟩
    rcases Nat.lt_or_ge j q with h3 | h3
    · have := h2 j h3; simp [e] at this
    · omega
/-- A slice of plain elements, where a block of other elements becomes something else. -/
theorem Sl.put_odd {α : Type} {k : Kd α} (hk : ∀ (H H' : Hp) x cs, k.rep H x cs → k.rep H' x cs) {G : Hp} {v : Value} {xs : List α} (h : Sl k G v xs) {b1 st : Nat} {cs : List Value} (hb : G.get b1 = .own st cs) (hne : st ≠ k.sz) (x : Blk) : Sl k (G.put b1 x) v xs := by
  rcases h with h | ⟨b, o, c, e, h1, h2, h3⟩
  · exact .inl h
  · have hne' : b ≠ b1 := fun e => by subst e; rw [hb] at h2; exact hne h2
    refine .inr ⟨b, o, c, e, h1, by rw [Hp.put_other _ _ hne']; exact h2, fun i y hy => ?_⟩
    obtain ⟨d, r, hc⟩ := h3 i y hy
    exact ⟨d, hk _ _ _ _ r, fun j u hj => by have := hc j u hj; rw [cell_put_old hne']; exact this⟩
/-- Whatever comes, as long as all that is there stays. -/
theorem OwnP.stays {α : Type} {k : Kd α} {G H H1 : Hp} {v : Value} {xs : List α} (h : OwnP k G H v xs) (hle : H.le H1) : ∃ G1, G.le G1 ∧ OwnP k G1 H1 v xs ∧ ∀ {β : Type} (k' : Kd β) (r : Value) (ys : List β), (∀ (H H' : Hp) x cs, k'.rep H x cs → k'.rep H' x cs) → k.sz ≠ k'.sz → Sl k' H1 r ys → Sl k' G1 r ys := by
  rcases h with ⟨rfl, rfl, rfl⟩ | ⟨b, cs, c, rfl, hb, hd, rfl, hcap, he⟩
  · exact ⟨H1, hle, .inl ⟨rfl, rfl, rfl⟩, fun _ _ _ _ _ h => h⟩
  · have hg : H1.get b = .own k.sz cs := by
      rw [hle.2 b (by simpa using hb) (by rw [Hp.put_same]; intro e; cases e), Hp.put_same]
    have hle1 : G.le (H1.put b .dead) := ⟨by have := hle.1; simpa using this, fun i hi hn => by
      have hne : i ≠ b := fun e => by subst e; exact hn hd
      rw [Hp.put_other _ _ hne, hle.2 i (by simpa using hi) (by rw [Hp.put_other _ _ hne]; exact hn), Hp.put_other _ _ hne]⟩
    refine ⟨H1.put b .dead, hle1, .inr ⟨b, cs, c, rfl, by have := hle.1; simp at *; omega, Hp.put_same _ _ _, by rw [Hp.put_put]; exact (Hp.put_self _ hg).symm, hcap, he.mono hle1.sees⟩, fun k' r ys hk hne h => h.put_odd hk hg hne _⟩
theorem plain_int (k : IntKind) : ∀ (H H' : Hp) x cs, (kInt k).rep H x cs → (kInt k).rep H' x cs := fun _ _ _ _ h => h
theorem plain_link : ∀ (H H' : Hp) x cs, kLink.rep H x cs → kLink.rep H' x cs := fun _ _ _ _ h => h
end Go.Proofs.Ytcaeoebphfjfiaa.Am


/- Trees in plain words: maps from places and nodes to where a group stands. -/
namespace Go.Proofs.Ytcaeoebphfjfiaa.Am
open Go Go.RowKit
set_option maxRecDepth 100000
set_option linter.unusedVariables false
set_option linter.unusedSimpArgs false

theorem keyAt_spec {es : List (Value × Value)} {k : Value} {j : Nat} (h : keyAt es k = some j) : ∃ v, es[j]? = some (k, v) ∧ ∀ i, i < j → ∀ e, es[i]? = some e → e.1 ≠ k := by
  unfold keyAt at h
  obtain ⟨hj, h1, h2⟩ := List.findIdx?_eq_some_iff_getElem.1 h
  have h1' : es[j].1 = k := by simpa using h1
  refine ⟨es[j].2, by rw [List.getElem?_eq_getElem hj, ← h1'], fun i hi e he => ?_⟩
  obtain ⟨hi', e2⟩ := List.getElem?_eq_some_iff.1 he
  have := h2 i hi
  rw [e2] at this
  simpa using this
theorem keyAt_no {es : List (Value × Value)} {k : Value} (h : keyAt es k = none) : ∀ e ∈ es, e.1 ≠ k := fun e he => by
  unfold keyAt at h
  rw [List.findIdx?_eq_none_iff] at h
  simpa using h e he
theorem mapGet_some {es : List (Value × Value)} {k v : Value} {j : Nat} (h : es[j]? = some (k, v)) (hno : ∀ i, i < j → ∀ e, es[i]? = some e → e.1 ≠ k) : mapGet es k = some v := by
  unfold mapGet
  rw [keyAt_some h hno]
  simp [h]
theorem mapGet_none {es : List (Value × Value)} {k : Value} (h : ∀ e ∈ es, e.1 ≠ k) : mapGet es k = none := by
  unfold mapGet
  rw [keyAt_none h]; rfl
theorem mapGet_keys {es es' : List (Value × Value)} {k : Value} (h : ∀ (i : Nat) v, es[i]? = some (k, v) → es'[i]? = some (k, v)) (h' : ∀ (i : Nat) v, es'[i]? = some (k, v) → es[i]? = some (k, v)) : mapGet es' k = mapGet es k := by
  cases hk : keyAt es k with
  | none =>
    have hn := keyAt_no hk
    rw [mapGet_none hn, mapGet_none]
    intro e he e1
    obtain ⟨i, hi⟩ := List.getElem?_of_mem he
    exact hn _ (List.mem_of_getElem? (h' i e.2 (by rw [← e1]; exact hi))) rfl
  | some j =>
    obtain ⟨v, h1, h2⟩ := keyAt_spec hk
    rw [mapGet_some h1 h2, mapGet_some (h j v h1)]
    intro i hi e he e1
    exact h2 i hi _ (h' i e.2 (by rw [← e1]; exact he)) rfl
theorem mapGet_put {es : List (Value × Value)} {k v : Value} : mapGet (mapPut es k v) k = some v := by
  unfold mapPut
  cases hk : keyAt es k with
  | none =>
    simp only
    refine mapGet_some (j := es.length) (by simp) fun i hi e he => ?_
    rw [List.getElem?_append_left hi] at he
    exact keyAt_no hk e (List.mem_of_getElem? he)
  | some j =>
    obtain ⟨v0, h1, h2⟩ := keyAt_spec hk
    have hj := (List.getElem?_eq_some_iff.1 h1).1
    simp only
    refine mapGet_some (j := j) (by simp [hj]) fun i hi e he => ?_
    rw [List.getElem?_set_ne (by omega)] at he
    exact h2 i hi e he
theorem mapGet_other {es : List (Value × Value)} {k k' v : Value} (hne : k' ≠ k) : mapGet (mapPut es k v) k' = mapGet es k' := by
  unfold mapPut
  cases hk : keyAt es k with
  | none =>
    simp only
    refine mapGet_keys (fun i u h => ?_) (fun i u h => ?_)
    · rw [List.getElem?_append_left (List.getElem?_eq_some_iff.1 h).1]; exact h
    · by_cases hi : i < es.length
      · rwa [List.getElem?_append_left hi] at h
      · rw [List.getElem?_append_right (by omega)] at h
        have h0 : i - es.length = 0 := by have := (List.getElem?_eq_some_iff.1 h).1; simp at this; omega
        rw [h0] at h
        simp at h
        exact absurd h.1.symm hne
  | some j =>
    obtain ⟨v0, h1, h2⟩ := keyAt_spec hk
    simp only
    refine mapGet_keys (fun i u h => ?_) (fun i u h => ?_)
    · by_cases hij : j = i
      · subst hij; rw [h1] at h; injection h with h; injection h with h; exact absurd h.symm hne
      · rw [List.getElem?_set_ne hij]; exact h
    · by_cases hij : j = i
      · subst hij
        rw [List.getElem?_set] at h
        simp at h
        exact absurd h.2.1.symm hne
      · rwa [List.getElem?_set_ne hij] at h
theorem mapPut_keys {K : Value → Prop} {es : List (Value × Value)} {k v : Value} (h : ∀ e ∈ es, K e.1) (hk : K k) : ∀ e ∈ mapPut es k v, K e.1 := by
  unfold mapPut
  intro e he
  split at he
  · rcases List.mem_or_eq_of_mem_set he with he | rfl
    · exact h e he
    · exact hk
  · rcases List.mem_append.1 he with he | he
    · exact h e he
    · rw [List.mem_singleton.1 he]; exact hk
/-- A tree. -/
structure TreeT where
  vars : List ByteArray
  parent : List Int
  links : List (List Link)
def nodeOf (ns : List Link) (b : Int) : Link := (ns.find? fun y => decide (y.a = b)).getD dLink
def weigh (ns : List Link) (l : Link) : Link := ⟨l.a, l.b, l.cost + (nodeOf ns l.b).cost, timesI l.n (nodeOf ns l.b).n⟩
def placeLinks (f : Forest) (x : Parts) (v : Nat) : List Link := if par f v = -1 then nd x v else (lk x v).map (weigh (nd x v))
def treeOf (f : Forest) (x : Parts) : TreeT := ⟨f.order.map fun v => f.vars.getD v.toNat ⟨#[]⟩, f.order.map fun v => atI f.order (par f v.toNat), f.order.map fun v => placeLinks f x v.toNat⟩
/-- A group. -/
def TreeT.row (T : TreeT) (i : Nat) (above : Int) : List Link := if T.parent.getD i 0 = -1 then T.links.getD i [] else (T.links.getD i []).filter fun l => decide (l.a = above)
/-- The key of a place and who is above, and where a group stands. -/
def spotV (i above : Int) : Value := .agg #[.int .i64 i, .int .i64 above]
def spanV (fr to : Nat) : Value := .agg #[.int .i64 fr, .int .i64 to]
theorem spanV_rel (fr to : Nat) (φ : Inj) : VRel φ (spanV fr to) (spanV fr to) := VRel.agg_list (xs := [.int .i64 fr, .int .i64 to]) (ys := [.int .i64 fr, .int .i64 to]) (LRel.plain rfl)
def IsSpot (v : Value) : Prop := ∃ i a, v = spotV i a
theorem spotV_inj {i a i' a' : Int} (h : spotV i a = spotV i' a') : i = i' ∧ a = a' := by
  unfold spotV at h
  simp only [Value.agg.injEq] at h
  have h := congrArg Array.toList h
  simp at h
  exact h
/-- Where groups stand. -/
structure Spots (T : TreeT) (n : Nat) (es : List (Value × Value)) : Prop where
  keys : ∀ e ∈ es, IsSpot e.1
  at_ : ∀ i, i < n → ∀ above : Int, (T.parent.getD i 0 = -1 → above = -1) → ∃ fr to : Nat, (mapGet es (spotV i above)).getD (spanV 0 0) = spanV fr to ∧ fr ≤ to ∧ to ≤ (T.links.getD i []).length ∧ ((T.links.getD i []).take to).drop fr = T.row i above
  none : ∀ (i : Nat) above, n ≤ i → mapGet es (spotV i above) = none
/-- A tree that can be read. -/
def TreeR (H : Hp) (v : Value) (T : TreeT) : Prop := ∃ b mb s0 s1 s2 es, v = .pointer (some ⟨b, 0, none⟩) ∧ b < H.size ∧ mb < H.size ∧ H.get b = .own 0 [s0, s1, s2, .map (some mb)] ∧ Sl kStr H s0 T.vars ∧ Sl (kInt .i64) H s1 T.parent ∧ Sl (kSl kLink) H s2 T.links ∧ H.get mb = .map es ∧ Spots T T.links.length es
theorem TreeR.mono {H H' : Hp} (hle : H.le H') {v : Value} {T : TreeT} (h : TreeR H v T) : TreeR H' v T := by
  obtain ⟨b, mb, s0, s1, s2, es, rfl, h1, h2, h3, h4, h5, h6, h7, h8⟩ := h
  exact ⟨b, mb, s0, s1, s2, es, rfl, Nat.lt_of_lt_of_le h1 hle.1, Nat.lt_of_lt_of_le h2 hle.1, le_got hle h1 (by intro e; cases e) h3, h4.mono hle.sees, h5.mono hle.sees, h6.mono hle.sees, le_got hle h2 (by intro e; cases e) h7, h8⟩
end Go.Proofs.Ytcaeoebphfjfiaa.Am


/- Places and who is above, as keys. -/
namespace Go.Proofs.Ytcaeoebphfjfiaa.Am
open Go Go.RowKit
set_option maxRecDepth 100000
set_option linter.unusedVariables false
set_option linter.unusedSimpArgs false

theorem spot_eq (i a i' a' : Int) (w : World) : (Op.equal 113 (spotV i a) (spotV i' a')).run Try.prog w = .ok (decide (i = i') && decide (a = a')) w := by
  have h := run_struct_eq (P := Try.prog) (xs := [.int .i64 i, .int .i64 a]) (ys := [.int .i64 i', .int .i64 a']) Try.underlying113 (by kernel_rfl) (fun f hf => by
    simp at hf
    rcases hf with rfl | rfl
    · exact ⟨by simp, by simp, .int Try.underlying3 (by decide)⟩
    · exact ⟨by simp, by simp, .int Try.underlying3 (by decide)⟩) w
  refine h.trans ?_
  congr 1
  rw [Bool.eq_iff_iff]
  simp [allEq, scalEq]
theorem keyTy_spot : KeyTy Try.prog 113 IsSpot := keyTy_struct Try.underlying113
  (fun {φ v v'} ⟨i, a, e⟩ h => by
    subst e
    exact VRel.agg_scal (xs := [.int .i64 i, .int .i64 a]) h (by intro v hv; simp at hv; rcases hv with rfl | rfl <;> rfl))
  (fun w em {v} ⟨i, a, e⟩ => by
    subst e
    have c : ∀ b, (Instr.checkKey em 9999 3 (.int .i64 b)).run Try.prog w = .ok () w := fun b => by
      show (Instr.checkKey em (9998 + 1) _ _).run _ _ = _
      unfold Instr.checkKey
      simp [run_underlying Try.underlying3]
    show (Instr.checkKey em (9999 + 1) _ _).run _ _ = _
    unfold Instr.checkKey
    simp [spotV, run_underlying Try.underlying113]
    rw [run_part Try.underlying3 rfl (v := .int .i64 i) rfl]
    simp only [Result.andThen_ok, c]
    rw [run_part Try.underlying3 rfl (v := .int .i64 a) rfl]
    simp only [Result.andThen_ok, c])
  (fun w {v} ⟨i, a, e⟩ => by
    subst e
    simp [Instr.keyThatStays, Instr.sameBits, spotV])
  (fun w {x y} ⟨i, a, e⟩ ⟨i', a', e'⟩ => by
    subst e e'
    refine ⟨_, spot_eq i a i' a' w, ?_⟩
    rw [Bool.and_eq_true, decide_eq_true_eq, decide_eq_true_eq]
    exact ⟨fun ⟨h1, h2⟩ => by rw [h1, h2], fun h => by obtain ⟨h1, h2⟩ := spotV_inj h; exact ⟨h1.symm, h2.symm⟩⟩)
end Go.Proofs.Ytcaeoebphfjfiaa.Am


/- Trees are asked. -/
namespace Go.Proofs.Ytcaeoebphfjfiaa.Am
open Go Go.RowKit
set_option maxRecDepth 100000
set_option linter.unusedVariables false
set_option linter.unusedSimpArgs false

theorem in_tree {T : TreeT} {v : Value} {H : Hp} (ht : TreeR H v T) (i : Int) :
    ACalls Try.prog 63 #[v, .int .i64 i] H (fun r H' => r = .bool (decide (0 ≤ i) && decide (i < T.vars.length)) ∧ H' = H) := by
  obtain ⟨b, mb, s0, s1, s2, es, rfl, hb, hmb, hg, hs0, hs1, hs2, hm, hsp⟩ := ht
  obtain ⟨A0, c0, rfl⟩ := hs0.shape
  obtain ⟨A1, c1, rfl⟩ := hs1.shape
  obtain ⟨A2, c2, rfl⟩ := hs2.shape
  refine acalls_of_code Try.func63 rfl rfl rfl (by simp) ?_
  refine ac_seq ?_
  refine ac_region (by kernel_rfl) ?_
  first | refine aops_val (av_assign_bool rfl) ?_ | refine aops_val (av_assign rfl) ?_
  refine ac_seq ?_
  refine ac_region (by kernel_rfl) ?_
  first | refine aops_val (av_move_ptr rfl) ?_ | refine aops_val (av_move rfl) ?_
  refine aops_val (av_ptr_ne_nil rfl rfl Try.underlying33) ?_
  first | refine aops_val (av_move_bool rfl) ?_ | refine aops_val (av_move rfl) ?_
  refine aops_guard rfl rfl rfl ?_ ?_
  · intro hg1
    have hp1 := hg1; try simp only [decide_eq_true_eq, decide_eq_false_iff_not, Bool.not_eq_true', Bool.not_eq_false'] at hp1
    first | refine aops_wval (want_yes rfl rfl rfl hg1) (av_move_int rfl) ?_ | refine aops_wval (want_yes rfl rfl rfl hg1) (av_move rfl) ?_
    refine aops_wval (want_yes rfl rfl rfl hg1) (av_ge rfl rfl) ?_
    refine aops_val (av_pick_bool (congrArg Value.bool hg1) rfl) ?_
    first | refine aops_val (av_move_bool rfl) ?_ | refine aops_val (av_move rfl) ?_
    refine aops_guard rfl rfl rfl ?_ ?_
    · intro hg2
      have hp2 := hg2; try simp only [decide_eq_true_eq, decide_eq_false_iff_not, Bool.not_eq_true', Bool.not_eq_false'] at hp2
      first | refine aops_wval (want_yes rfl rfl rfl hg2) (av_move_int rfl) ?_ | refine aops_wval (want_yes rfl rfl rfl hg2) (av_move rfl) ?_
      first | refine aops_wval (want_yes rfl rfl rfl hg2) (av_move_ptr rfl) ?_ | refine aops_wval (want_yes rfl rfl rfl hg2) (av_move rfl) ?_
      refine aops_wval (want_yes rfl rfl rfl hg2) (av_nilCheck rfl) ?_
      refine aops_wval (want_yes rfl rfl rfl hg2) (av_fieldOff (off := 0) rfl Try.underlying89 rfl inf22.size (by decide) rfl) ?_
      refine aops_wval (want_yes rfl rfl rfl hg2) (av_load1 rfl Try.underlying22 rfl t_cell) ?_
      refine aops_wval (want_yes rfl rfl rfl hg2) (av_len rfl Try.underlying22) ?_
      refine aops_wval (want_yes rfl rfl rfl hg2) (av_lt rfl rfl) ?_
      refine aops_val (av_pick_bool (congrArg Value.bool hg2) rfl) ?_
      first | refine aops_val (av_assign_bool rfl) ?_ | refine aops_val (av_assign rfl) ?_
      refine ac_ret ?_
      refine ⟨.bool (decide (0 ≤ i) && decide (i < T.vars.length)), aresult1 (ares_tmp ?_), rfl, rfl⟩
      show Value.bool _ = _
      congr 1
      first | (simp_all; done) | (simp_all; omega)
    · intro hg2
      have hp2 := hg2; try simp only [decide_eq_true_eq, decide_eq_false_iff_not, Bool.not_eq_true', Bool.not_eq_false'] at hp2
      refine aops_skip (want_no rfl rfl rfl hg2 rfl) ?_
      refine aops_skip (want_no rfl rfl rfl hg2 rfl) ?_
      refine aops_skip (want_no rfl rfl rfl hg2 rfl) ?_
      refine aops_skip (want_no rfl rfl rfl hg2 rfl) ?_
      refine aops_skip (want_no rfl rfl rfl hg2 rfl) ?_
      refine aops_skip (want_no rfl rfl rfl hg2 rfl) ?_
      refine aops_skip (want_no rfl rfl rfl hg2 rfl) ?_
      refine aops_val (av_pick_bool (congrArg Value.bool hg2) rfl) ?_
      first | refine aops_val (av_assign_bool rfl) ?_ | refine aops_val (av_assign rfl) ?_
      refine ac_ret ?_
      refine ⟨.bool (decide (0 ≤ i) && decide (i < T.vars.length)), aresult1 (ares_tmp ?_), rfl, rfl⟩
      show Value.bool _ = _
      congr 1
      first | (simp_all; done) | (simp_all; omega)
  · intro hg1
    cases hg1
theorem Len_tree {T : TreeT} {v : Value} {H : Hp} (ht : TreeR H v T) :
    ACalls Try.prog 21 #[v] H (fun r H' => r = .int .i64 T.vars.length ∧ H' = H) := by
  obtain ⟨b, mb, s0, s1, s2, es, rfl, hb, hmb, hg, hs0, hs1, hs2, hm, hsp⟩ := ht
  obtain ⟨A0, c0, rfl⟩ := hs0.shape
  obtain ⟨A1, c1, rfl⟩ := hs1.shape
  obtain ⟨A2, c2, rfl⟩ := hs2.shape
  refine acalls_of_code Try.func21 rfl rfl rfl (by simp) ?_
  refine ac_seq ?_
  refine ac_region (by kernel_rfl) ?_
  first | refine aops_val (av_assign_int rfl) ?_ | refine aops_val (av_assign rfl) ?_
  refine ac_seq ?_
  refine ac_seq ?_
  refine ac_region (by kernel_rfl) ?_
  first | refine aops_val (av_move_ptr rfl) ?_ | refine aops_val (av_move rfl) ?_
  refine aops_val (av_ptr_eq_nil rfl t_spot rfl Try.underlying33) ?_
  refine ac_split rfl rfl ?_ ?_
  · intro hc1
    cases hc1
  · intro hc1
    (try simp only [decide_eq_true_eq, decide_eq_false_iff_not, Bool.not_eq_true', Bool.not_eq_false'] at hc1)
    refine ac_skip ?_
    refine ac_seq ?_
    refine ac_region (by kernel_rfl) ?_
    first | refine aops_val (av_move_ptr rfl) ?_ | refine aops_val (av_move rfl) ?_
    refine aops_val (av_nilCheck rfl) ?_
    refine aops_val (av_fieldOff (off := 0) rfl Try.underlying89 rfl inf22.size (by decide) rfl) ?_
    refine aops_val (av_load1 rfl Try.underlying22 rfl t_cell) ?_
    refine aops_val (av_len rfl Try.underlying22) ?_
    first | refine aops_val (av_assign_int rfl) ?_ | refine aops_val (av_assign rfl) ?_
    refine ac_ret ?_
    exact ⟨_, aresult1 (ares_tmp rfl), rfl, rfl⟩
theorem Parent_tree {T : TreeT} {v : Value} {H : Hp} (ht : TreeR H v T) (hl : T.parent.length = T.vars.length) (i : Int) :
    ACalls Try.prog 20 #[v, .int .i64 i] H (fun r H' => r = .int .i64 (if 0 ≤ i ∧ i < T.vars.length then T.parent.getD i.toNat 0 else -1) ∧ H' = H) := by
  have ht0 := ht
  obtain ⟨b, mb, s0, s1, s2, es, rfl, hb, hmb, hg, hs0, hs1, hs2, hm, hsp⟩ := ht
  obtain ⟨A0, c0, rfl⟩ := hs0.shape
  obtain ⟨A1, c1, rfl⟩ := hs1.shape
  obtain ⟨A2, c2, rfl⟩ := hs2.shape
  refine acalls_of_code Try.func20 rfl rfl rfl (by simp) ?_
  refine ac_seq ?_
  refine ac_region (by kernel_rfl) ?_
  first | refine aops_val (av_assign_int rfl) ?_ | refine aops_val (av_assign rfl) ?_
  refine ac_seq ?_
  refine ac_seq ?_
  refine ac_region (by kernel_rfl) ?_
  first | refine aops_val (av_move_ptr rfl) ?_ | refine aops_val (av_move rfl) ?_
  first | refine aops_val (av_move_int rfl) ?_ | refine aops_val (av_move rfl) ?_
  refine aops_op (aop_call (in_tree ht0 i) rfl Try.func63 rfl rfl rfl ?_)
  rintro v H ⟨rfl, rfl⟩
  refine aops_val (av_not rfl) ?_
  refine ac_split rfl rfl ?_ ?_
  · intro hc1
    have hno : ¬ (0 ≤ i ∧ i < T.vars.length) := fun h => by have h2 := hc1; rw [decide_eq_true h.1, decide_eq_true h.2] at h2; cases h2
    refine ac_seq ?_
    refine ac_region (by kernel_rfl) ?_
    first | refine aops_val (av_assign_int rfl) ?_ | refine aops_val (av_assign rfl) ?_
    refine ac_ret ?_
    exact ⟨.int .i64 (-1), aresult1 (ares_tmp rfl), by rw [if_neg hno], rfl⟩
  · intro hc1
    have hin : 0 ≤ i ∧ i < T.vars.length := by have h2 := hc1; simp at h2; omega
    refine ac_skip ?_
    refine ac_seq ?_
    obtain ⟨b1, o1, rfl, hb1, hcell1⟩ := hs1.int_at (i := i) hin.1 (by omega)
    refine ac_region (by kernel_rfl) ?_
    first | refine aops_val (av_move_ptr rfl) ?_ | refine aops_val (av_move rfl) ?_
    refine aops_val (av_nilCheck rfl) ?_
    refine aops_val (av_fieldOff (off := 1) rfl Try.underlying89 rfl inf23.size (by decide) rfl) ?_
    refine aops_val (av_load1 rfl Try.underlying23 rfl t_cell) ?_
    first | refine aops_val (av_move_int rfl) ?_ | refine aops_val (av_move rfl) ?_
    refine aops_val (av_indexAddr rfl rfl Try.underlying23 inf3.size t_idx t_idx) ?_
    refine aops_val (av_load1 rfl Try.underlying3 rfl t_cell) ?_
    first | refine aops_val (av_assign_int rfl) ?_ | refine aops_val (av_assign rfl) ?_
    refine ac_ret ?_
    exact ⟨.int .i64 (T.parent.getD i.toNat 0), aresult1 (ares_tmp rfl), by rw [if_pos hin], rfl⟩
/-- A group, as it lies in the tree. -/
theorem row_tree {T : TreeT} {v : Value} {H : Hp} (ht : TreeR H v T) (hl : T.parent.length = T.vars.length) (hl2 : T.links.length = T.vars.length) (hx : ∀ l ∈ T.links, l.length ≤ 1000000) (i above : Int) :
    ACalls Try.prog 62 #[v, .int .i64 i, .int .i64 above] H (fun r H' => H.le H' ∧ Sl kLink H' r (if 0 ≤ i ∧ i < T.vars.length then T.row i.toNat above else [])) := by
  have ht0 := ht
  obtain ⟨b, mb, s0, s1, s2, es, rfl, hb, hmb, hg, hs0, hs1, hs2, hm, hsp⟩ := ht
  obtain ⟨A0, c0, rfl⟩ := hs0.shape
  obtain ⟨A1, c1, rfl⟩ := hs1.shape
  obtain ⟨A2, c2, rfl⟩ := hs2.shape
  refine acalls_of_code Try.func62 rfl rfl rfl (by simp) ?_
  refine ac_seq ?_
  refine ac_region (by kernel_rfl) ?_
  first | refine aops_val (av_assign_sl rfl) ?_ | refine aops_val (av_assign rfl) ?_
  refine ac_seq ?_
  refine ac_seq ?_
  refine ac_region (by kernel_rfl) ?_
  first | refine aops_val (av_move_ptr rfl) ?_ | refine aops_val (av_move rfl) ?_
  first | refine aops_val (av_move_int rfl) ?_ | refine aops_val (av_move rfl) ?_
  refine aops_op (aop_call (in_tree ht0 i) rfl Try.func63 rfl rfl rfl ?_)
  rintro v H ⟨rfl, rfl⟩
  refine aops_val (av_not rfl) ?_
  refine ac_split rfl rfl ?_ ?_
  · intro hc1
    have hno : ¬ (0 ≤ i ∧ i < T.vars.length) := fun h => by have h2 := hc1; rw [decide_eq_true h.1, decide_eq_true h.2] at h2; cases h2
    refine ac_seq ?_
    refine ac_region (by kernel_rfl) ?_
    first | refine aops_val (av_assign_sl rfl) ?_ | refine aops_val (av_assign rfl) ?_
    refine ac_ret ?_
    exact ⟨.slice none 0 0, aresult1 (ares_tmp rfl), Hp.le_refl _, by rw [if_neg hno]; exact Sl.nil _ _⟩
  · intro hc1
    have hin : 0 ≤ i ∧ i < T.vars.length := by have h2 := hc1; simp at h2; omega
    refine ac_skip ?_
    refine ac_seq ?_
    refine ac_seq ?_
    obtain ⟨b1, o1, rfl, hb1, hcell1⟩ := hs1.int_at (i := i) hin.1 (by omega)
    obtain ⟨n, rfl⟩ : ∃ n : Nat, i = n := ⟨i.toNat, by omega⟩
    rw [Int.toNat_natCast] at hcell1
    rw [if_pos hin, Int.toNat_natCast]
    have hn : n < T.links.length := by omega
    obtain ⟨b2, o2, ks, eB, hb2, ⟨w0, rfl, hw0⟩, hcell2⟩ := hs2.elem_at hn
    subst eB
    have hcell2' := hcell2.one
    have gw : T.links.getD n [] = T.links[n] := getD_list hn
    obtain ⟨A6, c6, rfl⟩ := hw0.shape
    have hxl := hx _ (List.getElem_mem hn)
    refine ac_region (by kernel_rfl) ?_
    first | refine aops_val (av_move_ptr rfl) ?_ | refine aops_val (av_move rfl) ?_
    refine aops_val (av_nilCheck rfl) ?_
    refine aops_val (av_fieldOff (off := 1) rfl Try.underlying89 rfl inf23.size (by decide) rfl) ?_
    refine aops_val (av_load1 rfl Try.underlying23 rfl t_cell) ?_
    first | refine aops_val (av_move_int rfl) ?_ | refine aops_val (av_move rfl) ?_
    refine aops_val (av_indexAddr rfl rfl Try.underlying23 inf3.size t_idx t_idx) ?_
    refine aops_val (av_load1 rfl Try.underlying3 rfl t_cell) ?_
    refine aops_val (av_eq rfl rfl) ?_
    refine ac_split rfl rfl ?_ ?_
    · intro hc2
      have hroot : T.parent.getD n 0 = -1 := of_decide_eq_true hc2
      obtain ⟨fr, to, hget, hft, hto, hgrp⟩ := hsp.at_ n hn (-1) (fun _ => rfl)
      have hrow : T.row n (-1) = T.row n above := by unfold TreeT.row; rw [if_pos hroot, if_pos hroot]
      rw [hrow] at hgrp
      refine ac_region (by kernel_rfl) ?_
      first | refine aops_val (av_assign_int rfl) ?_ | refine aops_val (av_assign rfl) ?_
      refine ac_seq ?_
      refine ac_region (by kernel_rfl) ?_
      first | refine aops_val (av_move_ptr rfl) ?_ | refine aops_val (av_move rfl) ?_
      refine aops_val (av_nilCheck rfl) ?_
      refine aops_val (av_fieldOff (off := 3) rfl Try.underlying89 rfl inf87.size (by decide) rfl) ?_
      refine aops_val (av_load1 rfl Try.underlying87 rfl t_cell) ?_
      first | refine aops_val (av_move_int rfl) ?_ | refine aops_val (av_move rfl) ?_
      first | refine aops_val (av_move_int rfl) ?_ | refine aops_val (av_move rfl) ?_
      refine aops_val (av_build (pl := [(0, 1), (1, 1)]) (r := [.int .i64 _, .int .i64 _]) Try.underlying113 inf113.zero (by decide) rfl rfl) ?_
      refine aops_val (av_lookup (es := es) (k := spotV n _) (z := spanV 0 0) Try.underlying87 keyTy_spot inf111.zero (spanV_rel 0 0) rfl rfl ⟨_, _, rfl⟩ (.inl hm) hsp.keys) ?_
      rw [hget]
      refine aops_make (am_zero (l := [.int .i64 0, .int .i64 0]) inf111.zero rfl (by decide)) ?_
      first | refine aops_op (aop_putN (vs := [.int .i64 _, .int .i64 _]) rfl rfl inf111.size t_get t_room rfl rfl ?_)
      refine ac_seq ?_
      rw [gw] at hto hgrp
      obtain ⟨A9, c9, S9, hsl9, hS9, hop9⟩ := hw0.mids hft hto
      rw [hgrp] at hsl9
      refine ac_draw (by kernel_rfl) (reg_of (B := [0, 1, 3, 7, 0, 31, 63, 0, 128, 0, 512, 2047, 4095]) (π := [0, 1, 2, 3, 4, 5, 6, 7, 8, 9, 10, 11, 12]) (by kernel_rfl)) ?_
      first | refine adr_val rfl rfl (av_move_ptr rfl) t_lt ?_ | refine adr_val rfl rfl (av_move rfl) t_lt ?_
      refine adr_val rfl rfl (av_nilCheck rfl) t_lt ?_
      refine adr_val rfl rfl (av_fieldOff (off := 2) rfl Try.underlying89 rfl inf27.size (by decide) rfl) t_lt ?_
      refine adr_val rfl rfl (av_load1 rfl Try.underlying27 rfl t_cell) t_lt ?_
      first | refine adr_val rfl rfl (av_move_int rfl) t_lt ?_ | refine adr_val rfl rfl (av_move rfl) t_lt ?_
      refine adr_val rfl rfl (av_indexAddr rfl rfl Try.underlying27 inf50.size t_idx t_idx) t_lt ?_
      refine adr_val rfl rfl (av_load1 rfl Try.underlying50 rfl t_cell) t_lt ?_
      refine adr_val rfl rfl (av_fieldOff (off := 0) rfl Try.underlying111 rfl inf3.size (by decide) rfl) t_lt ?_
      refine adr_val rfl rfl (av_load1 rfl Try.underlying3 rfl t_cell) t_lt ?_
      refine adr_val rfl rfl (av_fieldOff (off := 1) rfl Try.underlying111 rfl inf3.size (by decide) rfl) t_lt ?_
      refine adr_val rfl rfl (av_load1 rfl Try.underlying3 rfl t_cell) t_lt ?_
      refine adr_val rfl rfl (hop9 _ _ _ _ _ _ _ _ _ _ _ _ _ _ _ t_le (by first | rfl | assumption) Try.underlying50 inf54.size (by first | rfl | assumption) (by first | rfl | assumption)) (fun b hb => Nat.lt_of_lt_of_le (hS9 b hb).1 (by simp)) ?_
      first | refine adr_val rfl rfl (av_assign_sl rfl) t_lt ?_ | refine adr_val rfl rfl (av_assign rfl) t_lt ?_
      refine ac_ret ?_
      exact ⟨_, aresult1 (ares_tmp rfl), t_le, hsl9.mono t_sees⟩
    · intro hc2
      have hroot : ¬ T.parent.getD n 0 = -1 := of_decide_eq_false hc2
      obtain ⟨fr, to, hget, hft, hto, hgrp⟩ := hsp.at_ n hn above (fun h => absurd h hroot)
      refine ac_skip ?_
      refine ac_seq ?_
      refine ac_region (by kernel_rfl) ?_
      first | refine aops_val (av_move_ptr rfl) ?_ | refine aops_val (av_move rfl) ?_
      refine aops_val (av_nilCheck rfl) ?_
      refine aops_val (av_fieldOff (off := 3) rfl Try.underlying89 rfl inf87.size (by decide) rfl) ?_
      refine aops_val (av_load1 rfl Try.underlying87 rfl t_cell) ?_
      first | refine aops_val (av_move_int rfl) ?_ | refine aops_val (av_move rfl) ?_
      first | refine aops_val (av_move_int rfl) ?_ | refine aops_val (av_move rfl) ?_
      refine aops_val (av_build (pl := [(0, 1), (1, 1)]) (r := [.int .i64 _, .int .i64 _]) Try.underlying113 inf113.zero (by decide) rfl rfl) ?_
      refine aops_val (av_lookup (es := es) (k := spotV n _) (z := spanV 0 0) Try.underlying87 keyTy_spot inf111.zero (spanV_rel 0 0) rfl rfl ⟨_, _, rfl⟩ (.inl hm) hsp.keys) ?_
      rw [hget]
      refine aops_make (am_zero (l := [.int .i64 0, .int .i64 0]) inf111.zero rfl (by decide)) ?_
      first | refine aops_op (aop_putN (vs := [.int .i64 _, .int .i64 _]) rfl rfl inf111.size t_get t_room rfl rfl ?_)
      refine ac_seq ?_
      rw [gw] at hto hgrp
      obtain ⟨A9, c9, S9, hsl9, hS9, hop9⟩ := hw0.mids hft hto
      rw [hgrp] at hsl9
      refine ac_draw (by kernel_rfl) (reg_of (B := [0, 1, 3, 7, 0, 31, 63, 0, 128, 0, 512, 2047, 4095]) (π := [0, 1, 2, 3, 4, 5, 6, 7, 8, 9, 10, 11, 12]) (by kernel_rfl)) ?_
      first | refine adr_val rfl rfl (av_move_ptr rfl) t_lt ?_ | refine adr_val rfl rfl (av_move rfl) t_lt ?_
      refine adr_val rfl rfl (av_nilCheck rfl) t_lt ?_
      refine adr_val rfl rfl (av_fieldOff (off := 2) rfl Try.underlying89 rfl inf27.size (by decide) rfl) t_lt ?_
      refine adr_val rfl rfl (av_load1 rfl Try.underlying27 rfl t_cell) t_lt ?_
      first | refine adr_val rfl rfl (av_move_int rfl) t_lt ?_ | refine adr_val rfl rfl (av_move rfl) t_lt ?_
      refine adr_val rfl rfl (av_indexAddr rfl rfl Try.underlying27 inf50.size t_idx t_idx) t_lt ?_
      refine adr_val rfl rfl (av_load1 rfl Try.underlying50 rfl t_cell) t_lt ?_
      refine adr_val rfl rfl (av_fieldOff (off := 0) rfl Try.underlying111 rfl inf3.size (by decide) rfl) t_lt ?_
      refine adr_val rfl rfl (av_load1 rfl Try.underlying3 rfl t_cell) t_lt ?_
      refine adr_val rfl rfl (av_fieldOff (off := 1) rfl Try.underlying111 rfl inf3.size (by decide) rfl) t_lt ?_
      refine adr_val rfl rfl (av_load1 rfl Try.underlying3 rfl t_cell) t_lt ?_
      refine adr_val rfl rfl (hop9 _ _ _ _ _ _ _ _ _ _ _ _ _ _ _ t_le (by first | rfl | assumption) Try.underlying50 inf54.size (by first | rfl | assumption) (by first | rfl | assumption)) (fun b hb => Nat.lt_of_lt_of_le (hS9 b hb).1 (by simp)) ?_
      first | refine adr_val rfl rfl (av_assign_sl rfl) t_lt ?_ | refine adr_val rfl rfl (av_assign rfl) t_lt ?_
      refine ac_ret ?_
      exact ⟨_, aresult1 (ares_tmp rfl), t_le, hsl9.mono t_sees⟩
theorem row_len {T : TreeT} (hx : ∀ l ∈ T.links, l.length ≤ 1000000) (i : Nat) (above : Int) : (T.row i above).length ≤ 1000000 := by
  unfold TreeT.row
  split
  · exact getD_len hx i
  · exact Nat.le_trans (List.length_filter_le _ _) (getD_len hx i)
def TreeT.group (T : TreeT) (i above : Int) : List Link := if 0 ≤ i ∧ i < T.vars.length then T.row i.toNat above else []
theorem group_len {T : TreeT} (hx : ∀ l ∈ T.links, l.length ≤ 1000000) (i above : Int) : (T.group i above).length ≤ 1000000 := by
  unfold TreeT.group
  split
  · exact row_len hx _ _
  · simp
end Go.Proofs.Ytcaeoebphfjfiaa.Am
