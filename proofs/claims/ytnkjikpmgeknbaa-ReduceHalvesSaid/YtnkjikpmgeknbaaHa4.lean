/- Texts that the proof rests on, part 4: lemmas for every heap that is related to a world, no condition beyond each lemma's own. -/
import Derived.Test.YtnkjikpmgeknbaaHa3
import Derived.Test.YtnkjikpmgeknbaaHa2
import Derived.Test.YtnkjikpmgeknbaaAmBack
namespace Go.Proofs.Ytnkjikpmgeknbaa.Am
open Go Go.RowKit
set_option maxRecDepth 100000
set_option linter.unusedVariables false
set_option linter.unusedSimpArgs false

theorem In_link (n : Int) (H : Hp) : ACalls Try.prog 125 #[.int .i64 n] H (fun r H' => r = .bool (decide (0 ≤ n) && decide (n < 10000)) ∧ H' = H) := by
  refine acalls_of_code Try.func125 rfl rfl rfl (by simp) ?_
  refine ac_seq ?_
  refine ac_region (by kernel_rfl) ?_
  first | refine aops_val (av_assign_bool rfl) ?_ | refine aops_val (av_assign rfl) ?_
  refine ac_seq ?_
  refine ac_region (by kernel_rfl) ?_
  first | refine aops_val (av_move_int rfl) ?_ | refine aops_val (av_move rfl) ?_
  refine aops_val (av_ge rfl rfl) ?_
  first | refine aops_val (av_move_bool rfl) ?_ | refine aops_val (av_move rfl) ?_
  refine aops_guard rfl rfl rfl ?_ ?_
  · intro hg1
    have hp1 := hg1; try simp only [decide_eq_true_eq, decide_eq_false_iff_not, Bool.not_eq_true', Bool.not_eq_false'] at hp1
    first | refine aops_wval (want_yes rfl rfl rfl hg1) (av_move_int rfl) ?_ | refine aops_wval (want_yes rfl rfl rfl hg1) (av_move rfl) ?_
    refine aops_wval (want_yes rfl rfl rfl hg1) (av_lt rfl rfl) ?_
    refine aops_val (av_pick_bool (congrArg Value.bool hg1) rfl) ?_
    first | refine aops_val (av_assign_bool rfl) ?_ | refine aops_val (av_assign rfl) ?_
    refine ac_ret ?_
    refine ⟨.bool (decide (0 ≤ n) && decide (n < 10000)), aresult1 (ares_tmp ?_), rfl, rfl⟩
    show Value.bool _ = _
    congr 1
    first | (simp_all; done) | (simp_all; omega)
  · intro hg1
    have hp1 := hg1; try simp only [decide_eq_true_eq, decide_eq_false_iff_not, Bool.not_eq_true', Bool.not_eq_false'] at hp1
    refine aops_skip (want_no rfl rfl rfl hg1 rfl) ?_
    refine aops_skip (want_no rfl rfl rfl hg1 rfl) ?_
    refine aops_val (av_pick_bool (congrArg Value.bool hg1) rfl) ?_
    first | refine aops_val (av_assign_bool rfl) ?_ | refine aops_val (av_assign rfl) ?_
    refine ac_ret ?_
    refine ⟨.bool (decide (0 ≤ n) && decide (n < 10000)), aresult1 (ares_tmp ?_), rfl, rfl⟩
    show Value.bool _ = _
    congr 1
    first | (simp_all; done) | (simp_all; omega)
theorem not_in {a : Int} (h : (!(decide (0 ≤ a) && decide (a < 10000))) = true) : ¬ (0 ≤ a ∧ a ≤ 9999) := fun ⟨h1, h2⟩ => by
  rw [decide_eq_true h1, decide_eq_true (by omega)] at h; cases h
theorem is_in {a : Int} (h : (!(decide (0 ≤ a) && decide (a < 10000))) = false) : 0 ≤ a ∧ a ≤ 9999 := by
  simp at h; omega
theorem less_key {x y : Link} (h1 : 0 ≤ x.b) (h2 : x.b ≤ 9999) (h3 : 0 ≤ y.b) (h4 : y.b ≤ 9999) : lessL x y = true ↔ keyI x < keyI y := by
  unfold lessL keyI
  simp only [Bool.or_eq_true, Bool.and_eq_true, decide_eq_true_eq]
  omega
theorem PGood_raw (xs : List Link) (v : Value) (H : Hp) (hs : Sl kLink H v xs) (hl : xs.length ≤ 9223372036854775807) :
    ACalls Try.prog 70 #[v] H (fun r _ => ∃ g, r = .bool g ∧ (g = true ↔ GoodL xs)) := by
  obtain ⟨A, c, rfl⟩ := hs.shape
  refine acalls_of_code Try.func70 rfl rfl rfl (by simp) ?_
  refine ac_seq ?_
  refine ac_region (by kernel_rfl) ?_
  first | refine aops_val (av_assign_bool rfl) ?_ | refine aops_val (av_assign rfl) ?_
  refine ac_seq ?_
  refine ac_region (by kernel_rfl) ?_
  first | refine aops_val (av_assign_func rfl) ?_ | refine aops_val (av_assign rfl) ?_
  refine ac_seq ?_
  refine ac_seq ?_
  refine ac_region (by kernel_rfl) ?_
  first | refine aops_val (av_move_sl rfl) ?_ | refine aops_val (av_move rfl) ?_
  refine aops_val (av_len rfl Try.underlying22) ?_
  first | refine aops_val (av_move_int rfl) ?_ | refine aops_val (av_move rfl) ?_
  refine ac_block ?_
  refine ac_loop (fun n t H' => ∃ (i : Nat), i ≤ xs.length ∧ n = xs.length - i ∧ H.le H' ∧ (∀ (j : Nat) (h : j < xs.length), j < i → OkL xs[j] ∧ (0 < j → lessL (xs[j - 1]'(by omega)) xs[j] = true)) ∧ t 0 = .slice A xs.length c ∧ t 3 = .func (.func 125) #[] #[] ∧ t 6 = .slice A xs.length c ∧ t 7 = .int .i64 xs.length ∧ t 8 = .int .i64 i) (xs.length) (⟨0, by omega, rfl, Hp.le_refl _, fun j h h0 => by omega, rfl, rfl, rfl, rfl, rfl⟩) ?_
  rintro n t H1 ⟨i, hi, rfl, hle, hok, e0, e3, e6, e7, e8⟩
  refine ac_seq ?_
  refine ac_region (by kernel_rfl) ?_
  refine aops_val (av_lt (by first | assumption | rfl) (by first | assumption | rfl)) ?_
  refine ac_seq ?_
  refine ac_split rfl rfl ?_ ?_
  · intro hc1
    (try simp only [decide_eq_true_eq, decide_eq_false_iff_not, Bool.not_eq_true', Bool.not_eq_false'] at hc1)
    refine ac_skip ?_
    refine ac_seq ?_
    refine ac_block ?_
    refine ac_seq ?_
    refine ac_region (by kernel_rfl) ?_
    first | refine aops_val (av_move_int (by first | assumption | rfl)) ?_ | refine aops_val (av_move (by first | assumption | rfl)) ?_
    have hix : i < xs.length := by omega
    obtain ⟨b, o, rfl, hb, hcell0⟩ := (hs.mono hle.sees).link_at hix
    have hbl : b < H1.size := hb
    refine aops_val (av_indexAddr (by first | assumption | rfl) (by first | assumption | rfl) Try.underlying22 inf28.size t_idx t_idx) ?_
    refine aops_val (av_loadN (cs := [.int .i64 _, .int .i64 _, .int .i64 _, .int .u64 _]) rfl Try.underlying28 rfl inf28.size t_cells) ?_
    refine aops_make (am_zero (l := [.int .i64 0, .int .i64 0, .int .i64 0, .int .u64 0]) inf28.zero rfl (by decide)) ?_
    first | refine aops_val (av_assign_int rfl) ?_ | refine aops_val (av_assign rfl) ?_
    first | refine aops_op (aop_putN (vs := [.int .i64 _, .int .i64 _, .int .i64 _, .int .u64 _]) rfl rfl inf28.size t_get t_room rfl rfl ?_)
    refine ac_seq ?_
    refine ac_draw (by kernel_rfl) (reg_of (B := [0, 0, 2, 7, 15, 31, 63, 63, 191, 511, 1023, 2047, 4095, 8191, 16383, 32767, 65535, 131071, 262143, 524287, 1048575, 2097151, 4194303, 8388607, 16777215, 33554431, 67108863, 134217727, 268435455, 536870911, 1073741823, 2147483647, 2147483647, 6442450943, 17179869183, 34359738367, 68719476735, 2147483647, 274877906943, 549755813887, 1099511627775, 2199023255551]) (π := [0, 1, 2, 3, 4, 5, 6, 7, 8, 9, 10, 11, 12, 13, 14, 15, 16, 17, 18, 19, 20, 21, 22, 23, 24, 25, 26, 27, 28, 29, 30, 31, 32, 33, 34, 35, 37, 36, 38, 39, 40, 41]) (by kernel_rfl)) ?_
    first | refine adr_val rfl rfl (av_move_func (by first | assumption | rfl)) t_lt ?_ | refine adr_val rfl rfl (av_move (by first | assumption | rfl)) t_lt ?_
    refine adr_val rfl rfl (av_fieldOff (off := 0) rfl Try.underlying28 rfl inf3.size (by decide) rfl) t_lt ?_
    refine adr_val rfl rfl (av_load1 rfl Try.underlying3 rfl t_cell) t_lt ?_
    refine adr_op rfl rfl (aop_call (In_link _ _) rfl Try.func125 rfl rfl rfl ?_)
    rintro v H ⟨rfl, rfl⟩
    refine ⟨t_pend, ?_⟩
    refine adr_val rfl rfl (av_not rfl) t_lt ?_
    first | refine adr_val rfl rfl (av_move_bool rfl) t_lt ?_ | refine adr_val rfl rfl (av_move rfl) t_lt ?_
    refine adr_guard rfl rfl rfl rfl ?_ ?_
    · intro hg2
      have hna := not_in hg2
      refine adr_skip rfl (want_no rfl rfl rfl hg2 rfl) ?_
      refine adr_skip rfl (want_no rfl rfl rfl hg2 rfl) ?_
      refine adr_skip rfl (want_no rfl rfl rfl hg2 rfl) ?_
      refine adr_skip rfl (want_no rfl rfl rfl hg2 rfl) ?_
      refine adr_skip rfl (want_no rfl rfl rfl hg2 rfl) ?_
      refine adr_val rfl rfl (av_pick_bool (congrArg Value.bool hg2) (by first | assumption | rfl)) t_lt ?_
      first | refine adr_val rfl rfl (av_move_bool rfl) t_lt ?_ | refine adr_val rfl rfl (av_move rfl) t_lt ?_
      refine adr_skip rfl (want_no rfl rfl rfl rfl rfl) ?_
      refine adr_skip rfl (want_no rfl rfl rfl rfl rfl) ?_
      refine adr_skip rfl (want_no rfl rfl rfl rfl rfl) ?_
      refine adr_val rfl rfl (av_pick_bool (congrArg Value.bool (by first | assumption | rfl)) (by first | assumption | rfl)) t_lt ?_
      first | refine adr_val rfl rfl (av_move_bool rfl) t_lt ?_ | refine adr_val rfl rfl (av_move rfl) t_lt ?_
      refine adr_skip rfl (want_no rfl rfl rfl rfl rfl) ?_
      refine adr_skip rfl (want_no rfl rfl rfl rfl rfl) ?_
      refine adr_skip rfl (want_no rfl rfl rfl rfl rfl) ?_
      refine adr_val rfl rfl (av_pick_bool (congrArg Value.bool (by first | assumption | rfl)) (by first | assumption | rfl)) t_lt ?_
      first | refine adr_val rfl rfl (av_move_bool rfl) t_lt ?_ | refine adr_val rfl rfl (av_move rfl) t_lt ?_
      refine adr_skip rfl (want_no rfl rfl rfl rfl rfl) ?_
      refine adr_skip rfl (want_no rfl rfl rfl rfl rfl) ?_
      refine adr_skip rfl (want_no rfl rfl rfl rfl rfl) ?_
      refine adr_val rfl rfl (av_pick_bool (congrArg Value.bool (by first | assumption | rfl)) (by first | assumption | rfl)) t_lt ?_
      first | refine adr_val rfl rfl (av_move_bool rfl) t_lt ?_ | refine adr_val rfl rfl (av_move rfl) t_lt ?_
      refine adr_skip rfl (want_no rfl rfl rfl rfl rfl) ?_
      refine adr_skip rfl (want_no rfl rfl rfl rfl rfl) ?_
      refine adr_skip rfl (want_no rfl rfl rfl rfl rfl) ?_
      refine adr_skip rfl (want_gone rfl rfl rfl) ?_
      refine adr_skip rfl (want_gone rfl rfl rfl) ?_
      refine adr_skip rfl (want_gone rfl rfl rfl) ?_
      refine adr_skip rfl (want_gone rfl rfl rfl) ?_
      refine adr_skip rfl (want_gone rfl rfl rfl) ?_
      refine adr_skip rfl (want_gone rfl rfl rfl) ?_
      refine adr_skip rfl (want_gone rfl rfl rfl) ?_
      refine adr_skip rfl (want_gone rfl rfl rfl) ?_
      refine adr_skip rfl (want_gone rfl rfl rfl) ?_
      refine adr_skip rfl (want_no rfl rfl rfl rfl rfl) ?_
      refine adr_val rfl rfl (av_pick_bool (congrArg Value.bool (by first | assumption | rfl)) (by first | assumption | rfl)) t_lt ?_
      refine ac_cond_true rfl rfl ?_
      refine ac_seq ?_
      refine ac_region (by kernel_rfl) ?_
      first | refine aops_val (av_assign_bool rfl) ?_ | refine aops_val (av_assign rfl) ?_
      refine ac_ret ?_
      refine ⟨.bool false, aresult1 (ares_tmp rfl), false, rfl, fun h => (by cases h), fun hG => ?_⟩
      obtain ⟨⟨g1, g2, g3, g4, g5, g6, g7⟩, g8⟩ := hG i hix
      exfalso
      first
        | exact hna ⟨g1, g2⟩
        | exact hnb ⟨g3, g4⟩
        | (have h9 := (less_key p3 p4 g3 g4).1 (g8 hi0); omega)
        | omega
    · intro hg2
      have hya := is_in hg2
      first | refine adr_wval rfl (want_yes rfl rfl rfl hg2) rfl (av_move_func (by first | assumption | rfl)) t_lt ?_ | refine adr_wval rfl (want_yes rfl rfl rfl hg2) rfl (av_move (by first | assumption | rfl)) t_lt ?_
      refine adr_wval rfl (want_yes rfl rfl rfl hg2) rfl (av_fieldOff (off := 1) rfl Try.underlying28 rfl inf3.size (by decide) rfl) t_lt ?_
      refine adr_wval rfl (want_yes rfl rfl rfl hg2) rfl (av_load1 rfl Try.underlying3 rfl t_cell) t_lt ?_
      refine adr_wop rfl (want_yes rfl rfl rfl hg2) rfl (aop_call (In_link _ _) rfl Try.func125 rfl rfl rfl ?_)
      rintro v H ⟨rfl, rfl⟩
      refine ⟨t_pend, ?_⟩
      refine adr_wval rfl (want_yes rfl rfl rfl hg2) rfl (av_not rfl) t_lt ?_
      refine adr_val rfl rfl (av_pick_bool (congrArg Value.bool hg2) rfl) t_lt ?_
      first | refine adr_val rfl rfl (av_move_bool rfl) t_lt ?_ | refine adr_val rfl rfl (av_move rfl) t_lt ?_
      refine adr_guard rfl rfl rfl rfl ?_ ?_
      · intro hg4
        have hnb := not_in hg4
        refine adr_skip rfl (want_no rfl rfl rfl hg4 rfl) ?_
        refine adr_skip rfl (want_no rfl rfl rfl hg4 rfl) ?_
        refine adr_skip rfl (want_no rfl rfl rfl hg4 rfl) ?_
        refine adr_val rfl rfl (av_pick_bool (congrArg Value.bool hg4) (by first | assumption | rfl)) t_lt ?_
        first | refine adr_val rfl rfl (av_move_bool rfl) t_lt ?_ | refine adr_val rfl rfl (av_move rfl) t_lt ?_
        refine adr_skip rfl (want_no rfl rfl rfl rfl rfl) ?_
        refine adr_skip rfl (want_no rfl rfl rfl rfl rfl) ?_
        refine adr_skip rfl (want_no rfl rfl rfl rfl rfl) ?_
        refine adr_val rfl rfl (av_pick_bool (congrArg Value.bool (by first | assumption | rfl)) (by first | assumption | rfl)) t_lt ?_
        first | refine adr_val rfl rfl (av_move_bool rfl) t_lt ?_ | refine adr_val rfl rfl (av_move rfl) t_lt ?_
        refine adr_skip rfl (want_no rfl rfl rfl rfl rfl) ?_
        refine adr_skip rfl (want_no rfl rfl rfl rfl rfl) ?_
        refine adr_skip rfl (want_no rfl rfl rfl rfl rfl) ?_
        refine adr_val rfl rfl (av_pick_bool (congrArg Value.bool (by first | assumption | rfl)) (by first | assumption | rfl)) t_lt ?_
        first | refine adr_val rfl rfl (av_move_bool rfl) t_lt ?_ | refine adr_val rfl rfl (av_move rfl) t_lt ?_
        refine adr_skip rfl (want_no rfl rfl rfl rfl rfl) ?_
        refine adr_skip rfl (want_no rfl rfl rfl rfl rfl) ?_
        refine adr_skip rfl (want_no rfl rfl rfl rfl rfl) ?_
        refine adr_skip rfl (want_gone rfl rfl rfl) ?_
        refine adr_skip rfl (want_gone rfl rfl rfl) ?_
        refine adr_skip rfl (want_gone rfl rfl rfl) ?_
        refine adr_skip rfl (want_gone rfl rfl rfl) ?_
        refine adr_skip rfl (want_gone rfl rfl rfl) ?_
        refine adr_skip rfl (want_gone rfl rfl rfl) ?_
        refine adr_skip rfl (want_gone rfl rfl rfl) ?_
        refine adr_skip rfl (want_gone rfl rfl rfl) ?_
        refine adr_skip rfl (want_gone rfl rfl rfl) ?_
        refine adr_skip rfl (want_no rfl rfl rfl rfl rfl) ?_
        refine adr_val rfl rfl (av_pick_bool (congrArg Value.bool (by first | assumption | rfl)) (by first | assumption | rfl)) t_lt ?_
        refine ac_cond_true rfl rfl ?_
        refine ac_seq ?_
        refine ac_region (by kernel_rfl) ?_
        first | refine aops_val (av_assign_bool rfl) ?_ | refine aops_val (av_assign rfl) ?_
        refine ac_ret ?_
        refine ⟨.bool false, aresult1 (ares_tmp rfl), false, rfl, fun h => (by cases h), fun hG => ?_⟩
        obtain ⟨⟨g1, g2, g3, g4, g5, g6, g7⟩, g8⟩ := hG i hix
        exfalso
        first
          | exact hna ⟨g1, g2⟩
          | exact hnb ⟨g3, g4⟩
          | (have h9 := (less_key p3 p4 g3 g4).1 (g8 hi0); omega)
          | omega
      · intro hg4
        have hyb := is_in hg4
        refine adr_wval rfl (want_yes rfl rfl rfl hg4) rfl (av_fieldOff (off := 2) rfl Try.underlying28 rfl inf3.size (by decide) rfl) t_lt ?_
        refine adr_wval rfl (want_yes rfl rfl rfl hg4) rfl (av_load1 rfl Try.underlying3 rfl t_cell) t_lt ?_
        refine adr_wval rfl (want_yes rfl rfl rfl hg4) rfl (av_lt rfl rfl) t_lt ?_
        refine adr_val rfl rfl (av_pick_bool (congrArg Value.bool hg4) rfl) t_lt ?_
        first | refine adr_val rfl rfl (av_move_bool rfl) t_lt ?_ | refine adr_val rfl rfl (av_move rfl) t_lt ?_
        refine adr_guard rfl rfl rfl rfl ?_ ?_
        · intro hg6
          have hp6 := hg6; try simp only [decide_eq_true_eq, decide_eq_false_iff_not, Bool.not_eq_true', Bool.not_eq_false'] at hp6
          refine adr_skip rfl (want_no rfl rfl rfl hg6 rfl) ?_
          refine adr_skip rfl (want_no rfl rfl rfl hg6 rfl) ?_
          refine adr_skip rfl (want_no rfl rfl rfl hg6 rfl) ?_
          refine adr_val rfl rfl (av_pick_bool (congrArg Value.bool hg6) (by first | assumption | rfl)) t_lt ?_
          first | refine adr_val rfl rfl (av_move_bool rfl) t_lt ?_ | refine adr_val rfl rfl (av_move rfl) t_lt ?_
          refine adr_skip rfl (want_no rfl rfl rfl rfl rfl) ?_
          refine adr_skip rfl (want_no rfl rfl rfl rfl rfl) ?_
          refine adr_skip rfl (want_no rfl rfl rfl rfl rfl) ?_
          refine adr_val rfl rfl (av_pick_bool (congrArg Value.bool (by first | assumption | rfl)) (by first | assumption | rfl)) t_lt ?_
          first | refine adr_val rfl rfl (av_move_bool rfl) t_lt ?_ | refine adr_val rfl rfl (av_move rfl) t_lt ?_
          refine adr_skip rfl (want_no rfl rfl rfl rfl rfl) ?_
          refine adr_skip rfl (want_no rfl rfl rfl rfl rfl) ?_
          refine adr_skip rfl (want_no rfl rfl rfl rfl rfl) ?_
          refine adr_skip rfl (want_gone rfl rfl rfl) ?_
          refine adr_skip rfl (want_gone rfl rfl rfl) ?_
          refine adr_skip rfl (want_gone rfl rfl rfl) ?_
          refine adr_skip rfl (want_gone rfl rfl rfl) ?_
          refine adr_skip rfl (want_gone rfl rfl rfl) ?_
          refine adr_skip rfl (want_gone rfl rfl rfl) ?_
          refine adr_skip rfl (want_gone rfl rfl rfl) ?_
          refine adr_skip rfl (want_gone rfl rfl rfl) ?_
          refine adr_skip rfl (want_gone rfl rfl rfl) ?_
          refine adr_skip rfl (want_no rfl rfl rfl rfl rfl) ?_
          refine adr_val rfl rfl (av_pick_bool (congrArg Value.bool (by first | assumption | rfl)) (by first | assumption | rfl)) t_lt ?_
          refine ac_cond_true rfl rfl ?_
          refine ac_seq ?_
          refine ac_region (by kernel_rfl) ?_
          first | refine aops_val (av_assign_bool rfl) ?_ | refine aops_val (av_assign rfl) ?_
          refine ac_ret ?_
          refine ⟨.bool false, aresult1 (ares_tmp rfl), false, rfl, fun h => (by cases h), fun hG => ?_⟩
          obtain ⟨⟨g1, g2, g3, g4, g5, g6, g7⟩, g8⟩ := hG i hix
          exfalso
          first
            | exact hna ⟨g1, g2⟩
            | exact hnb ⟨g3, g4⟩
            | (have h9 := (less_key p3 p4 g3 g4).1 (g8 hi0); omega)
            | omega
        · intro hg6
          have hp6 := hg6; try simp only [decide_eq_true_eq, decide_eq_false_iff_not, Bool.not_eq_true', Bool.not_eq_false'] at hp6
          refine adr_wval rfl (want_yes rfl rfl rfl hg6) rfl (av_fieldOff (off := 3) rfl Try.underlying28 rfl inf26.size (by decide) rfl) t_lt ?_
          refine adr_wval rfl (want_yes rfl rfl rfl hg6) rfl (av_load1 rfl Try.underlying26 rfl t_cell) t_lt ?_
          refine adr_wval rfl (want_yes rfl rfl rfl hg6) rfl (av_lt rfl rfl) t_lt ?_
          refine adr_val rfl rfl (av_pick_bool (congrArg Value.bool hg6) rfl) t_lt ?_
          first | refine adr_val rfl rfl (av_move_bool rfl) t_lt ?_ | refine adr_val rfl rfl (av_move rfl) t_lt ?_
          refine adr_guard rfl rfl rfl rfl ?_ ?_
          · intro hg8
            have hp8 := hg8; try simp only [decide_eq_true_eq, decide_eq_false_iff_not, Bool.not_eq_true', Bool.not_eq_false'] at hp8
            refine adr_skip rfl (want_no rfl rfl rfl hg8 rfl) ?_
            refine adr_skip rfl (want_no rfl rfl rfl hg8 rfl) ?_
            refine adr_skip rfl (want_no rfl rfl rfl hg8 rfl) ?_
            refine adr_val rfl rfl (av_pick_bool (congrArg Value.bool hg8) (by first | assumption | rfl)) t_lt ?_
            first | refine adr_val rfl rfl (av_move_bool rfl) t_lt ?_ | refine adr_val rfl rfl (av_move rfl) t_lt ?_
            refine adr_skip rfl (want_no rfl rfl rfl rfl rfl) ?_
            refine adr_skip rfl (want_no rfl rfl rfl rfl rfl) ?_
            refine adr_skip rfl (want_no rfl rfl rfl rfl rfl) ?_
            refine adr_skip rfl (want_gone rfl rfl rfl) ?_
            refine adr_skip rfl (want_gone rfl rfl rfl) ?_
            refine adr_skip rfl (want_gone rfl rfl rfl) ?_
            refine adr_skip rfl (want_gone rfl rfl rfl) ?_
            refine adr_skip rfl (want_gone rfl rfl rfl) ?_
            refine adr_skip rfl (want_gone rfl rfl rfl) ?_
            refine adr_skip rfl (want_gone rfl rfl rfl) ?_
            refine adr_skip rfl (want_gone rfl rfl rfl) ?_
            refine adr_skip rfl (want_gone rfl rfl rfl) ?_
            refine adr_skip rfl (want_no rfl rfl rfl rfl rfl) ?_
            refine adr_val rfl rfl (av_pick_bool (congrArg Value.bool (by first | assumption | rfl)) (by first | assumption | rfl)) t_lt ?_
            refine ac_cond_true rfl rfl ?_
            refine ac_seq ?_
            refine ac_region (by kernel_rfl) ?_
            first | refine aops_val (av_assign_bool rfl) ?_ | refine aops_val (av_assign rfl) ?_
            refine ac_ret ?_
            refine ⟨.bool false, aresult1 (ares_tmp rfl), false, rfl, fun h => (by cases h), fun hG => ?_⟩
            obtain ⟨⟨g1, g2, g3, g4, g5, g6, g7⟩, g8⟩ := hG i hix
            exfalso
            first
              | exact hna ⟨g1, g2⟩
              | exact hnb ⟨g3, g4⟩
              | (have h9 := (less_key p3 p4 g3 g4).1 (g8 hi0); omega)
              | omega
          · intro hg8
            have hp8 := hg8; try simp only [decide_eq_true_eq, decide_eq_false_iff_not, Bool.not_eq_true', Bool.not_eq_false'] at hp8
            refine adr_wval rfl (want_yes rfl rfl rfl hg8) rfl (av_fieldOff (off := 3) rfl Try.underlying28 rfl inf26.size (by decide) rfl) t_lt ?_
            refine adr_wval rfl (want_yes rfl rfl rfl hg8) rfl (av_load1 rfl Try.underlying26 rfl t_cell) t_lt ?_
            refine adr_wval rfl (want_yes rfl rfl rfl hg8) rfl (av_gt rfl rfl) t_lt ?_
            refine adr_val rfl rfl (av_pick_bool (congrArg Value.bool hg8) rfl) t_lt ?_
            first | refine adr_val rfl rfl (av_move_bool rfl) t_lt ?_ | refine adr_val rfl rfl (av_move rfl) t_lt ?_
            refine adr_guard rfl rfl rfl rfl ?_ ?_
            · intro hg10
              have hp10 := hg10; try simp only [decide_eq_true_eq, decide_eq_false_iff_not, Bool.not_eq_true', Bool.not_eq_false'] at hp10
              refine adr_skip rfl (want_no rfl rfl rfl hg10 rfl) ?_
              refine adr_skip rfl (want_no rfl rfl rfl hg10 rfl) ?_
              refine adr_skip rfl (want_no rfl rfl rfl hg10 rfl) ?_
              refine adr_skip rfl (want_gone rfl rfl rfl) ?_
              refine adr_skip rfl (want_gone rfl rfl rfl) ?_
              refine adr_skip rfl (want_gone rfl rfl rfl) ?_
              refine adr_skip rfl (want_gone rfl rfl rfl) ?_
              refine adr_skip rfl (want_gone rfl rfl rfl) ?_
              refine adr_skip rfl (want_gone rfl rfl rfl) ?_
              refine adr_skip rfl (want_gone rfl rfl rfl) ?_
              refine adr_skip rfl (want_gone rfl rfl rfl) ?_
              refine adr_skip rfl (want_gone rfl rfl rfl) ?_
              refine adr_skip rfl (want_no rfl rfl rfl hg10 rfl) ?_
              refine adr_val rfl rfl (av_pick_bool (congrArg Value.bool hg10) (by first | assumption | rfl)) t_lt ?_
              refine ac_cond_true rfl rfl ?_
              refine ac_seq ?_
              refine ac_region (by kernel_rfl) ?_
              first | refine aops_val (av_assign_bool rfl) ?_ | refine aops_val (av_assign rfl) ?_
              refine ac_ret ?_
              refine ⟨.bool false, aresult1 (ares_tmp rfl), false, rfl, fun h => (by cases h), fun hG => ?_⟩
              obtain ⟨⟨g1, g2, g3, g4, g5, g6, g7⟩, g8⟩ := hG i hix
              exfalso
              first
                | exact hna ⟨g1, g2⟩
                | exact hnb ⟨g3, g4⟩
                | (have h9 := (less_key p3 p4 g3 g4).1 (g8 hi0); omega)
                | omega
            · intro hg10
              have hp10 := hg10; try simp only [decide_eq_true_eq, decide_eq_false_iff_not, Bool.not_eq_true', Bool.not_eq_false'] at hp10
              first | refine adr_wval rfl (want_yes rfl rfl rfl hg10) rfl (av_move_int rfl) t_lt ?_ | refine adr_wval rfl (want_yes rfl rfl rfl hg10) rfl (av_move rfl) t_lt ?_
              refine adr_wval rfl (want_yes rfl rfl rfl hg10) rfl (av_gt rfl rfl) t_lt ?_
              first | refine adr_wval rfl (want_yes rfl rfl rfl hg10) rfl (av_move_bool rfl) t_lt ?_ | refine adr_wval rfl (want_yes rfl rfl rfl hg10) rfl (av_move rfl) t_lt ?_
              refine adr_guard rfl rfl rfl rfl ?_ ?_
              · intro hg12
                have hp12 := hg12; try simp only [decide_eq_true_eq, decide_eq_false_iff_not, Bool.not_eq_true', Bool.not_eq_false'] at hp12
                first | refine adr_wval rfl (want_yes rfl rfl rfl hg12) rfl (av_move_sl (by first | assumption | rfl)) t_lt ?_ | refine adr_wval rfl (want_yes rfl rfl rfl hg12) rfl (av_move (by first | assumption | rfl)) t_lt ?_
                first | refine adr_wval rfl (want_yes rfl rfl rfl hg12) rfl (av_move_int rfl) t_lt ?_ | refine adr_wval rfl (want_yes rfl rfl rfl hg12) rfl (av_move rfl) t_lt ?_
                refine adr_wval rfl (want_yes rfl rfl rfl hg12) rfl (av_sub_is (r := ((i - 1 : Nat) : Int)) rfl rfl (by omega) (by omega)) t_lt ?_
                have hi0 : 0 < i := by omega
                have hix1 : i - 1 < xs.length := by omega
                obtain ⟨b2, o2, e2, hb2, hcell2⟩ := (hs.mono hle.sees).link_at hix1
                simp only [Option.some.injEq, Addr.mk.injEq, and_true] at e2
                obtain ⟨rfl, rfl⟩ := e2
                obtain ⟨p1, p2, p3, p4, p5, p6, p7⟩ := (hok (i - 1) hix1 (by omega)).1
                refine adr_wval rfl (want_yes rfl rfl rfl hg12) rfl (av_indexAddr rfl rfl Try.underlying22 inf28.size t_idx t_idx) t_lt ?_
                refine adr_wval rfl (want_yes rfl rfl rfl hg12) rfl (av_loadN (cs := [.int .i64 _, .int .i64 _, .int .i64 _, .int .u64 _]) rfl Try.underlying28 rfl inf28.size t_cells) t_lt ?_
                refine adr_wval rfl (want_yes rfl rfl rfl hg12) rfl (av_loadN (cs := [.int .i64 _, .int .i64 _, .int .i64 _, .int .u64 _]) rfl Try.underlying28 rfl inf28.size t_cells) t_lt ?_
                refine adr_wop rfl (want_yes rfl rfl rfl hg12) rfl (aop_call (key_link xs[i - 1] _ p1 p2 p3 p4) rfl Try.func126 rfl rfl rfl ?_)
                rintro v H ⟨rfl, rfl⟩
                refine ⟨t_pend, ?_⟩
                refine adr_wop rfl (want_yes rfl rfl rfl hg12) rfl (aop_call (key_link xs[i] _ hya.1 hya.2 hyb.1 hyb.2) rfl Try.func126 rfl rfl rfl ?_)
                rintro v H ⟨rfl, rfl⟩
                refine ⟨t_pend, ?_⟩
                refine adr_wval rfl (want_yes rfl rfl rfl hg12) rfl (av_ge rfl rfl) t_lt ?_
                refine adr_wval rfl (want_yes rfl rfl rfl hg10) rfl (av_pick_bool (congrArg Value.bool hg12) rfl) t_lt ?_
                refine adr_val rfl rfl (av_pick_bool (congrArg Value.bool hg10) rfl) t_lt ?_
                refine ac_split rfl rfl ?_ ?_
                · intro hc13
                  have hge : keyI xs[i] ≤ keyI (xs[i - 1]'(by omega)) := of_decide_eq_true hc13
                  refine ac_seq ?_
                  refine ac_region (by kernel_rfl) ?_
                  first | refine aops_val (av_assign_bool rfl) ?_ | refine aops_val (av_assign rfl) ?_
                  refine ac_ret ?_
                  refine ⟨.bool false, aresult1 (ares_tmp rfl), false, rfl, fun h => (by cases h), fun hG => ?_⟩
                  obtain ⟨⟨g1, g2, g3, g4, g5, g6, g7⟩, g8⟩ := hG i hix
                  exfalso
                  first
                    | exact hna ⟨g1, g2⟩
                    | exact hnb ⟨g3, g4⟩
                    | (have h9 := (less_key p3 p4 g3 g4).1 (g8 hi0); omega)
                    | omega
                · intro hc13
                  have hlt : ¬ keyI xs[i] ≤ keyI (xs[i - 1]'(by omega)) := of_decide_eq_false hc13
                  refine ac_skip ?_
                  refine ac_region (by kernel_rfl) ?_
                  first | refine aops_val (av_add64 (by first | assumption | rfl) (by first | assumption | rfl) t_fits) ?_ | refine aops_val (av_add (by first | assumption | rfl) (by first | assumption | rfl)) ?_
                  first | refine aops_val (av_move_int rfl) ?_ | refine aops_val (av_move rfl) ?_
                  refine ⟨xs.length - (i + 1), by omega, i + 1, by omega, rfl, t_le, fun j h h0 => ?_, e0, e3, e6, e7, rfl⟩
                  rcases Nat.lt_or_ge j i with h1 | h1
                  · exact hok j h h1
                  · obtain rfl : j = i := by omega
                    exact ⟨⟨hya.1, hya.2, hyb.1, hyb.2, by omega, by omega, by omega⟩, fun h2 => by first | omega | exact (less_key p3 p4 hyb.1 hyb.2).2 (by omega)⟩
              · intro hg12
                have hp12 := hg12; try simp only [decide_eq_true_eq, decide_eq_false_iff_not, Bool.not_eq_true', Bool.not_eq_false'] at hp12
                refine adr_skip rfl (want_no rfl rfl rfl hg12 rfl) ?_
                refine adr_skip rfl (want_no rfl rfl rfl hg12 rfl) ?_
                refine adr_skip rfl (want_no rfl rfl rfl hg12 rfl) ?_
                refine adr_skip rfl (want_no rfl rfl rfl hg12 rfl) ?_
                refine adr_skip rfl (want_no rfl rfl rfl hg12 rfl) ?_
                refine adr_skip rfl (want_no rfl rfl rfl hg12 rfl) ?_
                refine adr_skip rfl (want_no rfl rfl rfl hg12 rfl) ?_
                refine adr_skip rfl (want_no rfl rfl rfl hg12 rfl) ?_
                refine adr_skip rfl (want_no rfl rfl rfl hg12 rfl) ?_
                refine adr_wval rfl (want_yes rfl rfl rfl hg10) rfl (av_pick_bool (congrArg Value.bool hg12) (by first | assumption | rfl)) t_lt ?_
                refine adr_val rfl rfl (av_pick_bool (congrArg Value.bool hg10) rfl) t_lt ?_
                refine ac_cond_false rfl rfl ?_
                refine ac_skip ?_
                refine ac_region (by kernel_rfl) ?_
                first | refine aops_val (av_add64 (by first | assumption | rfl) (by first | assumption | rfl) t_fits) ?_ | refine aops_val (av_add (by first | assumption | rfl) (by first | assumption | rfl)) ?_
                first | refine aops_val (av_move_int rfl) ?_ | refine aops_val (av_move rfl) ?_
                refine ⟨xs.length - (i + 1), by omega, i + 1, by omega, rfl, t_le, fun j h h0 => ?_, e0, e3, e6, e7, rfl⟩
                rcases Nat.lt_or_ge j i with h1 | h1
                · exact hok j h h1
                · obtain rfl : j = i := by omega
                  exact ⟨⟨hya.1, hya.2, hyb.1, hyb.2, by omega, by omega, by omega⟩, fun h2 => by first | omega | exact (less_key p3 p4 hyb.1 hyb.2).2 (by omega)⟩
  · intro hc1
    (try simp only [decide_eq_true_eq, decide_eq_false_iff_not, Bool.not_eq_true', Bool.not_eq_false'] at hc1)
    refine ac_exit ?_
    refine ac_seq ?_
    refine ac_region (by kernel_rfl) ?_
    first | refine aops_val (av_assign_bool rfl) ?_ | refine aops_val (av_assign rfl) ?_
    refine ac_ret ?_
    refine ⟨.bool true, aresult1 (ares_tmp rfl), true, rfl, fun _ j h => hok j h (by omega), fun _ => rfl⟩
theorem PGood_links (xs : List Link) (v : Value) (H : Hp) (hs : Sl kLink H v xs) (hl : xs.length ≤ 9223372036854775807) :
    ACalls Try.prog 70 #[v] H (fun r H' => (∃ g, r = .bool g ∧ (g = true ↔ GoodL xs)) ∧ H' = H) :=
  ACalls.pure (fun v ⟨g, h, _⟩ => by rw [h]; rfl) (PGood_raw xs v H.ro (hs.mono H.sees_ro) hl)
theorem Away_link (x : Link) (H : Hp) : ACalls Try.prog 138 #[.agg #[.int .i64 x.a, .int .i64 x.b, .int .i64 x.cost, .int .u64 x.n]] H (fun r H' => r = .bool (decide (x.a ≠ x.b)) ∧ H' = H) := by
  refine ACalls.pure (R := fun r => r = .bool (decide (x.a ≠ x.b))) (fun v h => by rw [h]; rfl) ?_
  refine acalls_of_code Try.func138 rfl rfl rfl (by simp) ?_
  refine ac_seq ?_
  refine ac_region (by kernel_rfl) ?_
  refine aops_make (am_box_agg rfl) ?_
  first | refine aops_val (av_assign_bool rfl) ?_ | refine aops_val (av_assign rfl) ?_
  refine ac_seq ?_
  refine ac_region (by kernel_rfl) ?_
  refine aops_val (av_fieldOff (off := 0) rfl Try.underlying28 rfl inf3.size (by decide) rfl) ?_
  refine aops_val (av_load1 rfl Try.underlying3 rfl t_cell) ?_
  refine aops_val (av_fieldOff (off := 1) rfl Try.underlying28 rfl inf3.size (by decide) rfl) ?_
  refine aops_val (av_load1 rfl Try.underlying3 rfl t_cell) ?_
  refine aops_val (av_ne rfl rfl) ?_
  first | refine aops_val (av_assign_bool rfl) ?_ | refine aops_val (av_assign rfl) ?_
  refine ac_ret ?_
  exact ⟨_, aresult1 (ares_tmp rfl), rfl⟩
theorem Index_raw (xs : List Link) (v : Value) (H : Hp) (hs : Sl kLink H v xs) (hl : xs.length ≤ 9223372036854775807) :
    ACalls Try.prog 188 #[v, .func (.func 138) #[] #[]] H (fun r _ => ∃ k : Int, r = .int .i64 k ∧ -1 ≤ k ∧ (0 ≤ k ↔ ¬ ∀ x ∈ xs, x.a = x.b)) := by
  obtain ⟨A, c, rfl⟩ := hs.shape
  refine acalls_of_code Try.func188 rfl rfl rfl (by simp) ?_
  refine ac_seq ?_
  refine ac_region (by kernel_rfl) ?_
  first | refine aops_val (av_assign_int rfl) ?_ | refine aops_val (av_assign rfl) ?_
  refine ac_seq ?_
  refine ac_seq ?_
  refine ac_region (by kernel_rfl) ?_
  first | refine aops_val (av_move_sl rfl) ?_ | refine aops_val (av_move rfl) ?_
  refine aops_val (av_len rfl Try.underlying22) ?_
  first | refine aops_val (av_move_int rfl) ?_ | refine aops_val (av_move rfl) ?_
  refine ac_block ?_
  refine ac_loop (fun n t H' => ∃ (i : Nat), i ≤ xs.length ∧ n = xs.length - i ∧ H' = H ∧ (∀ x ∈ xs.take i, x.a = x.b) ∧ t 0 = .slice A xs.length c ∧ t 1 = .func (.func 138) #[] #[] ∧ t 7 = .int .i64 xs.length ∧ t 8 = .int .i64 i) (xs.length) (⟨0, by omega, rfl, rfl, by simp, rfl, rfl, rfl, rfl⟩) ?_
  rintro n t _ ⟨i, hi, rfl, rfl, hno, e0, e1, e7, e8⟩
  refine ac_seq ?_
  refine ac_region (by kernel_rfl) ?_
  refine aops_val (av_lt (by first | assumption | rfl) (by first | assumption | rfl)) ?_
  refine ac_seq ?_
  refine ac_split rfl rfl ?_ ?_
  · intro hc1
    (try simp only [decide_eq_true_eq, decide_eq_false_iff_not, Bool.not_eq_true', Bool.not_eq_false'] at hc1)
    refine ac_skip ?_
    refine ac_seq ?_
    refine ac_block ?_
    refine ac_seq ?_
    refine ac_region (by kernel_rfl) ?_
    first | refine aops_val (av_move_int (by first | assumption | rfl)) ?_ | refine aops_val (av_move (by first | assumption | rfl)) ?_
    first | refine aops_val (av_assign_int rfl) ?_ | refine aops_val (av_assign rfl) ?_
    refine ac_seq ?_
    refine ac_region (by kernel_rfl) ?_
    first | refine aops_val (av_move_func (by first | assumption | rfl)) ?_ | refine aops_val (av_move (by first | assumption | rfl)) ?_
    first | refine aops_val (av_move_sl (by first | assumption | rfl)) ?_ | refine aops_val (av_move (by first | assumption | rfl)) ?_
    first | refine aops_val (av_move_int rfl) ?_ | refine aops_val (av_move rfl) ?_
    have hix : i < xs.length := by omega
    obtain ⟨b, o, rfl, hb, hcell1⟩ := hs.link_at hix
    refine aops_val (av_indexAddr rfl rfl Try.underlying22 inf28.size t_idx t_idx) ?_
    refine aops_val (av_loadN (cs := [.int .i64 _, .int .i64 _, .int .i64 _, .int .u64 _]) rfl Try.underlying28 rfl inf28.size t_cells) ?_
    refine aops_op (aop_call (Away_link xs[i] _) rfl Try.func138 rfl rfl rfl ?_)
    rintro v5 H1 ⟨rfl, rfl⟩
    refine ac_split rfl rfl ?_ ?_
    · intro hc2
      have hne : xs[i].a ≠ xs[i].b := of_decide_eq_true hc2
      refine ac_seq ?_
      refine ac_region (by kernel_rfl) ?_
      first | refine aops_val (av_move_int rfl) ?_ | refine aops_val (av_move rfl) ?_
      first | refine aops_val (av_assign_int rfl) ?_ | refine aops_val (av_assign rfl) ?_
      refine ac_ret ?_
      exact ⟨.int .i64 i, aresult1 (ares_tmp (by first | assumption | rfl)), i, rfl, by omega, fun _ h => hne (h _ (List.getElem_mem hix)), fun _ => by omega⟩
    · intro hc2
      have heq : xs[i].a = xs[i].b := Decidable.not_not.1 (of_decide_eq_false hc2)
      refine ac_skip ?_
      refine ac_region (by kernel_rfl) ?_
      first | refine aops_val (av_add64 (by first | assumption | rfl) (by first | assumption | rfl) t_fits) ?_ | refine aops_val (av_add (by first | assumption | rfl) (by first | assumption | rfl)) ?_
      first | refine aops_val (av_move_int rfl) ?_ | refine aops_val (av_move rfl) ?_
      refine ⟨xs.length - (i + 1), by omega, i + 1, by omega, rfl, rfl, ?_, e0, e1, e7, rfl⟩
      rw [← take_next hix]
      intro x hx
      rcases List.mem_append.1 hx with hx | hx
      · exact hno x hx
      · simp at hx; rw [hx]; exact heq
  · intro hc1
    (try simp only [decide_eq_true_eq, decide_eq_false_iff_not, Bool.not_eq_true', Bool.not_eq_false'] at hc1)
    refine ac_exit ?_
    refine ac_seq ?_
    refine ac_region (by kernel_rfl) ?_
    first | refine aops_val (av_assign_int rfl) ?_ | refine aops_val (av_assign rfl) ?_
    refine ac_ret ?_
    rw [List.take_of_length_le (by omega)] at hno
    exact ⟨.int .i64 (-1), aresult1 (ares_tmp rfl), -1, rfl, by omega, fun h => by omega, fun h => absurd hno h⟩
theorem Contains_links (xs : List Link) (v : Value) (H : Hp) (hs : Sl kLink H v xs) (hl : xs.length ≤ 9223372036854775807) :
    ACalls Try.prog 139 #[v, .func (.func 138) #[] #[]] H (fun r H' => (∃ g, r = .bool g ∧ (g = false ↔ ∀ x ∈ xs, x.a = x.b)) ∧ H' = H) := by
  refine ACalls.pure (R := fun r => ∃ g, r = .bool g ∧ (g = false ↔ ∀ x ∈ xs, x.a = x.b)) (fun v ⟨g, h, _⟩ => by rw [h]; rfl) ?_
  have hs := hs.mono H.sees_ro
  obtain ⟨A, c, rfl⟩ := hs.shape
  refine acalls_of_code Try.func139 rfl rfl rfl (by simp) ?_
  refine ac_seq ?_
  refine ac_region (by kernel_rfl) ?_
  first | refine aops_val (av_assign_bool rfl) ?_ | refine aops_val (av_assign rfl) ?_
  refine ac_seq ?_
  refine ac_region (by kernel_rfl) ?_
  first | refine aops_val (av_move_sl rfl) ?_ | refine aops_val (av_move rfl) ?_
  first | refine aops_val (av_move_func rfl) ?_ | refine aops_val (av_move rfl) ?_
  refine aops_op (aop_call (Index_raw xs _ _ hs hl) rfl Try.func188 rfl rfl rfl ?_)
  rintro v2 H2 ⟨k, rfl, hk, hk2⟩
  refine aops_val (av_ge rfl rfl) ?_
  first | refine aops_val (av_assign_bool rfl) ?_ | refine aops_val (av_assign rfl) ?_
  refine ac_ret ?_
  refine ⟨_, aresult1 (ares_tmp rfl), decide (k ≥ 0), rfl, ?_⟩
  rw [decide_eq_false_iff_not]
  exact ⟨fun h => Decidable.not_not.1 fun h2 => h (hk2.2 h2), fun h h2 => hk2.1 h2 h⟩
end Go.Proofs.Ytnkjikpmgeknbaa.Am
namespace Go.Proofs.Ytnkjikpmgeknbaa.Am
open Go Go.RowKit
set_option maxRecDepth 100000
set_option linter.unusedVariables false
set_option linter.unusedSimpArgs false

theorem nodup_len : ∀ (n : Nat) (l : List Int), l.Nodup → (∀ x ∈ l, 0 ≤ x ∧ x < n) → l.length ≤ n
  | 0, l, _, h => by
    cases l with
    | nil => exact Nat.le_refl _
    | cons a l => have := h a List.mem_cons_self; omega
  | n + 1, l, hd, h => by
    have h1 : (l.filter fun x => decide (x ≠ (n : Int))).length ≤ n := nodup_len n _ (hd.filter _) fun x hx => by
      have h2 := List.mem_filter.1 hx
      have h3 := h x h2.1
      have h4 := of_decide_eq_true h2.2
      omega
    have h2 : l.length ≤ (l.filter fun x => decide (x ≠ (n : Int))).length + 1 := by
      clear h1 h
      induction l with
      | nil => simp
      | cons a l ih =>
        obtain ⟨ha, hl⟩ := List.nodup_cons.1 hd
        by_cases e : a = n
        · have : (l.filter fun x => decide (x ≠ (n : Int))) = l := by
            rw [List.filter_eq_self]
            intro x hx
            exact decide_eq_true fun e2 => ha (by rw [e, ← e2]; exact hx)
          rw [List.filter_cons, if_neg (by simp [e]), this]
          exact Nat.le_refl _
        · rw [List.filter_cons, if_pos (by simp [e])]
          have := ih hl
          simp only [List.length_cons]; omega
    omega
theorem GoodF.order_at {f : Forest} (h : GoodF f) {i : Nat} (hi : i < f.vars.length) : f.order.getD i 0 = f.order[i]'(by have := h.l1; omega) := getD_at _
theorem GoodF.nodup {f : Forest} (h : GoodF f) : f.order.Nodup := by
  rw [List.nodup_iff_pairwise_ne] <;> skip
  rw [List.pairwise_iff_getElem]
  intro i j hi hj hij e
  have h1 := h.l1
  have h3 := (h.ok j (by omega)).2.2.1
  rw [h.order_at (by omega)] at h3
  apply h3
  rw [← e]
  exact List.mem_take_iff_getElem.2 ⟨i, by omega, rfl⟩
theorem GoodF.in_order {f : Forest} (h : GoodF f) {v : Nat} (hv : v < f.vars.length) : (v : Int) ∈ f.order := by
  rcases Classical.em ((v : Int) ∈ f.order) with h1 | h1
  · exact h1
  · exfalso
    have h2 := nodup_len f.vars.length ((v : Int) :: f.order) (List.nodup_cons.2 ⟨h1, h.nodup⟩) fun x hx => by
      rcases List.mem_cons.1 hx with rfl | hx
      · omega
      · obtain ⟨i, hi, rfl⟩ := List.getElem_of_mem hx
        have hl := h.l1
        have := h.ok i (by omega)
        rw [OkF, h.order_at (by omega)] at this
        exact ⟨this.1, this.2.1⟩
    have := h.l1
    simp at h2
    omega
theorem GoodF.parent_ge {f : Forest} (h : GoodF f) {v : Nat} (hv : v < f.vars.length) : -1 ≤ f.parent.getD v 0 ∧ f.parent.getD v 0 < f.vars.length := by
  obtain ⟨i, hi, e⟩ := List.getElem_of_mem (h.in_order hv)
  have hl := h.l1
  have h4 := (h.ok i (by omega)).2.2.2
  rw [h.order_at (by omega), e] at h4
  rw [Int.toNat_natCast] at h4
  rcases h4 with h4 | h4
  · omega
  · obtain ⟨j, hj, e2⟩ := List.getElem_of_mem (List.mem_of_mem_take h4)
    have h5 := h.ok j (by omega)
    rw [OkF, h.order_at (by omega), e2] at h5
    omega
/-- What is asked of a variable's nodes and links. -/
def OkP (f : Forest) (p : Parts) (v : Nat) : Prop := GoodL (p.nodes.getD v []) ∧ GoodL (p.links.getD v []) ∧ (∀ x ∈ p.nodes.getD v [], x.a = x.b) ∧ (f.parent.getD v 0 = -1 → p.links.getD v [] = [])
structure GoodP (f : Forest) (p : Parts) : Prop where
  gf : GoodF f
  n1 : p.nodes.length = f.vars.length
  n2 : p.links.length = f.vars.length
  ok : ∀ v, v < f.vars.length → OkP f p v
theorem getD_list {ns : List (List Link)} {i : Nat} (h : i < ns.length) : ns.getD i [] = ns[i] := by rw [List.getD_eq_getElem?_getD, List.getElem?_eq_getElem h]; rfl
structure Small (f : Forest) (p : Parts) : Prop where
  s0 : f.vars.length ≤ 1000000
  s1 : f.order.length ≤ 1000000
  s2 : f.parent.length ≤ 1000000
  s3 : p.nodes.length ≤ 1000000
  s4 : p.links.length ≤ 1000000
  s5 : ∀ l ∈ p.nodes, l.length ≤ 1000000
  s6 : ∀ l ∈ p.links, l.length ≤ 1000000
set_option maxHeartbeats 1000000 in
theorem GoodP_dom_raw (f : Forest) (p : Parts) (cs ds : List Value) (H : Hp) (hp : kForest.rep H f cs) (hq : kParts.rep H p ds) (hsm : Small f p) :
    ACalls Try.prog 96 #[.agg cs.toArray, .agg ds.toArray] H (fun r _ => ∃ g, r = .bool g ∧ (g = true ↔ GoodP f p)) := by
  have hp0 := hp
  obtain ⟨z0, z1, z2, z3, z4, z5, z6⟩ := hsm
  obtain ⟨v0, v1, v2, v3, v4, rfl, hs0, hs1, hs2, hs3, hs4⟩ := hp
  obtain ⟨A0, c0, rfl⟩ := hs0.shape
  obtain ⟨A1, c1, rfl⟩ := hs1.shape
  obtain ⟨A2, c2, rfl⟩ := hs2.shape
  obtain ⟨A3, c3, rfl⟩ := hs3.shape
  obtain ⟨A4, c4, rfl⟩ := hs4.shape
  obtain ⟨u0, u1, rfl, hn0, hn1⟩ := hq
  obtain ⟨B0, d0, rfl⟩ := hn0.shape
  obtain ⟨B1, d1, rfl⟩ := hn1.shape
  refine acalls_of_code Try.func96 rfl rfl rfl (by simp) ?_
  refine ac_seq ?_
  refine ac_region (by kernel_rfl) ?_
  refine aops_make (am_box_agg rfl) ?_
  refine aops_make (am_box_agg rfl) ?_
  first | refine aops_val (av_assign_bool rfl) ?_ | refine aops_val (av_assign rfl) ?_
  refine ac_seq ?_
  refine ac_region (by kernel_rfl) ?_
  refine aops_val (av_fieldOff (off := 0) rfl Try.underlying62 rfl inf59.size (by decide) rfl) ?_
  refine aops_val (av_load1 rfl Try.underlying59 rfl t_cell) ?_
  refine aops_val (av_len rfl Try.underlying59) ?_
  first | refine aops_val (av_assign_int rfl) ?_ | refine aops_val (av_assign rfl) ?_
  refine ac_seq ?_
  refine ac_seq ?_
  refine ac_region (by kernel_rfl) ?_
  first | refine aops_val (av_loadN (cs := [.slice _ _ _, .slice _ _ _, .slice _ _ _, .slice _ _ _, .slice _ _ _]) rfl Try.underlying62 rfl inf62.size t_cells) ?_ | refine aops_val (av_loadN (cs := [_, _, _, _, _]) rfl Try.underlying62 rfl inf62.size t_cells) ?_
  refine aops_op (aop_call (GoodF_For f _ _ (kForest.mono t_sees hp0) z0 z1 z2) rfl Try.func137 rfl rfl rfl ?_)
  rintro v2 H2 ⟨⟨g, rfl, hg⟩, hH2⟩; subst hH2
  refine aops_val (av_not rfl) ?_
  first | refine aops_val (av_move_bool rfl) ?_ | refine aops_val (av_move rfl) ?_
  refine aops_guard rfl rfl rfl ?_ ?_
  · intro hg1
    have hgf : ¬ GoodF f := fun h => by rw [hg.2 h] at hg1; cases hg1
    refine aops_skip (want_no rfl rfl rfl hg1 rfl) ?_
    refine aops_skip (want_no rfl rfl rfl hg1 rfl) ?_
    refine aops_skip (want_no rfl rfl rfl hg1 rfl) ?_
    refine aops_skip (want_no rfl rfl rfl hg1 rfl) ?_
    refine aops_skip (want_no rfl rfl rfl hg1 rfl) ?_
    refine aops_val (av_pick_bool (congrArg Value.bool hg1) rfl) ?_
    first | refine aops_val (av_move_bool rfl) ?_ | refine aops_val (av_move rfl) ?_
    refine aops_skip (want_no rfl rfl rfl rfl rfl) ?_
    refine aops_skip (want_no rfl rfl rfl rfl rfl) ?_
    refine aops_skip (want_no rfl rfl rfl rfl rfl) ?_
    refine aops_skip (want_no rfl rfl rfl rfl rfl) ?_
    refine aops_skip (want_no rfl rfl rfl rfl rfl) ?_
    refine aops_val (av_pick_bool (congrArg Value.bool rfl) rfl) ?_
    refine ac_cond_true rfl rfl ?_
    refine ac_seq ?_
    refine ac_region (by kernel_rfl) ?_
    first | refine aops_val (av_assign_bool rfl) ?_ | refine aops_val (av_assign rfl) ?_
    refine ac_ret ?_
    refine ⟨.bool false, aresult1 (ares_tmp rfl), false, rfl, fun h => (by cases h), fun hG => ?_⟩
    exfalso
    have q1 := hG.n1
    have q2 := hG.n2
    first | exact hgf hG.gf | omega
  · intro hg1
    have hgt : GoodF f := hg.1 (by simpa using hg1)
    refine aops_wval (want_yes rfl rfl rfl hg1) (av_fieldOff (off := 0) rfl Try.underlying65 rfl inf63.size (by decide) rfl) ?_
    refine aops_wval (want_yes rfl rfl rfl hg1) (av_load1 rfl Try.underlying63 rfl t_cell) ?_
    refine aops_wval (want_yes rfl rfl rfl hg1) (av_len rfl Try.underlying63) ?_
    first | refine aops_wval (want_yes rfl rfl rfl hg1) (av_move_int rfl) ?_ | refine aops_wval (want_yes rfl rfl rfl hg1) (av_move rfl) ?_
    refine aops_wval (want_yes rfl rfl rfl hg1) (av_ne rfl rfl) ?_
    refine aops_val (av_pick_bool (congrArg Value.bool hg1) rfl) ?_
    first | refine aops_val (av_move_bool rfl) ?_ | refine aops_val (av_move rfl) ?_
    refine aops_guard rfl rfl rfl ?_ ?_
    · intro hg3
      have hp3 := hg3; try simp only [decide_eq_true_eq, decide_eq_false_iff_not, Bool.not_eq_true', Bool.not_eq_false'] at hp3
      refine aops_skip (want_no rfl rfl rfl hg3 rfl) ?_
      refine aops_skip (want_no rfl rfl rfl hg3 rfl) ?_
      refine aops_skip (want_no rfl rfl rfl hg3 rfl) ?_
      refine aops_skip (want_no rfl rfl rfl hg3 rfl) ?_
      refine aops_skip (want_no rfl rfl rfl hg3 rfl) ?_
      refine aops_val (av_pick_bool (congrArg Value.bool hg3) rfl) ?_
      refine ac_cond_true rfl rfl ?_
      refine ac_seq ?_
      refine ac_region (by kernel_rfl) ?_
      first | refine aops_val (av_assign_bool rfl) ?_ | refine aops_val (av_assign rfl) ?_
      refine ac_ret ?_
      refine ⟨.bool false, aresult1 (ares_tmp rfl), false, rfl, fun h => (by cases h), fun hG => ?_⟩
      exfalso
      have q1 := hG.n1
      have q2 := hG.n2
      first | exact hgf hG.gf | omega
    · intro hg3
      have hp3 := hg3; try simp only [decide_eq_true_eq, decide_eq_false_iff_not, Bool.not_eq_true', Bool.not_eq_false'] at hp3
      refine aops_wval (want_yes rfl rfl rfl hg3) (av_fieldOff (off := 1) rfl Try.underlying65 rfl inf63.size (by decide) rfl) ?_
      refine aops_wval (want_yes rfl rfl rfl hg3) (av_load1 rfl Try.underlying63 rfl t_cell) ?_
      refine aops_wval (want_yes rfl rfl rfl hg3) (av_len rfl Try.underlying63) ?_
      first | refine aops_wval (want_yes rfl rfl rfl hg3) (av_move_int rfl) ?_ | refine aops_wval (want_yes rfl rfl rfl hg3) (av_move rfl) ?_
      refine aops_wval (want_yes rfl rfl rfl hg3) (av_ne rfl rfl) ?_
      refine aops_val (av_pick_bool (congrArg Value.bool hg3) rfl) ?_
      refine ac_split rfl rfl ?_ ?_
      · intro hc5
        (try simp only [decide_eq_true_eq, decide_eq_false_iff_not, Bool.not_eq_true', Bool.not_eq_false'] at hc5)
        refine ac_seq ?_
        refine ac_region (by kernel_rfl) ?_
        first | refine aops_val (av_assign_bool rfl) ?_ | refine aops_val (av_assign rfl) ?_
        refine ac_ret ?_
        refine ⟨.bool false, aresult1 (ares_tmp rfl), false, rfl, fun h => (by cases h), fun hG => ?_⟩
        exfalso
        have q1 := hG.n1
        have q2 := hG.n2
        first | exact hgf hG.gf | omega
      · intro hc5
        have hlen : p.nodes.length = f.vars.length ∧ p.links.length = f.vars.length := by
          have hc5' := of_decide_eq_false hc5
          constructor <;> omega
        refine ac_skip ?_
        refine ac_seq ?_
        refine ac_seq ?_
        refine ac_region (by kernel_rfl) ?_
        refine aops_val (av_fieldOff (off := 0) rfl Try.underlying62 rfl inf59.size (by decide) rfl) ?_
        refine aops_val (av_load1 rfl Try.underlying59 rfl t_cell) ?_
        refine aops_val (av_len rfl Try.underlying59) ?_
        first | refine aops_val (av_move_int rfl) ?_ | refine aops_val (av_move rfl) ?_
        refine ac_block ?_
        refine ac_loop (fun n t H' => ∃ (i : Nat), i ≤ f.vars.length ∧ n = f.vars.length - i ∧ H' = (H.push (.own 0 [.slice A0 f.vars.length c0, .slice A1 f.order.length c1, .slice A2 f.parent.length c2, .slice A3 f.links.length c3, .slice A4 f.loops.length c4])).push (.own 0 [.slice B0 p.nodes.length d0, .slice B1 p.links.length d1]) ∧ (∀ j, j < i → OkP f p j) ∧ t 2 = .pointer (some ⟨H.size, 0, none⟩) ∧ t 3 = .pointer (some ⟨H.size + 1, 0, none⟩) ∧ t 5 = .int .i64 f.vars.length ∧ t 30 = .int .i64 f.vars.length ∧ t 31 = .int .i64 i) (f.vars.length) (⟨0, by omega, rfl, rfl, fun j h => by omega, rfl, rfl, rfl, rfl, rfl⟩) ?_
        rintro n t _ ⟨i, hi, rfl, rfl, hok, e2, e3, e5, e30, e31⟩
        refine ac_seq ?_
        refine ac_region (by kernel_rfl) ?_
        refine aops_val (av_lt (by first | assumption | rfl) (by first | assumption | rfl)) ?_
        refine ac_seq ?_
        refine ac_split rfl rfl ?_ ?_
        · intro hc6
          (try simp only [decide_eq_true_eq, decide_eq_false_iff_not, Bool.not_eq_true', Bool.not_eq_false'] at hc6)
          refine ac_skip ?_
          refine ac_seq ?_
          refine ac_block ?_
          refine ac_seq ?_
          refine ac_region (by kernel_rfl) ?_
          first | refine aops_val (av_move_int (by first | assumption | rfl)) ?_ | refine aops_val (av_move (by first | assumption | rfl)) ?_
          first | refine aops_val (av_assign_int rfl) ?_ | refine aops_val (av_assign rfl) ?_
          refine ac_seq ?_
          refine ac_region (by kernel_rfl) ?_
          first | refine aops_val (av_assign_func rfl) ?_ | refine aops_val (av_assign rfl) ?_
          refine ac_seq ?_
          have hpl := hgt.l2
          have hix : i < f.vars.length := by omega
          have hseS := (Hp.le_push' (H.le_push (.own 0 [.slice A0 f.vars.length c0, .slice A1 f.order.length c1, .slice A2 f.parent.length c2, .slice A3 f.links.length c3, .slice A4 f.loops.length c4])) (.own 0 [.slice B0 p.nodes.length d0, .slice B1 p.links.length d1])).sees
          have hixn : i < p.nodes.length := by omega
          have hixl : i < p.links.length := by omega
          obtain ⟨b, o, ks, rfl, hb, ⟨w0, rfl, hw0⟩, hcell0⟩ := (hn0.mono hseS).elem_at hixn
          obtain ⟨b1, o1, ks1, rfl, hb1, ⟨w1, rfl, hw1⟩, hcell1⟩ := (hn1.mono hseS).elem_at hixl
          have hcell0' := hcell0.one
          have hcell1' := hcell1.one
          obtain ⟨A6, c6, rfl⟩ := hw0.shape
          obtain ⟨A7, c7, rfl⟩ := hw1.shape
          obtain ⟨b2, o2, rfl, hb2, hcell2⟩ := (hs2.mono hseS).int_at (i := (i : Int)) (by omega) (by have := hgt.l2; omega)
          rw [Int.toNat_natCast] at hcell2
          have hzn := z5 _ (List.getElem_mem hixn)
          have hzl := z6 _ (List.getElem_mem hixl)
          have gn := getD_list hixn
          have gl := getD_list hixl
          refine ac_region (by kernel_rfl) ?_
          refine aops_val (av_fieldOff (off := 0) (by first | assumption | rfl) Try.underlying65 (by first | assumption | rfl) inf63.size (by decide) (by first | assumption | rfl)) ?_
          refine aops_val (av_load1 rfl Try.underlying63 rfl t_cell) ?_
          first | refine aops_val (av_move_int rfl) ?_ | refine aops_val (av_move rfl) ?_
          refine aops_val (av_indexAddr rfl rfl Try.underlying63 inf22.size t_idx t_idx) ?_
          refine aops_val (av_load1 rfl Try.underlying22 rfl t_cell) ?_
          refine aops_op (aop_call (PGood_links p.nodes[i] _ _ hw0 (by omega)) rfl Try.func70 rfl rfl rfl ?_)
          rintro v5 H5 ⟨⟨g1, rfl, hg1⟩, hH5⟩; subst hH5
          refine aops_val (av_not rfl) ?_
          first | refine aops_val (av_move_bool rfl) ?_ | refine aops_val (av_move rfl) ?_
          refine aops_guard rfl rfl rfl ?_ ?_
          · intro hg7
            have hno : ¬ GoodL p.nodes[i] := fun h => by rw [hg1.2 h] at hg7; cases hg7
            refine aops_skip (want_no rfl rfl rfl hg7 rfl) ?_
            refine aops_skip (want_no rfl rfl rfl hg7 rfl) ?_
            refine aops_skip (want_no rfl rfl rfl hg7 rfl) ?_
            refine aops_skip (want_no rfl rfl rfl hg7 rfl) ?_
            refine aops_skip (want_no rfl rfl rfl hg7 rfl) ?_
            refine aops_skip (want_no rfl rfl rfl hg7 rfl) ?_
            refine aops_skip (want_no rfl rfl rfl hg7 rfl) ?_
            refine aops_val (av_pick_bool (congrArg Value.bool hg7) (by first | assumption | rfl)) ?_
            first | refine aops_val (av_move_bool rfl) ?_ | refine aops_val (av_move rfl) ?_
            refine aops_skip (want_no rfl rfl rfl rfl rfl) ?_
            refine aops_skip (want_no rfl rfl rfl rfl rfl) ?_
            refine aops_skip (want_no rfl rfl rfl rfl rfl) ?_
            refine aops_skip (want_no rfl rfl rfl rfl rfl) ?_
            refine aops_skip (want_no rfl rfl rfl rfl rfl) ?_
            refine aops_skip (want_no rfl rfl rfl rfl rfl) ?_
            refine aops_skip (want_no rfl rfl rfl rfl rfl) ?_
            refine aops_val (av_pick_bool (congrArg Value.bool (by first | assumption | rfl)) (by first | assumption | rfl)) ?_
            first | refine aops_val (av_move_bool rfl) ?_ | refine aops_val (av_move rfl) ?_
            refine aops_skip (want_no rfl rfl rfl rfl rfl) ?_
            refine aops_skip (want_no rfl rfl rfl rfl rfl) ?_
            refine aops_skip (want_no rfl rfl rfl rfl rfl) ?_
            refine aops_skip (want_no rfl rfl rfl rfl rfl) ?_
            refine aops_skip (want_no rfl rfl rfl rfl rfl) ?_
            refine aops_skip (want_no rfl rfl rfl rfl rfl) ?_
            refine aops_skip (want_no rfl rfl rfl rfl rfl) ?_
            refine aops_skip (want_gone rfl rfl rfl) ?_
            refine aops_skip (want_gone rfl rfl rfl) ?_
            refine aops_skip (want_gone rfl rfl rfl) ?_
            refine aops_skip (want_gone rfl rfl rfl) ?_
            refine aops_skip (want_gone rfl rfl rfl) ?_
            refine aops_skip (want_gone rfl rfl rfl) ?_
            refine aops_skip (want_gone rfl rfl rfl) ?_
            refine aops_skip (want_no rfl rfl rfl rfl rfl) ?_
            refine aops_val (av_pick_bool (congrArg Value.bool (by first | assumption | rfl)) (by first | assumption | rfl)) ?_
            refine ac_cond_true rfl rfl ?_
            refine ac_seq ?_
            refine ac_region (by kernel_rfl) ?_
            first | refine aops_val (av_assign_bool rfl) ?_ | refine aops_val (av_assign rfl) ?_
            refine ac_ret ?_
            refine ⟨.bool false, aresult1 (ares_tmp rfl), false, rfl, fun h => (by cases h), fun hG => ?_⟩
            obtain ⟨q1, q2, q3, q4⟩ := hG.ok i hix
            rw [gn] at q1 q3
            rw [gl] at q2 q4
            exfalso
            first | exact hno q1 | exact hno q2 | exact hno q3 | (rw [q4 hpar] at hll; simp at hll)
          · intro hg7
            have hgn : GoodL p.nodes[i] := hg1.1 (by simpa using hg7)
            refine aops_wval (want_yes rfl rfl rfl hg7) (av_fieldOff (off := 1) (by first | assumption | rfl) Try.underlying65 (by first | assumption | rfl) inf63.size (by decide) (by first | assumption | rfl)) ?_
            refine aops_wval (want_yes rfl rfl rfl hg7) (av_load1 rfl Try.underlying63 rfl t_cell) ?_
            first | refine aops_wval (want_yes rfl rfl rfl hg7) (av_move_int rfl) ?_ | refine aops_wval (want_yes rfl rfl rfl hg7) (av_move rfl) ?_
            refine aops_wval (want_yes rfl rfl rfl hg7) (av_indexAddr rfl rfl Try.underlying63 inf22.size t_idx t_idx) ?_
            refine aops_wval (want_yes rfl rfl rfl hg7) (av_load1 rfl Try.underlying22 rfl t_cell) ?_
            refine aops_want (want_yes rfl rfl rfl hg7) (aop_call (PGood_links p.links[i] _ _ hw1 (by omega)) rfl Try.func70 rfl rfl rfl ?_)
            rintro v6 H6 ⟨⟨g2, rfl, hg2⟩, hH6⟩; subst hH6
            refine aops_wval (want_yes rfl rfl rfl hg7) (av_not rfl) ?_
            refine aops_val (av_pick_bool (congrArg Value.bool hg7) rfl) ?_
            first | refine aops_val (av_move_bool rfl) ?_ | refine aops_val (av_move rfl) ?_
            refine aops_guard rfl rfl rfl ?_ ?_
            · intro hg9
              have hno : ¬ GoodL p.links[i] := fun h => by rw [hg2.2 h] at hg9; cases hg9
              refine aops_skip (want_no rfl rfl rfl hg9 rfl) ?_
              refine aops_skip (want_no rfl rfl rfl hg9 rfl) ?_
              refine aops_skip (want_no rfl rfl rfl hg9 rfl) ?_
              refine aops_skip (want_no rfl rfl rfl hg9 rfl) ?_
              refine aops_skip (want_no rfl rfl rfl hg9 rfl) ?_
              refine aops_skip (want_no rfl rfl rfl hg9 rfl) ?_
              refine aops_skip (want_no rfl rfl rfl hg9 rfl) ?_
              refine aops_val (av_pick_bool (congrArg Value.bool hg9) (by first | assumption | rfl)) ?_
              first | refine aops_val (av_move_bool rfl) ?_ | refine aops_val (av_move rfl) ?_
              refine aops_skip (want_no rfl rfl rfl rfl rfl) ?_
              refine aops_skip (want_no rfl rfl rfl rfl rfl) ?_
              refine aops_skip (want_no rfl rfl rfl rfl rfl) ?_
              refine aops_skip (want_no rfl rfl rfl rfl rfl) ?_
              refine aops_skip (want_no rfl rfl rfl rfl rfl) ?_
              refine aops_skip (want_no rfl rfl rfl rfl rfl) ?_
              refine aops_skip (want_no rfl rfl rfl rfl rfl) ?_
              refine aops_skip (want_gone rfl rfl rfl) ?_
              refine aops_skip (want_gone rfl rfl rfl) ?_
              refine aops_skip (want_gone rfl rfl rfl) ?_
              refine aops_skip (want_gone rfl rfl rfl) ?_
              refine aops_skip (want_gone rfl rfl rfl) ?_
              refine aops_skip (want_gone rfl rfl rfl) ?_
              refine aops_skip (want_gone rfl rfl rfl) ?_
              refine aops_skip (want_no rfl rfl rfl rfl rfl) ?_
              refine aops_val (av_pick_bool (congrArg Value.bool (by first | assumption | rfl)) (by first | assumption | rfl)) ?_
              refine ac_cond_true rfl rfl ?_
              refine ac_seq ?_
              refine ac_region (by kernel_rfl) ?_
              first | refine aops_val (av_assign_bool rfl) ?_ | refine aops_val (av_assign rfl) ?_
              refine ac_ret ?_
              refine ⟨.bool false, aresult1 (ares_tmp rfl), false, rfl, fun h => (by cases h), fun hG => ?_⟩
              obtain ⟨q1, q2, q3, q4⟩ := hG.ok i hix
              rw [gn] at q1 q3
              rw [gl] at q2 q4
              exfalso
              first | exact hno q1 | exact hno q2 | exact hno q3 | (rw [q4 hpar] at hll; simp at hll)
            · intro hg9
              have hgl : GoodL p.links[i] := hg2.1 (by simpa using hg9)
              refine aops_wval (want_yes rfl rfl rfl hg9) (av_fieldOff (off := 0) (by first | assumption | rfl) Try.underlying65 (by first | assumption | rfl) inf63.size (by decide) (by first | assumption | rfl)) ?_
              refine aops_wval (want_yes rfl rfl rfl hg9) (av_load1 rfl Try.underlying63 rfl t_cell) ?_
              first | refine aops_wval (want_yes rfl rfl rfl hg9) (av_move_int rfl) ?_ | refine aops_wval (want_yes rfl rfl rfl hg9) (av_move rfl) ?_
              refine aops_wval (want_yes rfl rfl rfl hg9) (av_indexAddr rfl rfl Try.underlying63 inf22.size t_idx t_idx) ?_
              refine aops_wval (want_yes rfl rfl rfl hg9) (av_load1 rfl Try.underlying22 rfl t_cell) ?_
              first | refine aops_wval (want_yes rfl rfl rfl hg9) (av_move_func rfl) ?_ | refine aops_wval (want_yes rfl rfl rfl hg9) (av_move rfl) ?_
              refine aops_want (want_yes rfl rfl rfl hg9) (aop_call (Contains_links p.nodes[i] _ _ hw0 (by omega)) rfl Try.func139 rfl rfl rfl ?_)
              rintro v7 H7 ⟨⟨g3, rfl, hg3⟩, hH7⟩; subst hH7
              refine aops_val (av_pick_bool (congrArg Value.bool hg9) rfl) ?_
              first | refine aops_val (av_move_bool rfl) ?_ | refine aops_val (av_move rfl) ?_
              refine aops_guard rfl rfl rfl ?_ ?_
              · intro hg11
                have hno : ¬ ∀ x ∈ p.nodes[i], x.a = x.b := fun h => by rw [hg3.2 h] at hg11; cases hg11
                refine aops_skip (want_no rfl rfl rfl hg11 rfl) ?_
                refine aops_skip (want_no rfl rfl rfl hg11 rfl) ?_
                refine aops_skip (want_no rfl rfl rfl hg11 rfl) ?_
                refine aops_skip (want_no rfl rfl rfl hg11 rfl) ?_
                refine aops_skip (want_no rfl rfl rfl hg11 rfl) ?_
                refine aops_skip (want_no rfl rfl rfl hg11 rfl) ?_
                refine aops_skip (want_no rfl rfl rfl hg11 rfl) ?_
                refine aops_skip (want_gone rfl rfl rfl) ?_
                refine aops_skip (want_gone rfl rfl rfl) ?_
                refine aops_skip (want_gone rfl rfl rfl) ?_
                refine aops_skip (want_gone rfl rfl rfl) ?_
                refine aops_skip (want_gone rfl rfl rfl) ?_
                refine aops_skip (want_gone rfl rfl rfl) ?_
                refine aops_skip (want_gone rfl rfl rfl) ?_
                refine aops_skip (want_no rfl rfl rfl hg11 rfl) ?_
                refine aops_val (av_pick_bool (congrArg Value.bool hg11) (by first | assumption | rfl)) ?_
                refine ac_cond_true rfl rfl ?_
                refine ac_seq ?_
                refine ac_region (by kernel_rfl) ?_
                first | refine aops_val (av_assign_bool rfl) ?_ | refine aops_val (av_assign rfl) ?_
                refine ac_ret ?_
                refine ⟨.bool false, aresult1 (ares_tmp rfl), false, rfl, fun h => (by cases h), fun hG => ?_⟩
                obtain ⟨q1, q2, q3, q4⟩ := hG.ok i hix
                rw [gn] at q1 q3
                rw [gl] at q2 q4
                exfalso
                first | exact hno q1 | exact hno q2 | exact hno q3 | (rw [q4 hpar] at hll; simp at hll)
              · intro hg11
                have haw : ∀ x ∈ p.nodes[i], x.a = x.b := hg3.1 hg11
                refine aops_wval (want_yes rfl rfl rfl hg11) (av_fieldOff (off := 2) (by first | assumption | rfl) Try.underlying62 (by first | assumption | rfl) inf29.size (by decide) (by first | assumption | rfl)) ?_
                refine aops_wval (want_yes rfl rfl rfl hg11) (av_load1 rfl Try.underlying29 rfl t_cell) ?_
                first | refine aops_wval (want_yes rfl rfl rfl hg11) (av_move_int rfl) ?_ | refine aops_wval (want_yes rfl rfl rfl hg11) (av_move rfl) ?_
                refine aops_wval (want_yes rfl rfl rfl hg11) (av_indexAddr rfl rfl Try.underlying29 inf3.size t_idx t_idx) ?_
                refine aops_wval (want_yes rfl rfl rfl hg11) (av_load1 rfl Try.underlying3 rfl t_cell) ?_
                refine aops_wval (want_yes rfl rfl rfl hg11) (av_eq rfl rfl) ?_
                first | refine aops_wval (want_yes rfl rfl rfl hg11) (av_move_bool rfl) ?_ | refine aops_wval (want_yes rfl rfl rfl hg11) (av_move rfl) ?_
                refine aops_guard rfl rfl rfl ?_ ?_
                · intro hg13
                  have hpar : f.parent.getD i 0 = -1 := of_decide_eq_true hg13
                  refine aops_wval (want_yes rfl rfl rfl hg13) (av_fieldOff (off := 1) (by first | assumption | rfl) Try.underlying65 (by first | assumption | rfl) inf63.size (by decide) (by first | assumption | rfl)) ?_
                  refine aops_wval (want_yes rfl rfl rfl hg13) (av_load1 rfl Try.underlying63 rfl t_cell) ?_
                  first | refine aops_wval (want_yes rfl rfl rfl hg13) (av_move_int rfl) ?_ | refine aops_wval (want_yes rfl rfl rfl hg13) (av_move rfl) ?_
                  refine aops_wval (want_yes rfl rfl rfl hg13) (av_indexAddr rfl rfl Try.underlying63 inf22.size t_idx t_idx) ?_
                  refine aops_wval (want_yes rfl rfl rfl hg13) (av_load1 rfl Try.underlying22 rfl t_cell) ?_
                  refine aops_wval (want_yes rfl rfl rfl hg13) (av_len rfl Try.underlying22) ?_
                  refine aops_wval (want_yes rfl rfl rfl hg13) (av_gt rfl rfl) ?_
                  refine aops_wval (want_yes rfl rfl rfl hg11) (av_pick_bool (congrArg Value.bool hg13) rfl) ?_
                  refine aops_val (av_pick_bool (congrArg Value.bool hg11) rfl) ?_
                  refine ac_split rfl rfl ?_ ?_
                  · intro hc14
                    have hll : 0 < p.links[i].length := by have := of_decide_eq_true hc14; omega
                    refine ac_seq ?_
                    refine ac_region (by kernel_rfl) ?_
                    first | refine aops_val (av_assign_bool rfl) ?_ | refine aops_val (av_assign rfl) ?_
                    refine ac_ret ?_
                    refine ⟨.bool false, aresult1 (ares_tmp rfl), false, rfl, fun h => (by cases h), fun hG => ?_⟩
                    obtain ⟨q1, q2, q3, q4⟩ := hG.ok i hix
                    rw [gn] at q1 q3
                    rw [gl] at q2 q4
                    exfalso
                    first | exact hno q1 | exact hno q2 | exact hno q3 | (rw [q4 hpar] at hll; simp at hll)
                  · intro hc14
                    have hll : p.links[i] = [] := List.eq_nil_of_length_eq_zero (by have := of_decide_eq_false hc14; omega)
                    refine ac_skip ?_
                    refine ac_region (by kernel_rfl) ?_
                    first | refine aops_val (av_add64 (by first | assumption | rfl) (by first | assumption | rfl) t_fits) ?_ | refine aops_val (av_add (by first | assumption | rfl) (by first | assumption | rfl)) ?_
                    first | refine aops_val (av_move_int rfl) ?_ | refine aops_val (av_move rfl) ?_
                    refine ⟨f.vars.length - (i + 1), by omega, i + 1, by omega, rfl, rfl, fun j h => ?_, e2, e3, e5, e30, rfl⟩
                    rcases Nat.lt_or_ge j i with h1 | h1
                    · exact hok j h1
                    · obtain rfl : j = i := by omega
                      exact ⟨by rw [gn]; exact hgn, by rw [gl]; exact hgl, by rw [gn]; exact haw, fun h => by rw [gl]; first | exact hll | exact absurd h hpar⟩
                · intro hg13
                  have hpar : ¬ f.parent.getD i 0 = -1 := of_decide_eq_false hg13
                  refine aops_skip (want_no rfl rfl rfl hg13 rfl) ?_
                  refine aops_skip (want_no rfl rfl rfl hg13 rfl) ?_
                  refine aops_skip (want_no rfl rfl rfl hg13 rfl) ?_
                  refine aops_skip (want_no rfl rfl rfl hg13 rfl) ?_
                  refine aops_skip (want_no rfl rfl rfl hg13 rfl) ?_
                  refine aops_skip (want_no rfl rfl rfl hg13 rfl) ?_
                  refine aops_skip (want_no rfl rfl rfl hg13 rfl) ?_
                  refine aops_wval (want_yes rfl rfl rfl hg11) (av_pick_bool (congrArg Value.bool hg13) (by first | assumption | rfl)) ?_
                  refine aops_val (av_pick_bool (congrArg Value.bool hg11) rfl) ?_
                  refine ac_cond_false rfl rfl ?_
                  refine ac_skip ?_
                  refine ac_region (by kernel_rfl) ?_
                  first | refine aops_val (av_add64 (by first | assumption | rfl) (by first | assumption | rfl) t_fits) ?_ | refine aops_val (av_add (by first | assumption | rfl) (by first | assumption | rfl)) ?_
                  first | refine aops_val (av_move_int rfl) ?_ | refine aops_val (av_move rfl) ?_
                  refine ⟨f.vars.length - (i + 1), by omega, i + 1, by omega, rfl, rfl, fun j h => ?_, e2, e3, e5, e30, rfl⟩
                  rcases Nat.lt_or_ge j i with h1 | h1
                  · exact hok j h1
                  · obtain rfl : j = i := by omega
                    exact ⟨by rw [gn]; exact hgn, by rw [gl]; exact hgl, by rw [gn]; exact haw, fun h => by rw [gl]; first | exact hll | exact absurd h hpar⟩
        · intro hc6
          (try simp only [decide_eq_true_eq, decide_eq_false_iff_not, Bool.not_eq_true', Bool.not_eq_false'] at hc6)
          refine ac_exit ?_
          refine ac_seq ?_
          refine ac_region (by kernel_rfl) ?_
          first | refine aops_val (av_assign_bool rfl) ?_ | refine aops_val (av_assign rfl) ?_
          refine ac_ret ?_
          exact ⟨.bool true, aresult1 (ares_tmp rfl), true, rfl, fun _ => ⟨hgt, hlen.1, hlen.2, fun j h => hok j (by omega)⟩, fun _ => rfl⟩
theorem GoodP_dom (f : Forest) (p : Parts) (cs ds : List Value) (H : Hp) (hp : kForest.rep H f cs) (hq : kParts.rep H p ds) (hsm : Small f p) :
    ACalls Try.prog 96 #[.agg cs.toArray, .agg ds.toArray] H (fun r H' => (∃ g, r = .bool g ∧ (g = true ↔ GoodP f p)) ∧ H' = H) :=
  ACalls.pure (fun v ⟨g, h, _⟩ => by rw [h]; rfl) (GoodP_dom_raw f p cs ds H.ro (kForest.mono H.sees_ro hp) (kParts.mono H.sees_ro hq) hsm)
end Go.Proofs.Ytnkjikpmgeknbaa.Am
namespace Go.Proofs.Ytnkjikpmgeknbaa.Am
open Go Go.RowKit
set_option maxRecDepth 100000
set_option linter.unusedVariables false
set_option linter.unusedSimpArgs false

set_option maxHeartbeats 1000000 in
theorem GoodP_ref_raw (f : Forest) (p : Parts) (cs ds : List Value) (H : Hp) (hp : kForest.rep H f cs) (hq : kParts.rep H p ds) (hsm : Small f p) :
    ACalls Try.prog 36 #[.agg cs.toArray, .agg ds.toArray] H (fun r _ => ∃ g, r = .bool g ∧ (g = true ↔ GoodP f p)) := by
  have hp0 := hp
  obtain ⟨z0, z1, z2, z3, z4, z5, z6⟩ := hsm
  obtain ⟨v0, v1, v2, v3, v4, rfl, hs0, hs1, hs2, hs3, hs4⟩ := hp
  obtain ⟨A0, c0, rfl⟩ := hs0.shape
  obtain ⟨A1, c1, rfl⟩ := hs1.shape
  obtain ⟨A2, c2, rfl⟩ := hs2.shape
  obtain ⟨A3, c3, rfl⟩ := hs3.shape
  obtain ⟨A4, c4, rfl⟩ := hs4.shape
  obtain ⟨u0, u1, rfl, hn0, hn1⟩ := hq
  obtain ⟨B0, d0, rfl⟩ := hn0.shape
  obtain ⟨B1, d1, rfl⟩ := hn1.shape
  refine acalls_of_code Try.func36 rfl rfl rfl (by simp) ?_
  refine ac_seq ?_
  refine ac_region (by kernel_rfl) ?_
  refine aops_make (am_box_agg rfl) ?_
  refine aops_make (am_box_agg rfl) ?_
  first | refine aops_val (av_assign_bool rfl) ?_ | refine aops_val (av_assign rfl) ?_
  refine ac_seq ?_
  refine ac_seq ?_
  refine ac_region (by kernel_rfl) ?_
  first | refine aops_val (av_loadN (cs := [.slice _ _ _, .slice _ _ _, .slice _ _ _, .slice _ _ _, .slice _ _ _]) rfl Try.underlying62 rfl inf62.size t_cells) ?_ | refine aops_val (av_loadN (cs := [_, _, _, _, _]) rfl Try.underlying62 rfl inf62.size t_cells) ?_
  refine aops_op (aop_call (GoodF_ref f _ _ (kForest.mono t_sees hp0) z0 z1 z2) rfl Try.func98 rfl rfl rfl ?_)
  rintro v2 H2 ⟨⟨g, rfl, hg⟩, hH2⟩; subst hH2
  refine aops_val (av_not rfl) ?_
  first | refine aops_val (av_move_bool rfl) ?_ | refine aops_val (av_move rfl) ?_
  refine aops_guard rfl rfl rfl ?_ ?_
  · intro hg1
    have hgf : ¬ GoodF f := fun h => by rw [hg.2 h] at hg1; cases hg1
    refine aops_skip (want_no rfl rfl rfl hg1 rfl) ?_
    refine aops_skip (want_no rfl rfl rfl hg1 rfl) ?_
    refine aops_skip (want_no rfl rfl rfl hg1 rfl) ?_
    refine aops_skip (want_no rfl rfl rfl hg1 rfl) ?_
    refine aops_skip (want_no rfl rfl rfl hg1 rfl) ?_
    refine aops_skip (want_no rfl rfl rfl hg1 rfl) ?_
    refine aops_skip (want_no rfl rfl rfl hg1 rfl) ?_
    refine aops_val (av_pick_bool (congrArg Value.bool hg1) rfl) ?_
    first | refine aops_val (av_move_bool rfl) ?_ | refine aops_val (av_move rfl) ?_
    refine aops_skip (want_no rfl rfl rfl rfl rfl) ?_
    refine aops_skip (want_no rfl rfl rfl rfl rfl) ?_
    refine aops_skip (want_no rfl rfl rfl rfl rfl) ?_
    refine aops_skip (want_no rfl rfl rfl rfl rfl) ?_
    refine aops_skip (want_no rfl rfl rfl rfl rfl) ?_
    refine aops_skip (want_no rfl rfl rfl rfl rfl) ?_
    refine aops_skip (want_no rfl rfl rfl rfl rfl) ?_
    refine aops_val (av_pick_bool (congrArg Value.bool rfl) rfl) ?_
    refine ac_cond_true rfl rfl ?_
    refine ac_seq ?_
    refine ac_region (by kernel_rfl) ?_
    first | refine aops_val (av_assign_bool rfl) ?_ | refine aops_val (av_assign rfl) ?_
    refine ac_ret ?_
    refine ⟨.bool false, aresult1 (ares_tmp rfl), false, rfl, fun h => (by cases h), fun hG => ?_⟩
    exfalso
    have q1 := hG.n1
    have q2 := hG.n2
    first | exact hgf hG.gf | omega
  · intro hg1
    have hgt : GoodF f := hg.1 (by simpa using hg1)
    refine aops_wval (want_yes rfl rfl rfl hg1) (av_fieldOff (off := 0) rfl Try.underlying65 rfl inf63.size (by decide) rfl) ?_
    refine aops_wval (want_yes rfl rfl rfl hg1) (av_load1 rfl Try.underlying63 rfl t_cell) ?_
    refine aops_wval (want_yes rfl rfl rfl hg1) (av_len rfl Try.underlying63) ?_
    refine aops_wval (want_yes rfl rfl rfl hg1) (av_fieldOff (off := 0) rfl Try.underlying62 rfl inf59.size (by decide) rfl) ?_
    refine aops_wval (want_yes rfl rfl rfl hg1) (av_load1 rfl Try.underlying59 rfl t_cell) ?_
    refine aops_wval (want_yes rfl rfl rfl hg1) (av_len rfl Try.underlying59) ?_
    refine aops_wval (want_yes rfl rfl rfl hg1) (av_ne rfl rfl) ?_
    refine aops_val (av_pick_bool (congrArg Value.bool hg1) rfl) ?_
    first | refine aops_val (av_move_bool rfl) ?_ | refine aops_val (av_move rfl) ?_
    refine aops_guard rfl rfl rfl ?_ ?_
    · intro hg3
      have hp3 := hg3; try simp only [decide_eq_true_eq, decide_eq_false_iff_not, Bool.not_eq_true', Bool.not_eq_false'] at hp3
      refine aops_skip (want_no rfl rfl rfl hg3 rfl) ?_
      refine aops_skip (want_no rfl rfl rfl hg3 rfl) ?_
      refine aops_skip (want_no rfl rfl rfl hg3 rfl) ?_
      refine aops_skip (want_no rfl rfl rfl hg3 rfl) ?_
      refine aops_skip (want_no rfl rfl rfl hg3 rfl) ?_
      refine aops_skip (want_no rfl rfl rfl hg3 rfl) ?_
      refine aops_skip (want_no rfl rfl rfl hg3 rfl) ?_
      refine aops_val (av_pick_bool (congrArg Value.bool hg3) rfl) ?_
      refine ac_cond_true rfl rfl ?_
      refine ac_seq ?_
      refine ac_region (by kernel_rfl) ?_
      first | refine aops_val (av_assign_bool rfl) ?_ | refine aops_val (av_assign rfl) ?_
      refine ac_ret ?_
      refine ⟨.bool false, aresult1 (ares_tmp rfl), false, rfl, fun h => (by cases h), fun hG => ?_⟩
      exfalso
      have q1 := hG.n1
      have q2 := hG.n2
      first | exact hgf hG.gf | omega
    · intro hg3
      have hp3 := hg3; try simp only [decide_eq_true_eq, decide_eq_false_iff_not, Bool.not_eq_true', Bool.not_eq_false'] at hp3
      refine aops_wval (want_yes rfl rfl rfl hg3) (av_fieldOff (off := 1) rfl Try.underlying65 rfl inf63.size (by decide) rfl) ?_
      refine aops_wval (want_yes rfl rfl rfl hg3) (av_load1 rfl Try.underlying63 rfl t_cell) ?_
      refine aops_wval (want_yes rfl rfl rfl hg3) (av_len rfl Try.underlying63) ?_
      refine aops_wval (want_yes rfl rfl rfl hg3) (av_fieldOff (off := 0) rfl Try.underlying62 rfl inf59.size (by decide) rfl) ?_
      refine aops_wval (want_yes rfl rfl rfl hg3) (av_load1 rfl Try.underlying59 rfl t_cell) ?_
      refine aops_wval (want_yes rfl rfl rfl hg3) (av_len rfl Try.underlying59) ?_
      refine aops_wval (want_yes rfl rfl rfl hg3) (av_ne rfl rfl) ?_
      refine aops_val (av_pick_bool (congrArg Value.bool hg3) rfl) ?_
      refine ac_split rfl rfl ?_ ?_
      · intro hc5
        (try simp only [decide_eq_true_eq, decide_eq_false_iff_not, Bool.not_eq_true', Bool.not_eq_false'] at hc5)
        refine ac_seq ?_
        refine ac_region (by kernel_rfl) ?_
        first | refine aops_val (av_assign_bool rfl) ?_ | refine aops_val (av_assign rfl) ?_
        refine ac_ret ?_
        refine ⟨.bool false, aresult1 (ares_tmp rfl), false, rfl, fun h => (by cases h), fun hG => ?_⟩
        exfalso
        have q1 := hG.n1
        have q2 := hG.n2
        first | exact hgf hG.gf | omega
      · intro hc5
        have hlen : p.nodes.length = f.vars.length ∧ p.links.length = f.vars.length := by
          have hc5' := of_decide_eq_false hc5
          constructor <;> omega
        refine ac_skip ?_
        refine ac_seq ?_
        refine ac_seq ?_
        refine ac_region (by kernel_rfl) ?_
        first | refine aops_val (av_assign_int rfl) ?_ | refine aops_val (av_assign rfl) ?_
        refine ac_block ?_
        refine ac_loop (fun n t H' => ∃ (i : Nat), i ≤ f.vars.length ∧ n = f.vars.length - i ∧ H' = (H.push (.own 0 [.slice A0 f.vars.length c0, .slice A1 f.order.length c1, .slice A2 f.parent.length c2, .slice A3 f.links.length c3, .slice A4 f.loops.length c4])).push (.own 0 [.slice B0 p.nodes.length d0, .slice B1 p.links.length d1]) ∧ (∀ j, j < i → OkP f p j) ∧ t 2 = .pointer (some ⟨H.size, 0, none⟩) ∧ t 3 = .pointer (some ⟨H.size + 1, 0, none⟩) ∧ t 5 = .int .i64 i) (f.vars.length) (⟨0, by omega, rfl, rfl, fun j h => by omega, rfl, rfl, rfl⟩) ?_
        rintro n t _ ⟨i, hi, rfl, rfl, hok, e2, e3, e5⟩
        refine ac_seq ?_
        refine ac_seq ?_
        refine ac_region (by kernel_rfl) ?_
        first | refine aops_val (av_move_int (by first | assumption | rfl)) ?_ | refine aops_val (av_move (by first | assumption | rfl)) ?_
        refine aops_val (av_fieldOff (off := 0) (by first | assumption | rfl) Try.underlying62 (by first | assumption | rfl) inf59.size (by decide) (by first | assumption | rfl)) ?_
        refine aops_val (av_load1 rfl Try.underlying59 rfl t_cell) ?_
        refine aops_val (av_len rfl Try.underlying59) ?_
        refine aops_val (av_lt rfl rfl) ?_
        refine ac_split rfl rfl ?_ ?_
        · intro hc6
          (try simp only [decide_eq_true_eq, decide_eq_false_iff_not, Bool.not_eq_true', Bool.not_eq_false'] at hc6)
          refine ac_skip ?_
          refine ac_seq ?_
          refine ac_block ?_
          refine ac_seq ?_
          refine ac_seq ?_
          have hpl := hgt.l2
          have hix : i < f.vars.length := by omega
          have hseS := (Hp.le_push' (H.le_push (.own 0 [.slice A0 f.vars.length c0, .slice A1 f.order.length c1, .slice A2 f.parent.length c2, .slice A3 f.links.length c3, .slice A4 f.loops.length c4])) (.own 0 [.slice B0 p.nodes.length d0, .slice B1 p.links.length d1])).sees
          have hixn : i < p.nodes.length := by omega
          have hixl : i < p.links.length := by omega
          obtain ⟨b, o, ks, eB0, hb, ⟨w0, rfl, hw0⟩, hcell0⟩ := (hn0.mono hseS).elem_at hixn
          obtain ⟨b1, o1, ks1, eB1, hb1, ⟨w1, rfl, hw1⟩, hcell1⟩ := (hn1.mono hseS).elem_at hixl
          subst eB0 eB1
          have hcell0' := hcell0.one
          have hcell1' := hcell1.one
          obtain ⟨A6, c6, rfl⟩ := hw0.shape
          obtain ⟨A7, c7, rfl⟩ := hw1.shape
          obtain ⟨b2, o2, rfl, hb2, hcell2⟩ := (hs2.mono hseS).int_at (i := (i : Int)) (by omega) (by omega)
          rw [Int.toNat_natCast] at hcell2
          have hzn := z5 _ (List.getElem_mem hixn)
          have hzl := z6 _ (List.getElem_mem hixl)
          have gn := getD_list hixn
          have gl := getD_list hixl
          have hge := (hgt.parent_ge hix).1
          obtain ⟨HS, hHS⟩ : ∃ HS, HS = (H.push (.own 0 [.slice A0 f.vars.length c0, .slice A1 f.order.length c1, .slice (some ⟨b2, o2, none⟩) f.parent.length c2, .slice A3 f.links.length c3, .slice A4 f.loops.length c4])).push (.own 0 [.slice (some ⟨b, o, none⟩) p.nodes.length d0, .slice (some ⟨b1, o1, none⟩) p.links.length d1]) := ⟨_, rfl⟩
          have kg0 : HS.get H.size = .own 0 [.slice A0 f.vars.length c0, .slice A1 f.order.length c1, .slice (some ⟨b2, o2, none⟩) f.parent.length c2, .slice A3 f.links.length c3, .slice A4 f.loops.length c4] := by rw [hHS]; exact t_get
          have kg1 : HS.get (H.size + 1) = .own 0 [.slice (some ⟨b, o, none⟩) p.nodes.length d0, .slice (some ⟨b1, o1, none⟩) p.links.length d1] := by rw [hHS]; exact t_get
          have hzs : HS.size = H.size + 2 := by rw [hHS]; rfl
          rw [← hHS] at hcell0' hcell1' hcell2 hw0 hw1 hb hb1 hb2 ⊢
          refine ac_region (by kernel_rfl) ?_
          refine aops_val (av_fieldOff (off := 0) (by first | assumption | rfl) Try.underlying65 (by first | assumption | rfl) inf63.size (by decide) (by first | assumption | rfl)) ?_
          refine aops_val (av_load1 rfl Try.underlying63 rfl t_cell) ?_
          first | refine aops_val (av_move_int (by first | assumption | rfl)) ?_ | refine aops_val (av_move (by first | assumption | rfl)) ?_
          refine aops_val (av_indexAddr rfl rfl Try.underlying63 inf22.size t_idx t_idx) ?_
          refine aops_val (av_load1 rfl Try.underlying22 rfl t_cell) ?_
          refine aops_op (aop_call (Good_links p.nodes[i] _ _ hw0 (by omega)) rfl Try.func15 rfl rfl rfl ?_)
          rintro v5 HS ⟨⟨g1, rfl, hg1⟩, rfl⟩
          refine aops_val (av_not rfl) ?_
          first | refine aops_val (av_move_bool rfl) ?_ | refine aops_val (av_move rfl) ?_
          refine aops_guard rfl rfl rfl ?_ ?_
          · intro hg7
            have hno : ¬ GoodL p.nodes[i] := fun h => by rw [hg1.2 h] at hg7; cases hg7
            refine aops_skip (want_no rfl rfl rfl hg7 rfl) ?_
            refine aops_skip (want_no rfl rfl rfl hg7 rfl) ?_
            refine aops_skip (want_no rfl rfl rfl hg7 rfl) ?_
            refine aops_skip (want_no rfl rfl rfl hg7 rfl) ?_
            refine aops_skip (want_no rfl rfl rfl hg7 rfl) ?_
            refine aops_skip (want_no rfl rfl rfl hg7 rfl) ?_
            refine aops_skip (want_no rfl rfl rfl hg7 rfl) ?_
            refine aops_val (av_pick_bool (congrArg Value.bool hg7) (by first | assumption | rfl)) ?_
            first | refine aops_val (av_move_bool rfl) ?_ | refine aops_val (av_move rfl) ?_
            refine aops_skip (want_no rfl rfl rfl rfl rfl) ?_
            refine aops_skip (want_no rfl rfl rfl rfl rfl) ?_
            refine aops_skip (want_no rfl rfl rfl rfl rfl) ?_
            refine aops_skip (want_no rfl rfl rfl rfl rfl) ?_
            refine aops_skip (want_no rfl rfl rfl rfl rfl) ?_
            refine aops_skip (want_no rfl rfl rfl rfl rfl) ?_
            refine aops_skip (want_no rfl rfl rfl rfl rfl) ?_
            refine aops_skip (want_gone rfl rfl rfl) ?_
            refine aops_skip (want_gone rfl rfl rfl) ?_
            refine aops_skip (want_gone rfl rfl rfl) ?_
            refine aops_skip (want_gone rfl rfl rfl) ?_
            refine aops_skip (want_gone rfl rfl rfl) ?_
            refine aops_skip (want_gone rfl rfl rfl) ?_
            refine aops_skip (want_gone rfl rfl rfl) ?_
            refine aops_skip (want_no rfl rfl rfl rfl rfl) ?_
            refine aops_val (av_pick_bool (congrArg Value.bool (by first | assumption | rfl)) (by first | assumption | rfl)) ?_
            refine ac_cond_true rfl rfl ?_
            refine ac_seq ?_
            refine ac_region (by kernel_rfl) ?_
            first | refine aops_val (av_assign_bool rfl) ?_ | refine aops_val (av_assign rfl) ?_
            refine ac_ret ?_
            refine ⟨.bool false, aresult1 (ares_tmp rfl), false, rfl, fun h => (by cases h), fun hG => ?_⟩
            obtain ⟨q1, q2, q3, q4⟩ := hG.ok i hix
            rw [gn] at q1 q3
            rw [gl] at q2 q4
            exfalso
            first | exact hno q1 | exact hno q2 | (rw [q4 (by omega)] at hll; simp at hll)
          · intro hg7
            have hgn : GoodL p.nodes[i] := hg1.1 (by simpa using hg7)
            refine aops_wval (want_yes rfl rfl rfl hg7) (av_fieldOff (off := 1) (by first | assumption | rfl) Try.underlying65 (by first | assumption | rfl) inf63.size (by decide) (by first | assumption | rfl)) ?_
            refine aops_wval (want_yes rfl rfl rfl hg7) (av_load1 rfl Try.underlying63 rfl t_cell) ?_
            first | refine aops_wval (want_yes rfl rfl rfl hg7) (av_move_int (by first | assumption | rfl)) ?_ | refine aops_wval (want_yes rfl rfl rfl hg7) (av_move (by first | assumption | rfl)) ?_
            refine aops_wval (want_yes rfl rfl rfl hg7) (av_indexAddr rfl rfl Try.underlying63 inf22.size t_idx t_idx) ?_
            refine aops_wval (want_yes rfl rfl rfl hg7) (av_load1 rfl Try.underlying22 rfl t_cell) ?_
            refine aops_want (want_yes rfl rfl rfl hg7) (aop_call (Good_links p.links[i] _ _ hw1 (by omega)) rfl Try.func15 rfl rfl rfl ?_)
            rintro v6 HS ⟨⟨g2, rfl, hg2⟩, rfl⟩
            refine aops_wval (want_yes rfl rfl rfl hg7) (av_not rfl) ?_
            refine aops_val (av_pick_bool (congrArg Value.bool hg7) rfl) ?_
            first | refine aops_val (av_move_bool rfl) ?_ | refine aops_val (av_move rfl) ?_
            refine aops_guard rfl rfl rfl ?_ ?_
            · intro hg9
              have hno : ¬ GoodL p.links[i] := fun h => by rw [hg2.2 h] at hg9; cases hg9
              refine aops_skip (want_no rfl rfl rfl hg9 rfl) ?_
              refine aops_skip (want_no rfl rfl rfl hg9 rfl) ?_
              refine aops_skip (want_no rfl rfl rfl hg9 rfl) ?_
              refine aops_skip (want_no rfl rfl rfl hg9 rfl) ?_
              refine aops_skip (want_no rfl rfl rfl hg9 rfl) ?_
              refine aops_skip (want_no rfl rfl rfl hg9 rfl) ?_
              refine aops_skip (want_no rfl rfl rfl hg9 rfl) ?_
              refine aops_skip (want_gone rfl rfl rfl) ?_
              refine aops_skip (want_gone rfl rfl rfl) ?_
              refine aops_skip (want_gone rfl rfl rfl) ?_
              refine aops_skip (want_gone rfl rfl rfl) ?_
              refine aops_skip (want_gone rfl rfl rfl) ?_
              refine aops_skip (want_gone rfl rfl rfl) ?_
              refine aops_skip (want_gone rfl rfl rfl) ?_
              refine aops_skip (want_no rfl rfl rfl hg9 rfl) ?_
              refine aops_val (av_pick_bool (congrArg Value.bool hg9) (by first | assumption | rfl)) ?_
              refine ac_cond_true rfl rfl ?_
              refine ac_seq ?_
              refine ac_region (by kernel_rfl) ?_
              first | refine aops_val (av_assign_bool rfl) ?_ | refine aops_val (av_assign rfl) ?_
              refine ac_ret ?_
              refine ⟨.bool false, aresult1 (ares_tmp rfl), false, rfl, fun h => (by cases h), fun hG => ?_⟩
              obtain ⟨q1, q2, q3, q4⟩ := hG.ok i hix
              rw [gn] at q1 q3
              rw [gl] at q2 q4
              exfalso
              first | exact hno q1 | exact hno q2 | (rw [q4 (by omega)] at hll; simp at hll)
            · intro hg9
              have hgl : GoodL p.links[i] := hg2.1 (by simpa using hg9)
              refine aops_wval (want_yes rfl rfl rfl hg9) (av_fieldOff (off := 2) (by first | assumption | rfl) Try.underlying62 (by first | assumption | rfl) inf29.size (by decide) (by first | assumption | rfl)) ?_
              refine aops_wval (want_yes rfl rfl rfl hg9) (av_load1 rfl Try.underlying29 rfl t_cell) ?_
              first | refine aops_wval (want_yes rfl rfl rfl hg9) (av_move_int (by first | assumption | rfl)) ?_ | refine aops_wval (want_yes rfl rfl rfl hg9) (av_move (by first | assumption | rfl)) ?_
              refine aops_wval (want_yes rfl rfl rfl hg9) (av_indexAddr rfl rfl Try.underlying29 inf3.size t_idx t_idx) ?_
              refine aops_wval (want_yes rfl rfl rfl hg9) (av_load1 rfl Try.underlying3 rfl t_cell) ?_
              refine aops_wval (want_yes rfl rfl rfl hg9) (av_lt rfl rfl) ?_
              first | refine aops_wval (want_yes rfl rfl rfl hg9) (av_move_bool rfl) ?_ | refine aops_wval (want_yes rfl rfl rfl hg9) (av_move rfl) ?_
              refine aops_guard rfl rfl rfl ?_ ?_
              · intro hg11
                have hpar : f.parent.getD i 0 < 0 := of_decide_eq_true hg11
                refine aops_wval (want_yes rfl rfl rfl hg11) (av_fieldOff (off := 1) (by first | assumption | rfl) Try.underlying65 (by first | assumption | rfl) inf63.size (by decide) (by first | assumption | rfl)) ?_
                refine aops_wval (want_yes rfl rfl rfl hg11) (av_load1 rfl Try.underlying63 rfl t_cell) ?_
                first | refine aops_wval (want_yes rfl rfl rfl hg11) (av_move_int (by first | assumption | rfl)) ?_ | refine aops_wval (want_yes rfl rfl rfl hg11) (av_move (by first | assumption | rfl)) ?_
                refine aops_wval (want_yes rfl rfl rfl hg11) (av_indexAddr rfl rfl Try.underlying63 inf22.size t_idx t_idx) ?_
                refine aops_wval (want_yes rfl rfl rfl hg11) (av_load1 rfl Try.underlying22 rfl t_cell) ?_
                refine aops_wval (want_yes rfl rfl rfl hg11) (av_len rfl Try.underlying22) ?_
                refine aops_wval (want_yes rfl rfl rfl hg11) (av_gt rfl rfl) ?_
                refine aops_wval (want_yes rfl rfl rfl hg9) (av_pick_bool (congrArg Value.bool hg11) rfl) ?_
                refine aops_val (av_pick_bool (congrArg Value.bool hg9) rfl) ?_
                refine ac_split rfl rfl ?_ ?_
                · intro hc12
                  have hll : 0 < p.links[i].length := by have := of_decide_eq_true hc12; omega
                  refine ac_seq ?_
                  refine ac_region (by kernel_rfl) ?_
                  first | refine aops_val (av_assign_bool rfl) ?_ | refine aops_val (av_assign rfl) ?_
                  refine ac_ret ?_
                  refine ⟨.bool false, aresult1 (ares_tmp rfl), false, rfl, fun h => (by cases h), fun hG => ?_⟩
                  obtain ⟨q1, q2, q3, q4⟩ := hG.ok i hix
                  rw [gn] at q1 q3
                  rw [gl] at q2 q4
                  exfalso
                  first | exact hno q1 | exact hno q2 | (rw [q4 (by omega)] at hll; simp at hll)
                · intro hc12
                  have hll : p.links[i] = [] := List.eq_nil_of_length_eq_zero (by have := of_decide_eq_false hc12; omega)
                  refine ac_skip ?_
                  refine ac_seq ?_
                  have hlk : f.parent.getD i 0 = -1 → p.links[i] = [] := fun h => by first | exact hll | exact absurd h (by omega)
                  refine ac_region (by kernel_rfl) ?_
                  first | refine aops_val (av_assign_int rfl) ?_ | refine aops_val (av_assign rfl) ?_
                  refine ac_block ?_
                  refine ac_loop (fun n t H' => ∃ (j : Nat), j ≤ p.nodes[i].length ∧ n = p.nodes[i].length - j ∧ H' = HS ∧ (∀ x ∈ p.nodes[i].take j, x.a = x.b) ∧ t 2 = .pointer (some ⟨H.size, 0, none⟩) ∧ t 3 = .pointer (some ⟨H.size + 1, 0, none⟩) ∧ t 5 = .int .i64 i ∧ t 6 = .int .i64 j) (p.nodes[i].length) (⟨0, by omega, rfl, rfl, by simp, e2, e3, e5, rfl⟩) ?_
                  rintro n t HS ⟨j, hj, rfl, rfl, hj2, e2, e3, e5, e6⟩
                  refine ac_seq ?_
                  refine ac_seq ?_
                  refine ac_region (by kernel_rfl) ?_
                  first | refine aops_val (av_move_int (by first | assumption | rfl)) ?_ | refine aops_val (av_move (by first | assumption | rfl)) ?_
                  refine aops_val (av_fieldOff (off := 0) (by first | assumption | rfl) Try.underlying65 (by first | assumption | rfl) inf63.size (by decide) (by first | assumption | rfl)) ?_
                  refine aops_val (av_load1 rfl Try.underlying63 rfl t_cell) ?_
                  first | refine aops_val (av_move_int (by first | assumption | rfl)) ?_ | refine aops_val (av_move (by first | assumption | rfl)) ?_
                  refine aops_val (av_indexAddr rfl rfl Try.underlying63 inf22.size t_idx t_idx) ?_
                  refine aops_val (av_load1 rfl Try.underlying22 rfl t_cell) ?_
                  refine aops_val (av_len rfl Try.underlying22) ?_
                  refine aops_val (av_lt rfl rfl) ?_
                  refine ac_split rfl rfl ?_ ?_
                  · intro hc13
                    (try simp only [decide_eq_true_eq, decide_eq_false_iff_not, Bool.not_eq_true', Bool.not_eq_false'] at hc13)
                    refine ac_skip ?_
                    refine ac_seq ?_
                    refine ac_block ?_
                    refine ac_seq ?_
                    have hjx : j < p.nodes[i].length := by omega
                    obtain ⟨b3, o3, rfl, hb3, hcell3⟩ := hw0.link_at hjx
                    have hcell31 := hcell3 0 _ rfl
                    have hcell32 := hcell3 1 _ rfl
                    refine ac_draw (by kernel_rfl) (reg_of (B := [0, 1, 0, 7, 15, 0, 63, 127, 255, 0, 512, 0, 3584, 7680, 0, 32256, 65024, 130560, 262143]) (π := [0, 1, 2, 3, 4, 5, 6, 7, 8, 9, 10, 11, 12, 13, 14, 15, 16, 17, 18]) (by kernel_rfl)) ?_
                    refine adr_val rfl rfl (av_fieldOff (off := 0) (by first | assumption | rfl) Try.underlying65 (by first | assumption | rfl) inf63.size (by decide) (by first | assumption | rfl)) t_lt ?_
                    refine adr_val rfl rfl (av_load1 rfl Try.underlying63 rfl t_cell) t_lt ?_
                    first | refine adr_val rfl rfl (av_move_int (by first | assumption | rfl)) t_lt ?_ | refine adr_val rfl rfl (av_move (by first | assumption | rfl)) t_lt ?_
                    refine adr_val rfl rfl (av_indexAddr rfl rfl Try.underlying63 inf22.size t_idx t_idx) t_lt ?_
                    refine adr_val rfl rfl (av_load1 rfl Try.underlying22 rfl t_cell) t_lt ?_
                    first | refine adr_val rfl rfl (av_move_int (by first | assumption | rfl)) t_lt ?_ | refine adr_val rfl rfl (av_move (by first | assumption | rfl)) t_lt ?_
                    refine adr_val rfl rfl (av_indexAddr rfl rfl Try.underlying22 inf28.size t_idx t_idx) t_lt ?_
                    refine adr_val rfl rfl (av_fieldOff (off := 0) rfl Try.underlying28 rfl inf3.size (by decide) rfl) t_lt ?_
                    refine adr_val rfl rfl (av_load1 rfl Try.underlying3 rfl t_cell) t_lt ?_
                    refine adr_val rfl rfl (av_fieldOff (off := 0) (by first | assumption | rfl) Try.underlying65 (by first | assumption | rfl) inf63.size (by decide) (by first | assumption | rfl)) t_lt ?_
                    refine adr_val rfl rfl (av_load1 rfl Try.underlying63 rfl t_cell) t_lt ?_
                    first | refine adr_val rfl rfl (av_move_int (by first | assumption | rfl)) t_lt ?_ | refine adr_val rfl rfl (av_move (by first | assumption | rfl)) t_lt ?_
                    refine adr_val rfl rfl (av_indexAddr rfl rfl Try.underlying63 inf22.size t_idx t_idx) t_lt ?_
                    refine adr_val rfl rfl (av_load1 rfl Try.underlying22 rfl t_cell) t_lt ?_
                    first | refine adr_val rfl rfl (av_move_int (by first | assumption | rfl)) t_lt ?_ | refine adr_val rfl rfl (av_move (by first | assumption | rfl)) t_lt ?_
                    refine adr_val rfl rfl (av_indexAddr rfl rfl Try.underlying22 inf28.size t_idx t_idx) t_lt ?_
                    refine adr_val rfl rfl (av_fieldOff (off := 1) rfl Try.underlying28 rfl inf3.size (by decide) rfl) t_lt ?_
                    refine adr_val rfl rfl (av_load1 rfl Try.underlying3 rfl t_cell) t_lt ?_
                    refine adr_val rfl rfl (av_ne rfl rfl) t_lt ?_
                    refine ac_split rfl rfl ?_ ?_
                    · intro hc14
                      have hne : p.nodes[i][j].a ≠ p.nodes[i][j].b := of_decide_eq_true hc14
                      refine ac_seq ?_
                      refine ac_region (by kernel_rfl) ?_
                      first | refine aops_val (av_assign_bool rfl) ?_ | refine aops_val (av_assign rfl) ?_
                      refine ac_ret ?_
                      refine ⟨.bool false, aresult1 (ares_tmp rfl), false, rfl, fun h => (by cases h), fun hG => ?_⟩
                      obtain ⟨q1, q2, q3, q4⟩ := hG.ok i hix
                      rw [gn] at q3
                      exact absurd (q3 _ (List.getElem_mem hjx)) hne
                    · intro hc14
                      have heq : p.nodes[i][j].a = p.nodes[i][j].b := Decidable.not_not.1 (of_decide_eq_false hc14)
                      refine ac_skip ?_
                      refine ac_region (by kernel_rfl) ?_
                      first | refine aops_val (av_move_int (by first | assumption | rfl)) ?_ | refine aops_val (av_move (by first | assumption | rfl)) ?_
                      first | refine aops_val (av_add64 rfl rfl t_fits) ?_ | refine aops_val (av_add rfl rfl) ?_
                      first | refine aops_val (av_assign_int rfl) ?_ | refine aops_val (av_assign rfl) ?_
                      refine ⟨p.nodes[i].length - (j + 1), by omega, j + 1, by omega, rfl, rfl, ?_, e2, e3, e5, rfl⟩
                      rw [← take_next hjx]
                      intro x hx
                      rcases List.mem_append.1 hx with hx | hx
                      · exact hj2 x hx
                      · simp at hx; rw [hx]; exact heq
                  · intro hc13
                    (try simp only [decide_eq_true_eq, decide_eq_false_iff_not, Bool.not_eq_true', Bool.not_eq_false'] at hc13)
                    refine ac_exit ?_
                    refine ac_region (by kernel_rfl) ?_
                    first | refine aops_val (av_move_int (by first | assumption | rfl)) ?_ | refine aops_val (av_move (by first | assumption | rfl)) ?_
                    first | refine aops_val (av_add64 rfl rfl t_fits) ?_ | refine aops_val (av_add rfl rfl) ?_
                    first | refine aops_val (av_assign_int rfl) ?_ | refine aops_val (av_assign rfl) ?_
                    rw [List.take_of_length_le (by omega)] at hj2
                    refine ⟨f.vars.length - (i + 1), by omega, i + 1, by omega, rfl, by first | rfl | exact hHS | exact hHS.symm, fun j h => ?_, e2, e3, rfl⟩
                    rcases Nat.lt_or_ge j i with h1 | h1
                    · exact hok j h1
                    · obtain rfl : j = i := by omega
                      exact ⟨by rw [gn]; exact hgn, by rw [gl]; exact hgl, by rw [gn]; exact hj2, fun h => by rw [gl]; exact hlk h⟩
              · intro hg11
                have hpar : ¬ f.parent.getD i 0 < 0 := of_decide_eq_false hg11
                refine aops_skip (want_no rfl rfl rfl hg11 rfl) ?_
                refine aops_skip (want_no rfl rfl rfl hg11 rfl) ?_
                refine aops_skip (want_no rfl rfl rfl hg11 rfl) ?_
                refine aops_skip (want_no rfl rfl rfl hg11 rfl) ?_
                refine aops_skip (want_no rfl rfl rfl hg11 rfl) ?_
                refine aops_skip (want_no rfl rfl rfl hg11 rfl) ?_
                refine aops_skip (want_no rfl rfl rfl hg11 rfl) ?_
                refine aops_wval (want_yes rfl rfl rfl hg9) (av_pick_bool (congrArg Value.bool hg11) (by first | assumption | rfl)) ?_
                refine aops_val (av_pick_bool (congrArg Value.bool hg9) rfl) ?_
                refine ac_cond_false rfl rfl ?_
                refine ac_skip ?_
                refine ac_seq ?_
                have hlk : f.parent.getD i 0 = -1 → p.links[i] = [] := fun h => by first | exact hll | exact absurd h (by omega)
                refine ac_region (by kernel_rfl) ?_
                first | refine aops_val (av_assign_int rfl) ?_ | refine aops_val (av_assign rfl) ?_
                refine ac_block ?_
                refine ac_loop (fun n t H' => ∃ (j : Nat), j ≤ p.nodes[i].length ∧ n = p.nodes[i].length - j ∧ H' = HS ∧ (∀ x ∈ p.nodes[i].take j, x.a = x.b) ∧ t 2 = .pointer (some ⟨H.size, 0, none⟩) ∧ t 3 = .pointer (some ⟨H.size + 1, 0, none⟩) ∧ t 5 = .int .i64 i ∧ t 6 = .int .i64 j) (p.nodes[i].length) (⟨0, by omega, rfl, rfl, by simp, e2, e3, e5, rfl⟩) ?_
                rintro n t HS ⟨j, hj, rfl, rfl, hj2, e2, e3, e5, e6⟩
                refine ac_seq ?_
                refine ac_seq ?_
                refine ac_region (by kernel_rfl) ?_
                first | refine aops_val (av_move_int (by first | assumption | rfl)) ?_ | refine aops_val (av_move (by first | assumption | rfl)) ?_
                refine aops_val (av_fieldOff (off := 0) (by first | assumption | rfl) Try.underlying65 (by first | assumption | rfl) inf63.size (by decide) (by first | assumption | rfl)) ?_
                refine aops_val (av_load1 rfl Try.underlying63 rfl t_cell) ?_
                first | refine aops_val (av_move_int (by first | assumption | rfl)) ?_ | refine aops_val (av_move (by first | assumption | rfl)) ?_
                refine aops_val (av_indexAddr rfl rfl Try.underlying63 inf22.size t_idx t_idx) ?_
                refine aops_val (av_load1 rfl Try.underlying22 rfl t_cell) ?_
                refine aops_val (av_len rfl Try.underlying22) ?_
                refine aops_val (av_lt rfl rfl) ?_
                refine ac_split rfl rfl ?_ ?_
                · intro hc16
                  (try simp only [decide_eq_true_eq, decide_eq_false_iff_not, Bool.not_eq_true', Bool.not_eq_false'] at hc16)
                  refine ac_skip ?_
                  refine ac_seq ?_
                  refine ac_block ?_
                  refine ac_seq ?_
                  have hjx : j < p.nodes[i].length := by omega
                  obtain ⟨b3, o3, rfl, hb3, hcell3⟩ := hw0.link_at hjx
                  have hcell31 := hcell3 0 _ rfl
                  have hcell32 := hcell3 1 _ rfl
                  refine ac_draw (by kernel_rfl) (reg_of (B := [0, 1, 0, 7, 15, 0, 63, 127, 255, 0, 512, 0, 3584, 7680, 0, 32256, 65024, 130560, 262143]) (π := [0, 1, 2, 3, 4, 5, 6, 7, 8, 9, 10, 11, 12, 13, 14, 15, 16, 17, 18]) (by kernel_rfl)) ?_
                  refine adr_val rfl rfl (av_fieldOff (off := 0) (by first | assumption | rfl) Try.underlying65 (by first | assumption | rfl) inf63.size (by decide) (by first | assumption | rfl)) t_lt ?_
                  refine adr_val rfl rfl (av_load1 rfl Try.underlying63 rfl t_cell) t_lt ?_
                  first | refine adr_val rfl rfl (av_move_int (by first | assumption | rfl)) t_lt ?_ | refine adr_val rfl rfl (av_move (by first | assumption | rfl)) t_lt ?_
                  refine adr_val rfl rfl (av_indexAddr rfl rfl Try.underlying63 inf22.size t_idx t_idx) t_lt ?_
                  refine adr_val rfl rfl (av_load1 rfl Try.underlying22 rfl t_cell) t_lt ?_
                  first | refine adr_val rfl rfl (av_move_int (by first | assumption | rfl)) t_lt ?_ | refine adr_val rfl rfl (av_move (by first | assumption | rfl)) t_lt ?_
                  refine adr_val rfl rfl (av_indexAddr rfl rfl Try.underlying22 inf28.size t_idx t_idx) t_lt ?_
                  refine adr_val rfl rfl (av_fieldOff (off := 0) rfl Try.underlying28 rfl inf3.size (by decide) rfl) t_lt ?_
                  refine adr_val rfl rfl (av_load1 rfl Try.underlying3 rfl t_cell) t_lt ?_
                  refine adr_val rfl rfl (av_fieldOff (off := 0) (by first | assumption | rfl) Try.underlying65 (by first | assumption | rfl) inf63.size (by decide) (by first | assumption | rfl)) t_lt ?_
                  refine adr_val rfl rfl (av_load1 rfl Try.underlying63 rfl t_cell) t_lt ?_
                  first | refine adr_val rfl rfl (av_move_int (by first | assumption | rfl)) t_lt ?_ | refine adr_val rfl rfl (av_move (by first | assumption | rfl)) t_lt ?_
                  refine adr_val rfl rfl (av_indexAddr rfl rfl Try.underlying63 inf22.size t_idx t_idx) t_lt ?_
                  refine adr_val rfl rfl (av_load1 rfl Try.underlying22 rfl t_cell) t_lt ?_
                  first | refine adr_val rfl rfl (av_move_int (by first | assumption | rfl)) t_lt ?_ | refine adr_val rfl rfl (av_move (by first | assumption | rfl)) t_lt ?_
                  refine adr_val rfl rfl (av_indexAddr rfl rfl Try.underlying22 inf28.size t_idx t_idx) t_lt ?_
                  refine adr_val rfl rfl (av_fieldOff (off := 1) rfl Try.underlying28 rfl inf3.size (by decide) rfl) t_lt ?_
                  refine adr_val rfl rfl (av_load1 rfl Try.underlying3 rfl t_cell) t_lt ?_
                  refine adr_val rfl rfl (av_ne rfl rfl) t_lt ?_
                  refine ac_split rfl rfl ?_ ?_
                  · intro hc17
                    have hne : p.nodes[i][j].a ≠ p.nodes[i][j].b := of_decide_eq_true hc17
                    refine ac_seq ?_
                    refine ac_region (by kernel_rfl) ?_
                    first | refine aops_val (av_assign_bool rfl) ?_ | refine aops_val (av_assign rfl) ?_
                    refine ac_ret ?_
                    refine ⟨.bool false, aresult1 (ares_tmp rfl), false, rfl, fun h => (by cases h), fun hG => ?_⟩
                    obtain ⟨q1, q2, q3, q4⟩ := hG.ok i hix
                    rw [gn] at q3
                    exact absurd (q3 _ (List.getElem_mem hjx)) hne
                  · intro hc17
                    have heq : p.nodes[i][j].a = p.nodes[i][j].b := Decidable.not_not.1 (of_decide_eq_false hc17)
                    refine ac_skip ?_
                    refine ac_region (by kernel_rfl) ?_
                    first | refine aops_val (av_move_int (by first | assumption | rfl)) ?_ | refine aops_val (av_move (by first | assumption | rfl)) ?_
                    first | refine aops_val (av_add64 rfl rfl t_fits) ?_ | refine aops_val (av_add rfl rfl) ?_
                    first | refine aops_val (av_assign_int rfl) ?_ | refine aops_val (av_assign rfl) ?_
                    refine ⟨p.nodes[i].length - (j + 1), by omega, j + 1, by omega, rfl, rfl, ?_, e2, e3, e5, rfl⟩
                    rw [← take_next hjx]
                    intro x hx
                    rcases List.mem_append.1 hx with hx | hx
                    · exact hj2 x hx
                    · simp at hx; rw [hx]; exact heq
                · intro hc16
                  (try simp only [decide_eq_true_eq, decide_eq_false_iff_not, Bool.not_eq_true', Bool.not_eq_false'] at hc16)
                  refine ac_exit ?_
                  refine ac_region (by kernel_rfl) ?_
                  first | refine aops_val (av_move_int (by first | assumption | rfl)) ?_ | refine aops_val (av_move (by first | assumption | rfl)) ?_
                  first | refine aops_val (av_add64 rfl rfl t_fits) ?_ | refine aops_val (av_add rfl rfl) ?_
                  first | refine aops_val (av_assign_int rfl) ?_ | refine aops_val (av_assign rfl) ?_
                  rw [List.take_of_length_le (by omega)] at hj2
                  refine ⟨f.vars.length - (i + 1), by omega, i + 1, by omega, rfl, by first | rfl | exact hHS | exact hHS.symm, fun j h => ?_, e2, e3, rfl⟩
                  rcases Nat.lt_or_ge j i with h1 | h1
                  · exact hok j h1
                  · obtain rfl : j = i := by omega
                    exact ⟨by rw [gn]; exact hgn, by rw [gl]; exact hgl, by rw [gn]; exact hj2, fun h => by rw [gl]; exact hlk h⟩
        · intro hc6
          (try simp only [decide_eq_true_eq, decide_eq_false_iff_not, Bool.not_eq_true', Bool.not_eq_false'] at hc6)
          refine ac_exit ?_
          refine ac_seq ?_
          refine ac_region (by kernel_rfl) ?_
          first | refine aops_val (av_assign_bool rfl) ?_ | refine aops_val (av_assign rfl) ?_
          refine ac_ret ?_
          exact ⟨.bool true, aresult1 (ares_tmp rfl), true, rfl, fun _ => ⟨hgt, hlen.1, hlen.2, fun j h => hok j (by omega)⟩, fun _ => rfl⟩
theorem GoodP_ref (f : Forest) (p : Parts) (cs ds : List Value) (H : Hp) (hp : kForest.rep H f cs) (hq : kParts.rep H p ds) (hsm : Small f p) :
    ACalls Try.prog 36 #[.agg cs.toArray, .agg ds.toArray] H (fun r H' => (∃ g, r = .bool g ∧ (g = true ↔ GoodP f p)) ∧ H' = H) :=
  ACalls.pure (fun v ⟨g, h, _⟩ => by rw [h]; rfl) (GoodP_ref_raw f p cs ds H.ro (kForest.mono H.sees_ro hp) (kParts.mono H.sees_ro hq) hsm)
theorem same_raw27 (xs ys : List (List Link)) (v u : Value) (H : Hp) (hs : Sl (kSl kLink) H v xs) (hu : Sl (kSl kLink) H u ys) (hl : xs.length ≤ 9223372036854775807) (hx : ∀ l ∈ xs, l.length ≤ 9223372036854775807) :
    ACalls Try.prog 100 #[v, u] H (fun r _ => r = .bool (decide (xs = ys))) := by
  obtain ⟨A, c, rfl⟩ := hs.shape
  obtain ⟨B, c2, rfl⟩ := hu.shape
  refine acalls_of_code Try.func100 rfl rfl rfl (by simp) ?_
  refine ac_seq ?_
  refine ac_region (by kernel_rfl) ?_
  first | refine aops_val (av_assign_bool rfl) ?_ | refine aops_val (av_assign rfl) ?_
  refine ac_seq ?_
  refine ac_seq ?_
  refine ac_region (by kernel_rfl) ?_
  first | refine aops_val (av_move_sl rfl) ?_ | refine aops_val (av_move rfl) ?_
  refine aops_val (av_len rfl Try.underlying63) ?_
  first | refine aops_val (av_move_sl rfl) ?_ | refine aops_val (av_move rfl) ?_
  refine aops_val (av_len rfl Try.underlying63) ?_
  refine aops_val (av_ne rfl rfl) ?_
  refine ac_split rfl rfl ?_ ?_
  · intro hc1
    have hne : xs.length ≠ ys.length := by have := of_decide_eq_true hc1; omega
    refine ac_seq ?_
    refine ac_region (by kernel_rfl) ?_
    first | refine aops_val (av_assign_bool rfl) ?_ | refine aops_val (av_assign rfl) ?_
    refine ac_ret ?_
    exact ⟨.bool false, aresult1 (ares_tmp rfl), by rw [decide_eq_false (fun e => hne (by rw [e]))]⟩
  · intro hc1
    have hlen : xs.length = ys.length := by have := of_decide_eq_false hc1; omega
    refine ac_skip ?_
    refine ac_seq ?_
    refine ac_seq ?_
    refine ac_region (by kernel_rfl) ?_
    first | refine aops_val (av_assign_int rfl) ?_ | refine aops_val (av_assign rfl) ?_
    refine ac_block ?_
    refine ac_loop (fun n t H' => ∃ (i : Nat), i ≤ xs.length ∧ n = xs.length - i ∧ H' = H ∧ (∀ (j : Nat) (h : j < xs.length), j < i → xs[j] = ys[j]) ∧ t 0 = .slice A xs.length c ∧ t 1 = .slice B ys.length c2 ∧ t 5 = .int .i64 i) (xs.length) (⟨0, by omega, rfl, rfl, fun j h h0 => by omega, rfl, rfl, rfl⟩) ?_
    rintro n t _ ⟨i, hi, rfl, rfl, hok, e0, e1, e5⟩
    refine ac_seq ?_
    refine ac_seq ?_
    refine ac_region (by kernel_rfl) ?_
    first | refine aops_val (av_move_int (by first | assumption | rfl)) ?_ | refine aops_val (av_move (by first | assumption | rfl)) ?_
    first | refine aops_val (av_move_sl (by first | assumption | rfl)) ?_ | refine aops_val (av_move (by first | assumption | rfl)) ?_
    refine aops_val (av_len rfl Try.underlying63) ?_
    refine aops_val (av_lt rfl rfl) ?_
    refine ac_split rfl rfl ?_ ?_
    · intro hc2
      (try simp only [decide_eq_true_eq, decide_eq_false_iff_not, Bool.not_eq_true', Bool.not_eq_false'] at hc2)
      refine ac_skip ?_
      refine ac_seq ?_
      refine ac_block ?_
      refine ac_seq ?_
      have hix : i < xs.length := by omega
      have hiy : i < ys.length := by omega
      obtain ⟨b, o, ks, eA, hb, ⟨w0, rfl, hw0⟩, hcell0⟩ := hs.elem_at hix
      obtain ⟨b1, o1, ks1, eB, hb1, ⟨w1, rfl, hw1⟩, hcell1⟩ := hu.elem_at hiy
      subst eA eB
      have hcell0' := hcell0.one
      have hcell1' := hcell1.one
      refine ac_draw (by kernel_rfl) (reg_of (B := [0, 0, 3, 7, 0, 0, 48, 112, 255, 511]) (π := [0, 1, 2, 3, 4, 5, 6, 7, 8, 9]) (by kernel_rfl)) ?_
      first | refine adr_val rfl rfl (av_move_sl (by first | assumption | rfl)) t_lt ?_ | refine adr_val rfl rfl (av_move (by first | assumption | rfl)) t_lt ?_
      first | refine adr_val rfl rfl (av_move_int (by first | assumption | rfl)) t_lt ?_ | refine adr_val rfl rfl (av_move (by first | assumption | rfl)) t_lt ?_
      refine adr_val rfl rfl (av_indexAddr rfl rfl Try.underlying63 inf22.size t_idx t_idx) t_lt ?_
      refine adr_val rfl rfl (av_load1 rfl Try.underlying22 rfl t_cell) t_lt ?_
      first | refine adr_val rfl rfl (av_move_sl (by first | assumption | rfl)) t_lt ?_ | refine adr_val rfl rfl (av_move (by first | assumption | rfl)) t_lt ?_
      first | refine adr_val rfl rfl (av_move_int (by first | assumption | rfl)) t_lt ?_ | refine adr_val rfl rfl (av_move (by first | assumption | rfl)) t_lt ?_
      refine adr_val rfl rfl (av_indexAddr rfl rfl Try.underlying63 inf22.size t_idx t_idx) t_lt ?_
      refine adr_val rfl rfl (av_load1 rfl Try.underlying22 rfl t_cell) t_lt ?_
      refine adr_op rfl rfl (aop_call (Same_links xs[i] ys[i] _ _ _ hw0 hw1 (hx _ (List.getElem_mem hix))) rfl Try.func19 rfl rfl rfl ?_)
      rintro v5 H1 ⟨rfl, rfl⟩
      refine ⟨t_pend, ?_⟩
      refine adr_val rfl rfl (av_not rfl) t_lt ?_
      refine ac_split rfl rfl ?_ ?_
      · intro hc3
        have hne : xs[i] ≠ ys[i] := by simpa using hc3
        refine ac_seq ?_
        refine ac_region (by kernel_rfl) ?_
        first | refine aops_val (av_assign_bool rfl) ?_ | refine aops_val (av_assign rfl) ?_
        refine ac_ret ?_
        refine ⟨.bool false, aresult1 (ares_tmp rfl), ?_⟩
        rw [decide_eq_false]
        intro e; subst e; exact hne rfl
      · intro hc3
        have heq : xs[i] = ys[i] := by simpa using hc3
        refine ac_skip ?_
        refine ac_region (by kernel_rfl) ?_
        first | refine aops_val (av_move_int (by first | assumption | rfl)) ?_ | refine aops_val (av_move (by first | assumption | rfl)) ?_
        first | refine aops_val (av_add64 rfl rfl t_fits) ?_ | refine aops_val (av_add rfl rfl) ?_
        first | refine aops_val (av_assign_int rfl) ?_ | refine aops_val (av_assign rfl) ?_
        refine ⟨xs.length - (i + 1), by omega, i + 1, by omega, rfl, rfl, fun j h h0 => ?_, e0, e1, rfl⟩
        rcases Nat.lt_or_ge j i with h1 | h1
        · exact hok j h h1
        · obtain rfl : j = i := by omega
          exact heq
    · intro hc2
      (try simp only [decide_eq_true_eq, decide_eq_false_iff_not, Bool.not_eq_true', Bool.not_eq_false'] at hc2)
      refine ac_exit ?_
      refine ac_seq ?_
      refine ac_region (by kernel_rfl) ?_
      first | refine aops_val (av_assign_bool rfl) ?_ | refine aops_val (av_assign rfl) ?_
      refine ac_ret ?_
      refine ⟨.bool true, aresult1 (ares_tmp rfl), ?_⟩
      rw [decide_eq_true]
      exact List.ext_getElem hlen fun j h1 h2 => hok j h1 (by omega)
theorem same_27 (xs ys : List (List Link)) (v u : Value) (H : Hp) (hs : Sl (kSl kLink) H v xs) (hu : Sl (kSl kLink) H u ys) (hl : xs.length ≤ 9223372036854775807) (hx : ∀ l ∈ xs, l.length ≤ 9223372036854775807) :
    ACalls Try.prog 100 #[v, u] H (fun r H' => r = .bool (decide (xs = ys)) ∧ H' = H) :=
  ACalls.pure (fun v h => by rw [h]; rfl) (same_raw27 xs ys v u H.ro (hs.mono H.sees_ro) (hu.mono H.sees_ro) hl hx)
theorem Same_parts (p q : Parts) (cs ds : List Value) (H : Hp) (hp : kParts.rep H p cs) (hq : kParts.rep H q ds) (h1 : p.nodes.length ≤ 1000000) (h2 : p.links.length ≤ 1000000) (h3 : ∀ l ∈ p.nodes, l.length ≤ 1000000) (h4 : ∀ l ∈ p.links, l.length ≤ 1000000) :
    ACalls Try.prog 38 #[.agg cs.toArray, .agg ds.toArray] H (fun r H' => (∃ g, r = .bool g ∧ (g = true ↔ p.nodes = q.nodes ∧ p.links = q.links)) ∧ H' = H) := by
  refine ACalls.pure (R := fun r => ∃ g, r = .bool g ∧ (g = true ↔ p.nodes = q.nodes ∧ p.links = q.links)) (fun v ⟨g, h, _⟩ => by rw [h]; rfl) ?_
  obtain ⟨u0, u1, rfl, hn0, hn1⟩ := kParts.mono H.sees_ro hp
  obtain ⟨w0, w1, rfl, hm0, hm1⟩ := kParts.mono H.sees_ro hq
  obtain ⟨B0, d0, rfl⟩ := hn0.shape
  obtain ⟨B1, d1, rfl⟩ := hn1.shape
  obtain ⟨C0, k0, rfl⟩ := hm0.shape
  obtain ⟨C1, k1, rfl⟩ := hm1.shape
  refine acalls_of_code Try.func38 rfl rfl rfl (by simp) ?_
  refine ac_seq ?_
  refine ac_region (by kernel_rfl) ?_
  refine aops_make (am_box_agg rfl) ?_
  refine aops_make (am_box_agg rfl) ?_
  first | refine aops_val (av_assign_bool rfl) ?_ | refine aops_val (av_assign rfl) ?_
  refine ac_seq ?_
  refine ac_region (by kernel_rfl) ?_
  refine aops_val (av_fieldOff (off := 0) rfl Try.underlying65 rfl inf63.size (by decide) rfl) ?_
  refine aops_val (av_load1 rfl Try.underlying63 rfl t_cell) ?_
  refine aops_val (av_fieldOff (off := 0) rfl Try.underlying65 rfl inf63.size (by decide) rfl) ?_
  refine aops_val (av_load1 rfl Try.underlying63 rfl t_cell) ?_
  refine aops_op (aop_call (same_27 p.nodes q.nodes _ _ _ (hn0.mono t_sees) (hm0.mono t_sees) (by omega) (fun l hl => by have := h3 l hl; omega)) rfl Try.func100 rfl rfl rfl ?_)
  rintro v2 H2 ⟨rfl, rfl⟩
  first | refine aops_val (av_move_bool rfl) ?_ | refine aops_val (av_move rfl) ?_
  refine aops_guard rfl rfl rfl ?_ ?_
  · intro hg1
    have hp1 := hg1; try simp only [decide_eq_true_eq, decide_eq_false_iff_not, Bool.not_eq_true', Bool.not_eq_false'] at hp1
    refine aops_wval (want_yes rfl rfl rfl hg1) (av_fieldOff (off := 1) rfl Try.underlying65 rfl inf63.size (by decide) rfl) ?_
    refine aops_wval (want_yes rfl rfl rfl hg1) (av_load1 rfl Try.underlying63 rfl t_cell) ?_
    refine aops_wval (want_yes rfl rfl rfl hg1) (av_fieldOff (off := 1) rfl Try.underlying65 rfl inf63.size (by decide) rfl) ?_
    refine aops_wval (want_yes rfl rfl rfl hg1) (av_load1 rfl Try.underlying63 rfl t_cell) ?_
    refine aops_want (want_yes rfl rfl rfl hg1) (aop_call (same_27 p.links q.links _ _ _ (hn1.mono t_sees) (hm1.mono t_sees) (by omega) (fun l hl => by have := h4 l hl; omega)) rfl Try.func100 rfl rfl rfl ?_)
    rintro v3 H3 ⟨rfl, rfl⟩
    refine aops_val (av_pick_bool (congrArg Value.bool hg1) rfl) ?_
    first | refine aops_val (av_assign_bool rfl) ?_ | refine aops_val (av_assign rfl) ?_
    refine ac_ret ?_
    refine ⟨_, aresult1 (ares_tmp rfl), _, rfl, ?_⟩
    simp_all
  · intro hg1
    have hp1 := hg1; try simp only [decide_eq_true_eq, decide_eq_false_iff_not, Bool.not_eq_true', Bool.not_eq_false'] at hp1
    refine aops_skip (want_no rfl rfl rfl hg1 rfl) ?_
    refine aops_skip (want_no rfl rfl rfl hg1 rfl) ?_
    refine aops_skip (want_no rfl rfl rfl hg1 rfl) ?_
    refine aops_skip (want_no rfl rfl rfl hg1 rfl) ?_
    refine aops_skip (want_no rfl rfl rfl hg1 rfl) ?_
    refine aops_val (av_pick_bool (congrArg Value.bool hg1) rfl) ?_
    first | refine aops_val (av_assign_bool rfl) ?_ | refine aops_val (av_assign rfl) ?_
    refine ac_ret ?_
    refine ⟨_, aresult1 (ares_tmp rfl), _, rfl, ?_⟩
    simp_all
end Go.Proofs.Ytnkjikpmgeknbaa.Am
namespace Go.Proofs.Ytnkjikpmgeknbaa.Am
open Go Go.RowKit
set_option maxRecDepth 100000
set_option linter.unusedVariables false
set_option linter.unusedSimpArgs false

theorem ends_parts (ns : List (List Link)) (A AL : Option Addr) (c nL cL : Nat) (v : Nat) (H : Hp) (hN : Sl (kSl kLink) H (.slice A ns.length c) ns) (hv : v < ns.length) (hx : ∀ l ∈ ns, l.length ≤ 1000000) :
    ACalls Try.prog 193 #[.agg #[.slice A ns.length c, .slice AL nL cL], .int .i64 v] H (fun r H' => ∃ G', H.le G' ∧ OwnP (kInt .i64) G' H' r (endsL ns[v] false)) := by
  obtain ⟨b, o, ks, eB, hb, ⟨w0, rfl, hw0⟩, hcell0⟩ := hN.elem_at hv
  subst eB
  have hcell0' := hcell0.one
  obtain ⟨A6, c6, rfl⟩ := hw0.shape
  refine acalls_of_code Try.func193 rfl rfl rfl (by simp) ?_
  refine ac_seq ?_
  refine ac_region (by kernel_rfl) ?_
  refine aops_make (am_box_agg rfl) ?_
  first | refine aops_val (av_assign_sl rfl) ?_ | refine aops_val (av_assign rfl) ?_
  refine ac_seq ?_
  refine ac_region (by kernel_rfl) ?_
  refine aops_val (av_fieldOff (off := 0) rfl Try.underlying65 rfl inf63.size (by decide) rfl) ?_
  refine aops_val (av_load1 rfl Try.underlying63 rfl t_cell) ?_
  first | refine aops_val (av_move_int rfl) ?_ | refine aops_val (av_move rfl) ?_
  refine aops_val (av_indexAddr rfl rfl Try.underlying63 inf22.size t_idx t_idx) ?_
  refine aops_val (av_load1 rfl Try.underlying22 rfl t_cell) ?_
  refine aops_op (aop_call (Ends_links ns[v] _ false _ (hw0.mono t_sees) (hx _ (List.getElem_mem hv))) rfl Try.func17 rfl rfl rfl ?_)
  rintro v5 H5 ⟨G5, hle5, hown5⟩; have hle5' := Hp.le_trans (H.le_push _) hle5
  first | refine aops_val (av_assign_sl rfl) ?_ | refine aops_val (av_assign rfl) ?_
  refine ac_ret ?_
  exact ⟨_, aresult1 (ares_tmp rfl), G5, hle5', hown5⟩
def linksStep (ns ls : List (List Link)) (v u : Nat) : List (List Link) := ls.set v (withinL (ls.getD v []) (endsL (ns.getD u []) false) (endsL (ns.getD v []) false))
theorem links_parts (ns ls : List (List Link)) (N L : Value) (v u : Nat) (G H : Hp) (hp : PartsP G H N L ns ls) (hl : ns.length = ls.length) (hv : v < ls.length) (hu : u < ls.length) (hx : ∀ l ∈ ns, l.length ≤ 1000000) (hy : ∀ l ∈ ls, l.length ≤ 1000000) :
    ACalls Try.prog 145 #[.agg #[N, L], .int .i64 v, .int .i64 u] H (fun r H' => ∃ G', G.le G' ∧ PartsP G' H' N L ns (linksStep ns ls v u) ∧ r = .tuple #[]) := by
  obtain ⟨b, cL, cs, w0, rfl, hb, hgb, hcell0', hcs, hw0⟩ := hp.spotL hv
  have hN := hp.slN
  obtain ⟨A, c, rfl⟩ := hN.shape
  obtain ⟨A6, c6, rfl⟩ := hw0.shape
  have gv : ls.getD v [] = ls[v] := getD_list hv
  have gn : ns.getD v [] = ns[v] := getD_list (by omega)
  have gu : ns.getD u [] = ns[u] := getD_list (by omega)
  refine acalls_of_code Try.func145 rfl rfl rfl (by simp) ?_
  refine ac_seq ?_
  refine ac_region (by kernel_rfl) ?_
  refine aops_make (am_box_agg rfl) ?_
  refine ac_draw (by kernel_rfl) (reg_of (B := [0, 1, 0, 0, 8, 0, 56, 120, 0, 0, 768, 0, 0, 7936, 16376, 32767, 65535]) (π := [0, 1, 2, 3, 4, 5, 6, 7, 8, 9, 11, 12, 10, 13, 14, 15, 16]) (by kernel_rfl)) ?_
  refine adr_val rfl rfl (av_fieldOff (off := 1) rfl Try.underlying65 rfl inf63.size (by decide) rfl) t_lt ?_
  refine adr_val rfl rfl (av_load1 rfl Try.underlying63 rfl t_cell) t_lt ?_
  first | refine adr_val rfl rfl (av_move_int rfl) t_lt ?_ | refine adr_val rfl rfl (av_move rfl) t_lt ?_
  refine adr_val rfl rfl (av_fieldOff (off := 1) rfl Try.underlying65 rfl inf63.size (by decide) rfl) t_lt ?_
  refine adr_val rfl rfl (av_load1 rfl Try.underlying63 rfl t_cell) t_lt ?_
  first | refine adr_val rfl rfl (av_move_int rfl) t_lt ?_ | refine adr_val rfl rfl (av_move rfl) t_lt ?_
  refine adr_val rfl rfl (av_indexAddr rfl rfl Try.underlying63 inf22.size t_idx t_idx) t_lt ?_
  refine adr_val rfl rfl (av_load1 rfl Try.underlying22 rfl t_cell) t_lt ?_
  first | refine adr_val rfl rfl (av_loadN (cs := [.slice _ _ _, .slice _ _ _]) rfl Try.underlying65 rfl inf65.size t_cells) t_lt ?_ | refine adr_val rfl rfl (av_loadN (cs := [_, _]) rfl Try.underlying65 rfl inf65.size t_cells) t_lt ?_
  first | refine adr_val rfl rfl (av_move_int rfl) t_lt ?_ | refine adr_val rfl rfl (av_move rfl) t_lt ?_
  first | refine adr_val rfl rfl (av_loadN (cs := [.slice _ _ _, .slice _ _ _]) rfl Try.underlying65 rfl inf65.size t_cells) t_lt ?_ | refine adr_val rfl rfl (av_loadN (cs := [_, _]) rfl Try.underlying65 rfl inf65.size t_cells) t_lt ?_
  first | refine adr_val rfl rfl (av_move_int rfl) t_lt ?_ | refine adr_val rfl rfl (av_move rfl) t_lt ?_
  refine adr_op rfl rfl (aop_call (ends_parts ns A _ c _ _ u _ (hN.mono t_sees) (by omega) hx) rfl Try.func193 rfl rfl rfl ?_)
  rintro v5 H5 ⟨G5, hle5, hown5⟩; have hleC5 := Hp.le_trans hle5 hown5.le; have hzC5 := hleC5.1; simp only [Hp.push_size] at hzC5; obtain ⟨A5, c5, rfl⟩ := hown5.shape
  refine ⟨t_pend, ?_⟩
  refine adr_op rfl rfl (aop_call (ends_parts ns A _ c _ _ v _ (hN.mono t_sees) (by omega) hx) rfl Try.func193 rfl rfl rfl ?_)
  rintro v6 H6 ⟨G6, hle6, hown6⟩; have hleC6 := Hp.le_trans hle6 hown6.le; have hzC6 := hleC6.1; obtain ⟨A7, c7, rfl⟩ := hown6.shape
  refine ⟨t_pend, ?_⟩
  refine adr_op rfl rfl (aop_call (Within_links ls[v] (endsL ns[u] false) (endsL ns[v] false) _ _ _ _ (hw0.mono t_sees) (hown5.sl.mono t_sees) hown6.sl (hy _ (List.getElem_mem hv)) (by have := endsL_len ns[u] false; have := hx _ (List.getElem_mem (by omega : u < ns.length)); omega) (by have := endsL_len ns[v] false; have := hx _ (List.getElem_mem (by omega : v < ns.length)); omega) (endsL_sorted _ _) (endsL_sorted _ _)) rfl Try.func192 rfl rfl rfl ?_)
  rintro v8 H8 ⟨G8, hle8, hown8⟩; have hleC8 := Hp.le_trans hle8 hown8.le; have hzC8 := hleC8.1; obtain ⟨A9, c9, rfl⟩ := hown8.shape
  refine ⟨t_pend, ?_⟩
  refine adr_val rfl rfl (av_indexAddr rfl rfl Try.underlying63 inf22.size t_idx t_idx) t_lt ?_
  first | refine adr_op rfl rfl (aop_put1 rfl rfl rfl inf22.size t_get t_room rfl ?_)
  refine ⟨t_pend, ?_⟩
  have hleA : H.le H8 := Hp.le_trans (H.le_push _) (Hp.le_trans hleC5 (Hp.le_trans hleC6 hleC8))
  have hg8 : H8.get b = .own 1 cs := le_got hleA hb (by intro e; cases e) hgb
  obtain ⟨G9, hle9, hp9⟩ := hp.storeL hleA hown8.sl hv hg8 (off := 0 + (v : Int).toNat * 1) (by simp)
  rw [setR_one (by simp; omega)] at hp9
  unfold linksStep
  rw [gv, gn, gu]
  exact ⟨_, aresult0, G9, hle9, hp9, rfl⟩
def keepStep (ns : List (List Link)) (v : Nat) (l : List Int) : List (List Link) := ns.set v (withinL (ns.getD v []) l l)
theorem keep_parts (ns ls : List (List Link)) (N L : Value) (v : Nat) (l : List Int) (vl : Value) (G H : Hp) (hp : PartsP G H N L ns ls) (hv : v < ns.length) (hlv : Sl (kInt .i64) H vl l) (hll : l.length ≤ 1000000) (hlr : l.Pairwise (· ≤ ·)) (hx : ∀ l ∈ ns, l.length ≤ 1000000) :
    ACalls Try.prog 146 #[.agg #[N, L], .int .i64 v, vl] H (fun r H' => ∃ G', G.le G' ∧ PartsP G' H' N L (keepStep ns v l) ls ∧ r = .tuple #[]) := by
  obtain ⟨b, cN, cs, w0, rfl, hb, hgb, hcell0', hcs, hw0⟩ := hp.spotN hv
  have hL := hp.slL
  obtain ⟨AL, cL, rfl⟩ := hL.shape
  obtain ⟨A6, c6, rfl⟩ := hw0.shape
  obtain ⟨Al, cl, rfl⟩ := hlv.shape
  have gv : ns.getD v [] = ns[v] := getD_list hv
  refine acalls_of_code Try.func146 rfl rfl rfl (by simp) ?_
  refine ac_seq ?_
  refine ac_region (by kernel_rfl) ?_
  refine aops_make (am_box_agg rfl) ?_
  refine ac_draw (by kernel_rfl) (reg_of (B := [0, 1, 0, 0, 8, 0, 56, 120, 0, 0, 1016, 2047, 4095]) (π := [0, 1, 2, 3, 4, 5, 6, 7, 8, 9, 10, 11, 12]) (by kernel_rfl)) ?_
  refine adr_val rfl rfl (av_fieldOff (off := 0) rfl Try.underlying65 rfl inf63.size (by decide) rfl) t_lt ?_
  refine adr_val rfl rfl (av_load1 rfl Try.underlying63 rfl t_cell) t_lt ?_
  first | refine adr_val rfl rfl (av_move_int rfl) t_lt ?_ | refine adr_val rfl rfl (av_move rfl) t_lt ?_
  refine adr_val rfl rfl (av_fieldOff (off := 0) rfl Try.underlying65 rfl inf63.size (by decide) rfl) t_lt ?_
  refine adr_val rfl rfl (av_load1 rfl Try.underlying63 rfl t_cell) t_lt ?_
  first | refine adr_val rfl rfl (av_move_int rfl) t_lt ?_ | refine adr_val rfl rfl (av_move rfl) t_lt ?_
  refine adr_val rfl rfl (av_indexAddr rfl rfl Try.underlying63 inf22.size t_idx t_idx) t_lt ?_
  refine adr_val rfl rfl (av_load1 rfl Try.underlying22 rfl t_cell) t_lt ?_
  first | refine adr_val rfl rfl (av_move_sl rfl) t_lt ?_ | refine adr_val rfl rfl (av_move rfl) t_lt ?_
  first | refine adr_val rfl rfl (av_move_sl rfl) t_lt ?_ | refine adr_val rfl rfl (av_move rfl) t_lt ?_
  refine adr_op rfl rfl (aop_call (Within_links ns[v] l l _ _ _ _ (hw0.mono t_sees) (hlv.mono t_sees) (hlv.mono t_sees) (hx _ (List.getElem_mem hv)) hll hll hlr hlr) rfl Try.func192 rfl rfl rfl ?_)
  rintro v8 H8 ⟨G8, hle8, hown8⟩; have hleC8 := Hp.le_trans hle8 hown8.le; have hzC8 := hleC8.1; simp only [Hp.push_size] at hzC8; obtain ⟨A9, c9, rfl⟩ := hown8.shape
  refine ⟨t_pend, ?_⟩
  refine adr_val rfl rfl (av_indexAddr rfl rfl Try.underlying63 inf22.size t_idx t_idx) t_lt ?_
  first | refine adr_op rfl rfl (aop_put1 rfl rfl rfl inf22.size t_get t_room rfl ?_)
  refine ⟨t_pend, ?_⟩
  have hleA : H.le H8 := Hp.le_trans (H.le_push _) hleC8
  have hg8 : H8.get b = .own 1 cs := le_got hleA hb (by intro e; cases e) hgb
  obtain ⟨G9, hle9, hp9⟩ := hp.storeN hleA hown8.sl hv hg8 (off := 0 + (v : Int).toNat * 1) (by simp)
  rw [setR_one (by simp; omega)] at hp9
  unfold keepStep
  rw [gv]
  exact ⟨_, aresult0, G9, hle9, hp9, rfl⟩
end Go.Proofs.Ytnkjikpmgeknbaa.Am
namespace Go.Proofs.Ytnkjikpmgeknbaa.Am
open Go Go.RowKit
set_option maxRecDepth 100000
set_option linter.unusedVariables false
set_option linter.unusedSimpArgs false

structure Fits (n : Nat) (p : Parts) : Prop where
  n1 : p.nodes.length = n
  n2 : p.links.length = n
  s1 : ∀ l ∈ p.nodes, l.length ≤ 1000000
  s2 : ∀ l ∈ p.links, l.length ≤ 1000000
theorem getD_len {ns : List (List Link)} (h : ∀ l ∈ ns, l.length ≤ 1000000) (v : Nat) : (ns.getD v []).length ≤ 1000000 := by
  by_cases hv : v < ns.length
  · rw [getD_list hv]; exact h _ (List.getElem_mem hv)
  · rw [List.getD_eq_getElem?_getD, List.getElem?_eq_none (by omega)]; simp
theorem set_within {ns : List (List Link)} (h : ∀ l ∈ ns, l.length ≤ 1000000) (v : Nat) (fs ts : List Int) : ∀ l ∈ ns.set v (withinL (ns.getD v []) fs ts), l.length ≤ 1000000 := fun l hl => by
  rcases List.mem_or_eq_of_mem_set hl with hl | rfl
  · exact h l hl
  · exact Nat.le_trans (withinL_len _ _ _) (getD_len h v)
theorem linksStep_len (ns ls : List (List Link)) (v u : Nat) : (linksStep ns ls v u).length = ls.length := List.length_set
theorem keepStep_len (ns : List (List Link)) (v : Nat) (l : List Int) : (keepStep ns v l).length = ns.length := List.length_set
/-- One step up. -/
def upStep (f : Forest) (p : Parts) (v : Nat) : Parts :=
  if f.parent.getD v 0 = -1 then p else
    ⟨keepStep p.nodes (f.parent.getD v 0).toNat (endsL ((linksStep p.nodes p.links v (f.parent.getD v 0).toNat).getD v []) false), linksStep p.nodes p.links v (f.parent.getD v 0).toNat⟩
/-- One step down. -/
def downStep (f : Forest) (p : Parts) (v : Nat) : Parts :=
  if f.parent.getD v 0 = -1 then p else
    ⟨keepStep p.nodes v (endsL ((linksStep p.nodes p.links v (f.parent.getD v 0).toNat).getD v []) true), linksStep p.nodes p.links v (f.parent.getD v 0).toNat⟩
theorem Fits.up {n : Nat} {f : Forest} {p : Parts} (h : Fits n p) (v : Nat) : Fits n (upStep f p v) := by
  unfold upStep
  split
  · exact h
  · exact ⟨(keepStep_len _ _ _).trans h.n1, (linksStep_len _ _ _ _).trans h.n2, set_within h.s1 _ _ _, set_within h.s2 _ _ _⟩
theorem Fits.down {n : Nat} {f : Forest} {p : Parts} (h : Fits n p) (v : Nat) : Fits n (downStep f p v) := by
  unfold downStep
  split
  · exact h
  · exact ⟨(keepStep_len _ _ _).trans h.n1, (linksStep_len _ _ _ _).trans h.n2, set_within h.s1 _ _ _, set_within h.s2 _ _ _⟩
def upK (f : Forest) (p : Parts) (k : Nat) : Parts := (f.order.reverse.take k).foldl (fun p v => upStep f p v.toNat) p
def downK (f : Forest) (p : Parts) (k : Nat) : Parts := (f.order.take k).foldl (fun p v => downStep f p v.toNat) p
def upP (f : Forest) (p : Parts) : Parts := f.order.reverse.foldl (fun p v => upStep f p v.toNat) p
def downP (f : Forest) (p : Parts) : Parts := f.order.foldl (fun p v => downStep f p v.toNat) p
theorem upK_succ (f : Forest) (p : Parts) {k : Nat} (h : k < f.order.length) : upK f p (k + 1) = upStep f (upK f p k) (f.order[f.order.length - 1 - k]?.getD 0).toNat := by
  unfold upK
  rw [List.take_succ_eq_append_getElem (by simpa using h), List.foldl_append]
  simp only [List.foldl_cons, List.foldl_nil]
  rw [List.getElem_reverse, List.getElem?_eq_getElem (by omega)]
  rfl
theorem downK_succ (f : Forest) (p : Parts) {k : Nat} (h : k < f.order.length) : downK f p (k + 1) = downStep f (downK f p k) (f.order.getD k 0).toNat := by
  unfold downK
  rw [List.take_succ_eq_append_getElem h, List.foldl_append, getD_at h]
  rfl
theorem upK_all (f : Forest) (p : Parts) : upK f p f.order.length = upP f p := by
  unfold upK upP
  rw [List.take_of_length_le (by simp)]
theorem downK_all (f : Forest) (p : Parts) : downK f p f.order.length = downP f p := by
  unfold downK downP
  rw [List.take_of_length_le (Nat.le_refl _)]
theorem Fits.foldl {n : Nat} {p : Parts} {st : Parts → Int → Parts} (hs : ∀ p v, Fits n p → Fits n (st p v)) : ∀ (l : List Int) (p : Parts), Fits n p → Fits n (l.foldl st p)
  | [], _, h => h
  | v :: l, p, h => Fits.foldl (p := p) hs l _ (hs p v h)
theorem Fits.upK {n : Nat} {f : Forest} {p : Parts} (h : Fits n p) (k : Nat) : Fits n (upK f p k) := Fits.foldl (p := p) (fun p v h => h.up _) _ _ h
theorem Fits.downK {n : Nat} {f : Forest} {p : Parts} (h : Fits n p) (k : Nat) : Fits n (downK f p k) := Fits.foldl (p := p) (fun p v h => h.down _) _ _ h
theorem Fits.upP {n : Nat} {f : Forest} {p : Parts} (h : Fits n p) : Fits n (upP f p) := Fits.foldl (p := p) (fun p v h => h.up _) _ _ h
theorem Fits.downP {n : Nat} {f : Forest} {p : Parts} (h : Fits n p) : Fits n (downP f p) := Fits.foldl (p := p) (fun p v h => h.down _) _ _ h
theorem PartsP.push {G H : Hp} {N L : Value} {ns ls : List (List Link)} (h : PartsP G H N L ns ls) (x : Blk) : PartsP (G.push x) (H.push x) N L ns ls := let ⟨Gm, h1, h2⟩ := h; ⟨Gm.push x, h1.push x, h2.push x⟩
theorem PartsP.boxed {G H : Hp} {N L : Value} {ns ls : List (List Link)} (h : PartsP G H N L ns ls) (cs cs' : List Value) : PartsP ((G.push (.own 0 cs)).put H.size (.own 0 cs')) ((H.push (.own 0 cs)).put H.size (.own 0 cs')) N L ns ls := by
  have hz := h.size
  exact (h.push (.own 0 cs)).box_put (by simp; omega) (by rw [hz]; exact Hp.push_new _ _) cs'
theorem Backward_ints (v : Value) (H : Hp) (A : Option Addr) (n c : Nat) (hv : v = .slice A n c) : ACalls Try.prog 144 #[v] H (fun r H' => r = .func (.func 191) #[] #[.pointer (some ⟨H.size, 0, none⟩)] ∧ H' = H.push (.own 0 [v])) := by
  subst hv
  refine acalls_of_code Try.func144 rfl rfl rfl (by simp) ?_
  refine ac_seq ?_
  refine ac_region (by kernel_rfl) ?_
  refine aops_make (am_box_sl rfl) ?_
  first | refine aops_val (av_assign_func rfl) ?_ | refine aops_val (av_assign rfl) ?_
  refine ac_seq ?_
  refine ac_region (by kernel_rfl) ?_
  refine aops_val (av_makeFunc) ?_
  first | refine aops_val (av_assign_func rfl) ?_ | refine aops_val (av_assign rfl) ?_
  refine ac_ret ?_
  exact ⟨_, aresult1 (ares_tmp rfl), rfl, rfl⟩
end Go.Proofs.Ytnkjikpmgeknbaa.Am
namespace Go.Proofs.Ytnkjikpmgeknbaa.Am
open Go Go.RowKit
set_option maxRecDepth 100000
set_option linter.unusedVariables false
set_option linter.unusedSimpArgs false

theorem GoodF.order_in {f : Forest} (h : GoodF f) {v : Int} (hv : v ∈ f.order) : 0 ≤ v ∧ v < f.vars.length := by
  obtain ⟨i, hi, rfl⟩ := List.getElem_of_mem hv
  have hl := h.l1
  have := h.ok i (by omega)
  rw [OkF, h.order_at (by omega)] at this
  exact ⟨this.1, this.2.1⟩
set_option maxHeartbeats 1000000 in
theorem up_parts (f : Forest) (p : Parts) (cs ds : List Value) (H : Hp) (hp : kForest.rep H f cs) (hq : kParts.rep H p ds) (hg : GoodF f) (hfit : Fits f.vars.length p) (hn : f.vars.length ≤ 1000000) :
    ACalls Try.prog 102 #[.agg cs.toArray, .agg ds.toArray] H (fun r H' => ∃ G' N L, H.le G' ∧ r = .agg #[N, L] ∧ PartsP G' H' N L (upP f p).nodes (upP f p).links) := by
  have hq0 := hq
  obtain ⟨v0, v1, v2, v3, v4, rfl, hs0, hs1, hs2, hs3, hs4⟩ := hp
  obtain ⟨A0, c0, rfl⟩ := hs0.shape
  obtain ⟨A1, c1, rfl⟩ := hs1.shape
  obtain ⟨A2, c2, rfl⟩ := hs2.shape
  obtain ⟨A3, c3, rfl⟩ := hs3.shape
  obtain ⟨A4, c4, rfl⟩ := hs4.shape
  obtain ⟨u0, u1, rfl, hn0, hn1⟩ := hq
  obtain ⟨B0, d0, rfl⟩ := hn0.shape
  obtain ⟨B1, d1, rfl⟩ := hn1.shape
  have hgl := hg.l1
  have hgp := hg.l2
  refine acalls_of_code Try.func102 rfl rfl rfl (by simp) ?_
  refine ac_seq ?_
  refine ac_region (by kernel_rfl) ?_
  refine aops_make (am_box_agg rfl) ?_
  refine aops_make (am_box_agg rfl) ?_
  refine aops_make (am_zero (l := [.slice none 0 0, .slice none 0 0]) inf65.zero rfl (by decide)) ?_
  refine ac_seq ?_
  refine ac_region (by kernel_rfl) ?_
  first | refine aops_val (av_loadN (cs := [.slice _ _ _, .slice _ _ _]) rfl Try.underlying65 rfl inf65.size t_cells) ?_ | refine aops_val (av_loadN (cs := [_, _]) rfl Try.underlying65 rfl inf65.size t_cells) ?_
  refine aops_op (aop_call (Own_parts p _ _ (kParts.mono t_sees hq0) (by have := hfit.n1; omega) (by have := hfit.n2; omega) hfit.s1 hfit.s2) rfl Try.func143 rfl rfl rfl ?_)
  rintro v5 H5 ⟨G5, N, L, hle5, rfl, hpp5⟩; obtain ⟨AN, cN, rfl⟩ := hpp5.slN.shape; obtain ⟨AL, cL, rfl⟩ := hpp5.slL.shape; have hz5 := hle5.1; simp only [Hp.push_size] at hz5; have hzz5 := hpp5.size
  refine aops_make (am_zero (l := [.slice none 0 0, .slice none 0 0]) inf65.zero rfl (by decide)) ?_
  first | refine aops_op (aop_putN (vs := [.slice _ _ _, .slice _ _ _]) rfl rfl inf65.size t_get t_room rfl rfl ?_) | refine aops_op (aop_putN (vs := [_, _]) rfl rfl inf65.size t_get t_room rfl rfl ?_)
  refine ac_seq ?_
  refine ac_seq ?_
  obtain ⟨H6, hH6⟩ : ∃ H6, H6 = (H5.push (.own 0 [.slice none 0 0, .slice none 0 0])).put H5.size (.own 0 [.slice AN p.nodes.length cN, .slice AL p.links.length cL]) := ⟨_, rfl⟩
  obtain ⟨G6, hG6⟩ : ∃ G6, G6 = (G5.push (.own 0 [.slice none 0 0, .slice none 0 0])).put H5.size (.own 0 [.slice AN p.nodes.length cN, .slice AL p.links.length cL]) := ⟨_, rfl⟩
  have hpp6 : PartsP G6 H6 (.slice AN p.nodes.length cN) (.slice AL p.links.length cL) p.nodes p.links := by rw [hH6, hG6]; exact hpp5.boxed _ _
  have hle6 : ((((H.push (.own 0 [.slice A0 f.vars.length c0, .slice A1 f.order.length c1, .slice A2 f.parent.length c2, .slice A3 f.links.length c3, .slice A4 f.loops.length c4])).push (.own 0 [.slice B0 p.nodes.length d0, .slice B1 p.links.length d1])).push (.own 0 [.slice none 0 0, .slice none 0 0]))).le G6 := by
    rw [hG6]; exact Hp.le_put_new (Hp.le_push' hle5 _) (by simp; omega) _
  have k0 : G6.get H.size = .own 0 [.slice A0 f.vars.length c0, .slice A1 f.order.length c1, .slice A2 f.parent.length c2, .slice A3 f.links.length c3, .slice A4 f.loops.length c4] := le_got hle6 (by simp; omega) (by intro e; cases e) t_get
  have k2 : G6.get (H.size + 2) = .own 0 [.slice none 0 0, .slice none 0 0] := le_got hle6 (by simp) (by intro e; cases e) t_get
  have k5 : G6.get H5.size = .own 0 [.slice AN p.nodes.length cN, .slice AL p.links.length cL] := by rw [hG6]; exact Hp.put_same _ _ _
  have hz6 : G6.size = H5.size + 1 := by rw [hG6]; simp; omega
  have hzz6 := hpp6.size
  have hleH6 : H.le G6 := Hp.le_trans (Hp.le_push' (Hp.le_push' (H.le_push _) _) _) hle6
  have h0 := le_got hpp6.le (by omega) (by intro e; cases e) k0
  change ACode true _ _ _ _ _ ((H5.push (.own 0 [.slice none 0 0, .slice none 0 0])).put H5.size (.own 0 [.slice AN p.nodes.length cN, .slice AL p.links.length cL]))
  rw [← hH6]
  refine ac_region (by kernel_rfl) ?_
  refine aops_val (av_fieldOff (off := 1) rfl Try.underlying62 rfl inf29.size (by decide) rfl) ?_
  refine aops_val (av_load1 rfl Try.underlying29 rfl t_cell) ?_
  refine aops_op (aop_call (Backward_ints _ H6 A1 _ c1 rfl) rfl Try.func144 rfl rfl rfl ?_)
  rintro v7 H7 ⟨rfl, rfl⟩
  refine ac_block ?_
  have hpp7 := hpp6.push (.own 0 [.slice A1 f.order.length c1])
  refine ac_rangeFunc (fun k H' => ∃ G', (G6.push (.own 0 [.slice A1 f.order.length c1])).le G' ∧ PartsP G' H' (.slice AN p.nodes.length cN) (.slice AL p.links.length cL) (upK f p k).nodes (upK f p k).links) rfl (Back_each (G := G6.push (.own 0 [.slice A1 f.order.length c1])) (b := H6.size) hpp7.le (by simp; omega) (by rw [hzz6]; exact Hp.push_new _ _) (hs1.mono ((hleH6.sees).push _)) (by omega)) (fun _ _ => .int _ _) (fun _ _ => .int _ _) rfl (⟨_, Hp.le_refl _, hpp7⟩) (fun k H' ⟨G', a, b⟩ => Hp.le_trans a b.le) ?_ ?_
  · rintro k H8 hk ⟨G8, hle8, hpp8⟩
    have hix : f.order.length - 1 - k < f.order.length := by omega
    have hwm : f.order[f.order.length - 1 - k]?.getD 0 ∈ f.order := by rw [List.getElem?_eq_getElem hix]; exact List.getElem_mem hix
    obtain ⟨w, hw⟩ : ∃ w : Nat, f.order[f.order.length - 1 - k]?.getD 0 = (w : Int) := ⟨(f.order[f.order.length - 1 - k]?.getD 0).toNat, by have := hg.order_in hwm; omega⟩
    have hwn : w < f.vars.length := by have := hg.order_in hwm; omega
    have hsucc := upK_succ f p hk
    rw [hw, Int.toNat_natCast] at hsucc
    simp only [hw]
    have hfk := hfit.upK (f := f) k
    obtain ⟨b2, o2, rfl, hb2, hcell2⟩ := hs2.int_at (i := (w : Int)) (by omega) (by omega)
    rw [Int.toNat_natCast] at hcell2
    have hle8' : G6.le G8 := Hp.le_trans (G6.le_push _) hle8
    have hleH8 : H.le H8 := Hp.le_trans hleH6 (Hp.le_trans hle8' hpp8.le)
    have hcell2' := hleH8.cell1 hb2 hcell2
    have hz8 := hle8'.1
    have hg0 : H8.get H.size = _ := le_got (Hp.le_trans hle8' hpp8.le) (by omega) (by intro e; cases e) k0
    have kg5 : G8.get H5.size = _ := le_got hle8' (by omega) (by intro e; cases e) k5
    have hg5 : H8.get H5.size = _ := le_got hpp8.le (by omega) (by intro e; cases e) kg5
    have hzz8 := hpp8.size
    refine ac_region (by kernel_rfl) ?_
    first | refine aops_val (av_assign_int rfl) ?_ | refine aops_val (av_assign rfl) ?_
    refine ac_block ?_
    refine ac_seq ?_
    refine ac_region (by kernel_rfl) ?_
    refine aops_val (av_fieldOff (off := 2) rfl Try.underlying62 rfl inf29.size (by decide) rfl) ?_
    refine aops_val (av_load1 rfl Try.underlying29 rfl t_cell) ?_
    first | refine aops_val (av_move_int rfl) ?_ | refine aops_val (av_move rfl) ?_
    refine aops_val (av_indexAddr rfl rfl Try.underlying29 inf3.size t_idx t_idx) ?_
    refine aops_val (av_load1 rfl Try.underlying3 rfl t_cell) ?_
    first | refine aops_val (av_assign_int rfl) ?_ | refine aops_val (av_assign rfl) ?_
    refine ac_seq ?_
    refine ac_region (by kernel_rfl) ?_
    first | refine aops_val (av_move_int rfl) ?_ | refine aops_val (av_move rfl) ?_
    refine aops_val (av_ne rfl rfl) ?_
    refine ac_split rfl rfl ?_ ?_
    · intro hc1
      have hpar : f.parent.getD w 0 ≠ -1 := of_decide_eq_true hc1
      obtain ⟨u, hu⟩ : ∃ u : Nat, f.parent.getD w 0 = (u : Int) := ⟨(f.parent.getD w 0).toNat, by have := hg.parent_ge hwn; omega⟩
      have hun : u < f.vars.length := by have := hg.parent_ge hwn; omega
      have hstep : upStep f (upK f p k) w = ⟨keepStep (upK f p k).nodes u (endsL ((linksStep (upK f p k).nodes (upK f p k).links w u).getD w []) false), linksStep (upK f p k).nodes (upK f p k).links w u⟩ := by unfold upStep; rw [if_neg hpar, hu, Int.toNat_natCast]
      rw [hstep] at hsucc
      rw [hu]
      refine ac_seq ?_
      refine ac_region (by kernel_rfl) ?_
      first | refine aops_val (av_loadN (cs := [.slice _ _ _, .slice _ _ _]) rfl Try.underlying65 rfl inf65.size t_cells) ?_ | refine aops_val (av_loadN (cs := [_, _]) rfl Try.underlying65 rfl inf65.size t_cells) ?_
      first | refine aops_val (av_move_int rfl) ?_ | refine aops_val (av_move rfl) ?_
      first | refine aops_val (av_move_int rfl) ?_ | refine aops_val (av_move rfl) ?_
      refine aops_op (aop_call (links_parts (upK f p k).nodes (upK f p k).links _ _ w u _ _ hpp8 (by rw [hfk.n1, hfk.n2]) (by rw [hfk.n2]; exact hwn) (by rw [hfk.n2]; exact hun) hfk.s1 hfk.s2) rfl Try.func145 rfl rfl rfl ?_)
      rintro v9 H9 ⟨G9, hle9, hpp9, rfl⟩; have kg59 := le_got hle9 (by omega) (by intro e; cases e) kg5; have hz9 := hle9.1; have hzz9 := hpp9.size; have hg59 := le_got hpp9.le (by omega) (by intro e; cases e) kg59
      have hll9 : (linksStep (upK f p k).nodes (upK f p k).links w u).length = f.vars.length := by rw [linksStep_len, hfk.n2]
      obtain ⟨b9, c9, cs9, w9, e9, hb9, hgb9, hcell9, hcs9, hw9⟩ := hpp9.spotL (i := w) (by omega)
      injection e9 with e91 e92 e93
      subst e91
      obtain ⟨A9, c90, rfl⟩ := hw9.shape
      have gl9 := getD_list (by omega : w < (linksStep (upK f p k).nodes (upK f p k).links w u).length)
      have hs9 : (linksStep (upK f p k).nodes (upK f p k).links w u)[w].length ≤ 1000000 := by rw [← gl9]; exact getD_len (set_within hfk.s2 _ _ _) w
      refine ac_draw (by kernel_rfl) (reg_of (B := [0, 0, 0, 4, 0, 28, 60, 124, 255]) (π := [0, 1, 2, 3, 4, 5, 6, 7, 8]) (by kernel_rfl)) ?_
      first | refine adr_val rfl rfl (av_loadN (cs := [.slice _ _ _, .slice _ _ _]) rfl Try.underlying65 rfl inf65.size t_cells) t_lt ?_ | refine adr_val rfl rfl (av_loadN (cs := [_, _]) rfl Try.underlying65 rfl inf65.size t_cells) t_lt ?_
      first | refine adr_val rfl rfl (av_move_int rfl) t_lt ?_ | refine adr_val rfl rfl (av_move rfl) t_lt ?_
      refine adr_val rfl rfl (av_fieldOff (off := 1) rfl Try.underlying65 rfl inf63.size (by decide) rfl) t_lt ?_
      refine adr_val rfl rfl (av_load1 rfl Try.underlying63 rfl t_cell) t_lt ?_
      first | refine adr_val rfl rfl (av_move_int rfl) t_lt ?_ | refine adr_val rfl rfl (av_move rfl) t_lt ?_
      refine adr_val rfl rfl (av_indexAddr rfl rfl Try.underlying63 inf22.size t_idx t_idx) t_lt ?_
      refine adr_val rfl rfl (av_load1 rfl Try.underlying22 rfl t_cell) t_lt ?_
      refine adr_op rfl rfl (aop_call (Ends_links (linksStep (upK f p k).nodes (upK f p k).links w u)[w] _ false _ hw9 hs9) rfl Try.func17 rfl rfl rfl ?_)
      rintro v10 H10 ⟨G10, hle10, hown10⟩; have hleC10 := Hp.le_trans hle10 hown10.le; obtain ⟨G10', hle10', hpp10⟩ := hpp9.after hleC10; have hzC10 := hleC10.1; obtain ⟨A10, c10, rfl⟩ := hown10.shape
      refine ⟨t_pend, ?_⟩
      refine adr_op rfl rfl (aop_call (keep_parts (upK f p k).nodes (linksStep (upK f p k).nodes (upK f p k).links w u) _ _ u _ _ _ _ hpp10 (by rw [hfk.n1]; exact hun) hown10.sl (by have := endsL_len (linksStep (upK f p k).nodes (upK f p k).links w u)[w] false; omega) (endsL_sorted _ _) hfk.s1) rfl Try.func146 rfl rfl rfl ?_)
      rintro v11 H11 ⟨G11, hle11, hpp11, rfl⟩
      refine ⟨t_pend, ?_⟩
      refine ⟨rfl, ?_⟩
      first
        | (rw [gl9] at hsucc
           rw [hsucc]
           exact ⟨G11, Hp.le_trans hle8 (Hp.le_trans hle9 (Hp.le_trans hle10' hle11)), hpp11⟩)
        | (rw [hsucc]
           exact ⟨G8, hle8, hpp8⟩)
    · intro hc1
      have hpar : f.parent.getD w 0 = -1 := by simpa using of_decide_eq_false hc1
      have hstep : upStep f (upK f p k) w = upK f p k := by unfold upStep; rw [if_pos hpar]
      rw [hstep] at hsucc
      refine ac_skip ?_
      refine ⟨rfl, ?_⟩
      first
        | (rw [gl9] at hsucc
           rw [hsucc]
           exact ⟨G11, Hp.le_trans hle8 (Hp.le_trans hle9 (Hp.le_trans hle10' hle11)), hpp11⟩)
        | (rw [hsucc]
           exact ⟨G8, hle8, hpp8⟩)
  · rintro H8 ⟨G8, hle8, hpp8⟩
    rw [upK_all] at hpp8
    have hle8' : G6.le G8 := Hp.le_trans (G6.le_push _) hle8
    have hz8 := hle8'.1
    have hzz8 := hpp8.size
    have kg2 : G8.get (H.size + 2) = _ := le_got hle8' (by omega) (by intro e; cases e) k2
    have hg2 : H8.get (H.size + 2) = _ := le_got hpp8.le (by omega) (by intro e; cases e) kg2
    have kg5 : G8.get H5.size = _ := le_got hle8' (by omega) (by intro e; cases e) k5
    have hg5 : H8.get H5.size = _ := le_got hpp8.le (by omega) (by intro e; cases e) kg5
    refine ac_seq ?_
    refine ac_region (by kernel_rfl) ?_
    first | refine aops_val (av_loadN (cs := [.slice _ _ _, .slice _ _ _]) rfl Try.underlying65 rfl inf65.size t_cells) ?_ | refine aops_val (av_loadN (cs := [_, _]) rfl Try.underlying65 rfl inf65.size t_cells) ?_
    first | refine aops_op (aop_putN (vs := [.slice _ _ _, .slice _ _ _]) rfl rfl inf65.size t_get t_room rfl rfl ?_) | refine aops_op (aop_putN (vs := [_, _]) rfl rfl inf65.size t_get t_room rfl rfl ?_)
    refine ac_ret ?_
    exact ⟨_, aresult1 (ares_cell rfl (aload_agg (cs := [.slice AN p.nodes.length cN, .slice AL p.links.length cL]) Try.underlying65 rfl inf65.size t_cells)), _, _, _, Hp.le_put_new (Hp.le_trans hleH6 hle8') (by omega) _, rfl, hpp8.box_put (by omega) kg2 _⟩
end Go.Proofs.Ytnkjikpmgeknbaa.Am
namespace Go.Proofs.Ytnkjikpmgeknbaa.Am
open Go Go.RowKit
set_option maxRecDepth 100000
set_option linter.unusedVariables false
set_option linter.unusedSimpArgs false

set_option maxHeartbeats 1000000 in
theorem down_parts (f : Forest) (p : Parts) (cs ds : List Value) (H : Hp) (hp : kForest.rep H f cs) (hq : kParts.rep H p ds) (hg : GoodF f) (hfit : Fits f.vars.length p) (hn : f.vars.length ≤ 1000000) :
    ACalls Try.prog 103 #[.agg cs.toArray, .agg ds.toArray] H (fun r H' => ∃ G' N L, H.le G' ∧ r = .agg #[N, L] ∧ PartsP G' H' N L (downP f p).nodes (downP f p).links) := by
  have hq0 := hq
  obtain ⟨v0, v1, v2, v3, v4, rfl, hs0, hs1, hs2, hs3, hs4⟩ := hp
  obtain ⟨A0, c0, rfl⟩ := hs0.shape
  obtain ⟨A1, c1, rfl⟩ := hs1.shape
  obtain ⟨A2, c2, rfl⟩ := hs2.shape
  obtain ⟨A3, c3, rfl⟩ := hs3.shape
  obtain ⟨A4, c4, rfl⟩ := hs4.shape
  obtain ⟨u0, u1, rfl, hn0, hn1⟩ := hq
  obtain ⟨B0, d0, rfl⟩ := hn0.shape
  obtain ⟨B1, d1, rfl⟩ := hn1.shape
  have hgl := hg.l1
  have hgp := hg.l2
  refine acalls_of_code Try.func103 rfl rfl rfl (by simp) ?_
  refine ac_seq ?_
  refine ac_region (by kernel_rfl) ?_
  refine aops_make (am_box_agg rfl) ?_
  refine aops_make (am_box_agg rfl) ?_
  refine aops_make (am_zero (l := [.slice none 0 0, .slice none 0 0]) inf65.zero rfl (by decide)) ?_
  refine ac_seq ?_
  refine ac_region (by kernel_rfl) ?_
  first | refine aops_val (av_loadN (cs := [.slice _ _ _, .slice _ _ _]) rfl Try.underlying65 rfl inf65.size t_cells) ?_ | refine aops_val (av_loadN (cs := [_, _]) rfl Try.underlying65 rfl inf65.size t_cells) ?_
  refine aops_op (aop_call (Own_parts p _ _ (kParts.mono t_sees hq0) (by have := hfit.n1; omega) (by have := hfit.n2; omega) hfit.s1 hfit.s2) rfl Try.func143 rfl rfl rfl ?_)
  rintro v5 H5 ⟨G5, N, L, hle5, rfl, hpp5⟩; obtain ⟨AN, cN, rfl⟩ := hpp5.slN.shape; obtain ⟨AL, cL, rfl⟩ := hpp5.slL.shape; have hz5 := hle5.1; simp only [Hp.push_size] at hz5; have hzz5 := hpp5.size
  refine aops_make (am_zero (l := [.slice none 0 0, .slice none 0 0]) inf65.zero rfl (by decide)) ?_
  first | refine aops_op (aop_putN (vs := [.slice _ _ _, .slice _ _ _]) rfl rfl inf65.size t_get t_room rfl rfl ?_) | refine aops_op (aop_putN (vs := [_, _]) rfl rfl inf65.size t_get t_room rfl rfl ?_)
  refine ac_seq ?_
  refine ac_seq ?_
  obtain ⟨H6, hH6⟩ : ∃ H6, H6 = (H5.push (.own 0 [.slice none 0 0, .slice none 0 0])).put H5.size (.own 0 [.slice AN p.nodes.length cN, .slice AL p.links.length cL]) := ⟨_, rfl⟩
  obtain ⟨G6, hG6⟩ : ∃ G6, G6 = (G5.push (.own 0 [.slice none 0 0, .slice none 0 0])).put H5.size (.own 0 [.slice AN p.nodes.length cN, .slice AL p.links.length cL]) := ⟨_, rfl⟩
  have hpp6 : PartsP G6 H6 (.slice AN p.nodes.length cN) (.slice AL p.links.length cL) p.nodes p.links := by rw [hH6, hG6]; exact hpp5.boxed _ _
  have hle6 : ((((H.push (.own 0 [.slice A0 f.vars.length c0, .slice A1 f.order.length c1, .slice A2 f.parent.length c2, .slice A3 f.links.length c3, .slice A4 f.loops.length c4])).push (.own 0 [.slice B0 p.nodes.length d0, .slice B1 p.links.length d1])).push (.own 0 [.slice none 0 0, .slice none 0 0]))).le G6 := by
    rw [hG6]; exact Hp.le_put_new (Hp.le_push' hle5 _) (by simp; omega) _
  have k0 : G6.get H.size = .own 0 [.slice A0 f.vars.length c0, .slice A1 f.order.length c1, .slice A2 f.parent.length c2, .slice A3 f.links.length c3, .slice A4 f.loops.length c4] := le_got hle6 (by simp; omega) (by intro e; cases e) t_get
  have k2 : G6.get (H.size + 2) = .own 0 [.slice none 0 0, .slice none 0 0] := le_got hle6 (by simp) (by intro e; cases e) t_get
  have k5 : G6.get H5.size = .own 0 [.slice AN p.nodes.length cN, .slice AL p.links.length cL] := by rw [hG6]; exact Hp.put_same _ _ _
  have hz6 : G6.size = H5.size + 1 := by rw [hG6]; simp; omega
  have hzz6 := hpp6.size
  have hleH6 : H.le G6 := Hp.le_trans (Hp.le_push' (Hp.le_push' (H.le_push _) _) _) hle6
  have h0 := le_got hpp6.le (by omega) (by intro e; cases e) k0
  change ACode true _ _ _ _ _ ((H5.push (.own 0 [.slice none 0 0, .slice none 0 0])).put H5.size (.own 0 [.slice AN p.nodes.length cN, .slice AL p.links.length cL]))
  rw [← hH6]
  refine ac_region (by kernel_rfl) ?_
  refine aops_val (av_fieldOff (off := 1) rfl Try.underlying62 rfl inf29.size (by decide) rfl) ?_
  refine aops_val (av_load1 rfl Try.underlying29 rfl t_cell) ?_
  refine aops_val (av_len rfl Try.underlying29) ?_
  first | refine aops_val (av_move_int rfl) ?_ | refine aops_val (av_move rfl) ?_
  refine ac_block ?_
  refine ac_loop (fun n t H' => ∃ (k : Nat) (G' : Hp), k ≤ f.order.length ∧ n = f.order.length - k ∧ G6.le G' ∧ PartsP G' H' (.slice AN p.nodes.length cN) (.slice AL p.links.length cL) (downK f p k).nodes (downK f p k).links ∧ t 2 = .pointer (some ⟨H.size, 0, none⟩) ∧ t 4 = .pointer (some ⟨H.size + 2, 0, none⟩) ∧ t 5 = .pointer (some ⟨H5.size, 0, none⟩) ∧ t 12 = .slice A1 f.order.length c1 ∧ t 13 = .int .i64 f.order.length ∧ t 14 = .int .i64 k) (f.order.length) (⟨0, G6, by omega, rfl, Hp.le_refl _, hpp6, rfl, rfl, rfl, rfl, rfl, rfl⟩) ?_
  rintro n t H8 ⟨k, G8, hk, rfl, hle8', hpp8, e2, e4, e5, e12, e13, e14⟩
  have hfk := hfit.downK (f := f) k
  have hleH8 : H.le H8 := Hp.le_trans hleH6 (Hp.le_trans hle8' hpp8.le)
  have hz8 := hle8'.1
  have hg0 : H8.get H.size = _ := le_got (Hp.le_trans hle8' hpp8.le) (by omega) (by intro e; cases e) k0
  have kg5 : G8.get H5.size = _ := le_got hle8' (by omega) (by intro e; cases e) k5
  have hg5 : H8.get H5.size = _ := le_got hpp8.le (by omega) (by intro e; cases e) kg5
  have kg2 : G8.get (H.size + 2) = _ := le_got hle8' (by omega) (by intro e; cases e) k2
  have hg2 : H8.get (H.size + 2) = _ := le_got hpp8.le (by omega) (by intro e; cases e) kg2
  have hzz8 := hpp8.size
  refine ac_seq ?_
  refine ac_region (by kernel_rfl) ?_
  refine aops_val (av_lt (by first | assumption | rfl) (by first | assumption | rfl)) ?_
  refine ac_seq ?_
  refine ac_split rfl rfl ?_ ?_
  · intro hc1
    (try simp only [decide_eq_true_eq, decide_eq_false_iff_not, Bool.not_eq_true', Bool.not_eq_false'] at hc1)
    refine ac_skip ?_
    refine ac_seq ?_
    refine ac_block ?_
    refine ac_seq ?_
    refine ac_region (by kernel_rfl) ?_
    have hk' : k < f.order.length := by omega
    have hwm : f.order.getD k 0 ∈ f.order := by rw [getD_at hk']; exact List.getElem_mem hk'
    obtain ⟨b1, o1, rfl, hb1, hcell1⟩ := hs1.int_at (i := (k : Int)) (by omega) (by omega)
    rw [Int.toNat_natCast] at hcell1
    have hcell1' := hleH8.cell1 hb1 hcell1
    obtain ⟨w, hw⟩ : ∃ w : Nat, f.order.getD k 0 = (w : Int) := ⟨(f.order.getD k 0).toNat, by have := hg.order_in hwm; omega⟩
    have hwn : w < f.vars.length := by have := hg.order_in hwm; omega
    have hsucc := downK_succ f p hk'
    rw [hw, Int.toNat_natCast] at hsucc
    rw [hw] at hcell1'
    obtain ⟨b2, o2, rfl, hb2, hcell2⟩ := hs2.int_at (i := (w : Int)) (by omega) (by omega)
    rw [Int.toNat_natCast] at hcell2
    have hcell2' := hleH8.cell1 hb2 hcell2
    refine aops_val (av_indexAddr (by first | assumption | rfl) (by first | assumption | rfl) Try.underlying29 inf3.size t_idx t_idx) ?_
    refine aops_val (av_load1 rfl Try.underlying3 rfl t_cell) ?_
    first | refine aops_val (av_assign_int rfl) ?_ | refine aops_val (av_assign rfl) ?_
    refine ac_seq ?_
    refine ac_region (by kernel_rfl) ?_
    refine aops_val (av_fieldOff (off := 2) (by first | assumption | rfl) Try.underlying62 (by first | assumption | rfl) inf29.size (by decide) (by first | assumption | rfl)) ?_
    refine aops_val (av_load1 rfl Try.underlying29 rfl t_cell) ?_
    first | refine aops_val (av_move_int rfl) ?_ | refine aops_val (av_move rfl) ?_
    refine aops_val (av_indexAddr rfl rfl Try.underlying29 inf3.size t_idx t_idx) ?_
    refine aops_val (av_load1 rfl Try.underlying3 rfl t_cell) ?_
    first | refine aops_val (av_assign_int rfl) ?_ | refine aops_val (av_assign rfl) ?_
    refine ac_seq ?_
    refine ac_region (by kernel_rfl) ?_
    first | refine aops_val (av_move_int rfl) ?_ | refine aops_val (av_move rfl) ?_
    refine aops_val (av_ne rfl rfl) ?_
    refine ac_split rfl rfl ?_ ?_
    · intro hc2
      have hpar : f.parent.getD w 0 ≠ -1 := of_decide_eq_true hc2
      obtain ⟨u, hu⟩ : ∃ u : Nat, f.parent.getD w 0 = (u : Int) := ⟨(f.parent.getD w 0).toNat, by have := hg.parent_ge hwn; omega⟩
      have hun : u < f.vars.length := by have := hg.parent_ge hwn; omega
      have hstep : downStep f (downK f p k) w = ⟨keepStep (downK f p k).nodes w (endsL ((linksStep (downK f p k).nodes (downK f p k).links w u).getD w []) true), linksStep (downK f p k).nodes (downK f p k).links w u⟩ := by unfold downStep; rw [if_neg hpar, hu, Int.toNat_natCast]
      rw [hstep] at hsucc
      rw [hu]
      refine ac_seq ?_
      refine ac_region (by kernel_rfl) ?_
      first | refine aops_val (av_loadN (cs := [.slice _ _ _, .slice _ _ _]) (by first | assumption | rfl) Try.underlying65 (by first | assumption | rfl) inf65.size t_cells) ?_ | refine aops_val (av_loadN (cs := [_, _]) (by first | assumption | rfl) Try.underlying65 (by first | assumption | rfl) inf65.size t_cells) ?_
      first | refine aops_val (av_move_int rfl) ?_ | refine aops_val (av_move rfl) ?_
      first | refine aops_val (av_move_int rfl) ?_ | refine aops_val (av_move rfl) ?_
      refine aops_op (aop_call (links_parts (downK f p k).nodes (downK f p k).links _ _ w u _ _ hpp8 (by rw [hfk.n1, hfk.n2]) (by rw [hfk.n2]; exact hwn) (by rw [hfk.n2]; exact hun) hfk.s1 hfk.s2) rfl Try.func145 rfl rfl rfl ?_)
      rintro v9 H9 ⟨G9, hle9, hpp9, rfl⟩; have kg59 := le_got hle9 (by omega) (by intro e; cases e) kg5; have hz9 := hle9.1; have hzz9 := hpp9.size; have hg59 := le_got hpp9.le (by omega) (by intro e; cases e) kg59
      have hll9 : (linksStep (downK f p k).nodes (downK f p k).links w u).length = f.vars.length := by rw [linksStep_len, hfk.n2]
      obtain ⟨b9, c9, cs9, w9, e9, hb9, hgb9, hcell9, hcs9, hw9⟩ := hpp9.spotL (i := w) (by omega)
      injection e9 with e91 e92 e93
      subst e91
      obtain ⟨A9, c90, rfl⟩ := hw9.shape
      have gl9 := getD_list (by omega : w < (linksStep (downK f p k).nodes (downK f p k).links w u).length)
      have hs9 : (linksStep (downK f p k).nodes (downK f p k).links w u)[w].length ≤ 1000000 := by rw [← gl9]; exact getD_len (set_within hfk.s2 _ _ _) w
      refine ac_draw (by kernel_rfl) (reg_of (B := [0, 0, 0, 4, 0, 28, 60, 124, 255]) (π := [0, 1, 2, 3, 4, 5, 6, 7, 8]) (by kernel_rfl)) ?_
      first | refine adr_val rfl rfl (av_loadN (cs := [.slice _ _ _, .slice _ _ _]) (by first | assumption | rfl) Try.underlying65 (by first | assumption | rfl) inf65.size t_cells) t_lt ?_ | refine adr_val rfl rfl (av_loadN (cs := [_, _]) (by first | assumption | rfl) Try.underlying65 (by first | assumption | rfl) inf65.size t_cells) t_lt ?_
      first | refine adr_val rfl rfl (av_move_int rfl) t_lt ?_ | refine adr_val rfl rfl (av_move rfl) t_lt ?_
      refine adr_val rfl rfl (av_fieldOff (off := 1) (by first | assumption | rfl) Try.underlying65 (by first | assumption | rfl) inf63.size (by decide) (by first | assumption | rfl)) t_lt ?_
      refine adr_val rfl rfl (av_load1 rfl Try.underlying63 rfl t_cell) t_lt ?_
      first | refine adr_val rfl rfl (av_move_int rfl) t_lt ?_ | refine adr_val rfl rfl (av_move rfl) t_lt ?_
      refine adr_val rfl rfl (av_indexAddr rfl rfl Try.underlying63 inf22.size t_idx t_idx) t_lt ?_
      refine adr_val rfl rfl (av_load1 rfl Try.underlying22 rfl t_cell) t_lt ?_
      refine adr_op rfl rfl (aop_call (Ends_links (linksStep (downK f p k).nodes (downK f p k).links w u)[w] _ true _ hw9 hs9) rfl Try.func17 rfl rfl rfl ?_)
      rintro v10 H10 ⟨G10, hle10, hown10⟩; have hleC10 := Hp.le_trans hle10 hown10.le; obtain ⟨G10', hle10', hpp10⟩ := hpp9.after hleC10; have hzC10 := hleC10.1; obtain ⟨A10, c10, rfl⟩ := hown10.shape
      refine ⟨t_pend, ?_⟩
      refine adr_op rfl rfl (aop_call (keep_parts (downK f p k).nodes (linksStep (downK f p k).nodes (downK f p k).links w u) _ _ w _ _ _ _ hpp10 (by rw [hfk.n1]; exact hwn) hown10.sl (by have := endsL_len (linksStep (downK f p k).nodes (downK f p k).links w u)[w] true; omega) (endsL_sorted _ _) hfk.s1) rfl Try.func146 rfl rfl rfl ?_)
      rintro v11 H11 ⟨G11, hle11, hpp11, rfl⟩
      refine ⟨t_pend, ?_⟩
      refine ac_region (by kernel_rfl) ?_
      first | refine aops_val (av_add64 (by first | assumption | rfl) (by first | assumption | rfl) t_fits) ?_ | refine aops_val (av_add (by first | assumption | rfl) (by first | assumption | rfl)) ?_
      first | refine aops_val (av_move_int rfl) ?_ | refine aops_val (av_move rfl) ?_
      first
        | (rw [gl9] at hsucc
           refine ⟨f.order.length - (k + 1), by omega, k + 1, G11, by omega, rfl, Hp.le_trans hle8' (Hp.le_trans hle9 (Hp.le_trans hle10' hle11)), by rw [hsucc]; exact hpp11, e2, e4, e5, e12, e13, rfl⟩)
        | (refine ⟨f.order.length - (k + 1), by omega, k + 1, G8, by omega, rfl, hle8', by rw [hsucc]; exact hpp8, e2, e4, e5, e12, e13, rfl⟩)
    · intro hc2
      have hpar : f.parent.getD w 0 = -1 := by simpa using of_decide_eq_false hc2
      have hstep : downStep f (downK f p k) w = downK f p k := by unfold downStep; rw [if_pos hpar]
      rw [hstep] at hsucc
      refine ac_skip ?_
      refine ac_region (by kernel_rfl) ?_
      first | refine aops_val (av_add64 (by first | assumption | rfl) (by first | assumption | rfl) t_fits) ?_ | refine aops_val (av_add (by first | assumption | rfl) (by first | assumption | rfl)) ?_
      first | refine aops_val (av_move_int rfl) ?_ | refine aops_val (av_move rfl) ?_
      first
        | (rw [gl9] at hsucc
           refine ⟨f.order.length - (k + 1), by omega, k + 1, G11, by omega, rfl, Hp.le_trans hle8' (Hp.le_trans hle9 (Hp.le_trans hle10' hle11)), by rw [hsucc]; exact hpp11, e2, e4, e5, e12, e13, rfl⟩)
        | (refine ⟨f.order.length - (k + 1), by omega, k + 1, G8, by omega, rfl, hle8', by rw [hsucc]; exact hpp8, e2, e4, e5, e12, e13, rfl⟩)
  · intro hc1
    (try simp only [decide_eq_true_eq, decide_eq_false_iff_not, Bool.not_eq_true', Bool.not_eq_false'] at hc1)
    refine ac_exit ?_
    refine ac_seq ?_
    have hkn : k = f.order.length := by omega
    subst hkn
    rw [downK_all] at hpp8
    refine ac_region (by kernel_rfl) ?_
    first | refine aops_val (av_loadN (cs := [.slice _ _ _, .slice _ _ _]) (by first | assumption | rfl) Try.underlying65 (by first | assumption | rfl) inf65.size t_cells) ?_ | refine aops_val (av_loadN (cs := [_, _]) (by first | assumption | rfl) Try.underlying65 (by first | assumption | rfl) inf65.size t_cells) ?_
    first | refine aops_op (aop_putN (vs := [.slice _ _ _, .slice _ _ _]) (by first | assumption | rfl) (by first | assumption | rfl) inf65.size t_get t_room (by first | assumption | rfl) (by first | assumption | rfl) ?_) | refine aops_op (aop_putN (vs := [_, _]) (by first | assumption | rfl) (by first | assumption | rfl) inf65.size t_get t_room (by first | assumption | rfl) (by first | assumption | rfl) ?_)
    refine ac_ret ?_
    exact ⟨_, aresult1 (ares_cell (by first | assumption | rfl) (aload_agg (cs := [.slice AN p.nodes.length cN, .slice AL p.links.length cL]) Try.underlying65 rfl inf65.size t_cells)), _, _, _, Hp.le_put_new (Hp.le_trans hleH6 hle8') (by omega) _, rfl, hpp8.box_put (by omega) kg2 _⟩
end Go.Proofs.Ytnkjikpmgeknbaa.Am
