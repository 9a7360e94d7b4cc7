/- Lists of numbers: cut, cloned. -/
import Derived.Test.YtnkjikpmgeknbaaAmTy
import Derived.Test.YtnkjikpmgeknbaaAmOwn
namespace Go.Proofs.Ytnkjikpmgeknbaa.Am
open Go Go.RowKit
set_option maxRecDepth 100000
set_option linter.unusedVariables false
set_option linter.unusedSimpArgs false

theorem take_next {α : Type} {xs : List α} {i : Nat} (h : i < xs.length) : xs.take i ++ [xs[i]] = xs.take (i + 1) := (List.take_succ_eq_append_getElem h).symm
theorem Few_ints (xs : List Int) (v : Value) (m : Int) (H : Hp) (hs : Sl (kInt .i64) H v xs) (hl : xs.length ≤ 9223372036854775807) (h0 : 0 ≤ m) (h1 : m ≤ 1000000) :
    ACalls Try.prog 136 #[v, .int .i64 m] H (fun r H' => H.le H' ∧ Sl (kInt .i64) H' r (xs.take m.toNat)) := by
  obtain ⟨A, c, rfl⟩ := hs.shape
  refine acalls_of_code Try.func136 rfl rfl rfl (by simp) ?_
  refine ac_seq ?_
  refine ac_region (by kernel_rfl) ?_
  first | refine aops_val (av_assign_sl rfl) ?_ | refine aops_val (av_assign rfl) ?_
  refine ac_seq ?_
  refine ac_region (by kernel_rfl) ?_
  first | refine aops_make (am_buildSlice (r := []) Try.underlying29 inf3.size inf3.zero rfl (by decide) (by decide) (by decide) rfl) ?_
  first | refine aops_val (av_assign_sl rfl) ?_ | refine aops_val (av_assign rfl) ?_
  refine ac_seq ?_
  refine ac_seq ?_
  refine ac_region (by kernel_rfl) ?_
  first | refine aops_val (av_assign_int rfl) ?_ | refine aops_val (av_assign rfl) ?_
  refine ac_block ?_
  refine ac_loop (fun n t H' => ∃ (i : Nat) (G : Hp) (B : Option Addr) (c5 : Nat), i ≤ xs.length ∧ (i : Int) ≤ m ∧ n = xs.length - i ∧ H.le G ∧ OwnP (kInt .i64) G H' (.slice B i c5) (xs.take i) ∧ t 0 = .slice A xs.length c ∧ t 1 = .int .i64 m ∧ t 5 = .slice B i c5 ∧ t 6 = .int .i64 i) (_) (⟨0, H.push .dead, _, _, by omega, h0, rfl, H.le_push _, OwnP.lit (kInt .i64) H, rfl, rfl, rfl, rfl⟩) ?_
  rintro n t H1 ⟨i, G, B, c5, hi, him, rfl, hle, hown, e0, e1, e5, e6⟩
  refine ac_seq ?_
  refine ac_seq ?_
  refine ac_region (by kernel_rfl) ?_
  refine aops_val (av_move_int e6) ?_
  refine aops_val (av_move_sl e0) ?_
  refine aops_val (av_len rfl Try.underlying29) ?_
  refine aops_val (av_lt rfl rfl) ?_
  first | refine aops_val (av_move_bool rfl) ?_ | refine aops_val (av_move rfl) ?_
  refine aops_guard rfl rfl rfl ?_ ?_
  · intro hg1
    have hp1 := hg1; try simp only [decide_eq_true_eq, decide_eq_false_iff_not, Bool.not_eq_true', Bool.not_eq_false'] at hp1
    refine aops_wval (want_yes rfl rfl rfl hg1) (av_move_int e6) ?_
    refine aops_wval (want_yes rfl rfl rfl hg1) (av_move_int e1) ?_
    refine aops_wval (want_yes rfl rfl rfl hg1) (av_lt rfl rfl) ?_
    refine aops_val (av_pick_bool (congrArg Value.bool hg1) rfl) ?_
    refine ac_split rfl rfl ?_ ?_
    · intro hc2
      (try simp only [decide_eq_true_eq, decide_eq_false_iff_not, Bool.not_eq_true', Bool.not_eq_false'] at hc2)
      refine ac_skip ?_
      refine ac_seq ?_
      refine ac_block ?_
      refine ac_region (by kernel_rfl) ?_
      refine aops_val (av_move_sl e5) ?_
      refine aops_val (av_move_sl e0) ?_
      refine aops_val (av_move_int e6) ?_
      obtain ⟨b, o, rfl, hb, hcell⟩ := (hs.mono (hle.sees.trans hown.le.sees)).int_at (i := (i : Int)) (by omega) (by omega)
      refine aops_val (av_indexAddr rfl rfl Try.underlying29 inf3.size (by (first | assumption | omega | (simp only [Int.toNat_natCast] at *; omega))) (by (first | assumption | omega | (simp only [Int.toNat_natCast] at *; omega)))) ?_
      refine aops_val (av_load1 rfl Try.underlying3 rfl (by (first | assumption | exact (cell_own (by (repeat (first | assumption | exact Hp.push_new _ _ | exact Hp.put_same _ _ _ | refine (Hp.push_old _ _ (by (first | assumption | (simp; done) | (simp; omega) | omega))).trans ?_ | refine (Hp.put_other _ _ (by (first | assumption | omega | (simp; done) | (simp; omega)))).trans ?_ | refine le_got (by assumption) (by (first | assumption | (simp; done) | (simp; omega) | omega)) (by intro e; cases e) ?_)))).trans rfl | exact Hp.cell_le (by assumption) (by (repeat (first | assumption | exact Hp.le_refl _ | refine Hp.le_put_new ?_ (by first | (first | assumption | (simp; done) | (simp; omega) | omega) | exact (show Hp.le _ _ by assumption).1) _ | refine Hp.le_push' ?_ _ | refine Hp.le_trans ?_ (by assumption)))) (by (first | assumption | (simp; done) | (simp; omega) | omega))))) ?_
      first | refine aops_make (am_buildSlice (r := [.int .i64 _]) Try.underlying29 inf3.size inf3.zero rfl (by decide) (by decide) (by decide) rfl) ?_
      have hlen : (xs.take i).length = i := by rw [List.length_take]; omega
      refine aops_op (OwnP.append (ys := [xs.getD (i : Int).toNat 0]) (hown.push _) Try.underlying29 inf3 rfl rfl rfl (by rw [hown.size]; exact sl_int1) (by simp; omega) (by simp; omega) ?_)
      rintro v5 G' H2 hle' hown'
      obtain ⟨B', c', rfl⟩ := hown'.shape
      first | refine aops_val (av_assign_sl rfl) ?_ | refine aops_val (av_assign rfl) ?_
      refine ac_region (by kernel_rfl) ?_
      refine aops_val (av_move_int e6) ?_
      first | refine aops_val (av_add64 rfl rfl (by (first | assumption | omega | (simp; omega)))) ?_ | refine aops_val (av_add rfl rfl) ?_
      first | refine aops_val (av_assign_int rfl) ?_ | refine aops_val (av_assign rfl) ?_
      rw [Int.toNat_natCast, getD_at (show i < xs.length by omega), take_next (by omega)] at hown'
      have hlen2 : (xs.take (i + 1)).length = i + 1 := by rw [List.length_take]; omega
      rw [hlen2] at hown'
      refine ⟨xs.length - (i + 1), by omega, i + 1, G', B', c', by omega, by omega, rfl, Hp.le_trans (Hp.le_push' hle _) hle', hown', e0, e1, ?_, ?_⟩
      · show Value.slice B' _ c' = _
        congr 1
        simp; omega
      · rfl
    · intro hc2
      (try simp only [decide_eq_true_eq, decide_eq_false_iff_not, Bool.not_eq_true', Bool.not_eq_false'] at hc2)
      refine ac_exit ?_
      refine ac_seq ?_
      refine ac_region (by kernel_rfl) ?_
      refine aops_val (av_move_sl e5) ?_
      first | refine aops_val (av_assign_sl rfl) ?_ | refine aops_val (av_assign rfl) ?_
      refine ac_ret ?_
      refine ⟨.slice B i c5, aresult1 (ares_tmp rfl), Hp.le_trans hle hown.le, ?_⟩
      have : xs.take m.toNat = xs.take i := by
        rcases Nat.lt_or_ge i xs.length with h | h
        · have : ¬ (i : Int) < m := by simp_all
          rw [show m.toNat = i by omega]
        · rw [List.take_of_length_le (by omega), List.take_of_length_le (by omega)]
      rw [this]; exact hown.sl
  · intro hg1
    have hp1 := hg1; try simp only [decide_eq_true_eq, decide_eq_false_iff_not, Bool.not_eq_true', Bool.not_eq_false'] at hp1
    refine aops_skip (want_no rfl rfl rfl hg1 rfl) ?_
    refine aops_skip (want_no rfl rfl rfl hg1 rfl) ?_
    refine aops_skip (want_no rfl rfl rfl hg1 rfl) ?_
    refine aops_val (av_pick_bool (congrArg Value.bool hg1) (by first | assumption | rfl)) ?_
    refine ac_cond_false rfl rfl ?_
    refine ac_exit ?_
    refine ac_seq ?_
    refine ac_region (by kernel_rfl) ?_
    refine aops_val (av_move_sl e5) ?_
    first | refine aops_val (av_assign_sl rfl) ?_ | refine aops_val (av_assign rfl) ?_
    refine ac_ret ?_
    refine ⟨.slice B i c5, aresult1 (ares_tmp rfl), Hp.le_trans hle hown.le, ?_⟩
    have : xs.take m.toNat = xs.take i := by
      rcases Nat.lt_or_ge i xs.length with h | h
      · have : ¬ (i : Int) < m := by simp_all
        rw [show m.toNat = i by omega]
      · rw [List.take_of_length_le (by omega), List.take_of_length_le (by omega)]
    rw [this]; exact hown.sl
theorem Clone_ints (xs : List Int) (v : Value) (H : Hp) (hs : Sl (kInt .i64) H v xs) (hl : xs.length ≤ 1000000000) :
    ACalls Try.prog 90 #[v] H (fun r H' => H.le H' ∧ Sl (kInt .i64) H' r xs) := by
  rcases hs with ⟨rfl, rfl⟩ | ⟨b, o, c, rfl, hb, hk, hx⟩
  · skip
    refine acalls_of_code Try.func90 rfl rfl rfl (by simp) ?_
    refine ac_seq ?_
    refine ac_region (by kernel_rfl) ?_
    first | refine aops_val (av_assign_sl rfl) ?_ | refine aops_val (av_assign rfl) ?_
    refine ac_seq ?_
    refine ac_seq ?_
    refine ac_region (by kernel_rfl) ?_
    first | refine aops_val (av_move_sl rfl) ?_ | refine aops_val (av_move rfl) ?_
    refine aops_val (av_sl_eq_nil rfl rfl Try.underlying29) ?_
    refine ac_cond_true (rfl) rfl ?_
    refine ac_seq ?_
    refine ac_region (by kernel_rfl) ?_
    first | refine aops_val (av_assign_sl rfl) ?_ | refine aops_val (av_assign rfl) ?_
    refine ac_ret ?_
    exact ⟨.slice none 0 0, aresult1 (ares_tmp rfl), Hp.le_refl _, Sl.nil _ _⟩
  · have hs : Sl (kInt .i64) H (.slice (some ⟨b, o, none⟩) xs.length c) xs := .inr ⟨b, o, c, rfl, hb, hk, hx⟩
    skip
    refine acalls_of_code Try.func90 rfl rfl rfl (by simp) ?_
    refine ac_seq ?_
    refine ac_region (by kernel_rfl) ?_
    first | refine aops_val (av_assign_sl rfl) ?_ | refine aops_val (av_assign rfl) ?_
    refine ac_seq ?_
    refine ac_seq ?_
    refine ac_region (by kernel_rfl) ?_
    first | refine aops_val (av_move_sl rfl) ?_ | refine aops_val (av_move rfl) ?_
    refine aops_val (av_sl_eq_nil rfl rfl Try.underlying29) ?_
    refine ac_cond_false (rfl) rfl ?_
    refine ac_skip ?_
    refine ac_seq ?_
    refine ac_region (by kernel_rfl) ?_
    first | refine aops_make (am_buildSlice (r := []) Try.underlying29 inf3.size inf3.zero rfl (by decide) (by decide) (by decide) rfl) ?_
    first | refine aops_val (av_move_sl rfl) ?_ | refine aops_val (av_move rfl) ?_
    refine aops_op (OwnP.append (ys := xs) (OwnP.lit (kInt .i64) H) Try.underlying29 inf3 rfl rfl rfl (hs.mono (H.le_push _).sees) (by simp; omega) (by simp; omega) ?_)
    rintro v5 G' H2 hle' hown'
    rw [List.nil_append] at hown'
    obtain ⟨B', c', rfl⟩ := hown'.shape
    first | refine aops_val (av_assign_sl rfl) ?_ | refine aops_val (av_assign rfl) ?_
    refine ac_ret ?_
    exact ⟨.slice B' xs.length c', aresult1 (ares_tmp rfl), Hp.le_trans (Hp.le_trans (H.le_push _) hle') hown'.le, hown'.sl⟩
end Go.Proofs.Ytnkjikpmgeknbaa.Am
