/- Texts that the proof rests on, part 3: lemmas for every heap that is related to a world, no condition beyond each lemma's own. -/
import Derived.Test.YtnkjikpmgeknbaaRo2
namespace Go.Proofs.Ytnkjikpmgeknbaa.Am
open Go Go.RowKit
set_option maxRecDepth 100000
set_option linter.unusedVariables false
set_option linter.unusedSimpArgs false

theorem has_raw (xs : List Int) (v : Value) (m : Int) (H : Hp) (hs : Sl (kInt .i64) H v xs) (hl : xs.length ≤ 9223372036854775807) :
    ACalls Try.prog 140 #[v, .int .i64 m] H (fun r _ => r = .bool (decide (m ∈ xs))) := by
  obtain ⟨A, c, rfl⟩ := hs.shape
  refine acalls_of_code Try.func140 rfl rfl rfl (by simp) ?_
  refine ac_seq ?_
  refine ac_region (by kernel_rfl) ?_
  first | refine aops_val (av_assign_bool rfl) ?_ | refine aops_val (av_assign rfl) ?_
  refine ac_seq ?_
  refine ac_seq ?_
  refine ac_region (by kernel_rfl) ?_
  first | refine aops_val (av_assign_int rfl) ?_ | refine aops_val (av_assign rfl) ?_
  refine ac_block ?_
  refine ac_loop (fun n t H' => ∃ i : Nat, i ≤ xs.length ∧ n = xs.length - i ∧ H' = H ∧ m ∉ xs.take i ∧ t 0 = .slice A xs.length c ∧ t 1 = .int .i64 m ∧ t 5 = .int .i64 i) (xs.length) (⟨0, by omega, rfl, rfl, by simp, rfl, rfl, rfl⟩) ?_
  rintro n t _ ⟨i, hi, rfl, rfl, hno, e0, e1, e5⟩
  refine ac_seq ?_
  refine ac_seq ?_
  refine ac_region (by kernel_rfl) ?_
  first | refine aops_val (av_move_int (by first | assumption | rfl)) ?_ | refine aops_val (av_move (by first | assumption | rfl)) ?_
  first | refine aops_val (av_move_sl (by first | assumption | rfl)) ?_ | refine aops_val (av_move (by first | assumption | rfl)) ?_
  refine aops_val (av_len rfl Try.underlying29) ?_
  refine aops_val (av_lt rfl rfl) ?_
  refine ac_split rfl rfl ?_ ?_
  · intro hc1
    (try simp only [decide_eq_true_eq, decide_eq_false_iff_not, Bool.not_eq_true', Bool.not_eq_false'] at hc1)
    refine ac_skip ?_
    refine ac_seq ?_
    refine ac_block ?_
    refine ac_seq ?_
    refine ac_region (by kernel_rfl) ?_
    first | refine aops_val (av_move_sl (by first | assumption | rfl)) ?_ | refine aops_val (av_move (by first | assumption | rfl)) ?_
    first | refine aops_val (av_move_int (by first | assumption | rfl)) ?_ | refine aops_val (av_move (by first | assumption | rfl)) ?_
    have hix : i < xs.length := by omega
    obtain ⟨b, o, rfl, hb, hcell1⟩ := hs.int_at (i := (i : Int)) (by omega) (by omega)
    have hgi : xs.getD (i : Int).toNat 0 = xs[i] := by rw [Int.toNat_natCast]; exact getD_at hix
    refine aops_val (av_indexAddr rfl rfl Try.underlying29 inf3.size t_idx t_idx) ?_
    refine aops_val (av_load1 rfl Try.underlying3 rfl t_cell) ?_
    first | refine aops_val (av_move_int (by first | assumption | rfl)) ?_ | refine aops_val (av_move (by first | assumption | rfl)) ?_
    refine aops_val (av_eq rfl rfl) ?_
    refine ac_split rfl rfl ?_ ?_
    · intro hc2
      (try simp only [decide_eq_true_eq, decide_eq_false_iff_not, Bool.not_eq_true', Bool.not_eq_false'] at hc2)
      refine ac_seq ?_
      refine ac_region (by kernel_rfl) ?_
      first | refine aops_val (av_assign_bool rfl) ?_ | refine aops_val (av_assign rfl) ?_
      refine ac_ret ?_
      refine ⟨.bool true, aresult1 (ares_tmp rfl), ?_⟩
      have e : xs.getD (i : Int).toNat 0 = m := by simp_all
      rw [decide_eq_true]; rw [← e, hgi]; exact List.getElem_mem _
    · intro hc2
      have hne : xs[i] ≠ m := by rw [← hgi]; simpa using hc2
      refine ac_skip ?_
      refine ac_region (by kernel_rfl) ?_
      first | refine aops_val (av_move_int (by first | assumption | rfl)) ?_ | refine aops_val (av_move (by first | assumption | rfl)) ?_
      first | refine aops_val (av_add64 rfl rfl t_fits) ?_ | refine aops_val (av_add rfl rfl) ?_
      first | refine aops_val (av_assign_int rfl) ?_ | refine aops_val (av_assign rfl) ?_
      exact ⟨xs.length - (i + 1), by omega, i + 1, by omega, rfl, rfl, by rw [← take_next hix]; simp only [List.mem_append, List.mem_singleton, not_or]; exact ⟨hno, fun e => hne e.symm⟩, e0, e1, rfl⟩
  · intro hc1
    (try simp only [decide_eq_true_eq, decide_eq_false_iff_not, Bool.not_eq_true', Bool.not_eq_false'] at hc1)
    refine ac_exit ?_
    refine ac_seq ?_
    refine ac_region (by kernel_rfl) ?_
    first | refine aops_val (av_assign_bool rfl) ?_ | refine aops_val (av_assign rfl) ?_
    refine ac_ret ?_
    refine ⟨.bool false, aresult1 (ares_tmp rfl), ?_⟩
    rw [List.take_of_length_le (by omega)] at hno
    rw [decide_eq_false hno]
theorem has_ints (xs : List Int) (v : Value) (m : Int) (H : Hp) (hs : Sl (kInt .i64) H v xs) (hl : xs.length ≤ 9223372036854775807) :
    ACalls Try.prog 140 #[v, .int .i64 m] H (fun r H' => r = .bool (decide (m ∈ xs)) ∧ H' = H) :=
  ACalls.pure (fun v h => by rw [h]; rfl) (has_raw xs v m H.ro (hs.mono H.sees_ro) hl)
/-- What is asked of a forest's i-th variable. -/
def OkF (f : Forest) (i : Nat) : Prop := 0 ≤ f.order.getD i 0 ∧ f.order.getD i 0 < f.vars.length ∧ f.order.getD i 0 ∉ f.order.take i ∧ (f.parent.getD (f.order.getD i 0).toNat 0 = -1 ∨ f.parent.getD (f.order.getD i 0).toNat 0 ∈ f.order.take i)
structure GoodF (f : Forest) : Prop where
  l1 : f.order.length = f.vars.length
  l2 : f.parent.length = f.vars.length
  l3 : f.links.length = f.vars.length
  l4 : f.loops.length = f.vars.length
  ok : ∀ i, i < f.vars.length → OkF f i
theorem GoodF_ref_raw (f : Forest) (cs : List Value) (H : Hp) (hp : kForest.rep H f cs) (hl0 : f.vars.length ≤ 1000000) (hl1 : f.order.length ≤ 1000000) (hl2 : f.parent.length ≤ 1000000) :
    ACalls Try.prog 98 #[.agg cs.toArray] H (fun r _ => ∃ g, r = .bool g ∧ (g = true ↔ GoodF f)) := by
  obtain ⟨v0, v1, v2, v3, v4, rfl, hs0, hs1, hs2, hs3, hs4⟩ := hp
  obtain ⟨A0, c0, rfl⟩ := hs0.shape
  obtain ⟨A1, c1, rfl⟩ := hs1.shape
  obtain ⟨A2, c2, rfl⟩ := hs2.shape
  obtain ⟨A3, c3, rfl⟩ := hs3.shape
  obtain ⟨A4, c4, rfl⟩ := hs4.shape
  refine acalls_of_code Try.func98 rfl rfl rfl (by simp) ?_
  refine ac_seq ?_
  refine ac_region (by kernel_rfl) ?_
  refine aops_make (am_box_agg rfl) ?_
  first | refine aops_val (av_assign_bool rfl) ?_ | refine aops_val (av_assign rfl) ?_
  refine ac_seq ?_
  refine ac_region (by kernel_rfl) ?_
  refine aops_val (av_fieldOff (off := 0) rfl Try.underlying62 rfl inf59.size (by decide) rfl) ?_
  refine aops_val (av_load1 rfl Try.underlying59 rfl t_cell) ?_
  refine aops_val (av_len rfl Try.underlying59) ?_
  first | refine aops_val (av_assign_int rfl) ?_ | refine aops_val (av_assign rfl) ?_
  refine ac_seq ?_
  refine ac_seq ?_
  refine ac_region (by kernel_rfl) ?_
  refine aops_val (av_fieldOff (off := 1) rfl Try.underlying62 rfl inf29.size (by decide) rfl) ?_
  refine aops_val (av_load1 rfl Try.underlying29 rfl t_cell) ?_
  refine aops_val (av_len rfl Try.underlying29) ?_
  first | refine aops_val (av_move_int rfl) ?_ | refine aops_val (av_move rfl) ?_
  refine aops_val (av_ne rfl rfl) ?_
  first | refine aops_val (av_move_bool rfl) ?_ | refine aops_val (av_move rfl) ?_
  refine aops_guard rfl rfl rfl ?_ ?_
  · intro hg1
    have hp1 := hg1; try simp only [decide_eq_true_eq, decide_eq_false_iff_not, Bool.not_eq_true', Bool.not_eq_false'] at hp1
    refine aops_skip (want_no rfl rfl rfl hg1 rfl) ?_
    refine aops_skip (want_no rfl rfl rfl hg1 rfl) ?_
    refine aops_skip (want_no rfl rfl rfl hg1 rfl) ?_
    refine aops_skip (want_no rfl rfl rfl hg1 rfl) ?_
    refine aops_skip (want_no rfl rfl rfl hg1 rfl) ?_
    refine aops_val (av_pick_bool (congrArg Value.bool hg1) rfl) ?_
    first | refine aops_val (av_move_bool rfl) ?_ | refine aops_val (av_move rfl) ?_
    refine aops_skip (want_no rfl rfl rfl rfl rfl) ?_
    refine aops_skip (want_no rfl rfl rfl rfl rfl) ?_
    refine aops_skip (want_no rfl rfl rfl rfl rfl) ?_
    refine aops_skip (want_no rfl rfl rfl rfl rfl) ?_
    refine aops_skip (want_no rfl rfl rfl rfl rfl) ?_
    refine aops_val (av_pick_bool (congrArg Value.bool rfl) rfl) ?_
    first | refine aops_val (av_move_bool rfl) ?_ | refine aops_val (av_move rfl) ?_
    refine aops_skip (want_no rfl rfl rfl rfl rfl) ?_
    refine aops_skip (want_no rfl rfl rfl rfl rfl) ?_
    refine aops_skip (want_no rfl rfl rfl rfl rfl) ?_
    refine aops_skip (want_no rfl rfl rfl rfl rfl) ?_
    refine aops_skip (want_no rfl rfl rfl rfl rfl) ?_
    refine aops_val (av_pick_bool (congrArg Value.bool rfl) rfl) ?_
    refine ac_cond_true rfl rfl ?_
    refine ac_seq ?_
    refine ac_region (by kernel_rfl) ?_
    first | refine aops_val (av_assign_bool rfl) ?_ | refine aops_val (av_assign rfl) ?_
    refine ac_ret ?_
    refine ⟨.bool false, aresult1 (ares_tmp rfl), false, rfl, fun h => (by cases h), fun hG => ?_⟩
    exfalso
    have q1 := hG.l1; have q2 := hG.l2; have q3 := hG.l3; have q4 := hG.l4
    first | omega | simp_all
  · intro hg1
    have hp1 := hg1; try simp only [decide_eq_true_eq, decide_eq_false_iff_not, Bool.not_eq_true', Bool.not_eq_false'] at hp1
    refine aops_wval (want_yes rfl rfl rfl hg1) (av_fieldOff (off := 2) rfl Try.underlying62 rfl inf29.size (by decide) rfl) ?_
    refine aops_wval (want_yes rfl rfl rfl hg1) (av_load1 rfl Try.underlying29 rfl t_cell) ?_
    refine aops_wval (want_yes rfl rfl rfl hg1) (av_len rfl Try.underlying29) ?_
    first | refine aops_wval (want_yes rfl rfl rfl hg1) (av_move_int rfl) ?_ | refine aops_wval (want_yes rfl rfl rfl hg1) (av_move rfl) ?_
    refine aops_wval (want_yes rfl rfl rfl hg1) (av_ne rfl rfl) ?_
    refine aops_val (av_pick_bool (congrArg Value.bool hg1) rfl) ?_
    first | refine aops_val (av_move_bool rfl) ?_ | refine aops_val (av_move rfl) ?_
    refine aops_guard rfl rfl rfl ?_ ?_
    · intro hg3
      have hp3 := hg3; try simp only [decide_eq_true_eq, decide_eq_false_iff_not, Bool.not_eq_true', Bool.not_eq_false'] at hp3
      refine aops_skip (want_no rfl rfl rfl hg3 rfl) ?_
      refine aops_skip (want_no rfl rfl rfl hg3 rfl) ?_
      refine aops_skip (want_no rfl rfl rfl hg3 rfl) ?_
      refine aops_skip (want_no rfl rfl rfl hg3 rfl) ?_
      refine aops_skip (want_no rfl rfl rfl hg3 rfl) ?_
      refine aops_val (av_pick_bool (congrArg Value.bool hg3) rfl) ?_
      first | refine aops_val (av_move_bool rfl) ?_ | refine aops_val (av_move rfl) ?_
      refine aops_skip (want_no rfl rfl rfl rfl rfl) ?_
      refine aops_skip (want_no rfl rfl rfl rfl rfl) ?_
      refine aops_skip (want_no rfl rfl rfl rfl rfl) ?_
      refine aops_skip (want_no rfl rfl rfl rfl rfl) ?_
      refine aops_skip (want_no rfl rfl rfl rfl rfl) ?_
      refine aops_val (av_pick_bool (congrArg Value.bool rfl) rfl) ?_
      refine ac_cond_true rfl rfl ?_
      refine ac_seq ?_
      refine ac_region (by kernel_rfl) ?_
      first | refine aops_val (av_assign_bool rfl) ?_ | refine aops_val (av_assign rfl) ?_
      refine ac_ret ?_
      refine ⟨.bool false, aresult1 (ares_tmp rfl), false, rfl, fun h => (by cases h), fun hG => ?_⟩
      exfalso
      have q1 := hG.l1; have q2 := hG.l2; have q3 := hG.l3; have q4 := hG.l4
      first | omega | simp_all
    · intro hg3
      have hp3 := hg3; try simp only [decide_eq_true_eq, decide_eq_false_iff_not, Bool.not_eq_true', Bool.not_eq_false'] at hp3
      refine aops_wval (want_yes rfl rfl rfl hg3) (av_fieldOff (off := 3) rfl Try.underlying62 rfl inf60.size (by decide) rfl) ?_
      refine aops_wval (want_yes rfl rfl rfl hg3) (av_load1 rfl Try.underlying60 rfl t_cell) ?_
      refine aops_wval (want_yes rfl rfl rfl hg3) (av_len rfl Try.underlying60) ?_
      first | refine aops_wval (want_yes rfl rfl rfl hg3) (av_move_int rfl) ?_ | refine aops_wval (want_yes rfl rfl rfl hg3) (av_move rfl) ?_
      refine aops_wval (want_yes rfl rfl rfl hg3) (av_ne rfl rfl) ?_
      refine aops_val (av_pick_bool (congrArg Value.bool hg3) rfl) ?_
      first | refine aops_val (av_move_bool rfl) ?_ | refine aops_val (av_move rfl) ?_
      refine aops_guard rfl rfl rfl ?_ ?_
      · intro hg5
        have hp5 := hg5; try simp only [decide_eq_true_eq, decide_eq_false_iff_not, Bool.not_eq_true', Bool.not_eq_false'] at hp5
        refine aops_skip (want_no rfl rfl rfl hg5 rfl) ?_
        refine aops_skip (want_no rfl rfl rfl hg5 rfl) ?_
        refine aops_skip (want_no rfl rfl rfl hg5 rfl) ?_
        refine aops_skip (want_no rfl rfl rfl hg5 rfl) ?_
        refine aops_skip (want_no rfl rfl rfl hg5 rfl) ?_
        refine aops_val (av_pick_bool (congrArg Value.bool hg5) rfl) ?_
        refine ac_cond_true rfl rfl ?_
        refine ac_seq ?_
        refine ac_region (by kernel_rfl) ?_
        first | refine aops_val (av_assign_bool rfl) ?_ | refine aops_val (av_assign rfl) ?_
        refine ac_ret ?_
        refine ⟨.bool false, aresult1 (ares_tmp rfl), false, rfl, fun h => (by cases h), fun hG => ?_⟩
        exfalso
        have q1 := hG.l1; have q2 := hG.l2; have q3 := hG.l3; have q4 := hG.l4
        first | omega | simp_all
      · intro hg5
        have hp5 := hg5; try simp only [decide_eq_true_eq, decide_eq_false_iff_not, Bool.not_eq_true', Bool.not_eq_false'] at hp5
        refine aops_wval (want_yes rfl rfl rfl hg5) (av_fieldOff (off := 4) rfl Try.underlying62 rfl inf60.size (by decide) rfl) ?_
        refine aops_wval (want_yes rfl rfl rfl hg5) (av_load1 rfl Try.underlying60 rfl t_cell) ?_
        refine aops_wval (want_yes rfl rfl rfl hg5) (av_len rfl Try.underlying60) ?_
        first | refine aops_wval (want_yes rfl rfl rfl hg5) (av_move_int rfl) ?_ | refine aops_wval (want_yes rfl rfl rfl hg5) (av_move rfl) ?_
        refine aops_wval (want_yes rfl rfl rfl hg5) (av_ne rfl rfl) ?_
        refine aops_val (av_pick_bool (congrArg Value.bool hg5) rfl) ?_
        refine ac_split rfl rfl ?_ ?_
        · intro hc7
          (try simp only [decide_eq_true_eq, decide_eq_false_iff_not, Bool.not_eq_true', Bool.not_eq_false'] at hc7)
          refine ac_seq ?_
          refine ac_region (by kernel_rfl) ?_
          first | refine aops_val (av_assign_bool rfl) ?_ | refine aops_val (av_assign rfl) ?_
          refine ac_ret ?_
          refine ⟨.bool false, aresult1 (ares_tmp rfl), false, rfl, fun h => (by cases h), fun hG => ?_⟩
          exfalso
          have q1 := hG.l1; have q2 := hG.l2; have q3 := hG.l3; have q4 := hG.l4
          first | omega | simp_all
        · intro hc7
          have hlens : f.order.length = f.vars.length ∧ f.parent.length = f.vars.length ∧ f.links.length = f.vars.length ∧ f.loops.length = f.vars.length := by
            have hc7' := of_decide_eq_false hc7
            refine ⟨?_, ?_, ?_, ?_⟩ <;> omega
          refine ac_skip ?_
          refine ac_seq ?_
          refine ac_seq ?_
          refine ac_region (by kernel_rfl) ?_
          first | refine aops_val (av_assign_int rfl) ?_ | refine aops_val (av_assign rfl) ?_
          refine ac_block ?_
          refine ac_loop (fun n t H' => ∃ i : Nat, i ≤ f.vars.length ∧ n = f.vars.length - i ∧ H' = H.push (.own 0 [.slice A0 f.vars.length c0, .slice A1 f.order.length c1, .slice A2 f.parent.length c2, .slice A3 f.links.length c3, .slice A4 f.loops.length c4]) ∧ (∀ j, j < i → OkF f j) ∧ t 1 = .pointer (some ⟨H.size, 0, none⟩) ∧ t 3 = .int .i64 f.vars.length ∧ t 4 = .int .i64 i) (f.vars.length) (⟨0, by omega, rfl, rfl, fun j h => by omega, rfl, rfl, rfl⟩) ?_
          rintro n t _ ⟨i, hi, rfl, rfl, hok, e1, e3, e4⟩
          refine ac_seq ?_
          refine ac_seq ?_
          refine ac_region (by kernel_rfl) ?_
          first | refine aops_val (av_move_int (by first | assumption | rfl)) ?_ | refine aops_val (av_move (by first | assumption | rfl)) ?_
          first | refine aops_val (av_move_int (by first | assumption | rfl)) ?_ | refine aops_val (av_move (by first | assumption | rfl)) ?_
          refine aops_val (av_lt rfl rfl) ?_
          refine ac_split rfl rfl ?_ ?_
          · intro hc8
            (try simp only [decide_eq_true_eq, decide_eq_false_iff_not, Bool.not_eq_true', Bool.not_eq_false'] at hc8)
            refine ac_skip ?_
            refine ac_seq ?_
            refine ac_block ?_
            refine ac_seq ?_
            have hix : i < f.vars.length := by omega
            have hix1 : i < f.order.length := by omega
            have hs1' := hs1.mono (H.le_push (.own 0 [.slice A0 f.vars.length c0, .slice A1 f.order.length c1, .slice A2 f.parent.length c2, .slice A3 f.links.length c3, .slice A4 f.loops.length c4])).sees
            have hs2' := hs2.mono (H.le_push (.own 0 [.slice A0 f.vars.length c0, .slice A1 f.order.length c1, .slice A2 f.parent.length c2, .slice A3 f.links.length c3, .slice A4 f.loops.length c4])).sees
            obtain ⟨A9, c9, S9, hsl9, hS9, hop9⟩ := hs1'.takes (i := i) (by omega)
            obtain ⟨b, o, rfl, hb, hcell1⟩ := hs1'.int_at (i := (i : Int)) (by omega) (by omega)
            obtain ⟨m, hm⟩ : ∃ m, m = f.order.getD (i : Int).toNat 0 := ⟨_, rfl⟩
            rw [← hm] at hcell1
            have hmi : f.order.getD i 0 = m := by rw [hm, Int.toNat_natCast]
            refine ac_region (by kernel_rfl) ?_
            refine aops_val (av_fieldOff (off := 1) (by first | assumption | rfl) Try.underlying62 (by first | assumption | rfl) inf29.size (by decide) (by first | assumption | rfl)) ?_
            refine aops_val (av_load1 rfl Try.underlying29 rfl t_cell) ?_
            first | refine aops_val (av_move_int (by first | assumption | rfl)) ?_ | refine aops_val (av_move (by first | assumption | rfl)) ?_
            refine aops_val (av_indexAddr rfl rfl Try.underlying29 inf3.size t_idx t_idx) ?_
            refine aops_val (av_load1 rfl Try.underlying3 rfl t_cell) ?_
            first | refine aops_val (av_assign_int rfl) ?_ | refine aops_val (av_assign rfl) ?_
            refine ac_seq ?_
            refine ac_seq ?_
            refine ac_region (by kernel_rfl) ?_
            first | refine aops_val (av_move_int rfl) ?_ | refine aops_val (av_move rfl) ?_
            refine aops_val (av_lt rfl rfl) ?_
            first | refine aops_val (av_move_bool rfl) ?_ | refine aops_val (av_move rfl) ?_
            refine aops_guard rfl rfl rfl ?_ ?_
            · intro hg9
              have hp9 := hg9; try simp only [decide_eq_true_eq, decide_eq_false_iff_not, Bool.not_eq_true', Bool.not_eq_false'] at hp9
              refine aops_skip (want_no rfl rfl rfl hg9 rfl) ?_
              refine aops_skip (want_no rfl rfl rfl hg9 rfl) ?_
              refine aops_skip (want_no rfl rfl rfl hg9 rfl) ?_
              refine aops_val (av_pick_bool (congrArg Value.bool hg9) (by first | assumption | rfl)) ?_
              first | refine aops_val (av_move_bool rfl) ?_ | refine aops_val (av_move rfl) ?_
              refine aops_skip (want_no rfl rfl rfl rfl rfl) ?_
              refine aops_skip (want_no rfl rfl rfl rfl rfl) ?_
              refine aops_skip (want_no rfl rfl rfl rfl rfl) ?_
              refine aops_skip (want_no rfl rfl rfl rfl rfl) ?_
              refine aops_skip (want_no rfl rfl rfl rfl rfl) ?_
              refine aops_skip (want_no rfl rfl rfl rfl rfl) ?_
              refine aops_val (av_pick_bool (congrArg Value.bool (by first | assumption | rfl)) (by first | assumption | rfl)) ?_
              refine ac_cond_true rfl rfl ?_
              refine ac_seq ?_
              refine ac_region (by kernel_rfl) ?_
              first | refine aops_val (av_assign_bool rfl) ?_ | refine aops_val (av_assign rfl) ?_
              refine ac_ret ?_
              refine ⟨.bool false, aresult1 (ares_tmp rfl), false, rfl, fun h => (by cases h), fun hG => ?_⟩
              obtain ⟨q1, q2, q3, q4⟩ := hG.ok i hix
              rw [hmi] at q1 q2 q3 q4
              exfalso
              first | omega | simp_all
            · intro hg9
              have hp9 := hg9; try simp only [decide_eq_true_eq, decide_eq_false_iff_not, Bool.not_eq_true', Bool.not_eq_false'] at hp9
              first | refine aops_wval (want_yes rfl rfl rfl hg9) (av_move_int rfl) ?_ | refine aops_wval (want_yes rfl rfl rfl hg9) (av_move rfl) ?_
              first | refine aops_wval (want_yes rfl rfl rfl hg9) (av_move_int (by first | assumption | rfl)) ?_ | refine aops_wval (want_yes rfl rfl rfl hg9) (av_move (by first | assumption | rfl)) ?_
              refine aops_wval (want_yes rfl rfl rfl hg9) (av_ge rfl rfl) ?_
              refine aops_val (av_pick_bool (congrArg Value.bool hg9) rfl) ?_
              first | refine aops_val (av_move_bool rfl) ?_ | refine aops_val (av_move rfl) ?_
              refine aops_guard rfl rfl rfl ?_ ?_
              · intro hg11
                have hp11 := hg11; try simp only [decide_eq_true_eq, decide_eq_false_iff_not, Bool.not_eq_true', Bool.not_eq_false'] at hp11
                refine aops_skip (want_no rfl rfl rfl hg11 rfl) ?_
                refine aops_skip (want_no rfl rfl rfl hg11 rfl) ?_
                refine aops_skip (want_no rfl rfl rfl hg11 rfl) ?_
                refine aops_skip (want_no rfl rfl rfl hg11 rfl) ?_
                refine aops_skip (want_no rfl rfl rfl hg11 rfl) ?_
                refine aops_skip (want_no rfl rfl rfl hg11 rfl) ?_
                refine aops_val (av_pick_bool (congrArg Value.bool hg11) (by first | assumption | rfl)) ?_
                refine ac_cond_true rfl rfl ?_
                refine ac_seq ?_
                refine ac_region (by kernel_rfl) ?_
                first | refine aops_val (av_assign_bool rfl) ?_ | refine aops_val (av_assign rfl) ?_
                refine ac_ret ?_
                refine ⟨.bool false, aresult1 (ares_tmp rfl), false, rfl, fun h => (by cases h), fun hG => ?_⟩
                obtain ⟨q1, q2, q3, q4⟩ := hG.ok i hix
                rw [hmi] at q1 q2 q3 q4
                exfalso
                first | omega | simp_all
              · intro hg11
                have hp11 := hg11; try simp only [decide_eq_true_eq, decide_eq_false_iff_not, Bool.not_eq_true', Bool.not_eq_false'] at hp11
                refine aops_wval (want_yes rfl rfl rfl hg11) (av_fieldOff (off := 1) (by first | assumption | rfl) Try.underlying62 (by first | assumption | rfl) inf29.size (by decide) (by first | assumption | rfl)) ?_
                refine aops_wval (want_yes rfl rfl rfl hg11) (av_load1 rfl Try.underlying29 rfl t_cell) ?_
                first | refine aops_wval (want_yes rfl rfl rfl hg11) (av_move_int (by first | assumption | rfl)) ?_ | refine aops_wval (want_yes rfl rfl rfl hg11) (av_move (by first | assumption | rfl)) ?_
                refine aops_wval (want_yes rfl rfl rfl hg11) (hop9 _ _ _ _ _ _ _ _ _ _ _ _ _ (Hp.le_refl _) (by first | rfl | assumption) Try.underlying29 inf3.size (by first | rfl | assumption)) ?_
                first | refine aops_wval (want_yes rfl rfl rfl hg11) (av_move_int rfl) ?_ | refine aops_wval (want_yes rfl rfl rfl hg11) (av_move rfl) ?_
                refine aops_want (want_yes rfl rfl rfl hg11) (aop_call (has_ints _ _ m _ hsl9 (by rw [List.length_take]; omega)) rfl Try.func140 rfl rfl rfl ?_)
                rintro v H ⟨rfl, rfl⟩
                refine aops_val (av_pick_bool (congrArg Value.bool hg11) rfl) ?_
                refine ac_split rfl rfl ?_ ?_
                · intro hc13
                  (try simp only [decide_eq_true_eq, decide_eq_false_iff_not, Bool.not_eq_true', Bool.not_eq_false'] at hc13)
                  refine ac_seq ?_
                  refine ac_region (by kernel_rfl) ?_
                  first | refine aops_val (av_assign_bool rfl) ?_ | refine aops_val (av_assign rfl) ?_
                  refine ac_ret ?_
                  refine ⟨.bool false, aresult1 (ares_tmp rfl), false, rfl, fun h => (by cases h), fun hG => ?_⟩
                  obtain ⟨q1, q2, q3, q4⟩ := hG.ok i hix
                  rw [hmi] at q1 q2 q3 q4
                  exfalso
                  first | omega | simp_all
                · intro hc13
                  (try simp only [decide_eq_true_eq, decide_eq_false_iff_not, Bool.not_eq_true', Bool.not_eq_false'] at hc13)
                  refine ac_skip ?_
                  refine ac_seq ?_
                  have hm0 : 0 ≤ m ∧ m < f.vars.length := by first | omega | (constructor <;> simp_all; done) | (simp_all; omega)
                  have hmn : m ∉ f.order.take i := by simp_all
                  obtain ⟨b2, o2, rfl, hb2, hcell2⟩ := hs2'.int_at (i := m) (by omega) (by omega)
                  have hb2' : b2 < H.size + 1 := hb2
                  obtain ⟨q, hq⟩ : ∃ q, q = f.parent.getD m.toNat 0 := ⟨_, rfl⟩
                  rw [← hq] at hcell2
                  refine ac_draw (by kernel_rfl) (reg_of (B := [0, 1, 0, 7, 15, 31, 63, 127, 255, 127, 1023, 127, 2175, 127, 14463, 30847, 65535, 131071, 262143]) (π := [0, 1, 2, 3, 4, 5, 6, 7, 8, 9, 10, 11, 12, 13, 14, 15, 16, 17, 18]) (by kernel_rfl)) ?_
                  refine adr_val rfl rfl (av_fieldOff (off := 2) (by first | assumption | rfl) Try.underlying62 (by first | assumption | rfl) inf29.size (by decide) (by first | assumption | rfl)) t_lt ?_
                  refine adr_val rfl rfl (av_load1 rfl Try.underlying29 rfl t_cell) t_lt ?_
                  first | refine adr_val rfl rfl (av_move_int rfl) t_lt ?_ | refine adr_val rfl rfl (av_move rfl) t_lt ?_
                  refine adr_val rfl rfl (av_indexAddr rfl rfl Try.underlying29 inf3.size t_idx t_idx) t_lt ?_
                  refine adr_val rfl rfl (av_load1 rfl Try.underlying3 rfl t_cell) t_lt ?_
                  refine adr_val rfl rfl (av_ne rfl rfl) t_lt ?_
                  first | refine adr_val rfl rfl (av_move_bool rfl) t_lt ?_ | refine adr_val rfl rfl (av_move rfl) t_lt ?_
                  refine adr_guard rfl rfl rfl rfl ?_ ?_
                  · intro hg14
                    have hp14 := hg14; try simp only [decide_eq_true_eq, decide_eq_false_iff_not, Bool.not_eq_true', Bool.not_eq_false'] at hp14
                    refine adr_wval rfl (want_yes rfl rfl rfl hg14) rfl (av_fieldOff (off := 1) (by first | assumption | rfl) Try.underlying62 (by first | assumption | rfl) inf29.size (by decide) (by first | assumption | rfl)) t_lt ?_
                    refine adr_wval rfl (want_yes rfl rfl rfl hg14) rfl (av_load1 rfl Try.underlying29 rfl t_cell) t_lt ?_
                    first | refine adr_wval rfl (want_yes rfl rfl rfl hg14) rfl (av_move_int (by first | assumption | rfl)) t_lt ?_ | refine adr_wval rfl (want_yes rfl rfl rfl hg14) rfl (av_move (by first | assumption | rfl)) t_lt ?_
                    refine adr_wval rfl (want_yes rfl rfl rfl hg14) rfl (hop9 _ _ _ _ _ _ _ _ _ _ _ _ _ (Hp.le_refl _) (by first | rfl | assumption) Try.underlying29 inf3.size (by first | rfl | assumption)) (fun b hb => (hS9 b hb).1) ?_
                    refine adr_wval rfl (want_yes rfl rfl rfl hg14) rfl (av_fieldOff (off := 2) (by first | assumption | rfl) Try.underlying62 (by first | assumption | rfl) inf29.size (by decide) (by first | assumption | rfl)) t_lt ?_
                    refine adr_wval rfl (want_yes rfl rfl rfl hg14) rfl (av_load1 rfl Try.underlying29 rfl t_cell) t_lt ?_
                    first | refine adr_wval rfl (want_yes rfl rfl rfl hg14) rfl (av_move_int rfl) t_lt ?_ | refine adr_wval rfl (want_yes rfl rfl rfl hg14) rfl (av_move rfl) t_lt ?_
                    refine adr_wval rfl (want_yes rfl rfl rfl hg14) rfl (av_indexAddr rfl rfl Try.underlying29 inf3.size t_idx t_idx) t_lt ?_
                    refine adr_wval rfl (want_yes rfl rfl rfl hg14) rfl (av_load1 rfl Try.underlying3 rfl t_cell) t_lt ?_
                    refine adr_wop rfl (want_yes rfl rfl rfl hg14) rfl (aop_call (has_ints _ _ q _ hsl9 (by rw [List.length_take]; omega)) rfl Try.func140 rfl rfl rfl ?_)
                    rintro v H ⟨rfl, rfl⟩
                    refine ⟨t_pend, ?_⟩
                    refine adr_wval rfl (want_yes rfl rfl rfl hg14) rfl (av_not rfl) t_lt ?_
                    refine adr_val rfl rfl (av_pick_bool (congrArg Value.bool hg14) rfl) t_lt ?_
                    refine ac_split rfl rfl ?_ ?_
                    · intro hc15
                      (try simp only [decide_eq_true_eq, decide_eq_false_iff_not, Bool.not_eq_true', Bool.not_eq_false'] at hc15)
                      refine ac_seq ?_
                      refine ac_region (by kernel_rfl) ?_
                      first | refine aops_val (av_assign_bool rfl) ?_ | refine aops_val (av_assign rfl) ?_
                      refine ac_ret ?_
                      refine ⟨.bool false, aresult1 (ares_tmp rfl), false, rfl, fun h => (by cases h), fun hG => ?_⟩
                      obtain ⟨q1, q2, q3, q4⟩ := hG.ok i hix
                      rw [hmi, ← hq] at q4
                      exfalso
                      simp_all
                    · intro hc15
                      (try simp only [decide_eq_true_eq, decide_eq_false_iff_not, Bool.not_eq_true', Bool.not_eq_false'] at hc15)
                      refine ac_skip ?_
                      refine ac_region (by kernel_rfl) ?_
                      first | refine aops_val (av_move_int (by first | assumption | rfl)) ?_ | refine aops_val (av_move (by first | assumption | rfl)) ?_
                      first | refine aops_val (av_add64 rfl rfl t_fits) ?_ | refine aops_val (av_add rfl rfl) ?_
                      first | refine aops_val (av_assign_int rfl) ?_ | refine aops_val (av_assign rfl) ?_
                      refine ⟨f.vars.length - (i + 1), by omega, i + 1, by omega, rfl, rfl, fun j h => ?_, e1, e3, rfl⟩
                      rcases Nat.lt_or_ge j i with h1 | h1
                      · exact hok j h1
                      · obtain rfl : j = i := by omega
                        exact ⟨by rw [hmi]; exact hm0.1, by rw [hmi]; exact hm0.2, by rw [hmi]; exact hmn, by rw [hmi, ← hq]; simp_all⟩
                  · intro hg14
                    have hp14 := hg14; try simp only [decide_eq_true_eq, decide_eq_false_iff_not, Bool.not_eq_true', Bool.not_eq_false'] at hp14
                    refine adr_skip rfl (want_no rfl rfl rfl hg14 rfl) ?_
                    refine adr_skip rfl (want_no rfl rfl rfl hg14 rfl) ?_
                    refine adr_skip rfl (want_no rfl rfl rfl hg14 rfl) ?_
                    refine adr_skip rfl (want_no rfl rfl rfl hg14 rfl) ?_
                    refine adr_skip rfl (want_no rfl rfl rfl hg14 rfl) ?_
                    refine adr_skip rfl (want_no rfl rfl rfl hg14 rfl) ?_
                    refine adr_skip rfl (want_no rfl rfl rfl hg14 rfl) ?_
                    refine adr_skip rfl (want_no rfl rfl rfl hg14 rfl) ?_
                    refine adr_skip rfl (want_no rfl rfl rfl hg14 rfl) ?_
                    refine adr_skip rfl (want_no rfl rfl rfl hg14 rfl) ?_
                    refine adr_skip rfl (want_no rfl rfl rfl hg14 rfl) ?_
                    refine adr_val rfl rfl (av_pick_bool (congrArg Value.bool hg14) (by first | assumption | rfl)) t_lt ?_
                    refine ac_cond_false rfl rfl ?_
                    refine ac_skip ?_
                    refine ac_region (by kernel_rfl) ?_
                    first | refine aops_val (av_move_int (by first | assumption | rfl)) ?_ | refine aops_val (av_move (by first | assumption | rfl)) ?_
                    first | refine aops_val (av_add64 rfl rfl t_fits) ?_ | refine aops_val (av_add rfl rfl) ?_
                    first | refine aops_val (av_assign_int rfl) ?_ | refine aops_val (av_assign rfl) ?_
                    refine ⟨f.vars.length - (i + 1), by omega, i + 1, by omega, rfl, rfl, fun j h => ?_, e1, e3, rfl⟩
                    rcases Nat.lt_or_ge j i with h1 | h1
                    · exact hok j h1
                    · obtain rfl : j = i := by omega
                      exact ⟨by rw [hmi]; exact hm0.1, by rw [hmi]; exact hm0.2, by rw [hmi]; exact hmn, by rw [hmi, ← hq]; simp_all⟩
          · intro hc8
            (try simp only [decide_eq_true_eq, decide_eq_false_iff_not, Bool.not_eq_true', Bool.not_eq_false'] at hc8)
            refine ac_exit ?_
            refine ac_seq ?_
            refine ac_region (by kernel_rfl) ?_
            first | refine aops_val (av_assign_bool rfl) ?_ | refine aops_val (av_assign rfl) ?_
            refine ac_ret ?_
            exact ⟨.bool true, aresult1 (ares_tmp rfl), true, rfl, fun _ => ⟨hlens.1, hlens.2.1, hlens.2.2.1, hlens.2.2.2, fun j h => hok j (by omega)⟩, fun _ => rfl⟩
theorem GoodF_ref (f : Forest) (cs : List Value) (H : Hp) (hp : kForest.rep H f cs) (hl0 : f.vars.length ≤ 1000000) (hl1 : f.order.length ≤ 1000000) (hl2 : f.parent.length ≤ 1000000) :
    ACalls Try.prog 98 #[.agg cs.toArray] H (fun r H' => (∃ g, r = .bool g ∧ (g = true ↔ GoodF f)) ∧ H' = H) :=
  ACalls.pure (fun v ⟨g, h, _⟩ => by rw [h]; rfl) (GoodF_ref_raw f cs H.ro (kForest.mono H.sees_ro hp) hl0 hl1 hl2)
end Go.Proofs.Ytnkjikpmgeknbaa.Am

namespace Go.Proofs.Ytnkjikpmgeknbaa.Am
open Go Go.RowKit
set_option maxRecDepth 100000
set_option linter.unusedVariables false
set_option linter.unusedSimpArgs false

/-- Which numbers were seen. -/
def Seen (n : Nat) (l : List Int) (seen : List Bool) : Prop := seen.length = n ∧ ∀ v, v < n → seen[v]? = some (decide ((v : Int) ∈ l))
theorem Seen.at {n : Nat} {l : List Int} {seen : List Bool} (h : Seen n l seen) {m : Int} (h0 : 0 ≤ m) (h1 : m < n) : seen[m.toNat]? = some (decide (m ∈ l)) := by
  have := h.2 m.toNat (by omega)
  rwa [show ((m.toNat : Nat) : Int) = m by omega] at this
theorem Seen.set {n : Nat} {l : List Int} {seen : List Bool} (h : Seen n l seen) {m : Int} (h0 : 0 ≤ m) (h1 : m < n) : Seen n (l ++ [m]) (seen.set m.toNat true) := by
  refine ⟨by rw [List.length_set]; exact h.1, fun v hv => ?_⟩
  have hl := h.1
  rw [List.getElem?_set]
  by_cases e : m.toNat = v
  · rw [if_pos e, if_pos (by omega)]
    congr 1
    symm
    rw [decide_eq_true]
    simp; right; omega
  · rw [if_neg e, h.2 v hv]
    congr 1
    have : (v : Int) ≠ m := by omega
    simp [this]
set_option maxHeartbeats 1000000 in
theorem GoodF_for_raw (f : Forest) (cs : List Value) (H : Hp) (hp : kForest.rep H f cs) (hl0 : f.vars.length ≤ 1000000) (hl1 : f.order.length ≤ 1000000) (hl2 : f.parent.length ≤ 1000000) :
    ACalls Try.prog 187 #[.agg cs.toArray] H (fun r _ => ∃ g, r = .bool g ∧ (g = true ↔ GoodF f)) := by
  obtain ⟨v0, v1, v2, v3, v4, rfl, hs0, hs1, hs2, hs3, hs4⟩ := hp
  obtain ⟨A0, c0, rfl⟩ := hs0.shape
  obtain ⟨A1, c1, rfl⟩ := hs1.shape
  obtain ⟨A2, c2, rfl⟩ := hs2.shape
  obtain ⟨A3, c3, rfl⟩ := hs3.shape
  obtain ⟨A4, c4, rfl⟩ := hs4.shape
  refine acalls_of_code Try.func187 rfl rfl rfl (by simp) ?_
  refine ac_seq ?_
  refine ac_region (by kernel_rfl) ?_
  refine aops_make (am_box_agg rfl) ?_
  first | refine aops_val (av_assign_bool rfl) ?_ | refine aops_val (av_assign rfl) ?_
  refine ac_seq ?_
  refine ac_region (by kernel_rfl) ?_
  refine aops_val (av_fieldOff (off := 0) rfl Try.underlying62 rfl inf59.size (by decide) rfl) ?_
  refine aops_val (av_load1 rfl Try.underlying59 rfl t_cell) ?_
  refine aops_val (av_len rfl Try.underlying59) ?_
  first | refine aops_val (av_assign_int rfl) ?_ | refine aops_val (av_assign rfl) ?_
  refine ac_seq ?_
  refine ac_seq ?_
  refine ac_region (by kernel_rfl) ?_
  refine aops_val (av_fieldOff (off := 1) rfl Try.underlying62 rfl inf29.size (by decide) rfl) ?_
  refine aops_val (av_load1 rfl Try.underlying29 rfl t_cell) ?_
  refine aops_val (av_len rfl Try.underlying29) ?_
  first | refine aops_val (av_move_int rfl) ?_ | refine aops_val (av_move rfl) ?_
  refine aops_val (av_ne rfl rfl) ?_
  first | refine aops_val (av_move_bool rfl) ?_ | refine aops_val (av_move rfl) ?_
  refine aops_guard rfl rfl rfl ?_ ?_
  · intro hg1
    have hp1 := hg1; try simp only [decide_eq_true_eq, decide_eq_false_iff_not, Bool.not_eq_true', Bool.not_eq_false'] at hp1
    refine aops_skip (want_no rfl rfl rfl hg1 rfl) ?_
    refine aops_skip (want_no rfl rfl rfl hg1 rfl) ?_
    refine aops_skip (want_no rfl rfl rfl hg1 rfl) ?_
    refine aops_skip (want_no rfl rfl rfl hg1 rfl) ?_
    refine aops_skip (want_no rfl rfl rfl hg1 rfl) ?_
    refine aops_val (av_pick_bool (congrArg Value.bool hg1) rfl) ?_
    first | refine aops_val (av_move_bool rfl) ?_ | refine aops_val (av_move rfl) ?_
    refine aops_skip (want_no rfl rfl rfl rfl rfl) ?_
    refine aops_skip (want_no rfl rfl rfl rfl rfl) ?_
    refine aops_skip (want_no rfl rfl rfl rfl rfl) ?_
    refine aops_skip (want_no rfl rfl rfl rfl rfl) ?_
    refine aops_skip (want_no rfl rfl rfl rfl rfl) ?_
    refine aops_val (av_pick_bool (congrArg Value.bool rfl) rfl) ?_
    first | refine aops_val (av_move_bool rfl) ?_ | refine aops_val (av_move rfl) ?_
    refine aops_skip (want_no rfl rfl rfl rfl rfl) ?_
    refine aops_skip (want_no rfl rfl rfl rfl rfl) ?_
    refine aops_skip (want_no rfl rfl rfl rfl rfl) ?_
    refine aops_skip (want_no rfl rfl rfl rfl rfl) ?_
    refine aops_skip (want_no rfl rfl rfl rfl rfl) ?_
    refine aops_val (av_pick_bool (congrArg Value.bool rfl) rfl) ?_
    refine ac_cond_true rfl rfl ?_
    refine ac_seq ?_
    refine ac_region (by kernel_rfl) ?_
    first | refine aops_val (av_assign_bool rfl) ?_ | refine aops_val (av_assign rfl) ?_
    refine ac_ret ?_
    refine ⟨.bool false, aresult1 (ares_tmp rfl), false, rfl, fun h => (by cases h), fun hG => ?_⟩
    exfalso
    have q1 := hG.l1; have q2 := hG.l2; have q3 := hG.l3; have q4 := hG.l4
    first | omega | simp_all
  · intro hg1
    have hp1 := hg1; try simp only [decide_eq_true_eq, decide_eq_false_iff_not, Bool.not_eq_true', Bool.not_eq_false'] at hp1
    refine aops_wval (want_yes rfl rfl rfl hg1) (av_fieldOff (off := 2) rfl Try.underlying62 rfl inf29.size (by decide) rfl) ?_
    refine aops_wval (want_yes rfl rfl rfl hg1) (av_load1 rfl Try.underlying29 rfl t_cell) ?_
    refine aops_wval (want_yes rfl rfl rfl hg1) (av_len rfl Try.underlying29) ?_
    first | refine aops_wval (want_yes rfl rfl rfl hg1) (av_move_int rfl) ?_ | refine aops_wval (want_yes rfl rfl rfl hg1) (av_move rfl) ?_
    refine aops_wval (want_yes rfl rfl rfl hg1) (av_ne rfl rfl) ?_
    refine aops_val (av_pick_bool (congrArg Value.bool hg1) rfl) ?_
    first | refine aops_val (av_move_bool rfl) ?_ | refine aops_val (av_move rfl) ?_
    refine aops_guard rfl rfl rfl ?_ ?_
    · intro hg3
      have hp3 := hg3; try simp only [decide_eq_true_eq, decide_eq_false_iff_not, Bool.not_eq_true', Bool.not_eq_false'] at hp3
      refine aops_skip (want_no rfl rfl rfl hg3 rfl) ?_
      refine aops_skip (want_no rfl rfl rfl hg3 rfl) ?_
      refine aops_skip (want_no rfl rfl rfl hg3 rfl) ?_
      refine aops_skip (want_no rfl rfl rfl hg3 rfl) ?_
      refine aops_skip (want_no rfl rfl rfl hg3 rfl) ?_
      refine aops_val (av_pick_bool (congrArg Value.bool hg3) rfl) ?_
      first | refine aops_val (av_move_bool rfl) ?_ | refine aops_val (av_move rfl) ?_
      refine aops_skip (want_no rfl rfl rfl rfl rfl) ?_
      refine aops_skip (want_no rfl rfl rfl rfl rfl) ?_
      refine aops_skip (want_no rfl rfl rfl rfl rfl) ?_
      refine aops_skip (want_no rfl rfl rfl rfl rfl) ?_
      refine aops_skip (want_no rfl rfl rfl rfl rfl) ?_
      refine aops_val (av_pick_bool (congrArg Value.bool rfl) rfl) ?_
      refine ac_cond_true rfl rfl ?_
      refine ac_seq ?_
      refine ac_region (by kernel_rfl) ?_
      first | refine aops_val (av_assign_bool rfl) ?_ | refine aops_val (av_assign rfl) ?_
      refine ac_ret ?_
      refine ⟨.bool false, aresult1 (ares_tmp rfl), false, rfl, fun h => (by cases h), fun hG => ?_⟩
      exfalso
      have q1 := hG.l1; have q2 := hG.l2; have q3 := hG.l3; have q4 := hG.l4
      first | omega | simp_all
    · intro hg3
      have hp3 := hg3; try simp only [decide_eq_true_eq, decide_eq_false_iff_not, Bool.not_eq_true', Bool.not_eq_false'] at hp3
      refine aops_wval (want_yes rfl rfl rfl hg3) (av_fieldOff (off := 3) rfl Try.underlying62 rfl inf60.size (by decide) rfl) ?_
      refine aops_wval (want_yes rfl rfl rfl hg3) (av_load1 rfl Try.underlying60 rfl t_cell) ?_
      refine aops_wval (want_yes rfl rfl rfl hg3) (av_len rfl Try.underlying60) ?_
      first | refine aops_wval (want_yes rfl rfl rfl hg3) (av_move_int rfl) ?_ | refine aops_wval (want_yes rfl rfl rfl hg3) (av_move rfl) ?_
      refine aops_wval (want_yes rfl rfl rfl hg3) (av_ne rfl rfl) ?_
      refine aops_val (av_pick_bool (congrArg Value.bool hg3) rfl) ?_
      first | refine aops_val (av_move_bool rfl) ?_ | refine aops_val (av_move rfl) ?_
      refine aops_guard rfl rfl rfl ?_ ?_
      · intro hg5
        have hp5 := hg5; try simp only [decide_eq_true_eq, decide_eq_false_iff_not, Bool.not_eq_true', Bool.not_eq_false'] at hp5
        refine aops_skip (want_no rfl rfl rfl hg5 rfl) ?_
        refine aops_skip (want_no rfl rfl rfl hg5 rfl) ?_
        refine aops_skip (want_no rfl rfl rfl hg5 rfl) ?_
        refine aops_skip (want_no rfl rfl rfl hg5 rfl) ?_
        refine aops_skip (want_no rfl rfl rfl hg5 rfl) ?_
        refine aops_val (av_pick_bool (congrArg Value.bool hg5) rfl) ?_
        refine ac_cond_true rfl rfl ?_
        refine ac_seq ?_
        refine ac_region (by kernel_rfl) ?_
        first | refine aops_val (av_assign_bool rfl) ?_ | refine aops_val (av_assign rfl) ?_
        refine ac_ret ?_
        refine ⟨.bool false, aresult1 (ares_tmp rfl), false, rfl, fun h => (by cases h), fun hG => ?_⟩
        exfalso
        have q1 := hG.l1; have q2 := hG.l2; have q3 := hG.l3; have q4 := hG.l4
        first | omega | simp_all
      · intro hg5
        have hp5 := hg5; try simp only [decide_eq_true_eq, decide_eq_false_iff_not, Bool.not_eq_true', Bool.not_eq_false'] at hp5
        refine aops_wval (want_yes rfl rfl rfl hg5) (av_fieldOff (off := 4) rfl Try.underlying62 rfl inf60.size (by decide) rfl) ?_
        refine aops_wval (want_yes rfl rfl rfl hg5) (av_load1 rfl Try.underlying60 rfl t_cell) ?_
        refine aops_wval (want_yes rfl rfl rfl hg5) (av_len rfl Try.underlying60) ?_
        first | refine aops_wval (want_yes rfl rfl rfl hg5) (av_move_int rfl) ?_ | refine aops_wval (want_yes rfl rfl rfl hg5) (av_move rfl) ?_
        refine aops_wval (want_yes rfl rfl rfl hg5) (av_ne rfl rfl) ?_
        refine aops_val (av_pick_bool (congrArg Value.bool hg5) rfl) ?_
        refine ac_split rfl rfl ?_ ?_
        · intro hc7
          (try simp only [decide_eq_true_eq, decide_eq_false_iff_not, Bool.not_eq_true', Bool.not_eq_false'] at hc7)
          refine ac_seq ?_
          refine ac_region (by kernel_rfl) ?_
          first | refine aops_val (av_assign_bool rfl) ?_ | refine aops_val (av_assign rfl) ?_
          refine ac_ret ?_
          refine ⟨.bool false, aresult1 (ares_tmp rfl), false, rfl, fun h => (by cases h), fun hG => ?_⟩
          exfalso
          have q1 := hG.l1; have q2 := hG.l2; have q3 := hG.l3; have q4 := hG.l4
          first | omega | simp_all
        · intro hc7
          have hlens : f.order.length = f.vars.length ∧ f.parent.length = f.vars.length ∧ f.links.length = f.vars.length ∧ f.loops.length = f.vars.length := by
            have hc7' := of_decide_eq_false hc7
            refine ⟨?_, ?_, ?_, ?_⟩ <;> omega
          refine ac_skip ?_
          refine ac_seq ?_
          refine ac_region (by kernel_rfl) ?_
          first | refine aops_val (av_move_int rfl) ?_ | refine aops_val (av_move rfl) ?_
          refine aops_make (am_makeSlice Try.underlying181 inf4 rfl (by decide) (by decide) rfl rfl (by omega) (by omega) (by omega)) ?_
          first | refine aops_val (av_assign_sl rfl) ?_ | refine aops_val (av_assign rfl) ?_
          refine ac_seq ?_
          refine ac_seq ?_
          refine ac_region (by kernel_rfl) ?_
          refine aops_val (av_fieldOff (off := 1) rfl Try.underlying62 rfl inf29.size (by decide) rfl) ?_
          refine aops_val (av_load1 rfl Try.underlying29 rfl t_cell) ?_
          refine aops_val (av_len rfl Try.underlying29) ?_
          first | refine aops_val (av_move_int rfl) ?_ | refine aops_val (av_move rfl) ?_
          refine ac_block ?_
          refine ac_loop (fun n t H' => ∃ (i : Nat) (seen : List Bool), i ≤ f.order.length ∧ n = f.order.length - i ∧ Seen f.vars.length (f.order.take i) seen ∧ H' = (H.push (.own 0 [.slice A0 f.vars.length c0, .slice A1 f.order.length c1, .slice A2 f.parent.length c2, .slice A3 f.links.length c3, .slice A4 f.loops.length c4])).push (.own 1 (seen.map Value.bool)) ∧ (∀ j, j < i → OkF f j) ∧ t 1 = .pointer (some ⟨H.size, 0, none⟩) ∧ t 3 = .int .i64 f.vars.length ∧ t 4 = .slice (some ⟨H.size + 1, 0, none⟩) f.vars.length f.vars.length ∧ t 40 = .slice A1 f.order.length c1 ∧ t 41 = .int .i64 f.order.length ∧ t 42 = .int .i64 i) (f.order.length) (⟨0, List.replicate f.vars.length false, by omega, rfl, ⟨by simp, fun v hv => by simp [hv]⟩, by congr 2; simp [Value.cells, List.flatten_replicate_singleton], fun j h => by omega, rfl, rfl, rfl, rfl, rfl, rfl⟩) ?_
          rintro n t _ ⟨i, seen, hi, rfl, hseen, rfl, hok, e1, e3, e4, e40, e41, e42⟩
          have hsl := hseen.1
          have hg0 : ((H.push (.own 0 [.slice A0 f.vars.length c0, .slice A1 f.order.length c1, .slice A2 f.parent.length c2, .slice A3 f.links.length c3, .slice A4 f.loops.length c4])).push (.own 1 (seen.map Value.bool))).get H.size = .own 0 [.slice A0 f.vars.length c0, .slice A1 f.order.length c1, .slice A2 f.parent.length c2, .slice A3 f.links.length c3, .slice A4 f.loops.length c4] := t_get
          have kg1 : ((H.push (.own 0 [.slice A0 f.vars.length c0, .slice A1 f.order.length c1, .slice A2 f.parent.length c2, .slice A3 f.links.length c3, .slice A4 f.loops.length c4])).push (.own 1 (seen.map Value.bool))).get (H.size + 1) = .own 1 (seen.map Value.bool) := Hp.push_new _ _
          have hleS := Hp.le_push' (H.le_push (.own 0 [.slice A0 f.vars.length c0, .slice A1 f.order.length c1, .slice A2 f.parent.length c2, .slice A3 f.links.length c3, .slice A4 f.loops.length c4])) (.own 1 (seen.map Value.bool))
          refine ac_seq ?_
          refine ac_region (by kernel_rfl) ?_
          refine aops_val (av_lt (by first | assumption | rfl) (by first | assumption | rfl)) ?_
          refine ac_seq ?_
          refine ac_split rfl rfl ?_ ?_
          · intro hc8
            (try simp only [decide_eq_true_eq, decide_eq_false_iff_not, Bool.not_eq_true', Bool.not_eq_false'] at hc8)
            refine ac_skip ?_
            refine ac_seq ?_
            refine ac_block ?_
            refine ac_seq ?_
            have hix : i < f.vars.length := by omega
            have hix1 : i < f.order.length := by omega
            have hs1' := hs1.mono hleS.sees
            have hs2' := hs2.mono hleS.sees
            obtain ⟨b, o, rfl, hb, hcell1⟩ := hs1'.int_at (i := (i : Int)) (by omega) (by omega)
            obtain ⟨m, hm⟩ : ∃ m, m = f.order.getD (i : Int).toNat 0 := ⟨_, rfl⟩
            rw [← hm] at hcell1
            have hmi : f.order.getD i 0 = m := by rw [hm, Int.toNat_natCast]
            refine ac_region (by kernel_rfl) ?_
            refine aops_val (av_indexAddr (by first | assumption | rfl) (by first | assumption | rfl) Try.underlying29 inf3.size t_idx t_idx) ?_
            refine aops_val (av_load1 rfl Try.underlying3 rfl t_cell) ?_
            first | refine aops_val (av_assign_int rfl) ?_ | refine aops_val (av_assign rfl) ?_
            refine ac_seq ?_
            refine ac_seq ?_
            refine ac_region (by kernel_rfl) ?_
            first | refine aops_val (av_move_int rfl) ?_ | refine aops_val (av_move rfl) ?_
            refine aops_val (av_lt rfl rfl) ?_
            first | refine aops_val (av_move_bool rfl) ?_ | refine aops_val (av_move rfl) ?_
            refine aops_guard rfl rfl rfl ?_ ?_
            · intro hg9
              have hp9 := hg9; try simp only [decide_eq_true_eq, decide_eq_false_iff_not, Bool.not_eq_true', Bool.not_eq_false'] at hp9
              refine aops_skip (want_no rfl rfl rfl hg9 rfl) ?_
              refine aops_skip (want_no rfl rfl rfl hg9 rfl) ?_
              refine aops_skip (want_no rfl rfl rfl hg9 rfl) ?_
              refine aops_val (av_pick_bool (congrArg Value.bool hg9) (by first | assumption | rfl)) ?_
              first | refine aops_val (av_move_bool rfl) ?_ | refine aops_val (av_move rfl) ?_
              refine aops_skip (want_no rfl rfl rfl rfl rfl) ?_
              refine aops_skip (want_no rfl rfl rfl rfl rfl) ?_
              refine aops_skip (want_no rfl rfl rfl rfl rfl) ?_
              refine aops_skip (want_no rfl rfl rfl rfl rfl) ?_
              refine aops_val (av_pick_bool (congrArg Value.bool (by first | assumption | rfl)) (by first | assumption | rfl)) ?_
              refine ac_cond_true rfl rfl ?_
              refine ac_seq ?_
              refine ac_region (by kernel_rfl) ?_
              first | refine aops_val (av_assign_bool rfl) ?_ | refine aops_val (av_assign rfl) ?_
              refine ac_ret ?_
              refine ⟨.bool false, aresult1 (ares_tmp rfl), false, rfl, fun h => (by cases h), fun hG => ?_⟩
              obtain ⟨q1, q2, q3, q4⟩ := hG.ok i hix
              rw [hmi] at q1 q2 q3 q4
              exfalso
              first | omega | exact q3 hmt
            · intro hg9
              have hp9 := hg9; try simp only [decide_eq_true_eq, decide_eq_false_iff_not, Bool.not_eq_true', Bool.not_eq_false'] at hp9
              first | refine aops_wval (want_yes rfl rfl rfl hg9) (av_move_int rfl) ?_ | refine aops_wval (want_yes rfl rfl rfl hg9) (av_move rfl) ?_
              first | refine aops_wval (want_yes rfl rfl rfl hg9) (av_move_int (by first | assumption | rfl)) ?_ | refine aops_wval (want_yes rfl rfl rfl hg9) (av_move (by first | assumption | rfl)) ?_
              refine aops_wval (want_yes rfl rfl rfl hg9) (av_ge rfl rfl) ?_
              refine aops_val (av_pick_bool (congrArg Value.bool hg9) rfl) ?_
              first | refine aops_val (av_move_bool rfl) ?_ | refine aops_val (av_move rfl) ?_
              refine aops_guard rfl rfl rfl ?_ ?_
              · intro hg11
                have hp11 := hg11; try simp only [decide_eq_true_eq, decide_eq_false_iff_not, Bool.not_eq_true', Bool.not_eq_false'] at hp11
                refine aops_skip (want_no rfl rfl rfl hg11 rfl) ?_
                refine aops_skip (want_no rfl rfl rfl hg11 rfl) ?_
                refine aops_skip (want_no rfl rfl rfl hg11 rfl) ?_
                refine aops_skip (want_no rfl rfl rfl hg11 rfl) ?_
                refine aops_val (av_pick_bool (congrArg Value.bool hg11) (by first | assumption | rfl)) ?_
                refine ac_cond_true rfl rfl ?_
                refine ac_seq ?_
                refine ac_region (by kernel_rfl) ?_
                first | refine aops_val (av_assign_bool rfl) ?_ | refine aops_val (av_assign rfl) ?_
                refine ac_ret ?_
                refine ⟨.bool false, aresult1 (ares_tmp rfl), false, rfl, fun h => (by cases h), fun hG => ?_⟩
                obtain ⟨q1, q2, q3, q4⟩ := hG.ok i hix
                rw [hmi] at q1 q2 q3 q4
                exfalso
                first | omega | exact q3 hmt
              · intro hg11
                have hp11 := hg11; try simp only [decide_eq_true_eq, decide_eq_false_iff_not, Bool.not_eq_true', Bool.not_eq_false'] at hp11
                first | refine aops_wval (want_yes rfl rfl rfl hg11) (av_move_sl (by first | assumption | rfl)) ?_ | refine aops_wval (want_yes rfl rfl rfl hg11) (av_move (by first | assumption | rfl)) ?_
                first | refine aops_wval (want_yes rfl rfl rfl hg11) (av_move_int rfl) ?_ | refine aops_wval (want_yes rfl rfl rfl hg11) (av_move rfl) ?_
                have hm1 : 0 ≤ m ∧ m < f.vars.length := by omega
                have hcell3 : Hp.cell? _ (H.size + 1) (0 + m.toNat * 1) = some (.bool (decide (m ∈ f.order.take i))) := (cell_own kg1).trans (by
                  rw [Nat.zero_add, Nat.mul_one, List.getElem?_map, hseen.at hm1.1 hm1.2]; rfl)
                refine aops_wval (want_yes rfl rfl rfl hg11) (av_indexAddr rfl rfl Try.underlying181 inf4.size t_idx t_idx) ?_
                refine aops_wval (want_yes rfl rfl rfl hg11) (av_load1 rfl Try.underlying4 rfl t_cell) ?_
                refine aops_val (av_pick_bool (congrArg Value.bool hg11) rfl) ?_
                refine ac_split rfl rfl ?_ ?_
                · intro hc13
                  have hmt : m ∈ f.order.take i := by simpa using hc13
                  refine ac_seq ?_
                  refine ac_region (by kernel_rfl) ?_
                  first | refine aops_val (av_assign_bool rfl) ?_ | refine aops_val (av_assign rfl) ?_
                  refine ac_ret ?_
                  refine ⟨.bool false, aresult1 (ares_tmp rfl), false, rfl, fun h => (by cases h), fun hG => ?_⟩
                  obtain ⟨q1, q2, q3, q4⟩ := hG.ok i hix
                  rw [hmi] at q1 q2 q3 q4
                  exfalso
                  first | omega | exact q3 hmt
                · intro hc13
                  have hmn : m ∉ f.order.take i := by simpa using hc13
                  refine ac_skip ?_
                  refine ac_seq ?_
                  have hm0 : 0 ≤ m ∧ m < f.vars.length := by omega
                  obtain ⟨b2, o2, rfl, hb2, hcell2⟩ := hs2'.int_at (i := m) (by omega) (by omega)
                  obtain ⟨q, hq⟩ : ∃ q, q = f.parent.getD m.toNat 0 := ⟨_, rfl⟩
                  rw [← hq] at hcell2
                  refine ac_region (by kernel_rfl) ?_
                  refine aops_val (av_fieldOff (off := 2) (by first | assumption | rfl) Try.underlying62 (by first | assumption | rfl) inf29.size (by decide) (by first | assumption | rfl)) ?_
                  refine aops_val (av_load1 rfl Try.underlying29 rfl t_cell) ?_
                  first | refine aops_val (av_move_int rfl) ?_ | refine aops_val (av_move rfl) ?_
                  refine aops_val (av_indexAddr rfl rfl Try.underlying29 inf3.size t_idx t_idx) ?_
                  refine aops_val (av_load1 rfl Try.underlying3 rfl t_cell) ?_
                  first | refine aops_val (av_assign_int rfl) ?_ | refine aops_val (av_assign rfl) ?_
                  refine ac_seq ?_
                  refine ac_seq ?_
                  refine ac_region (by kernel_rfl) ?_
                  first | refine aops_val (av_move_int rfl) ?_ | refine aops_val (av_move rfl) ?_
                  refine aops_val (av_lt rfl rfl) ?_
                  first | refine aops_val (av_move_bool rfl) ?_ | refine aops_val (av_move rfl) ?_
                  refine aops_guard rfl rfl rfl ?_ ?_
                  · intro hg14
                    have hp14 := hg14; try simp only [decide_eq_true_eq, decide_eq_false_iff_not, Bool.not_eq_true', Bool.not_eq_false'] at hp14
                    refine aops_skip (want_no rfl rfl rfl hg14 rfl) ?_
                    refine aops_skip (want_no rfl rfl rfl hg14 rfl) ?_
                    refine aops_skip (want_no rfl rfl rfl hg14 rfl) ?_
                    refine aops_val (av_pick_bool (congrArg Value.bool hg14) (by first | assumption | rfl)) ?_
                    first | refine aops_val (av_move_bool rfl) ?_ | refine aops_val (av_move rfl) ?_
                    refine aops_skip (want_no rfl rfl rfl rfl rfl) ?_
                    refine aops_skip (want_no rfl rfl rfl rfl rfl) ?_
                    refine aops_skip (want_no rfl rfl rfl rfl rfl) ?_
                    refine aops_skip (want_gone rfl rfl rfl) ?_
                    refine aops_skip (want_gone rfl rfl rfl) ?_
                    refine aops_skip (want_gone rfl rfl rfl) ?_
                    refine aops_skip (want_gone rfl rfl rfl) ?_
                    refine aops_skip (want_gone rfl rfl rfl) ?_
                    refine aops_skip (want_no rfl rfl rfl rfl rfl) ?_
                    refine aops_val (av_pick_bool (congrArg Value.bool (by first | assumption | rfl)) (by first | assumption | rfl)) ?_
                    refine ac_cond_true rfl rfl ?_
                    refine ac_seq ?_
                    refine ac_region (by kernel_rfl) ?_
                    first | refine aops_val (av_assign_bool rfl) ?_ | refine aops_val (av_assign rfl) ?_
                    refine ac_ret ?_
                    refine ⟨.bool false, aresult1 (ares_tmp rfl), false, rfl, fun h => (by cases h), fun hG => ?_⟩
                    obtain ⟨q1, q2, q3, q4⟩ := hG.ok i hix
                    rw [hmi, ← hq] at q4
                    have hpre : ∀ x ∈ f.order.take i, 0 ≤ x ∧ x < f.vars.length := fun x hx => by
                      obtain ⟨j, hj, rfl⟩ := List.getElem_of_mem hx
                      rw [List.length_take] at hj
                      have hj2 := hok j (by omega)
                      rw [List.getElem_take]
                      have e : f.order.getD j 0 = f.order[j] := getD_at (by omega)
                      rw [← e]
                      exact ⟨hj2.1, hj2.2.1⟩
                    exfalso
                    rcases q4 with q4 | q4
                    · omega
                    · first | exact hqt q4 | (have := hpre q q4; omega)
                  · intro hg14
                    have hp14 := hg14; try simp only [decide_eq_true_eq, decide_eq_false_iff_not, Bool.not_eq_true', Bool.not_eq_false'] at hp14
                    first | refine aops_wval (want_yes rfl rfl rfl hg14) (av_move_int rfl) ?_ | refine aops_wval (want_yes rfl rfl rfl hg14) (av_move rfl) ?_
                    first | refine aops_wval (want_yes rfl rfl rfl hg14) (av_move_int (by first | assumption | rfl)) ?_ | refine aops_wval (want_yes rfl rfl rfl hg14) (av_move (by first | assumption | rfl)) ?_
                    refine aops_wval (want_yes rfl rfl rfl hg14) (av_ge rfl rfl) ?_
                    refine aops_val (av_pick_bool (congrArg Value.bool hg14) rfl) ?_
                    first | refine aops_val (av_move_bool rfl) ?_ | refine aops_val (av_move rfl) ?_
                    refine aops_guard rfl rfl rfl ?_ ?_
                    · intro hg16
                      have hp16 := hg16; try simp only [decide_eq_true_eq, decide_eq_false_iff_not, Bool.not_eq_true', Bool.not_eq_false'] at hp16
                      refine aops_skip (want_no rfl rfl rfl hg16 rfl) ?_
                      refine aops_skip (want_no rfl rfl rfl hg16 rfl) ?_
                      refine aops_skip (want_no rfl rfl rfl hg16 rfl) ?_
                      refine aops_skip (want_gone rfl rfl rfl) ?_
                      refine aops_skip (want_gone rfl rfl rfl) ?_
                      refine aops_skip (want_gone rfl rfl rfl) ?_
                      refine aops_skip (want_gone rfl rfl rfl) ?_
                      refine aops_skip (want_gone rfl rfl rfl) ?_
                      refine aops_skip (want_no rfl rfl rfl hg16 rfl) ?_
                      refine aops_val (av_pick_bool (congrArg Value.bool hg16) (by first | assumption | rfl)) ?_
                      refine ac_cond_true rfl rfl ?_
                      refine ac_seq ?_
                      refine ac_region (by kernel_rfl) ?_
                      first | refine aops_val (av_assign_bool rfl) ?_ | refine aops_val (av_assign rfl) ?_
                      refine ac_ret ?_
                      refine ⟨.bool false, aresult1 (ares_tmp rfl), false, rfl, fun h => (by cases h), fun hG => ?_⟩
                      obtain ⟨q1, q2, q3, q4⟩ := hG.ok i hix
                      rw [hmi, ← hq] at q4
                      have hpre : ∀ x ∈ f.order.take i, 0 ≤ x ∧ x < f.vars.length := fun x hx => by
                        obtain ⟨j, hj, rfl⟩ := List.getElem_of_mem hx
                        rw [List.length_take] at hj
                        have hj2 := hok j (by omega)
                        rw [List.getElem_take]
                        have e : f.order.getD j 0 = f.order[j] := getD_at (by omega)
                        rw [← e]
                        exact ⟨hj2.1, hj2.2.1⟩
                      exfalso
                      rcases q4 with q4 | q4
                      · omega
                      · first | exact hqt q4 | (have := hpre q q4; omega)
                    · intro hg16
                      have hp16 := hg16; try simp only [decide_eq_true_eq, decide_eq_false_iff_not, Bool.not_eq_true', Bool.not_eq_false'] at hp16
                      first | refine aops_wval (want_yes rfl rfl rfl hg16) (av_move_int rfl) ?_ | refine aops_wval (want_yes rfl rfl rfl hg16) (av_move rfl) ?_
                      refine aops_wval (want_yes rfl rfl rfl hg16) (av_ge rfl rfl) ?_
                      first | refine aops_wval (want_yes rfl rfl rfl hg16) (av_move_bool rfl) ?_ | refine aops_wval (want_yes rfl rfl rfl hg16) (av_move rfl) ?_
                      refine aops_guard rfl rfl rfl ?_ ?_
                      · intro hg18
                        have hp18 := hg18; try simp only [decide_eq_true_eq, decide_eq_false_iff_not, Bool.not_eq_true', Bool.not_eq_false'] at hp18
                        first | refine aops_wval (want_yes rfl rfl rfl hg18) (av_move_sl (by first | assumption | rfl)) ?_ | refine aops_wval (want_yes rfl rfl rfl hg18) (av_move (by first | assumption | rfl)) ?_
                        first | refine aops_wval (want_yes rfl rfl rfl hg18) (av_move_int rfl) ?_ | refine aops_wval (want_yes rfl rfl rfl hg18) (av_move rfl) ?_
                        have hq1 : 0 ≤ q ∧ q < f.vars.length := by omega
                        have hcell4 : Hp.cell? _ (H.size + 1) (0 + q.toNat * 1) = some (.bool (decide (q ∈ f.order.take i))) := (cell_own kg1).trans (by
                          rw [Nat.zero_add, Nat.mul_one, List.getElem?_map, hseen.at hq1.1 hq1.2]; rfl)
                        refine aops_wval (want_yes rfl rfl rfl hg18) (av_indexAddr rfl rfl Try.underlying181 inf4.size t_idx t_idx) ?_
                        refine aops_wval (want_yes rfl rfl rfl hg18) (av_load1 rfl Try.underlying4 rfl t_cell) ?_
                        refine aops_wval (want_yes rfl rfl rfl hg18) (av_not rfl) ?_
                        refine aops_wval (want_yes rfl rfl rfl hg16) (av_pick_bool (congrArg Value.bool hg18) rfl) ?_
                        refine aops_val (av_pick_bool (congrArg Value.bool hg16) rfl) ?_
                        refine ac_split rfl rfl ?_ ?_
                        · intro hc19
                          have hqt : q ∉ f.order.take i := by simpa using hc19
                          refine ac_seq ?_
                          refine ac_region (by kernel_rfl) ?_
                          first | refine aops_val (av_assign_bool rfl) ?_ | refine aops_val (av_assign rfl) ?_
                          refine ac_ret ?_
                          refine ⟨.bool false, aresult1 (ares_tmp rfl), false, rfl, fun h => (by cases h), fun hG => ?_⟩
                          obtain ⟨q1, q2, q3, q4⟩ := hG.ok i hix
                          rw [hmi, ← hq] at q4
                          have hpre : ∀ x ∈ f.order.take i, 0 ≤ x ∧ x < f.vars.length := fun x hx => by
                            obtain ⟨j, hj, rfl⟩ := List.getElem_of_mem hx
                            rw [List.length_take] at hj
                            have hj2 := hok j (by omega)
                            rw [List.getElem_take]
                            have e : f.order.getD j 0 = f.order[j] := getD_at (by omega)
                            rw [← e]
                            exact ⟨hj2.1, hj2.2.1⟩
                          exfalso
                          rcases q4 with q4 | q4
                          · omega
                          · first | exact hqt q4 | (have := hpre q q4; omega)
                        · intro hc19
                          have hqm : q ∈ f.order.take i := by simpa using hc19
                          refine ac_skip ?_
                          refine ac_region (by kernel_rfl) ?_
                          first | refine aops_val (av_move_sl (by first | assumption | rfl)) ?_ | refine aops_val (av_move (by first | assumption | rfl)) ?_
                          first | refine aops_val (av_move_int rfl) ?_ | refine aops_val (av_move rfl) ?_
                          refine aops_val (av_indexAddr rfl rfl Try.underlying181 inf4.size t_idx t_idx) ?_
                          first | refine aops_op (aop_put1 rfl rfl rfl inf4.size t_get t_room rfl ?_)
                          refine ac_region (by kernel_rfl) ?_
                          first | refine aops_val (av_add64 (by first | assumption | rfl) (by first | assumption | rfl) t_fits) ?_ | refine aops_val (av_add (by first | assumption | rfl) (by first | assumption | rfl)) ?_
                          first | refine aops_val (av_move_int rfl) ?_ | refine aops_val (av_move rfl) ?_
                          have hq4 : q = -1 ∨ q ∈ f.order.take i := by first | exact .inr hqm | exact .inl (by omega)
                          refine ⟨f.order.length - (i + 1), by omega, i + 1, seen.set m.toNat true, by omega, rfl, ?_, ?_, fun j h => ?_, e1, e3, e4, e40, e41, rfl⟩
                          · have := hseen.set hm0.1 hm0.2
                            rwa [show f.order.take i ++ [m] = f.order.take (i + 1) by rw [← take_next hix1, ← hmi, getD_at hix1]] at this
                          · exact (Hp.push_put (H.push (.own 0 _)) _ _).trans (by rw [List.map_set, Nat.zero_add, Nat.mul_one]; rfl)
                          · rcases Nat.lt_or_ge j i with h1 | h1
                            · exact hok j h1
                            · obtain rfl : j = i := by omega
                              exact ⟨by rw [hmi]; exact hm0.1, by rw [hmi]; exact hm0.2, by rw [hmi]; exact hmn, by rw [hmi, ← hq]; exact hq4⟩
                      · intro hg18
                        have hp18 := hg18; try simp only [decide_eq_true_eq, decide_eq_false_iff_not, Bool.not_eq_true', Bool.not_eq_false'] at hp18
                        refine aops_skip (want_no rfl rfl rfl hg18 rfl) ?_
                        refine aops_skip (want_no rfl rfl rfl hg18 rfl) ?_
                        refine aops_skip (want_no rfl rfl rfl hg18 rfl) ?_
                        refine aops_skip (want_no rfl rfl rfl hg18 rfl) ?_
                        refine aops_skip (want_no rfl rfl rfl hg18 rfl) ?_
                        refine aops_wval (want_yes rfl rfl rfl hg16) (av_pick_bool (congrArg Value.bool hg18) (by first | assumption | rfl)) ?_
                        refine aops_val (av_pick_bool (congrArg Value.bool hg16) rfl) ?_
                        refine ac_cond_false rfl rfl ?_
                        refine ac_skip ?_
                        refine ac_region (by kernel_rfl) ?_
                        first | refine aops_val (av_move_sl (by first | assumption | rfl)) ?_ | refine aops_val (av_move (by first | assumption | rfl)) ?_
                        first | refine aops_val (av_move_int rfl) ?_ | refine aops_val (av_move rfl) ?_
                        refine aops_val (av_indexAddr rfl rfl Try.underlying181 inf4.size t_idx t_idx) ?_
                        first | refine aops_op (aop_put1 rfl rfl rfl inf4.size t_get t_room rfl ?_)
                        refine ac_region (by kernel_rfl) ?_
                        first | refine aops_val (av_add64 (by first | assumption | rfl) (by first | assumption | rfl) t_fits) ?_ | refine aops_val (av_add (by first | assumption | rfl) (by first | assumption | rfl)) ?_
                        first | refine aops_val (av_move_int rfl) ?_ | refine aops_val (av_move rfl) ?_
                        have hq4 : q = -1 ∨ q ∈ f.order.take i := by first | exact .inr hqm | exact .inl (by omega)
                        refine ⟨f.order.length - (i + 1), by omega, i + 1, seen.set m.toNat true, by omega, rfl, ?_, ?_, fun j h => ?_, e1, e3, e4, e40, e41, rfl⟩
                        · have := hseen.set hm0.1 hm0.2
                          rwa [show f.order.take i ++ [m] = f.order.take (i + 1) by rw [← take_next hix1, ← hmi, getD_at hix1]] at this
                        · exact (Hp.push_put (H.push (.own 0 _)) _ _).trans (by rw [List.map_set, Nat.zero_add, Nat.mul_one]; rfl)
                        · rcases Nat.lt_or_ge j i with h1 | h1
                          · exact hok j h1
                          · obtain rfl : j = i := by omega
                            exact ⟨by rw [hmi]; exact hm0.1, by rw [hmi]; exact hm0.2, by rw [hmi]; exact hmn, by rw [hmi, ← hq]; exact hq4⟩
          · intro hc8
            (try simp only [decide_eq_true_eq, decide_eq_false_iff_not, Bool.not_eq_true', Bool.not_eq_false'] at hc8)
            refine ac_exit ?_
            refine ac_seq ?_
            refine ac_region (by kernel_rfl) ?_
            first | refine aops_val (av_assign_bool rfl) ?_ | refine aops_val (av_assign rfl) ?_
            refine ac_ret ?_
            exact ⟨.bool true, aresult1 (ares_tmp rfl), true, rfl, fun _ => ⟨hlens.1, hlens.2.1, hlens.2.2.1, hlens.2.2.2, fun j h => hok j (by omega)⟩, fun _ => rfl⟩
theorem GoodF_for (f : Forest) (cs : List Value) (H : Hp) (hp : kForest.rep H f cs) (hl0 : f.vars.length ≤ 1000000) (hl1 : f.order.length ≤ 1000000) (hl2 : f.parent.length ≤ 1000000) :
    ACalls Try.prog 187 #[.agg cs.toArray] H (fun r H' => (∃ g, r = .bool g ∧ (g = true ↔ GoodF f)) ∧ H' = H) :=
  ACalls.pure (fun v ⟨g, h, _⟩ => by rw [h]; rfl) (GoodF_for_raw f cs H.ro (kForest.mono H.sees_ro hp) hl0 hl1 hl2)
theorem GoodF_For (f : Forest) (cs : List Value) (H : Hp) (hp : kForest.rep H f cs) (hl0 : f.vars.length ≤ 1000000) (hl1 : f.order.length ≤ 1000000) (hl2 : f.parent.length ≤ 1000000) :
    ACalls Try.prog 137 #[.agg cs.toArray] H (fun r H' => (∃ g, r = .bool g ∧ (g = true ↔ GoodF f)) ∧ H' = H) := by
  refine ACalls.pure (R := fun r => ∃ g, r = .bool g ∧ (g = true ↔ GoodF f)) (fun v ⟨g, h, _⟩ => by rw [h]; rfl) ?_
  have hp' := kForest.mono H.sees_ro hp
  have hp0 := hp'
  obtain ⟨v0, v1, v2, v3, v4, rfl, hs0, hs1, hs2, hs3, hs4⟩ := hp'
  obtain ⟨A0, c0, rfl⟩ := hs0.shape
  obtain ⟨A1, c1, rfl⟩ := hs1.shape
  obtain ⟨A2, c2, rfl⟩ := hs2.shape
  obtain ⟨A3, c3, rfl⟩ := hs3.shape
  obtain ⟨A4, c4, rfl⟩ := hs4.shape
  refine acalls_of_code Try.func137 rfl rfl rfl (by simp) ?_
  refine ac_seq ?_
  refine ac_region (by kernel_rfl) ?_
  refine aops_make (am_box_agg rfl) ?_
  first | refine aops_val (av_assign_bool rfl) ?_ | refine aops_val (av_assign rfl) ?_
  refine ac_seq ?_
  refine ac_region (by kernel_rfl) ?_
  first | refine aops_val (av_loadN (cs := [.slice _ _ _, .slice _ _ _, .slice _ _ _, .slice _ _ _, .slice _ _ _]) rfl Try.underlying62 rfl inf62.size t_cells) ?_ | refine aops_val (av_loadN (cs := [_, _, _, _, _]) rfl Try.underlying62 rfl inf62.size t_cells) ?_
  refine aops_op (aop_call (GoodF_for f _ _ (kForest.mono (Hp.le_push _ _).sees hp0) hl0 hl1 hl2) rfl Try.func187 rfl rfl rfl ?_)
  rintro v2 H2 ⟨⟨g, rfl, hg⟩, rfl⟩
  first | refine aops_val (av_assign_bool rfl) ?_ | refine aops_val (av_assign rfl) ?_
  refine ac_ret ?_
  exact ⟨.bool g, aresult1 (ares_tmp rfl), g, rfl, hg⟩
end Go.Proofs.Ytnkjikpmgeknbaa.Am

namespace Go.Proofs.Ytnkjikpmgeknbaa.Am
open Go Go.RowKit
set_option maxRecDepth 100000
set_option linter.unusedVariables false
set_option linter.unusedSimpArgs false

theorem In_link (n : Int) (H : Hp) : ACalls Try.prog 125 #[.int .i64 n] H (fun r H' => r = .bool (decide (0 ≤ n) && decide (n < 10000)) ∧ H' = H) := by
  refine acalls_of_code Try.func125 rfl rfl rfl (by simp) ?_
  refine ac_seq ?_
  refine ac_region (by kernel_rfl) ?_
  first | refine aops_val (av_assign_bool rfl) ?_ | refine aops_val (av_assign rfl) ?_
  refine ac_seq ?_
  refine ac_region (by kernel_rfl) ?_
  first | refine aops_val (av_move_int rfl) ?_ | refine aops_val (av_move rfl) ?_
  refine aops_val (av_ge rfl rfl) ?_
  first | refine aops_val (av_move_bool rfl) ?_ | refine aops_val (av_move rfl) ?_
  refine aops_guard rfl rfl rfl ?_ ?_
  · intro hg1
    have hp1 := hg1; try simp only [decide_eq_true_eq, decide_eq_false_iff_not, Bool.not_eq_true', Bool.not_eq_false'] at hp1
    first | refine aops_wval (want_yes rfl rfl rfl hg1) (av_move_int rfl) ?_ | refine aops_wval (want_yes rfl rfl rfl hg1) (av_move rfl) ?_
    refine aops_wval (want_yes rfl rfl rfl hg1) (av_lt rfl rfl) ?_
    refine aops_val (av_pick_bool (congrArg Value.bool hg1) rfl) ?_
    first | refine aops_val (av_assign_bool rfl) ?_ | refine aops_val (av_assign rfl) ?_
    refine ac_ret ?_
    refine ⟨.bool (decide (0 ≤ n) && decide (n < 10000)), aresult1 (ares_tmp ?_), rfl, rfl⟩
    show Value.bool _ = _
    congr 1
    first | (simp_all; done) | (simp_all; omega)
  · intro hg1
    have hp1 := hg1; try simp only [decide_eq_true_eq, decide_eq_false_iff_not, Bool.not_eq_true', Bool.not_eq_false'] at hp1
    refine aops_skip (want_no rfl rfl rfl hg1 rfl) ?_
    refine aops_skip (want_no rfl rfl rfl hg1 rfl) ?_
    refine aops_val (av_pick_bool (congrArg Value.bool hg1) rfl) ?_
    first | refine aops_val (av_assign_bool rfl) ?_ | refine aops_val (av_assign rfl) ?_
    refine ac_ret ?_
    refine ⟨.bool (decide (0 ≤ n) && decide (n < 10000)), aresult1 (ares_tmp ?_), rfl, rfl⟩
    show Value.bool _ = _
    congr 1
    first | (simp_all; done) | (simp_all; omega)
theorem not_in {a : Int} (h : (!(decide (0 ≤ a) && decide (a < 10000))) = true) : ¬ (0 ≤ a ∧ a ≤ 9999) := fun ⟨h1, h2⟩ => by
  rw [decide_eq_true h1, decide_eq_true (by omega)] at h; cases h
theorem is_in {a : Int} (h : (!(decide (0 ≤ a) && decide (a < 10000))) = false) : 0 ≤ a ∧ a ≤ 9999 := by
  simp at h; omega
theorem less_key {x y : Link} (h1 : 0 ≤ x.b) (h2 : x.b ≤ 9999) (h3 : 0 ≤ y.b) (h4 : y.b ≤ 9999) : lessL x y = true ↔ keyI x < keyI y := by
  unfold lessL keyI
  simp only [Bool.or_eq_true, Bool.and_eq_true, decide_eq_true_eq]
  omega
theorem PGood_raw (xs : List Link) (v : Value) (H : Hp) (hs : Sl kLink H v xs) (hl : xs.length ≤ 9223372036854775807) :
    ACalls Try.prog 70 #[v] H (fun r _ => ∃ g, r = .bool g ∧ (g = true ↔ GoodL xs)) := by
  obtain ⟨A, c, rfl⟩ := hs.shape
  refine acalls_of_code Try.func70 rfl rfl rfl (by simp) ?_
  refine ac_seq ?_
  refine ac_region (by kernel_rfl) ?_
  first | refine aops_val (av_assign_bool rfl) ?_ | refine aops_val (av_assign rfl) ?_
  refine ac_seq ?_
  refine ac_region (by kernel_rfl) ?_
  first | refine aops_val (av_assign_func rfl) ?_ | refine aops_val (av_assign rfl) ?_
  refine ac_seq ?_
  refine ac_seq ?_
  refine ac_region (by kernel_rfl) ?_
  first | refine aops_val (av_move_sl rfl) ?_ | refine aops_val (av_move rfl) ?_
  refine aops_val (av_len rfl Try.underlying22) ?_
  first | refine aops_val (av_move_int rfl) ?_ | refine aops_val (av_move rfl) ?_
  refine ac_block ?_
  refine ac_loop (fun n t H' => ∃ (i : Nat), i ≤ xs.length ∧ n = xs.length - i ∧ H.le H' ∧ (∀ (j : Nat) (h : j < xs.length), j < i → OkL xs[j] ∧ (0 < j → lessL (xs[j - 1]'(by omega)) xs[j] = true)) ∧ t 0 = .slice A xs.length c ∧ t 3 = .func (.func 125) #[] #[] ∧ t 6 = .slice A xs.length c ∧ t 7 = .int .i64 xs.length ∧ t 8 = .int .i64 i) (xs.length) (⟨0, by omega, rfl, Hp.le_refl _, fun j h h0 => by omega, rfl, rfl, rfl, rfl, rfl⟩) ?_
  rintro n t H1 ⟨i, hi, rfl, hle, hok, e0, e3, e6, e7, e8⟩
  refine ac_seq ?_
  refine ac_region (by kernel_rfl) ?_
  refine aops_val (av_lt (by first | assumption | rfl) (by first | assumption | rfl)) ?_
  refine ac_seq ?_
  refine ac_split rfl rfl ?_ ?_
  · intro hc1
    (try simp only [decide_eq_true_eq, decide_eq_false_iff_not, Bool.not_eq_true', Bool.not_eq_false'] at hc1)
    refine ac_skip ?_
    refine ac_seq ?_
    refine ac_block ?_
    refine ac_seq ?_
    refine ac_region (by kernel_rfl) ?_
    first | refine aops_val (av_move_int (by first | assumption | rfl)) ?_ | refine aops_val (av_move (by first | assumption | rfl)) ?_
    have hix : i < xs.length := by omega
    obtain ⟨b, o, rfl, hb, hcell0⟩ := (hs.mono hle.sees).link_at hix
    have hbl : b < H1.size := hb
    refine aops_val (av_indexAddr (by first | assumption | rfl) (by first | assumption | rfl) Try.underlying22 inf28.size t_idx t_idx) ?_
    refine aops_val (av_loadN (cs := [.int .i64 _, .int .i64 _, .int .i64 _, .int .u64 _]) rfl Try.underlying28 rfl inf28.size t_cells) ?_
    refine aops_make (am_zero (l := [.int .i64 0, .int .i64 0, .int .i64 0, .int .u64 0]) inf28.zero rfl (by decide)) ?_
    first | refine aops_val (av_assign_int rfl) ?_ | refine aops_val (av_assign rfl) ?_
    first | refine aops_op (aop_putN (vs := [.int .i64 _, .int .i64 _, .int .i64 _, .int .u64 _]) rfl rfl inf28.size t_get t_room rfl rfl ?_)
    refine ac_seq ?_
    refine ac_draw (by kernel_rfl) (reg_of (B := [0, 0, 2, 7, 15, 31, 63, 63, 191, 511, 1023, 2047, 4095, 8191, 16383, 32767, 65535, 131071, 262143, 524287, 1048575, 2097151, 4194303, 8388607, 16777215, 33554431, 67108863, 134217727, 268435455, 536870911, 1073741823, 2147483647, 2147483647, 6442450943, 17179869183, 34359738367, 68719476735, 2147483647, 274877906943, 549755813887, 1099511627775, 2199023255551]) (π := [0, 1, 2, 3, 4, 5, 6, 7, 8, 9, 10, 11, 12, 13, 14, 15, 16, 17, 18, 19, 20, 21, 22, 23, 24, 25, 26, 27, 28, 29, 30, 31, 32, 33, 34, 35, 37, 36, 38, 39, 40, 41]) (by kernel_rfl)) ?_
    first | refine adr_val rfl rfl (av_move_func (by first | assumption | rfl)) t_lt ?_ | refine adr_val rfl rfl (av_move (by first | assumption | rfl)) t_lt ?_
    refine adr_val rfl rfl (av_fieldOff (off := 0) rfl Try.underlying28 rfl inf3.size (by decide) rfl) t_lt ?_
    refine adr_val rfl rfl (av_load1 rfl Try.underlying3 rfl t_cell) t_lt ?_
    refine adr_op rfl rfl (aop_call (In_link _ _) rfl Try.func125 rfl rfl rfl ?_)
    rintro v H ⟨rfl, rfl⟩
    refine ⟨t_pend, ?_⟩
    refine adr_val rfl rfl (av_not rfl) t_lt ?_
    first | refine adr_val rfl rfl (av_move_bool rfl) t_lt ?_ | refine adr_val rfl rfl (av_move rfl) t_lt ?_
    refine adr_guard rfl rfl rfl rfl ?_ ?_
    · intro hg2
      have hna := not_in hg2
      refine adr_skip rfl (want_no rfl rfl rfl hg2 rfl) ?_
      refine adr_skip rfl (want_no rfl rfl rfl hg2 rfl) ?_
      refine adr_skip rfl (want_no rfl rfl rfl hg2 rfl) ?_
      refine adr_skip rfl (want_no rfl rfl rfl hg2 rfl) ?_
      refine adr_skip rfl (want_no rfl rfl rfl hg2 rfl) ?_
      refine adr_val rfl rfl (av_pick_bool (congrArg Value.bool hg2) (by first | assumption | rfl)) t_lt ?_
      first | refine adr_val rfl rfl (av_move_bool rfl) t_lt ?_ | refine adr_val rfl rfl (av_move rfl) t_lt ?_
      refine adr_skip rfl (want_no rfl rfl rfl rfl rfl) ?_
      refine adr_skip rfl (want_no rfl rfl rfl rfl rfl) ?_
      refine adr_skip rfl (want_no rfl rfl rfl rfl rfl) ?_
      refine adr_val rfl rfl (av_pick_bool (congrArg Value.bool (by first | assumption | rfl)) (by first | assumption | rfl)) t_lt ?_
      first | refine adr_val rfl rfl (av_move_bool rfl) t_lt ?_ | refine adr_val rfl rfl (av_move rfl) t_lt ?_
      refine adr_skip rfl (want_no rfl rfl rfl rfl rfl) ?_
      refine adr_skip rfl (want_no rfl rfl rfl rfl rfl) ?_
      refine adr_skip rfl (want_no rfl rfl rfl rfl rfl) ?_
      refine adr_val rfl rfl (av_pick_bool (congrArg Value.bool (by first | assumption | rfl)) (by first | assumption | rfl)) t_lt ?_
      first | refine adr_val rfl rfl (av_move_bool rfl) t_lt ?_ | refine adr_val rfl rfl (av_move rfl) t_lt ?_
      refine adr_skip rfl (want_no rfl rfl rfl rfl rfl) ?_
      refine adr_skip rfl (want_no rfl rfl rfl rfl rfl) ?_
      refine adr_skip rfl (want_no rfl rfl rfl rfl rfl) ?_
      refine adr_val rfl rfl (av_pick_bool (congrArg Value.bool (by first | assumption | rfl)) (by first | assumption | rfl)) t_lt ?_
      first | refine adr_val rfl rfl (av_move_bool rfl) t_lt ?_ | refine adr_val rfl rfl (av_move rfl) t_lt ?_
      refine adr_skip rfl (want_no rfl rfl rfl rfl rfl) ?_
      refine adr_skip rfl (want_no rfl rfl rfl rfl rfl) ?_
      refine adr_skip rfl (want_no rfl rfl rfl rfl rfl) ?_
      refine adr_skip rfl (want_gone rfl rfl rfl) ?_
      refine adr_skip rfl (want_gone rfl rfl rfl) ?_
      refine adr_skip rfl (want_gone rfl rfl rfl) ?_
      refine adr_skip rfl (want_gone rfl rfl rfl) ?_
      refine adr_skip rfl (want_gone rfl rfl rfl) ?_
      refine adr_skip rfl (want_gone rfl rfl rfl) ?_
      refine adr_skip rfl (want_gone rfl rfl rfl) ?_
      refine adr_skip rfl (want_gone rfl rfl rfl) ?_
      refine adr_skip rfl (want_gone rfl rfl rfl) ?_
      refine adr_skip rfl (want_no rfl rfl rfl rfl rfl) ?_
      refine adr_val rfl rfl (av_pick_bool (congrArg Value.bool (by first | assumption | rfl)) (by first | assumption | rfl)) t_lt ?_
      refine ac_cond_true rfl rfl ?_
      refine ac_seq ?_
      refine ac_region (by kernel_rfl) ?_
      first | refine aops_val (av_assign_bool rfl) ?_ | refine aops_val (av_assign rfl) ?_
      refine ac_ret ?_
      refine ⟨.bool false, aresult1 (ares_tmp rfl), false, rfl, fun h => (by cases h), fun hG => ?_⟩
      obtain ⟨⟨g1, g2, g3, g4, g5, g6, g7⟩, g8⟩ := hG i hix
      exfalso
      first
        | exact hna ⟨g1, g2⟩
        | exact hnb ⟨g3, g4⟩
        | (have h9 := (less_key p3 p4 g3 g4).1 (g8 hi0); omega)
        | omega
    · intro hg2
      have hya := is_in hg2
      first | refine adr_wval rfl (want_yes rfl rfl rfl hg2) rfl (av_move_func (by first | assumption | rfl)) t_lt ?_ | refine adr_wval rfl (want_yes rfl rfl rfl hg2) rfl (av_move (by first | assumption | rfl)) t_lt ?_
      refine adr_wval rfl (want_yes rfl rfl rfl hg2) rfl (av_fieldOff (off := 1) rfl Try.underlying28 rfl inf3.size (by decide) rfl) t_lt ?_
      refine adr_wval rfl (want_yes rfl rfl rfl hg2) rfl (av_load1 rfl Try.underlying3 rfl t_cell) t_lt ?_
      refine adr_wop rfl (want_yes rfl rfl rfl hg2) rfl (aop_call (In_link _ _) rfl Try.func125 rfl rfl rfl ?_)
      rintro v H ⟨rfl, rfl⟩
      refine ⟨t_pend, ?_⟩
      refine adr_wval rfl (want_yes rfl rfl rfl hg2) rfl (av_not rfl) t_lt ?_
      refine adr_val rfl rfl (av_pick_bool (congrArg Value.bool hg2) rfl) t_lt ?_
      first | refine adr_val rfl rfl (av_move_bool rfl) t_lt ?_ | refine adr_val rfl rfl (av_move rfl) t_lt ?_
      refine adr_guard rfl rfl rfl rfl ?_ ?_
      · intro hg4
        have hnb := not_in hg4
        refine adr_skip rfl (want_no rfl rfl rfl hg4 rfl) ?_
        refine adr_skip rfl (want_no rfl rfl rfl hg4 rfl) ?_
        refine adr_skip rfl (want_no rfl rfl rfl hg4 rfl) ?_
        refine adr_val rfl rfl (av_pick_bool (congrArg Value.bool hg4) (by first | assumption | rfl)) t_lt ?_
        first | refine adr_val rfl rfl (av_move_bool rfl) t_lt ?_ | refine adr_val rfl rfl (av_move rfl) t_lt ?_
        refine adr_skip rfl (want_no rfl rfl rfl rfl rfl) ?_
        refine adr_skip rfl (want_no rfl rfl rfl rfl rfl) ?_
        refine adr_skip rfl (want_no rfl rfl rfl rfl rfl) ?_
        refine adr_val rfl rfl (av_pick_bool (congrArg Value.bool (by first | assumption | rfl)) (by first | assumption | rfl)) t_lt ?_
        first | refine adr_val rfl rfl (av_move_bool rfl) t_lt ?_ | refine adr_val rfl rfl (av_move rfl) t_lt ?_
        refine adr_skip rfl (want_no rfl rfl rfl rfl rfl) ?_
        refine adr_skip rfl (want_no rfl rfl rfl rfl rfl) ?_
        refine adr_skip rfl (want_no rfl rfl rfl rfl rfl) ?_
        refine adr_val rfl rfl (av_pick_bool (congrArg Value.bool (by first | assumption | rfl)) (by first | assumption | rfl)) t_lt ?_
        first | refine adr_val rfl rfl (av_move_bool rfl) t_lt ?_ | refine adr_val rfl rfl (av_move rfl) t_lt ?_
        refine adr_skip rfl (want_no rfl rfl rfl rfl rfl) ?_
        refine adr_skip rfl (want_no rfl rfl rfl rfl rfl) ?_
        refine adr_skip rfl (want_no rfl rfl rfl rfl rfl) ?_
        refine adr_skip rfl (want_gone rfl rfl rfl) ?_
        refine adr_skip rfl (want_gone rfl rfl rfl) ?_
        refine adr_skip rfl (want_gone rfl rfl rfl) ?_
        refine adr_skip rfl (want_gone rfl rfl rfl) ?_
        refine adr_skip rfl (want_gone rfl rfl rfl) ?_
        refine adr_skip rfl (want_gone rfl rfl rfl) ?_
        refine adr_skip rfl (want_gone rfl rfl rfl) ?_
        refine adr_skip rfl (want_gone rfl rfl rfl) ?_
        refine adr_skip rfl (want_gone rfl rfl rfl) ?_
        refine adr_skip rfl (want_no rfl rfl rfl rfl rfl) ?_
        refine adr_val rfl rfl (av_pick_bool (congrArg Value.bool (by first | assumption | rfl)) (by first | assumption | rfl)) t_lt ?_
        refine ac_cond_true rfl rfl ?_
        refine ac_seq ?_
        refine ac_region (by kernel_rfl) ?_
        first | refine aops_val (av_assign_bool rfl) ?_ | refine aops_val (av_assign rfl) ?_
        refine ac_ret ?_
        refine ⟨.bool false, aresult1 (ares_tmp rfl), false, rfl, fun h => (by cases h), fun hG => ?_⟩
        obtain ⟨⟨g1, g2, g3, g4, g5, g6, g7⟩, g8⟩ := hG i hix
        exfalso
        first
          | exact hna ⟨g1, g2⟩
          | exact hnb ⟨g3, g4⟩
          | (have h9 := (less_key p3 p4 g3 g4).1 (g8 hi0); omega)
          | omega
      · intro hg4
        have hyb := is_in hg4
        refine adr_wval rfl (want_yes rfl rfl rfl hg4) rfl (av_fieldOff (off := 2) rfl Try.underlying28 rfl inf3.size (by decide) rfl) t_lt ?_
        refine adr_wval rfl (want_yes rfl rfl rfl hg4) rfl (av_load1 rfl Try.underlying3 rfl t_cell) t_lt ?_
        refine adr_wval rfl (want_yes rfl rfl rfl hg4) rfl (av_lt rfl rfl) t_lt ?_
        refine adr_val rfl rfl (av_pick_bool (congrArg Value.bool hg4) rfl) t_lt ?_
        first | refine adr_val rfl rfl (av_move_bool rfl) t_lt ?_ | refine adr_val rfl rfl (av_move rfl) t_lt ?_
        refine adr_guard rfl rfl rfl rfl ?_ ?_
        · intro hg6
          have hp6 := hg6; try simp only [decide_eq_true_eq, decide_eq_false_iff_not, Bool.not_eq_true', Bool.not_eq_false'] at hp6
          refine adr_skip rfl (want_no rfl rfl rfl hg6 rfl) ?_
          refine adr_skip rfl (want_no rfl rfl rfl hg6 rfl) ?_
          refine adr_skip rfl (want_no rfl rfl rfl hg6 rfl) ?_
          refine adr_val rfl rfl (av_pick_bool (congrArg Value.bool hg6) (by first | assumption | rfl)) t_lt ?_
          first | refine adr_val rfl rfl (av_move_bool rfl) t_lt ?_ | refine adr_val rfl rfl (av_move rfl) t_lt ?_
          refine adr_skip rfl (want_no rfl rfl rfl rfl rfl) ?_
          refine adr_skip rfl (want_no rfl rfl rfl rfl rfl) ?_
          refine adr_skip rfl (want_no rfl rfl rfl rfl rfl) ?_
          refine adr_val rfl rfl (av_pick_bool (congrArg Value.bool (by first | assumption | rfl)) (by first | assumption | rfl)) t_lt ?_
          first | refine adr_val rfl rfl (av_move_bool rfl) t_lt ?_ | refine adr_val rfl rfl (av_move rfl) t_lt ?_
          refine adr_skip rfl (want_no rfl rfl rfl rfl rfl) ?_
          refine adr_skip rfl (want_no rfl rfl rfl rfl rfl) ?_
          refine adr_skip rfl (want_no rfl rfl rfl rfl rfl) ?_
          refine adr_skip rfl (want_gone rfl rfl rfl) ?_
          refine adr_skip rfl (want_gone rfl rfl rfl) ?_
          refine adr_skip rfl (want_gone rfl rfl rfl) ?_
          refine adr_skip rfl (want_gone rfl rfl rfl) ?_
          refine adr_skip rfl (want_gone rfl rfl rfl) ?_
          refine adr_skip rfl (want_gone rfl rfl rfl) ?_
          refine adr_skip rfl (want_gone rfl rfl rfl) ?_
          refine adr_skip rfl (want_gone rfl rfl rfl) ?_
          refine adr_skip rfl (want_gone rfl rfl rfl) ?_
          refine adr_skip rfl (want_no rfl rfl rfl rfl rfl) ?_
          refine adr_val rfl rfl (av_pick_bool (congrArg Value.bool (by first | assumption | rfl)) (by first | assumption | rfl)) t_lt ?_
          refine ac_cond_true rfl rfl ?_
          refine ac_seq ?_
          refine ac_region (by kernel_rfl) ?_
          first | refine aops_val (av_assign_bool rfl) ?_ | refine aops_val (av_assign rfl) ?_
          refine ac_ret ?_
          refine ⟨.bool false, aresult1 (ares_tmp rfl), false, rfl, fun h => (by cases h), fun hG => ?_⟩
          obtain ⟨⟨g1, g2, g3, g4, g5, g6, g7⟩, g8⟩ := hG i hix
          exfalso
          first
            | exact hna ⟨g1, g2⟩
            | exact hnb ⟨g3, g4⟩
            | (have h9 := (less_key p3 p4 g3 g4).1 (g8 hi0); omega)
            | omega
        · intro hg6
          have hp6 := hg6; try simp only [decide_eq_true_eq, decide_eq_false_iff_not, Bool.not_eq_true', Bool.not_eq_false'] at hp6
          refine adr_wval rfl (want_yes rfl rfl rfl hg6) rfl (av_fieldOff (off := 3) rfl Try.underlying28 rfl inf26.size (by decide) rfl) t_lt ?_
          refine adr_wval rfl (want_yes rfl rfl rfl hg6) rfl (av_load1 rfl Try.underlying26 rfl t_cell) t_lt ?_
          refine adr_wval rfl (want_yes rfl rfl rfl hg6) rfl (av_lt rfl rfl) t_lt ?_
          refine adr_val rfl rfl (av_pick_bool (congrArg Value.bool hg6) rfl) t_lt ?_
          first | refine adr_val rfl rfl (av_move_bool rfl) t_lt ?_ | refine adr_val rfl rfl (av_move rfl) t_lt ?_
          refine adr_guard rfl rfl rfl rfl ?_ ?_
          · intro hg8
            have hp8 := hg8; try simp only [decide_eq_true_eq, decide_eq_false_iff_not, Bool.not_eq_true', Bool.not_eq_false'] at hp8
            refine adr_skip rfl (want_no rfl rfl rfl hg8 rfl) ?_
            refine adr_skip rfl (want_no rfl rfl rfl hg8 rfl) ?_
            refine adr_skip rfl (want_no rfl rfl rfl hg8 rfl) ?_
            refine adr_val rfl rfl (av_pick_bool (congrArg Value.bool hg8) (by first | assumption | rfl)) t_lt ?_
            first | refine adr_val rfl rfl (av_move_bool rfl) t_lt ?_ | refine adr_val rfl rfl (av_move rfl) t_lt ?_
            refine adr_skip rfl (want_no rfl rfl rfl rfl rfl) ?_
            refine adr_skip rfl (want_no rfl rfl rfl rfl rfl) ?_
            refine adr_skip rfl (want_no rfl rfl rfl rfl rfl) ?_
            refine adr_skip rfl (want_gone rfl rfl rfl) ?_
            refine adr_skip rfl (want_gone rfl rfl rfl) ?_
            refine adr_skip rfl (want_gone rfl rfl rfl) ?_
            refine adr_skip rfl (want_gone rfl rfl rfl) ?_
            refine adr_skip rfl (want_gone rfl rfl rfl) ?_
            refine adr_skip rfl (want_gone rfl rfl rfl) ?_
            refine adr_skip rfl (want_gone rfl rfl rfl) ?_
            refine adr_skip rfl (want_gone rfl rfl rfl) ?_
            refine adr_skip rfl (want_gone rfl rfl rfl) ?_
            refine adr_skip rfl (want_no rfl rfl rfl rfl rfl) ?_
            refine adr_val rfl rfl (av_pick_bool (congrArg Value.bool (by first | assumption | rfl)) (by first | assumption | rfl)) t_lt ?_
            refine ac_cond_true rfl rfl ?_
            refine ac_seq ?_
            refine ac_region (by kernel_rfl) ?_
            first | refine aops_val (av_assign_bool rfl) ?_ | refine aops_val (av_assign rfl) ?_
            refine ac_ret ?_
            refine ⟨.bool false, aresult1 (ares_tmp rfl), false, rfl, fun h => (by cases h), fun hG => ?_⟩
            obtain ⟨⟨g1, g2, g3, g4, g5, g6, g7⟩, g8⟩ := hG i hix
            exfalso
            first
              | exact hna ⟨g1, g2⟩
              | exact hnb ⟨g3, g4⟩
              | (have h9 := (less_key p3 p4 g3 g4).1 (g8 hi0); omega)
              | omega
          · intro hg8
            have hp8 := hg8; try simp only [decide_eq_true_eq, decide_eq_false_iff_not, Bool.not_eq_true', Bool.not_eq_false'] at hp8
            refine adr_wval rfl (want_yes rfl rfl rfl hg8) rfl (av_fieldOff (off := 3) rfl Try.underlying28 rfl inf26.size (by decide) rfl) t_lt ?_
            refine adr_wval rfl (want_yes rfl rfl rfl hg8) rfl (av_load1 rfl Try.underlying26 rfl t_cell) t_lt ?_
            refine adr_wval rfl (want_yes rfl rfl rfl hg8) rfl (av_gt rfl rfl) t_lt ?_
            refine adr_val rfl rfl (av_pick_bool (congrArg Value.bool hg8) rfl) t_lt ?_
            first | refine adr_val rfl rfl (av_move_bool rfl) t_lt ?_ | refine adr_val rfl rfl (av_move rfl) t_lt ?_
            refine adr_guard rfl rfl rfl rfl ?_ ?_
            · intro hg10
              have hp10 := hg10; try simp only [decide_eq_true_eq, decide_eq_false_iff_not, Bool.not_eq_true', Bool.not_eq_false'] at hp10
              refine adr_skip rfl (want_no rfl rfl rfl hg10 rfl) ?_
              refine adr_skip rfl (want_no rfl rfl rfl hg10 rfl) ?_
              refine adr_skip rfl (want_no rfl rfl rfl hg10 rfl) ?_
              refine adr_skip rfl (want_gone rfl rfl rfl) ?_
              refine adr_skip rfl (want_gone rfl rfl rfl) ?_
              refine adr_skip rfl (want_gone rfl rfl rfl) ?_
              refine adr_skip rfl (want_gone rfl rfl rfl) ?_
              refine adr_skip rfl (want_gone rfl rfl rfl) ?_
              refine adr_skip rfl (want_gone rfl rfl rfl) ?_
              refine adr_skip rfl (want_gone rfl rfl rfl) ?_
              refine adr_skip rfl (want_gone rfl rfl rfl) ?_
              refine adr_skip rfl (want_gone rfl rfl rfl) ?_
              refine adr_skip rfl (want_no rfl rfl rfl hg10 rfl) ?_
              refine adr_val rfl rfl (av_pick_bool (congrArg Value.bool hg10) (by first | assumption | rfl)) t_lt ?_
              refine ac_cond_true rfl rfl ?_
              refine ac_seq ?_
              refine ac_region (by kernel_rfl) ?_
              first | refine aops_val (av_assign_bool rfl) ?_ | refine aops_val (av_assign rfl) ?_
              refine ac_ret ?_
              refine ⟨.bool false, aresult1 (ares_tmp rfl), false, rfl, fun h => (by cases h), fun hG => ?_⟩
              obtain ⟨⟨g1, g2, g3, g4, g5, g6, g7⟩, g8⟩ := hG i hix
              exfalso
              first
                | exact hna ⟨g1, g2⟩
                | exact hnb ⟨g3, g4⟩
                | (have h9 := (less_key p3 p4 g3 g4).1 (g8 hi0); omega)
                | omega
            · intro hg10
              have hp10 := hg10; try simp only [decide_eq_true_eq, decide_eq_false_iff_not, Bool.not_eq_true', Bool.not_eq_false'] at hp10
              first | refine adr_wval rfl (want_yes rfl rfl rfl hg10) rfl (av_move_int rfl) t_lt ?_ | refine adr_wval rfl (want_yes rfl rfl rfl hg10) rfl (av_move rfl) t_lt ?_
              refine adr_wval rfl (want_yes rfl rfl rfl hg10) rfl (av_gt rfl rfl) t_lt ?_
              first | refine adr_wval rfl (want_yes rfl rfl rfl hg10) rfl (av_move_bool rfl) t_lt ?_ | refine adr_wval rfl (want_yes rfl rfl rfl hg10) rfl (av_move rfl) t_lt ?_
              refine adr_guard rfl rfl rfl rfl ?_ ?_
              · intro hg12
                have hp12 := hg12; try simp only [decide_eq_true_eq, decide_eq_false_iff_not, Bool.not_eq_true', Bool.not_eq_false'] at hp12
                first | refine adr_wval rfl (want_yes rfl rfl rfl hg12) rfl (av_move_sl (by first | assumption | rfl)) t_lt ?_ | refine adr_wval rfl (want_yes rfl rfl rfl hg12) rfl (av_move (by first | assumption | rfl)) t_lt ?_
                first | refine adr_wval rfl (want_yes rfl rfl rfl hg12) rfl (av_move_int rfl) t_lt ?_ | refine adr_wval rfl (want_yes rfl rfl rfl hg12) rfl (av_move rfl) t_lt ?_
                refine adr_wval rfl (want_yes rfl rfl rfl hg12) rfl (av_sub_is (r := ((i - 1 : Nat) : Int)) rfl rfl (by omega) (by omega)) t_lt ?_
                have hi0 : 0 < i := by omega
                have hix1 : i - 1 < xs.length := by omega
                obtain ⟨b2, o2, e2, hb2, hcell2⟩ := (hs.mono hle.sees).link_at hix1
                simp only [Option.some.injEq, Addr.mk.injEq, and_true] at e2
                obtain ⟨rfl, rfl⟩ := e2
                obtain ⟨p1, p2, p3, p4, p5, p6, p7⟩ := (hok (i - 1) hix1 (by omega)).1
                refine adr_wval rfl (want_yes rfl rfl rfl hg12) rfl (av_indexAddr rfl rfl Try.underlying22 inf28.size t_idx t_idx) t_lt ?_
                refine adr_wval rfl (want_yes rfl rfl rfl hg12) rfl (av_loadN (cs := [.int .i64 _, .int .i64 _, .int .i64 _, .int .u64 _]) rfl Try.underlying28 rfl inf28.size t_cells) t_lt ?_
                refine adr_wval rfl (want_yes rfl rfl rfl hg12) rfl (av_loadN (cs := [.int .i64 _, .int .i64 _, .int .i64 _, .int .u64 _]) rfl Try.underlying28 rfl inf28.size t_cells) t_lt ?_
                refine adr_wop rfl (want_yes rfl rfl rfl hg12) rfl (aop_call (key_link xs[i - 1] _ p1 p2 p3 p4) rfl Try.func126 rfl rfl rfl ?_)
                rintro v H ⟨rfl, rfl⟩
                refine ⟨t_pend, ?_⟩
                refine adr_wop rfl (want_yes rfl rfl rfl hg12) rfl (aop_call (key_link xs[i] _ hya.1 hya.2 hyb.1 hyb.2) rfl Try.func126 rfl rfl rfl ?_)
                rintro v H ⟨rfl, rfl⟩
                refine ⟨t_pend, ?_⟩
                refine adr_wval rfl (want_yes rfl rfl rfl hg12) rfl (av_ge rfl rfl) t_lt ?_
                refine adr_wval rfl (want_yes rfl rfl rfl hg10) rfl (av_pick_bool (congrArg Value.bool hg12) rfl) t_lt ?_
                refine adr_val rfl rfl (av_pick_bool (congrArg Value.bool hg10) rfl) t_lt ?_
                refine ac_split rfl rfl ?_ ?_
                · intro hc13
                  have hge : keyI xs[i] ≤ keyI (xs[i - 1]'(by omega)) := of_decide_eq_true hc13
                  refine ac_seq ?_
                  refine ac_region (by kernel_rfl) ?_
                  first | refine aops_val (av_assign_bool rfl) ?_ | refine aops_val (av_assign rfl) ?_
                  refine ac_ret ?_
                  refine ⟨.bool false, aresult1 (ares_tmp rfl), false, rfl, fun h => (by cases h), fun hG => ?_⟩
                  obtain ⟨⟨g1, g2, g3, g4, g5, g6, g7⟩, g8⟩ := hG i hix
                  exfalso
                  first
                    | exact hna ⟨g1, g2⟩
                    | exact hnb ⟨g3, g4⟩
                    | (have h9 := (less_key p3 p4 g3 g4).1 (g8 hi0); omega)
                    | omega
                · intro hc13
                  have hlt : ¬ keyI xs[i] ≤ keyI (xs[i - 1]'(by omega)) := of_decide_eq_false hc13
                  refine ac_skip ?_
                  refine ac_region (by kernel_rfl) ?_
                  first | refine aops_val (av_add64 (by first | assumption | rfl) (by first | assumption | rfl) t_fits) ?_ | refine aops_val (av_add (by first | assumption | rfl) (by first | assumption | rfl)) ?_
                  first | refine aops_val (av_move_int rfl) ?_ | refine aops_val (av_move rfl) ?_
                  refine ⟨xs.length - (i + 1), by omega, i + 1, by omega, rfl, t_le, fun j h h0 => ?_, e0, e3, e6, e7, rfl⟩
                  rcases Nat.lt_or_ge j i with h1 | h1
                  · exact hok j h h1
                  · obtain rfl : j = i := by omega
                    exact ⟨⟨hya.1, hya.2, hyb.1, hyb.2, by omega, by omega, by omega⟩, fun h2 => by first | omega | exact (less_key p3 p4 hyb.1 hyb.2).2 (by omega)⟩
              · intro hg12
                have hp12 := hg12; try simp only [decide_eq_true_eq, decide_eq_false_iff_not, Bool.not_eq_true', Bool.not_eq_false'] at hp12
                refine adr_skip rfl (want_no rfl rfl rfl hg12 rfl) ?_
                refine adr_skip rfl (want_no rfl rfl rfl hg12 rfl) ?_
                refine adr_skip rfl (want_no rfl rfl rfl hg12 rfl) ?_
                refine adr_skip rfl (want_no rfl rfl rfl hg12 rfl) ?_
                refine adr_skip rfl (want_no rfl rfl rfl hg12 rfl) ?_
                refine adr_skip rfl (want_no rfl rfl rfl hg12 rfl) ?_
                refine adr_skip rfl (want_no rfl rfl rfl hg12 rfl) ?_
                refine adr_skip rfl (want_no rfl rfl rfl hg12 rfl) ?_
                refine adr_skip rfl (want_no rfl rfl rfl hg12 rfl) ?_
                refine adr_wval rfl (want_yes rfl rfl rfl hg10) rfl (av_pick_bool (congrArg Value.bool hg12) (by first | assumption | rfl)) t_lt ?_
                refine adr_val rfl rfl (av_pick_bool (congrArg Value.bool hg10) rfl) t_lt ?_
                refine ac_cond_false rfl rfl ?_
                refine ac_skip ?_
                refine ac_region (by kernel_rfl) ?_
                first | refine aops_val (av_add64 (by first | assumption | rfl) (by first | assumption | rfl) t_fits) ?_ | refine aops_val (av_add (by first | assumption | rfl) (by first | assumption | rfl)) ?_
                first | refine aops_val (av_move_int rfl) ?_ | refine aops_val (av_move rfl) ?_
                refine ⟨xs.length - (i + 1), by omega, i + 1, by omega, rfl, t_le, fun j h h0 => ?_, e0, e3, e6, e7, rfl⟩
                rcases Nat.lt_or_ge j i with h1 | h1
                · exact hok j h h1
                · obtain rfl : j = i := by omega
                  exact ⟨⟨hya.1, hya.2, hyb.1, hyb.2, by omega, by omega, by omega⟩, fun h2 => by first | omega | exact (less_key p3 p4 hyb.1 hyb.2).2 (by omega)⟩
  · intro hc1
    (try simp only [decide_eq_true_eq, decide_eq_false_iff_not, Bool.not_eq_true', Bool.not_eq_false'] at hc1)
    refine ac_exit ?_
    refine ac_seq ?_
    refine ac_region (by kernel_rfl) ?_
    first | refine aops_val (av_assign_bool rfl) ?_ | refine aops_val (av_assign rfl) ?_
    refine ac_ret ?_
    refine ⟨.bool true, aresult1 (ares_tmp rfl), true, rfl, fun _ j h => hok j h (by omega), fun _ => rfl⟩
theorem PGood_links (xs : List Link) (v : Value) (H : Hp) (hs : Sl kLink H v xs) (hl : xs.length ≤ 9223372036854775807) :
    ACalls Try.prog 70 #[v] H (fun r H' => (∃ g, r = .bool g ∧ (g = true ↔ GoodL xs)) ∧ H' = H) :=
  ACalls.pure (fun v ⟨g, h, _⟩ => by rw [h]; rfl) (PGood_raw xs v H.ro (hs.mono H.sees_ro) hl)
theorem Away_link (x : Link) (H : Hp) : ACalls Try.prog 138 #[.agg #[.int .i64 x.a, .int .i64 x.b, .int .i64 x.cost, .int .u64 x.n]] H (fun r H' => r = .bool (decide (x.a ≠ x.b)) ∧ H' = H) := by
  refine ACalls.pure (R := fun r => r = .bool (decide (x.a ≠ x.b))) (fun v h => by rw [h]; rfl) ?_
  refine acalls_of_code Try.func138 rfl rfl rfl (by simp) ?_
  refine ac_seq ?_
  refine ac_region (by kernel_rfl) ?_
  refine aops_make (am_box_agg rfl) ?_
  first | refine aops_val (av_assign_bool rfl) ?_ | refine aops_val (av_assign rfl) ?_
  refine ac_seq ?_
  refine ac_region (by kernel_rfl) ?_
  refine aops_val (av_fieldOff (off := 0) rfl Try.underlying28 rfl inf3.size (by decide) rfl) ?_
  refine aops_val (av_load1 rfl Try.underlying3 rfl t_cell) ?_
  refine aops_val (av_fieldOff (off := 1) rfl Try.underlying28 rfl inf3.size (by decide) rfl) ?_
  refine aops_val (av_load1 rfl Try.underlying3 rfl t_cell) ?_
  refine aops_val (av_ne rfl rfl) ?_
  first | refine aops_val (av_assign_bool rfl) ?_ | refine aops_val (av_assign rfl) ?_
  refine ac_ret ?_
  exact ⟨_, aresult1 (ares_tmp rfl), rfl⟩
theorem Index_raw (xs : List Link) (v : Value) (H : Hp) (hs : Sl kLink H v xs) (hl : xs.length ≤ 9223372036854775807) :
    ACalls Try.prog 188 #[v, .func (.func 138) #[] #[]] H (fun r _ => ∃ k : Int, r = .int .i64 k ∧ -1 ≤ k ∧ (0 ≤ k ↔ ¬ ∀ x ∈ xs, x.a = x.b)) := by
  obtain ⟨A, c, rfl⟩ := hs.shape
  refine acalls_of_code Try.func188 rfl rfl rfl (by simp) ?_
  refine ac_seq ?_
  refine ac_region (by kernel_rfl) ?_
  first | refine aops_val (av_assign_int rfl) ?_ | refine aops_val (av_assign rfl) ?_
  refine ac_seq ?_
  refine ac_seq ?_
  refine ac_region (by kernel_rfl) ?_
  first | refine aops_val (av_move_sl rfl) ?_ | refine aops_val (av_move rfl) ?_
  refine aops_val (av_len rfl Try.underlying22) ?_
  first | refine aops_val (av_move_int rfl) ?_ | refine aops_val (av_move rfl) ?_
  refine ac_block ?_
  refine ac_loop (fun n t H' => ∃ (i : Nat), i ≤ xs.length ∧ n = xs.length - i ∧ H' = H ∧ (∀ x ∈ xs.take i, x.a = x.b) ∧ t 0 = .slice A xs.length c ∧ t 1 = .func (.func 138) #[] #[] ∧ t 7 = .int .i64 xs.length ∧ t 8 = .int .i64 i) (xs.length) (⟨0, by omega, rfl, rfl, by simp, rfl, rfl, rfl, rfl⟩) ?_
  rintro n t _ ⟨i, hi, rfl, rfl, hno, e0, e1, e7, e8⟩
  refine ac_seq ?_
  refine ac_region (by kernel_rfl) ?_
  refine aops_val (av_lt (by first | assumption | rfl) (by first | assumption | rfl)) ?_
  refine ac_seq ?_
  refine ac_split rfl rfl ?_ ?_
  · intro hc1
    (try simp only [decide_eq_true_eq, decide_eq_false_iff_not, Bool.not_eq_true', Bool.not_eq_false'] at hc1)
    refine ac_skip ?_
    refine ac_seq ?_
    refine ac_block ?_
    refine ac_seq ?_
    refine ac_region (by kernel_rfl) ?_
    first | refine aops_val (av_move_int (by first | assumption | rfl)) ?_ | refine aops_val (av_move (by first | assumption | rfl)) ?_
    first | refine aops_val (av_assign_int rfl) ?_ | refine aops_val (av_assign rfl) ?_
    refine ac_seq ?_
    refine ac_region (by kernel_rfl) ?_
    first | refine aops_val (av_move_func (by first | assumption | rfl)) ?_ | refine aops_val (av_move (by first | assumption | rfl)) ?_
    first | refine aops_val (av_move_sl (by first | assumption | rfl)) ?_ | refine aops_val (av_move (by first | assumption | rfl)) ?_
    first | refine aops_val (av_move_int rfl) ?_ | refine aops_val (av_move rfl) ?_
    have hix : i < xs.length := by omega
    obtain ⟨b, o, rfl, hb, hcell1⟩ := hs.link_at hix
    refine aops_val (av_indexAddr rfl rfl Try.underlying22 inf28.size t_idx t_idx) ?_
    refine aops_val (av_loadN (cs := [.int .i64 _, .int .i64 _, .int .i64 _, .int .u64 _]) rfl Try.underlying28 rfl inf28.size t_cells) ?_
    refine aops_op (aop_call (Away_link xs[i] _) rfl Try.func138 rfl rfl rfl ?_)
    rintro v5 H1 ⟨rfl, rfl⟩
    refine ac_split rfl rfl ?_ ?_
    · intro hc2
      have hne : xs[i].a ≠ xs[i].b := of_decide_eq_true hc2
      refine ac_seq ?_
      refine ac_region (by kernel_rfl) ?_
      first | refine aops_val (av_move_int rfl) ?_ | refine aops_val (av_move rfl) ?_
      first | refine aops_val (av_assign_int rfl) ?_ | refine aops_val (av_assign rfl) ?_
      refine ac_ret ?_
      exact ⟨.int .i64 i, aresult1 (ares_tmp (by first | assumption | rfl)), i, rfl, by omega, fun _ h => hne (h _ (List.getElem_mem hix)), fun _ => by omega⟩
    · intro hc2
      have heq : xs[i].a = xs[i].b := Decidable.not_not.1 (of_decide_eq_false hc2)
      refine ac_skip ?_
      refine ac_region (by kernel_rfl) ?_
      first | refine aops_val (av_add64 (by first | assumption | rfl) (by first | assumption | rfl) t_fits) ?_ | refine aops_val (av_add (by first | assumption | rfl) (by first | assumption | rfl)) ?_
      first | refine aops_val (av_move_int rfl) ?_ | refine aops_val (av_move rfl) ?_
      refine ⟨xs.length - (i + 1), by omega, i + 1, by omega, rfl, rfl, ?_, e0, e1, e7, rfl⟩
      rw [← take_next hix]
      intro x hx
      rcases List.mem_append.1 hx with hx | hx
      · exact hno x hx
      · simp at hx; rw [hx]; exact heq
  · intro hc1
    (try simp only [decide_eq_true_eq, decide_eq_false_iff_not, Bool.not_eq_true', Bool.not_eq_false'] at hc1)
    refine ac_exit ?_
    refine ac_seq ?_
    refine ac_region (by kernel_rfl) ?_
    first | refine aops_val (av_assign_int rfl) ?_ | refine aops_val (av_assign rfl) ?_
    refine ac_ret ?_
    rw [List.take_of_length_le (by omega)] at hno
    exact ⟨.int .i64 (-1), aresult1 (ares_tmp rfl), -1, rfl, by omega, fun h => by omega, fun h => absurd hno h⟩
theorem Contains_links (xs : List Link) (v : Value) (H : Hp) (hs : Sl kLink H v xs) (hl : xs.length ≤ 9223372036854775807) :
    ACalls Try.prog 139 #[v, .func (.func 138) #[] #[]] H (fun r H' => (∃ g, r = .bool g ∧ (g = false ↔ ∀ x ∈ xs, x.a = x.b)) ∧ H' = H) := by
  refine ACalls.pure (R := fun r => ∃ g, r = .bool g ∧ (g = false ↔ ∀ x ∈ xs, x.a = x.b)) (fun v ⟨g, h, _⟩ => by rw [h]; rfl) ?_
  have hs := hs.mono H.sees_ro
  obtain ⟨A, c, rfl⟩ := hs.shape
  refine acalls_of_code Try.func139 rfl rfl rfl (by simp) ?_
  refine ac_seq ?_
  refine ac_region (by kernel_rfl) ?_
  first | refine aops_val (av_assign_bool rfl) ?_ | refine aops_val (av_assign rfl) ?_
  refine ac_seq ?_
  refine ac_region (by kernel_rfl) ?_
  first | refine aops_val (av_move_sl rfl) ?_ | refine aops_val (av_move rfl) ?_
  first | refine aops_val (av_move_func rfl) ?_ | refine aops_val (av_move rfl) ?_
  refine aops_op (aop_call (Index_raw xs _ _ hs hl) rfl Try.func188 rfl rfl rfl ?_)
  rintro v2 H2 ⟨k, rfl, hk, hk2⟩
  refine aops_val (av_ge rfl rfl) ?_
  first | refine aops_val (av_assign_bool rfl) ?_ | refine aops_val (av_assign rfl) ?_
  refine ac_ret ?_
  refine ⟨_, aresult1 (ares_tmp rfl), decide (k ≥ 0), rfl, ?_⟩
  rw [decide_eq_false_iff_not]
  exact ⟨fun h => Decidable.not_not.1 fun h2 => h (hk2.2 h2), fun h h2 => hk2.1 h2 h⟩
end Go.Proofs.Ytnkjikpmgeknbaa.Am

namespace Go.Proofs.Ytnkjikpmgeknbaa.Am
open Go Go.RowKit
set_option maxRecDepth 100000
set_option linter.unusedVariables false
set_option linter.unusedSimpArgs false

theorem nodup_len : ∀ (n : Nat) (l : List Int), l.Nodup → (∀ x ∈ l, 0 ≤ x ∧ x < n) → l.length ≤ n
  | 0, l, _, h => by
    cases l with
    | nil => exact Nat.le_refl _
    | cons a l => have := h a List.mem_cons_self; omega
  | n + 1, l, hd, h => by
    have h1 : (l.filter fun x => decide (x ≠ (n : Int))).length ≤ n := nodup_len n _ (hd.filter _) fun x hx => by
      have h2 := List.mem_filter.1 hx
      have h3 := h x h2.1
      have h4 := of_decide_eq_true h2.2
      omega
    have h2 : l.length ≤ (l.filter fun x => decide (x ≠ (n : Int))).length + 1 := by
      clear h1 h
      induction l with
      | nil => simp
      | cons a l ih =>
        obtain ⟨ha, hl⟩ := List.nodup_cons.1 hd
        by_cases e : a = n
        · have : (l.filter fun x => decide (x ≠ (n : Int))) = l := by
            rw [List.filter_eq_self]
            intro x hx
            exact decide_eq_true fun e2 => ha (by rw [e, ← e2]; exact hx)
          rw [List.filter_cons, if_neg (by simp [e]), this]
          exact Nat.le_refl _
        · rw [List.filter_cons, if_pos (by simp [e])]
          have := ih hl
          simp only [List.length_cons]; omega
    omega
theorem GoodF.order_at {f : Forest} (h : GoodF f) {i : Nat} (hi : i < f.vars.length) : f.order.getD i 0 = f.order[i]'(by have := h.l1; omega) := getD_at _
theorem GoodF.nodup {f : Forest} (h : GoodF f) : f.order.Nodup := by
  rw [List.nodup_iff_pairwise_ne] <;> skip
  rw [List.pairwise_iff_getElem]
  intro i j hi hj hij e
  have h1 := h.l1
  have h3 := (h.ok j (by omega)).2.2.1
  rw [h.order_at (by omega)] at h3
  apply h3
  rw [← e]
  exact List.mem_take_iff_getElem.2 ⟨i, by omega, rfl⟩
theorem GoodF.in_order {f : Forest} (h : GoodF f) {v : Nat} (hv : v < f.vars.length) : (v : Int) ∈ f.order := by
  rcases Classical.em ((v : Int) ∈ f.order) with h1 | h1
  · exact h1
  · exfalso
    have h2 := nodup_len f.vars.length ((v : Int) :: f.order) (List.nodup_cons.2 ⟨h1, h.nodup⟩) fun x hx => by
      rcases List.mem_cons.1 hx with rfl | hx
      · omega
      · obtain ⟨i, hi, rfl⟩ := List.getElem_of_mem hx
        have hl := h.l1
        have := h.ok i (by omega)
        rw [OkF, h.order_at (by omega)] at this
        exact ⟨this.1, this.2.1⟩
    have := h.l1
    simp at h2
    omega
theorem GoodF.parent_ge {f : Forest} (h : GoodF f) {v : Nat} (hv : v < f.vars.length) : -1 ≤ f.parent.getD v 0 ∧ f.parent.getD v 0 < f.vars.length := by
  obtain ⟨i, hi, e⟩ := List.getElem_of_mem (h.in_order hv)
  have hl := h.l1
  have h4 := (h.ok i (by omega)).2.2.2
  rw [h.order_at (by omega), e] at h4
  rw [Int.toNat_natCast] at h4
  rcases h4 with h4 | h4
  · omega
  · obtain ⟨j, hj, e2⟩ := List.getElem_of_mem (List.mem_of_mem_take h4)
    have h5 := h.ok j (by omega)
    rw [OkF, h.order_at (by omega), e2] at h5
    omega
/-- What is asked of a variable's nodes and links. -/
def OkP (f : Forest) (p : Parts) (v : Nat) : Prop := GoodL (p.nodes.getD v []) ∧ GoodL (p.links.getD v []) ∧ (∀ x ∈ p.nodes.getD v [], x.a = x.b) ∧ (f.parent.getD v 0 = -1 → p.links.getD v [] = [])
structure GoodP (f : Forest) (p : Parts) : Prop where
  gf : GoodF f
  n1 : p.nodes.length = f.vars.length
  n2 : p.links.length = f.vars.length
  ok : ∀ v, v < f.vars.length → OkP f p v
theorem getD_list {ns : List (List Link)} {i : Nat} (h : i < ns.length) : ns.getD i [] = ns[i] := by rw [List.getD_eq_getElem?_getD, List.getElem?_eq_getElem h]; rfl
structure Small (f : Forest) (p : Parts) : Prop where
  s0 : f.vars.length ≤ 1000000
  s1 : f.order.length ≤ 1000000
  s2 : f.parent.length ≤ 1000000
  s3 : p.nodes.length ≤ 1000000
  s4 : p.links.length ≤ 1000000
  s5 : ∀ l ∈ p.nodes, l.length ≤ 1000000
  s6 : ∀ l ∈ p.links, l.length ≤ 1000000
set_option maxHeartbeats 1000000 in
theorem GoodP_dom_raw (f : Forest) (p : Parts) (cs ds : List Value) (H : Hp) (hp : kForest.rep H f cs) (hq : kParts.rep H p ds) (hsm : Small f p) :
    ACalls Try.prog 96 #[.agg cs.toArray, .agg ds.toArray] H (fun r _ => ∃ g, r = .bool g ∧ (g = true ↔ GoodP f p)) := by
  have hp0 := hp
  obtain ⟨z0, z1, z2, z3, z4, z5, z6⟩ := hsm
  obtain ⟨v0, v1, v2, v3, v4, rfl, hs0, hs1, hs2, hs3, hs4⟩ := hp
  obtain ⟨A0, c0, rfl⟩ := hs0.shape
  obtain ⟨A1, c1, rfl⟩ := hs1.shape
  obtain ⟨A2, c2, rfl⟩ := hs2.shape
  obtain ⟨A3, c3, rfl⟩ := hs3.shape
  obtain ⟨A4, c4, rfl⟩ := hs4.shape
  obtain ⟨u0, u1, rfl, hn0, hn1⟩ := hq
  obtain ⟨B0, d0, rfl⟩ := hn0.shape
  obtain ⟨B1, d1, rfl⟩ := hn1.shape
  refine acalls_of_code Try.func96 rfl rfl rfl (by simp) ?_
  refine ac_seq ?_
  refine ac_region (by kernel_rfl) ?_
  refine aops_make (am_box_agg rfl) ?_
  refine aops_make (am_box_agg rfl) ?_
  first | refine aops_val (av_assign_bool rfl) ?_ | refine aops_val (av_assign rfl) ?_
  refine ac_seq ?_
  refine ac_region (by kernel_rfl) ?_
  refine aops_val (av_fieldOff (off := 0) rfl Try.underlying62 rfl inf59.size (by decide) rfl) ?_
  refine aops_val (av_load1 rfl Try.underlying59 rfl t_cell) ?_
  refine aops_val (av_len rfl Try.underlying59) ?_
  first | refine aops_val (av_assign_int rfl) ?_ | refine aops_val (av_assign rfl) ?_
  refine ac_seq ?_
  refine ac_seq ?_
  refine ac_region (by kernel_rfl) ?_
  first | refine aops_val (av_loadN (cs := [.slice _ _ _, .slice _ _ _, .slice _ _ _, .slice _ _ _, .slice _ _ _]) rfl Try.underlying62 rfl inf62.size t_cells) ?_ | refine aops_val (av_loadN (cs := [_, _, _, _, _]) rfl Try.underlying62 rfl inf62.size t_cells) ?_
  refine aops_op (aop_call (GoodF_For f _ _ (kForest.mono t_sees hp0) z0 z1 z2) rfl Try.func137 rfl rfl rfl ?_)
  rintro v2 H2 ⟨⟨g, rfl, hg⟩, hH2⟩; subst hH2
  refine aops_val (av_not rfl) ?_
  first | refine aops_val (av_move_bool rfl) ?_ | refine aops_val (av_move rfl) ?_
  refine aops_guard rfl rfl rfl ?_ ?_
  · intro hg1
    have hgf : ¬ GoodF f := fun h => by rw [hg.2 h] at hg1; cases hg1
    refine aops_skip (want_no rfl rfl rfl hg1 rfl) ?_
    refine aops_skip (want_no rfl rfl rfl hg1 rfl) ?_
    refine aops_skip (want_no rfl rfl rfl hg1 rfl) ?_
    refine aops_skip (want_no rfl rfl rfl hg1 rfl) ?_
    refine aops_skip (want_no rfl rfl rfl hg1 rfl) ?_
    refine aops_val (av_pick_bool (congrArg Value.bool hg1) rfl) ?_
    first | refine aops_val (av_move_bool rfl) ?_ | refine aops_val (av_move rfl) ?_
    refine aops_skip (want_no rfl rfl rfl rfl rfl) ?_
    refine aops_skip (want_no rfl rfl rfl rfl rfl) ?_
    refine aops_skip (want_no rfl rfl rfl rfl rfl) ?_
    refine aops_skip (want_no rfl rfl rfl rfl rfl) ?_
    refine aops_skip (want_no rfl rfl rfl rfl rfl) ?_
    refine aops_val (av_pick_bool (congrArg Value.bool rfl) rfl) ?_
    refine ac_cond_true rfl rfl ?_
    refine ac_seq ?_
    refine ac_region (by kernel_rfl) ?_
    first | refine aops_val (av_assign_bool rfl) ?_ | refine aops_val (av_assign rfl) ?_
    refine ac_ret ?_
    refine ⟨.bool false, aresult1 (ares_tmp rfl), false, rfl, fun h => (by cases h), fun hG => ?_⟩
    exfalso
    have q1 := hG.n1
    have q2 := hG.n2
    first | exact hgf hG.gf | omega
  · intro hg1
    have hgt : GoodF f := hg.1 (by simpa using hg1)
    refine aops_wval (want_yes rfl rfl rfl hg1) (av_fieldOff (off := 0) rfl Try.underlying65 rfl inf63.size (by decide) rfl) ?_
    refine aops_wval (want_yes rfl rfl rfl hg1) (av_load1 rfl Try.underlying63 rfl t_cell) ?_
    refine aops_wval (want_yes rfl rfl rfl hg1) (av_len rfl Try.underlying63) ?_
    first | refine aops_wval (want_yes rfl rfl rfl hg1) (av_move_int rfl) ?_ | refine aops_wval (want_yes rfl rfl rfl hg1) (av_move rfl) ?_
    refine aops_wval (want_yes rfl rfl rfl hg1) (av_ne rfl rfl) ?_
    refine aops_val (av_pick_bool (congrArg Value.bool hg1) rfl) ?_
    first | refine aops_val (av_move_bool rfl) ?_ | refine aops_val (av_move rfl) ?_
    refine aops_guard rfl rfl rfl ?_ ?_
    · intro hg3
      have hp3 := hg3; try simp only [decide_eq_true_eq, decide_eq_false_iff_not, Bool.not_eq_true', Bool.not_eq_false'] at hp3
      refine aops_skip (want_no rfl rfl rfl hg3 rfl) ?_
      refine aops_skip (want_no rfl rfl rfl hg3 rfl) ?_
      refine aops_skip (want_no rfl rfl rfl hg3 rfl) ?_
      refine aops_skip (want_no rfl rfl rfl hg3 rfl) ?_
      refine aops_skip (want_no rfl rfl rfl hg3 rfl) ?_
      refine aops_val (av_pick_bool (congrArg Value.bool hg3) rfl) ?_
      refine ac_cond_true rfl rfl ?_
      refine ac_seq ?_
      refine ac_region (by kernel_rfl) ?_
      first | refine aops_val (av_assign_bool rfl) ?_ | refine aops_val (av_assign rfl) ?_
      refine ac_ret ?_
      refine ⟨.bool false, aresult1 (ares_tmp rfl), false, rfl, fun h => (by cases h), fun hG => ?_⟩
      exfalso
      have q1 := hG.n1
      have q2 := hG.n2
      first | exact hgf hG.gf | omega
    · intro hg3
      have hp3 := hg3; try simp only [decide_eq_true_eq, decide_eq_false_iff_not, Bool.not_eq_true', Bool.not_eq_false'] at hp3
      refine aops_wval (want_yes rfl rfl rfl hg3) (av_fieldOff (off := 1) rfl Try.underlying65 rfl inf63.size (by decide) rfl) ?_
      refine aops_wval (want_yes rfl rfl rfl hg3) (av_load1 rfl Try.underlying63 rfl t_cell) ?_
      refine aops_wval (want_yes rfl rfl rfl hg3) (av_len rfl Try.underlying63) ?_
      first | refine aops_wval (want_yes rfl rfl rfl hg3) (av_move_int rfl) ?_ | refine aops_wval (want_yes rfl rfl rfl hg3) (av_move rfl) ?_
      refine aops_wval (want_yes rfl rfl rfl hg3) (av_ne rfl rfl) ?_
      refine aops_val (av_pick_bool (congrArg Value.bool hg3) rfl) ?_
      refine ac_split rfl rfl ?_ ?_
      · intro hc5
        (try simp only [decide_eq_true_eq, decide_eq_false_iff_not, Bool.not_eq_true', Bool.not_eq_false'] at hc5)
        refine ac_seq ?_
        refine ac_region (by kernel_rfl) ?_
        first | refine aops_val (av_assign_bool rfl) ?_ | refine aops_val (av_assign rfl) ?_
        refine ac_ret ?_
        refine ⟨.bool false, aresult1 (ares_tmp rfl), false, rfl, fun h => (by cases h), fun hG => ?_⟩
        exfalso
        have q1 := hG.n1
        have q2 := hG.n2
        first | exact hgf hG.gf | omega
      · intro hc5
        have hlen : p.nodes.length = f.vars.length ∧ p.links.length = f.vars.length := by
          have hc5' := of_decide_eq_false hc5
          constructor <;> omega
        refine ac_skip ?_
        refine ac_seq ?_
        refine ac_seq ?_
        refine ac_region (by kernel_rfl) ?_
        refine aops_val (av_fieldOff (off := 0) rfl Try.underlying62 rfl inf59.size (by decide) rfl) ?_
        refine aops_val (av_load1 rfl Try.underlying59 rfl t_cell) ?_
        refine aops_val (av_len rfl Try.underlying59) ?_
        first | refine aops_val (av_move_int rfl) ?_ | refine aops_val (av_move rfl) ?_
        refine ac_block ?_
        refine ac_loop (fun n t H' => ∃ (i : Nat), i ≤ f.vars.length ∧ n = f.vars.length - i ∧ H' = (H.push (.own 0 [.slice A0 f.vars.length c0, .slice A1 f.order.length c1, .slice A2 f.parent.length c2, .slice A3 f.links.length c3, .slice A4 f.loops.length c4])).push (.own 0 [.slice B0 p.nodes.length d0, .slice B1 p.links.length d1]) ∧ (∀ j, j < i → OkP f p j) ∧ t 2 = .pointer (some ⟨H.size, 0, none⟩) ∧ t 3 = .pointer (some ⟨H.size + 1, 0, none⟩) ∧ t 5 = .int .i64 f.vars.length ∧ t 30 = .int .i64 f.vars.length ∧ t 31 = .int .i64 i) (f.vars.length) (⟨0, by omega, rfl, rfl, fun j h => by omega, rfl, rfl, rfl, rfl, rfl⟩) ?_
        rintro n t _ ⟨i, hi, rfl, rfl, hok, e2, e3, e5, e30, e31⟩
        refine ac_seq ?_
        refine ac_region (by kernel_rfl) ?_
        refine aops_val (av_lt (by first | assumption | rfl) (by first | assumption | rfl)) ?_
        refine ac_seq ?_
        refine ac_split rfl rfl ?_ ?_
        · intro hc6
          (try simp only [decide_eq_true_eq, decide_eq_false_iff_not, Bool.not_eq_true', Bool.not_eq_false'] at hc6)
          refine ac_skip ?_
          refine ac_seq ?_
          refine ac_block ?_
          refine ac_seq ?_
          refine ac_region (by kernel_rfl) ?_
          first | refine aops_val (av_move_int (by first | assumption | rfl)) ?_ | refine aops_val (av_move (by first | assumption | rfl)) ?_
          first | refine aops_val (av_assign_int rfl) ?_ | refine aops_val (av_assign rfl) ?_
          refine ac_seq ?_
          refine ac_region (by kernel_rfl) ?_
          first | refine aops_val (av_assign_func rfl) ?_ | refine aops_val (av_assign rfl) ?_
          refine ac_seq ?_
          have hpl := hgt.l2
          have hix : i < f.vars.length := by omega
          have hseS := (Hp.le_push' (H.le_push (.own 0 [.slice A0 f.vars.length c0, .slice A1 f.order.length c1, .slice A2 f.parent.length c2, .slice A3 f.links.length c3, .slice A4 f.loops.length c4])) (.own 0 [.slice B0 p.nodes.length d0, .slice B1 p.links.length d1])).sees
          have hixn : i < p.nodes.length := by omega
          have hixl : i < p.links.length := by omega
          obtain ⟨b, o, ks, rfl, hb, ⟨w0, rfl, hw0⟩, hcell0⟩ := (hn0.mono hseS).elem_at hixn
          obtain ⟨b1, o1, ks1, rfl, hb1, ⟨w1, rfl, hw1⟩, hcell1⟩ := (hn1.mono hseS).elem_at hixl
          have hcell0' := hcell0.one
          have hcell1' := hcell1.one
          obtain ⟨A6, c6, rfl⟩ := hw0.shape
          obtain ⟨A7, c7, rfl⟩ := hw1.shape
          obtain ⟨b2, o2, rfl, hb2, hcell2⟩ := (hs2.mono hseS).int_at (i := (i : Int)) (by omega) (by have := hgt.l2; omega)
          rw [Int.toNat_natCast] at hcell2
          have hzn := z5 _ (List.getElem_mem hixn)
          have hzl := z6 _ (List.getElem_mem hixl)
          have gn := getD_list hixn
          have gl := getD_list hixl
          refine ac_region (by kernel_rfl) ?_
          refine aops_val (av_fieldOff (off := 0) (by first | assumption | rfl) Try.underlying65 (by first | assumption | rfl) inf63.size (by decide) (by first | assumption | rfl)) ?_
          refine aops_val (av_load1 rfl Try.underlying63 rfl t_cell) ?_
          first | refine aops_val (av_move_int rfl) ?_ | refine aops_val (av_move rfl) ?_
          refine aops_val (av_indexAddr rfl rfl Try.underlying63 inf22.size t_idx t_idx) ?_
          refine aops_val (av_load1 rfl Try.underlying22 rfl t_cell) ?_
          refine aops_op (aop_call (PGood_links p.nodes[i] _ _ hw0 (by omega)) rfl Try.func70 rfl rfl rfl ?_)
          rintro v5 H5 ⟨⟨g1, rfl, hg1⟩, hH5⟩; subst hH5
          refine aops_val (av_not rfl) ?_
          first | refine aops_val (av_move_bool rfl) ?_ | refine aops_val (av_move rfl) ?_
          refine aops_guard rfl rfl rfl ?_ ?_
          · intro hg7
            have hno : ¬ GoodL p.nodes[i] := fun h => by rw [hg1.2 h] at hg7; cases hg7
            refine aops_skip (want_no rfl rfl rfl hg7 rfl) ?_
            refine aops_skip (want_no rfl rfl rfl hg7 rfl) ?_
            refine aops_skip (want_no rfl rfl rfl hg7 rfl) ?_
            refine aops_skip (want_no rfl rfl rfl hg7 rfl) ?_
            refine aops_skip (want_no rfl rfl rfl hg7 rfl) ?_
            refine aops_skip (want_no rfl rfl rfl hg7 rfl) ?_
            refine aops_skip (want_no rfl rfl rfl hg7 rfl) ?_
            refine aops_val (av_pick_bool (congrArg Value.bool hg7) (by first | assumption | rfl)) ?_
            first | refine aops_val (av_move_bool rfl) ?_ | refine aops_val (av_move rfl) ?_
            refine aops_skip (want_no rfl rfl rfl rfl rfl) ?_
            refine aops_skip (want_no rfl rfl rfl rfl rfl) ?_
            refine aops_skip (want_no rfl rfl rfl rfl rfl) ?_
            refine aops_skip (want_no rfl rfl rfl rfl rfl) ?_
            refine aops_skip (want_no rfl rfl rfl rfl rfl) ?_
            refine aops_skip (want_no rfl rfl rfl rfl rfl) ?_
            refine aops_skip (want_no rfl rfl rfl rfl rfl) ?_
            refine aops_val (av_pick_bool (congrArg Value.bool (by first | assumption | rfl)) (by first | assumption | rfl)) ?_
            first | refine aops_val (av_move_bool rfl) ?_ | refine aops_val (av_move rfl) ?_
            refine aops_skip (want_no rfl rfl rfl rfl rfl) ?_
            refine aops_skip (want_no rfl rfl rfl rfl rfl) ?_
            refine aops_skip (want_no rfl rfl rfl rfl rfl) ?_
            refine aops_skip (want_no rfl rfl rfl rfl rfl) ?_
            refine aops_skip (want_no rfl rfl rfl rfl rfl) ?_
            refine aops_skip (want_no rfl rfl rfl rfl rfl) ?_
            refine aops_skip (want_no rfl rfl rfl rfl rfl) ?_
            refine aops_skip (want_gone rfl rfl rfl) ?_
            refine aops_skip (want_gone rfl rfl rfl) ?_
            refine aops_skip (want_gone rfl rfl rfl) ?_
            refine aops_skip (want_gone rfl rfl rfl) ?_
            refine aops_skip (want_gone rfl rfl rfl) ?_
            refine aops_skip (want_gone rfl rfl rfl) ?_
            refine aops_skip (want_gone rfl rfl rfl) ?_
            refine aops_skip (want_no rfl rfl rfl rfl rfl) ?_
            refine aops_val (av_pick_bool (congrArg Value.bool (by first | assumption | rfl)) (by first | assumption | rfl)) ?_
            refine ac_cond_true rfl rfl ?_
            refine ac_seq ?_
            refine ac_region (by kernel_rfl) ?_
            first | refine aops_val (av_assign_bool rfl) ?_ | refine aops_val (av_assign rfl) ?_
            refine ac_ret ?_
            refine ⟨.bool false, aresult1 (ares_tmp rfl), false, rfl, fun h => (by cases h), fun hG => ?_⟩
            obtain ⟨q1, q2, q3, q4⟩ := hG.ok i hix
            rw [gn] at q1 q3
            rw [gl] at q2 q4
            exfalso
            first | exact hno q1 | exact hno q2 | exact hno q3 | (rw [q4 hpar] at hll; simp at hll)
          · intro hg7
            have hgn : GoodL p.nodes[i] := hg1.1 (by simpa using hg7)
            refine aops_wval (want_yes rfl rfl rfl hg7) (av_fieldOff (off := 1) (by first | assumption | rfl) Try.underlying65 (by first | assumption | rfl) inf63.size (by decide) (by first | assumption | rfl)) ?_
            refine aops_wval (want_yes rfl rfl rfl hg7) (av_load1 rfl Try.underlying63 rfl t_cell) ?_
            first | refine aops_wval (want_yes rfl rfl rfl hg7) (av_move_int rfl) ?_ | refine aops_wval (want_yes rfl rfl rfl hg7) (av_move rfl) ?_
            refine aops_wval (want_yes rfl rfl rfl hg7) (av_indexAddr rfl rfl Try.underlying63 inf22.size t_idx t_idx) ?_
            refine aops_wval (want_yes rfl rfl rfl hg7) (av_load1 rfl Try.underlying22 rfl t_cell) ?_
            refine aops_want (want_yes rfl rfl rfl hg7) (aop_call (PGood_links p.links[i] _ _ hw1 (by omega)) rfl Try.func70 rfl rfl rfl ?_)
            rintro v6 H6 ⟨⟨g2, rfl, hg2⟩, hH6⟩; subst hH6
            refine aops_wval (want_yes rfl rfl rfl hg7) (av_not rfl) ?_
            refine aops_val (av_pick_bool (congrArg Value.bool hg7) rfl) ?_
            first | refine aops_val (av_move_bool rfl) ?_ | refine aops_val (av_move rfl) ?_
            refine aops_guard rfl rfl rfl ?_ ?_
            · intro hg9
              have hno : ¬ GoodL p.links[i] := fun h => by rw [hg2.2 h] at hg9; cases hg9
              refine aops_skip (want_no rfl rfl rfl hg9 rfl) ?_
              refine aops_skip (want_no rfl rfl rfl hg9 rfl) ?_
              refine aops_skip (want_no rfl rfl rfl hg9 rfl) ?_
              refine aops_skip (want_no rfl rfl rfl hg9 rfl) ?_
              refine aops_skip (want_no rfl rfl rfl hg9 rfl) ?_
              refine aops_skip (want_no rfl rfl rfl hg9 rfl) ?_
              refine aops_skip (want_no rfl rfl rfl hg9 rfl) ?_
              refine aops_val (av_pick_bool (congrArg Value.bool hg9) (by first | assumption | rfl)) ?_
              first | refine aops_val (av_move_bool rfl) ?_ | refine aops_val (av_move rfl) ?_
              refine aops_skip (want_no rfl rfl rfl rfl rfl) ?_
              refine aops_skip (want_no rfl rfl rfl rfl rfl) ?_
              refine aops_skip (want_no rfl rfl rfl rfl rfl) ?_
              refine aops_skip (want_no rfl rfl rfl rfl rfl) ?_
              refine aops_skip (want_no rfl rfl rfl rfl rfl) ?_
              refine aops_skip (want_no rfl rfl rfl rfl rfl) ?_
              refine aops_skip (want_no rfl rfl rfl rfl rfl) ?_
              refine aops_skip (want_gone rfl rfl rfl) ?_
              refine aops_skip (want_gone rfl rfl rfl) ?_
              refine aops_skip (want_gone rfl rfl rfl) ?_
              refine aops_skip (want_gone rfl rfl rfl) ?_
              refine aops_skip (want_gone rfl rfl rfl) ?_
              refine aops_skip (want_gone rfl rfl rfl) ?_
              refine aops_skip (want_gone rfl rfl rfl) ?_
              refine aops_skip (want_no rfl rfl rfl rfl rfl) ?_
              refine aops_val (av_pick_bool (congrArg Value.bool (by first | assumption | rfl)) (by first | assumption | rfl)) ?_
              refine ac_cond_true rfl rfl ?_
              refine ac_seq ?_
              refine ac_region (by kernel_rfl) ?_
              first | refine aops_val (av_assign_bool rfl) ?_ | refine aops_val (av_assign rfl) ?_
              refine ac_ret ?_
              refine ⟨.bool false, aresult1 (ares_tmp rfl), false, rfl, fun h => (by cases h), fun hG => ?_⟩
              obtain ⟨q1, q2, q3, q4⟩ := hG.ok i hix
              rw [gn] at q1 q3
              rw [gl] at q2 q4
              exfalso
              first | exact hno q1 | exact hno q2 | exact hno q3 | (rw [q4 hpar] at hll; simp at hll)
            · intro hg9
              have hgl : GoodL p.links[i] := hg2.1 (by simpa using hg9)
              refine aops_wval (want_yes rfl rfl rfl hg9) (av_fieldOff (off := 0) (by first | assumption | rfl) Try.underlying65 (by first | assumption | rfl) inf63.size (by decide) (by first | assumption | rfl)) ?_
              refine aops_wval (want_yes rfl rfl rfl hg9) (av_load1 rfl Try.underlying63 rfl t_cell) ?_
              first | refine aops_wval (want_yes rfl rfl rfl hg9) (av_move_int rfl) ?_ | refine aops_wval (want_yes rfl rfl rfl hg9) (av_move rfl) ?_
              refine aops_wval (want_yes rfl rfl rfl hg9) (av_indexAddr rfl rfl Try.underlying63 inf22.size t_idx t_idx) ?_
              refine aops_wval (want_yes rfl rfl rfl hg9) (av_load1 rfl Try.underlying22 rfl t_cell) ?_
              first | refine aops_wval (want_yes rfl rfl rfl hg9) (av_move_func rfl) ?_ | refine aops_wval (want_yes rfl rfl rfl hg9) (av_move rfl) ?_
              refine aops_want (want_yes rfl rfl rfl hg9) (aop_call (Contains_links p.nodes[i] _ _ hw0 (by omega)) rfl Try.func139 rfl rfl rfl ?_)
              rintro v7 H7 ⟨⟨g3, rfl, hg3⟩, hH7⟩; subst hH7
              refine aops_val (av_pick_bool (congrArg Value.bool hg9) rfl) ?_
              first | refine aops_val (av_move_bool rfl) ?_ | refine aops_val (av_move rfl) ?_
              refine aops_guard rfl rfl rfl ?_ ?_
              · intro hg11
                have hno : ¬ ∀ x ∈ p.nodes[i], x.a = x.b := fun h => by rw [hg3.2 h] at hg11; cases hg11
                refine aops_skip (want_no rfl rfl rfl hg11 rfl) ?_
                refine aops_skip (want_no rfl rfl rfl hg11 rfl) ?_
                refine aops_skip (want_no rfl rfl rfl hg11 rfl) ?_
                refine aops_skip (want_no rfl rfl rfl hg11 rfl) ?_
                refine aops_skip (want_no rfl rfl rfl hg11 rfl) ?_
                refine aops_skip (want_no rfl rfl rfl hg11 rfl) ?_
                refine aops_skip (want_no rfl rfl rfl hg11 rfl) ?_
                refine aops_skip (want_gone rfl rfl rfl) ?_
                refine aops_skip (want_gone rfl rfl rfl) ?_
                refine aops_skip (want_gone rfl rfl rfl) ?_
                refine aops_skip (want_gone rfl rfl rfl) ?_
                refine aops_skip (want_gone rfl rfl rfl) ?_
                refine aops_skip (want_gone rfl rfl rfl) ?_
                refine aops_skip (want_gone rfl rfl rfl) ?_
                refine aops_skip (want_no rfl rfl rfl hg11 rfl) ?_
                refine aops_val (av_pick_bool (congrArg Value.bool hg11) (by first | assumption | rfl)) ?_
                refine ac_cond_true rfl rfl ?_
                refine ac_seq ?_
                refine ac_region (by kernel_rfl) ?_
                first | refine aops_val (av_assign_bool rfl) ?_ | refine aops_val (av_assign rfl) ?_
                refine ac_ret ?_
                refine ⟨.bool false, aresult1 (ares_tmp rfl), false, rfl, fun h => (by cases h), fun hG => ?_⟩
                obtain ⟨q1, q2, q3, q4⟩ := hG.ok i hix
                rw [gn] at q1 q3
                rw [gl] at q2 q4
                exfalso
                first | exact hno q1 | exact hno q2 | exact hno q3 | (rw [q4 hpar] at hll; simp at hll)
              · intro hg11
                have haw : ∀ x ∈ p.nodes[i], x.a = x.b := hg3.1 hg11
                refine aops_wval (want_yes rfl rfl rfl hg11) (av_fieldOff (off := 2) (by first | assumption | rfl) Try.underlying62 (by first | assumption | rfl) inf29.size (by decide) (by first | assumption | rfl)) ?_
                refine aops_wval (want_yes rfl rfl rfl hg11) (av_load1 rfl Try.underlying29 rfl t_cell) ?_
                first | refine aops_wval (want_yes rfl rfl rfl hg11) (av_move_int rfl) ?_ | refine aops_wval (want_yes rfl rfl rfl hg11) (av_move rfl) ?_
                refine aops_wval (want_yes rfl rfl rfl hg11) (av_indexAddr rfl rfl Try.underlying29 inf3.size t_idx t_idx) ?_
                refine aops_wval (want_yes rfl rfl rfl hg11) (av_load1 rfl Try.underlying3 rfl t_cell) ?_
                refine aops_wval (want_yes rfl rfl rfl hg11) (av_eq rfl rfl) ?_
                first | refine aops_wval (want_yes rfl rfl rfl hg11) (av_move_bool rfl) ?_ | refine aops_wval (want_yes rfl rfl rfl hg11) (av_move rfl) ?_
                refine aops_guard rfl rfl rfl ?_ ?_
                · intro hg13
                  have hpar : f.parent.getD i 0 = -1 := of_decide_eq_true hg13
                  refine aops_wval (want_yes rfl rfl rfl hg13) (av_fieldOff (off := 1) (by first | assumption | rfl) Try.underlying65 (by first | assumption | rfl) inf63.size (by decide) (by first | assumption | rfl)) ?_
                  refine aops_wval (want_yes rfl rfl rfl hg13) (av_load1 rfl Try.underlying63 rfl t_cell) ?_
                  first | refine aops_wval (want_yes rfl rfl rfl hg13) (av_move_int rfl) ?_ | refine aops_wval (want_yes rfl rfl rfl hg13) (av_move rfl) ?_
                  refine aops_wval (want_yes rfl rfl rfl hg13) (av_indexAddr rfl rfl Try.underlying63 inf22.size t_idx t_idx) ?_
                  refine aops_wval (want_yes rfl rfl rfl hg13) (av_load1 rfl Try.underlying22 rfl t_cell) ?_
                  refine aops_wval (want_yes rfl rfl rfl hg13) (av_len rfl Try.underlying22) ?_
                  refine aops_wval (want_yes rfl rfl rfl hg13) (av_gt rfl rfl) ?_
                  refine aops_wval (want_yes rfl rfl rfl hg11) (av_pick_bool (congrArg Value.bool hg13) rfl) ?_
                  refine aops_val (av_pick_bool (congrArg Value.bool hg11) rfl) ?_
                  refine ac_split rfl rfl ?_ ?_
                  · intro hc14
                    have hll : 0 < p.links[i].length := by have := of_decide_eq_true hc14; omega
                    refine ac_seq ?_
                    refine ac_region (by kernel_rfl) ?_
                    first | refine aops_val (av_assign_bool rfl) ?_ | refine aops_val (av_assign rfl) ?_
                    refine ac_ret ?_
                    refine ⟨.bool false, aresult1 (ares_tmp rfl), false, rfl, fun h => (by cases h), fun hG => ?_⟩
                    obtain ⟨q1, q2, q3, q4⟩ := hG.ok i hix
                    rw [gn] at q1 q3
                    rw [gl] at q2 q4
                    exfalso
                    first | exact hno q1 | exact hno q2 | exact hno q3 | (rw [q4 hpar] at hll; simp at hll)
                  · intro hc14
                    have hll : p.links[i] = [] := List.eq_nil_of_length_eq_zero (by have := of_decide_eq_false hc14; omega)
                    refine ac_skip ?_
                    refine ac_region (by kernel_rfl) ?_
                    first | refine aops_val (av_add64 (by first | assumption | rfl) (by first | assumption | rfl) t_fits) ?_ | refine aops_val (av_add (by first | assumption | rfl) (by first | assumption | rfl)) ?_
                    first | refine aops_val (av_move_int rfl) ?_ | refine aops_val (av_move rfl) ?_
                    refine ⟨f.vars.length - (i + 1), by omega, i + 1, by omega, rfl, rfl, fun j h => ?_, e2, e3, e5, e30, rfl⟩
                    rcases Nat.lt_or_ge j i with h1 | h1
                    · exact hok j h1
                    · obtain rfl : j = i := by omega
                      exact ⟨by rw [gn]; exact hgn, by rw [gl]; exact hgl, by rw [gn]; exact haw, fun h => by rw [gl]; first | exact hll | exact absurd h hpar⟩
                · intro hg13
                  have hpar : ¬ f.parent.getD i 0 = -1 := of_decide_eq_false hg13
                  refine aops_skip (want_no rfl rfl rfl hg13 rfl) ?_
                  refine aops_skip (want_no rfl rfl rfl hg13 rfl) ?_
                  refine aops_skip (want_no rfl rfl rfl hg13 rfl) ?_
                  refine aops_skip (want_no rfl rfl rfl hg13 rfl) ?_
                  refine aops_skip (want_no rfl rfl rfl hg13 rfl) ?_
                  refine aops_skip (want_no rfl rfl rfl hg13 rfl) ?_
                  refine aops_skip (want_no rfl rfl rfl hg13 rfl) ?_
                  refine aops_wval (want_yes rfl rfl rfl hg11) (av_pick_bool (congrArg Value.bool hg13) (by first | assumption | rfl)) ?_
                  refine aops_val (av_pick_bool (congrArg Value.bool hg11) rfl) ?_
                  refine ac_cond_false rfl rfl ?_
                  refine ac_skip ?_
                  refine ac_region (by kernel_rfl) ?_
                  first | refine aops_val (av_add64 (by first | assumption | rfl) (by first | assumption | rfl) t_fits) ?_ | refine aops_val (av_add (by first | assumption | rfl) (by first | assumption | rfl)) ?_
                  first | refine aops_val (av_move_int rfl) ?_ | refine aops_val (av_move rfl) ?_
                  refine ⟨f.vars.length - (i + 1), by omega, i + 1, by omega, rfl, rfl, fun j h => ?_, e2, e3, e5, e30, rfl⟩
                  rcases Nat.lt_or_ge j i with h1 | h1
                  · exact hok j h1
                  · obtain rfl : j = i := by omega
                    exact ⟨by rw [gn]; exact hgn, by rw [gl]; exact hgl, by rw [gn]; exact haw, fun h => by rw [gl]; first | exact hll | exact absurd h hpar⟩
        · intro hc6
          (try simp only [decide_eq_true_eq, decide_eq_false_iff_not, Bool.not_eq_true', Bool.not_eq_false'] at hc6)
          refine ac_exit ?_
          refine ac_seq ?_
          refine ac_region (by kernel_rfl) ?_
          first | refine aops_val (av_assign_bool rfl) ?_ | refine aops_val (av_assign rfl) ?_
          refine ac_ret ?_
          exact ⟨.bool true, aresult1 (ares_tmp rfl), true, rfl, fun _ => ⟨hgt, hlen.1, hlen.2, fun j h => hok j (by omega)⟩, fun _ => rfl⟩
theorem GoodP_dom (f : Forest) (p : Parts) (cs ds : List Value) (H : Hp) (hp : kForest.rep H f cs) (hq : kParts.rep H p ds) (hsm : Small f p) :
    ACalls Try.prog 96 #[.agg cs.toArray, .agg ds.toArray] H (fun r H' => (∃ g, r = .bool g ∧ (g = true ↔ GoodP f p)) ∧ H' = H) :=
  ACalls.pure (fun v ⟨g, h, _⟩ => by rw [h]; rfl) (GoodP_dom_raw f p cs ds H.ro (kForest.mono H.sees_ro hp) (kParts.mono H.sees_ro hq) hsm)
end Go.Proofs.Ytnkjikpmgeknbaa.Am
