/- The heap's methods at no heap, and the statement HeapNone as the abstract machine runs it. -/
import Derived.Test.YtinfigghaonceaaAmLives34
namespace Go.Proofs.Ytinfigghaonceaa.Am
open Go Go.RowKit
set_option linter.unusedVariables false
set_option linter.unusedSimpArgs false

theorem Push_nil (cs : List Value) (x : Item) (H : Hp) (hr : kItem.rep H x cs) : ACalls Try.prog 16 #[.pointer none, .agg cs.toArray] H (fun r H' => r = .tuple #[] ∧ H.le H') := by
  obtain ⟨w, rfl, hw⟩ := hr
  obtain ⟨A2, c2, rfl⟩ := hw.shape
  refine acalls_of_code Try.func16 rfl rfl rfl (by simp) ?_
  refine ac_seq ?_
  refine ac_region (by kernel_rfl) ?_
  refine aops_make (am_box_agg rfl) ?_
  refine ac_seq ?_
  refine ac_seq ?_
  refine ac_region (by kernel_rfl) ?_
  first | refine aops_val (av_move_ptr rfl) ?_ | refine aops_val (av_move rfl) ?_
  refine aops_val (av_ptr_eq_nil rfl (by (intro a h; first | (injection h with h; subst h; rfl) | cases h)) rfl Try.underlying32) ?_
  refine ac_split rfl rfl ?_ ?_
  · intro hc1
    (try simp only [decide_eq_true_eq, decide_eq_false_iff_not, Bool.not_eq_true', Bool.not_eq_false'] at hc1)
    refine ac_ret ?_
    exact ⟨.tuple #[], aresult0, rfl, by (repeat (first | assumption | exact Hp.le_refl _ | refine Hp.le_put_new ?_ (by (first | assumption | (simp; done) | (simp; omega) | omega)) _ | refine Hp.le_push' ?_ _ | refine Hp.le_trans ?_ (by assumption)))⟩
  · intro hc1
    cases hc1
theorem Pop_nil (H : Hp) : ACalls Try.prog 18 #[.pointer none] H (fun r H' => r = .tuple #[.agg #[.int .i64 0, .slice none 0 0, .int .i64 0, .int .i64 0], .bool false] ∧ H.le H') := by
  refine acalls_of_code Try.func18 rfl rfl rfl (by simp) ?_
  refine ac_seq ?_
  refine ac_region (by kernel_rfl) ?_
  refine aops_make (am_zero (l := [.int .i64 0, .slice none 0 0, .int .i64 0, .int .i64 0]) inf24.zero rfl (by decide)) ?_
  first | refine aops_val (av_assign_bool rfl) ?_ | refine aops_val (av_assign rfl) ?_
  refine ac_seq ?_
  refine ac_seq ?_
  refine ac_region (by kernel_rfl) ?_
  first | refine aops_val (av_move_ptr rfl) ?_ | refine aops_val (av_move rfl) ?_
  refine aops_val (av_ptr_eq_nil rfl (by (intro a h; first | (injection h with h; subst h; rfl) | cases h)) rfl Try.underlying32) ?_
  first | refine aops_val (av_move_bool rfl) ?_ | refine aops_val (av_move rfl) ?_
  refine aops_guard rfl rfl rfl ?_ ?_
  · intro hg1
    have hp1 := hg1; try simp only [decide_eq_true_eq, decide_eq_false_iff_not, Bool.not_eq_true', Bool.not_eq_false'] at hp1
    refine aops_skip (want_no rfl rfl rfl hg1 rfl) ?_
    refine aops_skip (want_no rfl rfl rfl hg1 rfl) ?_
    refine aops_skip (want_no rfl rfl rfl hg1 rfl) ?_
    refine aops_skip (want_no rfl rfl rfl hg1 rfl) ?_
    refine aops_skip (want_no rfl rfl rfl hg1 rfl) ?_
    refine aops_skip (want_no rfl rfl rfl hg1 rfl) ?_
    refine aops_val (av_pick_bool (congrArg Value.bool hg1) rfl) ?_
    refine ac_cond_true rfl rfl ?_
    refine ac_seq ?_
    refine ac_region (by kernel_rfl) ?_
    first | refine aops_val (av_build (pl := [(0, 1), (1, 1), (2, 1), (3, 1)]) (r := [.int .i64 _, .slice _ _ _, .int .i64 _, .int .i64 _]) Try.underlying24 inf24.zero (by decide) rfl rfl) ?_ | refine aops_val (av_build (pl := [(0, 1), (1, 1), (2, 1), (3, 1)]) (r := [.int .i64 _, _, .int .i64 _, .int .i64 _]) Try.underlying24 inf24.zero (by decide) rfl rfl) ?_
    first | refine aops_op (aop_putN (vs := [.int .i64 _, .slice _ _ _, .int .i64 _, .int .i64 _]) rfl rfl inf24.size (by (repeat (first | assumption | exact Hp.push_new _ _ | exact Hp.put_same _ _ _ | refine (Hp.push_old _ _ (by (first | assumption | (simp; done) | (simp; omega) | omega))).trans ?_ | refine (Hp.put_other _ _ (by (first | assumption | omega | (simp; done) | (simp; omega)))).trans ?_ | refine le_got (by assumption) (by (first | assumption | (simp; done) | (simp; omega) | omega)) (by intro e; cases e) ?_))) (by (first | (simp; done) | (simp; omega) | omega | (rw [setR_length (by first | (simp; omega) | omega)]; first | (simp; omega) | omega))) rfl rfl ?_) | refine aops_op (aop_putN (vs := [.int .i64 _, _, .int .i64 _, .int .i64 _]) rfl rfl inf24.size (by (repeat (first | assumption | exact Hp.push_new _ _ | exact Hp.put_same _ _ _ | refine (Hp.push_old _ _ (by (first | assumption | (simp; done) | (simp; omega) | omega))).trans ?_ | refine (Hp.put_other _ _ (by (first | assumption | omega | (simp; done) | (simp; omega)))).trans ?_ | refine le_got (by assumption) (by (first | assumption | (simp; done) | (simp; omega) | omega)) (by intro e; cases e) ?_))) (by (first | (simp; done) | (simp; omega) | omega | (rw [setR_length (by first | (simp; omega) | omega)]; first | (simp; omega) | omega))) rfl rfl ?_)
    first | refine aops_val (av_assign_bool rfl) ?_ | refine aops_val (av_assign rfl) ?_
    refine ac_ret ?_
    exact ⟨.tuple #[.agg #[.int .i64 0, .slice none 0 0, .int .i64 0, .int .i64 0], .bool false], aresult2 (ares_cell rfl (aload_agg (cs := [.int .i64 0, .slice none 0 0, .int .i64 0, .int .i64 0]) Try.underlying24 rfl inf24.size (by (first | assumption | exact cells_get (by (repeat (first | assumption | exact Hp.push_new _ _ | exact Hp.put_same _ _ _ | refine (Hp.push_old _ _ (by (first | assumption | (simp; done) | (simp; omega) | omega))).trans ?_ | refine (Hp.put_other _ _ (by (first | assumption | omega | (simp; done) | (simp; omega)))).trans ?_ | refine le_got (by assumption) (by (first | assumption | (simp; done) | (simp; omega) | omega)) (by intro e; cases e) ?_))) rfl | exact Cells.le (by assumption) (by (repeat (first | assumption | exact Hp.le_refl _ | refine Hp.le_put_new ?_ (by (first | assumption | (simp; done) | (simp; omega) | omega)) _ | refine Hp.le_push' ?_ _ | refine Hp.le_trans ?_ (by assumption)))) (by (first | assumption | (simp; done) | (simp; omega) | omega)))))) (ares_tmp rfl), rfl, by (repeat (first | assumption | exact Hp.le_refl _ | refine Hp.le_put_new ?_ (by (first | assumption | (simp; done) | (simp; omega) | omega)) _ | refine Hp.le_push' ?_ _ | refine Hp.le_trans ?_ (by assumption)))⟩
  · intro hg1
    cases hg1
theorem Peek_nil (H : Hp) : ACalls Try.prog 21 #[.pointer none] H (fun r H' => r = .tuple #[.agg #[.int .i64 0, .slice none 0 0, .int .i64 0, .int .i64 0], .bool false] ∧ H.le H') := by
  refine acalls_of_code Try.func21 rfl rfl rfl (by simp) ?_
  refine ac_seq ?_
  refine ac_region (by kernel_rfl) ?_
  refine aops_make (am_zero (l := [.int .i64 0, .slice none 0 0, .int .i64 0, .int .i64 0]) inf24.zero rfl (by decide)) ?_
  first | refine aops_val (av_assign_bool rfl) ?_ | refine aops_val (av_assign rfl) ?_
  refine ac_seq ?_
  refine ac_seq ?_
  refine ac_region (by kernel_rfl) ?_
  first | refine aops_val (av_move_ptr rfl) ?_ | refine aops_val (av_move rfl) ?_
  refine aops_val (av_ptr_eq_nil rfl (by (intro a h; first | (injection h with h; subst h; rfl) | cases h)) rfl Try.underlying32) ?_
  first | refine aops_val (av_move_bool rfl) ?_ | refine aops_val (av_move rfl) ?_
  refine aops_guard rfl rfl rfl ?_ ?_
  · intro hg1
    have hp1 := hg1; try simp only [decide_eq_true_eq, decide_eq_false_iff_not, Bool.not_eq_true', Bool.not_eq_false'] at hp1
    refine aops_skip (want_no rfl rfl rfl hg1 rfl) ?_
    refine aops_skip (want_no rfl rfl rfl hg1 rfl) ?_
    refine aops_skip (want_no rfl rfl rfl hg1 rfl) ?_
    refine aops_skip (want_no rfl rfl rfl hg1 rfl) ?_
    refine aops_skip (want_no rfl rfl rfl hg1 rfl) ?_
    refine aops_skip (want_no rfl rfl rfl hg1 rfl) ?_
    refine aops_val (av_pick_bool (congrArg Value.bool hg1) rfl) ?_
    refine ac_cond_true rfl rfl ?_
    refine ac_seq ?_
    refine ac_region (by kernel_rfl) ?_
    first | refine aops_val (av_build (pl := [(0, 1), (1, 1), (2, 1), (3, 1)]) (r := [.int .i64 _, .slice _ _ _, .int .i64 _, .int .i64 _]) Try.underlying24 inf24.zero (by decide) rfl rfl) ?_ | refine aops_val (av_build (pl := [(0, 1), (1, 1), (2, 1), (3, 1)]) (r := [.int .i64 _, _, .int .i64 _, .int .i64 _]) Try.underlying24 inf24.zero (by decide) rfl rfl) ?_
    first | refine aops_op (aop_putN (vs := [.int .i64 _, .slice _ _ _, .int .i64 _, .int .i64 _]) rfl rfl inf24.size (by (repeat (first | assumption | exact Hp.push_new _ _ | exact Hp.put_same _ _ _ | refine (Hp.push_old _ _ (by (first | assumption | (simp; done) | (simp; omega) | omega))).trans ?_ | refine (Hp.put_other _ _ (by (first | assumption | omega | (simp; done) | (simp; omega)))).trans ?_ | refine le_got (by assumption) (by (first | assumption | (simp; done) | (simp; omega) | omega)) (by intro e; cases e) ?_))) (by (first | (simp; done) | (simp; omega) | omega | (rw [setR_length (by first | (simp; omega) | omega)]; first | (simp; omega) | omega))) rfl rfl ?_) | refine aops_op (aop_putN (vs := [.int .i64 _, _, .int .i64 _, .int .i64 _]) rfl rfl inf24.size (by (repeat (first | assumption | exact Hp.push_new _ _ | exact Hp.put_same _ _ _ | refine (Hp.push_old _ _ (by (first | assumption | (simp; done) | (simp; omega) | omega))).trans ?_ | refine (Hp.put_other _ _ (by (first | assumption | omega | (simp; done) | (simp; omega)))).trans ?_ | refine le_got (by assumption) (by (first | assumption | (simp; done) | (simp; omega) | omega)) (by intro e; cases e) ?_))) (by (first | (simp; done) | (simp; omega) | omega | (rw [setR_length (by first | (simp; omega) | omega)]; first | (simp; omega) | omega))) rfl rfl ?_)
    first | refine aops_val (av_assign_bool rfl) ?_ | refine aops_val (av_assign rfl) ?_
    refine ac_ret ?_
    exact ⟨.tuple #[.agg #[.int .i64 0, .slice none 0 0, .int .i64 0, .int .i64 0], .bool false], aresult2 (ares_cell rfl (aload_agg (cs := [.int .i64 0, .slice none 0 0, .int .i64 0, .int .i64 0]) Try.underlying24 rfl inf24.size (by (first | assumption | exact cells_get (by (repeat (first | assumption | exact Hp.push_new _ _ | exact Hp.put_same _ _ _ | refine (Hp.push_old _ _ (by (first | assumption | (simp; done) | (simp; omega) | omega))).trans ?_ | refine (Hp.put_other _ _ (by (first | assumption | omega | (simp; done) | (simp; omega)))).trans ?_ | refine le_got (by assumption) (by (first | assumption | (simp; done) | (simp; omega) | omega)) (by intro e; cases e) ?_))) rfl | exact Cells.le (by assumption) (by (repeat (first | assumption | exact Hp.le_refl _ | refine Hp.le_put_new ?_ (by (first | assumption | (simp; done) | (simp; omega) | omega)) _ | refine Hp.le_push' ?_ _ | refine Hp.le_trans ?_ (by assumption)))) (by (first | assumption | (simp; done) | (simp; omega) | omega)))))) (ares_tmp rfl), rfl, by (repeat (first | assumption | exact Hp.le_refl _ | refine Hp.le_put_new ?_ (by (first | assumption | (simp; done) | (simp; omega) | omega)) _ | refine Hp.le_push' ?_ _ | refine Hp.le_trans ?_ (by assumption)))⟩
  · intro hg1
    cases hg1
theorem Len_nil (H : Hp) : ACalls Try.prog 19 #[.pointer none] H (fun r H' => r = .int .i64 0 ∧ H' = H) := by
  refine acalls_of_code Try.func19 rfl rfl rfl (by simp) ?_
  refine ac_seq ?_
  refine ac_region (by kernel_rfl) ?_
  first | refine aops_val (av_assign_int rfl) ?_ | refine aops_val (av_assign rfl) ?_
  refine ac_seq ?_
  refine ac_seq ?_
  refine ac_region (by kernel_rfl) ?_
  first | refine aops_val (av_move_ptr rfl) ?_ | refine aops_val (av_move rfl) ?_
  refine aops_val (av_ptr_eq_nil rfl (by (intro a h; first | (injection h with h; subst h; rfl) | cases h)) rfl Try.underlying32) ?_
  refine ac_split rfl rfl ?_ ?_
  · intro hc1
    (try simp only [decide_eq_true_eq, decide_eq_false_iff_not, Bool.not_eq_true', Bool.not_eq_false'] at hc1)
    refine ac_seq ?_
    refine ac_region (by kernel_rfl) ?_
    first | refine aops_val (av_assign_int rfl) ?_ | refine aops_val (av_assign rfl) ?_
    refine ac_ret ?_
    exact ⟨.int .i64 0, aresult1 (ares_tmp rfl), rfl, rfl⟩
  · intro hc1
    cases hc1
theorem List_nil (H : Hp) : ACalls Try.prog 22 #[.pointer none] H (fun r H' => r = .slice none 0 0 ∧ H' = H) := by
  refine acalls_of_code Try.func22 rfl rfl rfl (by simp) ?_
  refine ac_seq ?_
  refine ac_region (by kernel_rfl) ?_
  first | refine aops_val (av_assign_sl rfl) ?_ | refine aops_val (av_assign rfl) ?_
  refine ac_seq ?_
  refine ac_region (by kernel_rfl) ?_
  first | refine aops_val (av_assign_sl rfl) ?_ | refine aops_val (av_assign rfl) ?_
  refine ac_seq ?_
  refine ac_seq ?_
  refine ac_region (by kernel_rfl) ?_
  first | refine aops_val (av_move_ptr rfl) ?_ | refine aops_val (av_move rfl) ?_
  refine aops_val (av_ptr_eq_nil rfl (by (intro a h; first | (injection h with h; subst h; rfl) | cases h)) rfl Try.underlying32) ?_
  refine ac_split rfl rfl ?_ ?_
  · intro hc1
    (try simp only [decide_eq_true_eq, decide_eq_false_iff_not, Bool.not_eq_true', Bool.not_eq_false'] at hc1)
    refine ac_seq ?_
    refine ac_region (by kernel_rfl) ?_
    first | refine aops_val (av_assign_sl rfl) ?_ | refine aops_val (av_assign rfl) ?_
    refine ac_ret ?_
    exact ⟨.slice none 0 0, aresult1 (ares_tmp rfl), rfl, rfl⟩
  · intro hc1
    cases hc1
theorem HeapNone_ok (x : Item) (cs : List Value) (H : Hp) (hr : kItem.rep H x cs) (hl : x.nodes.length ≤ 9223372036854775807) :
    ACalls Try.prog 7 #[.agg cs.toArray] H (fun r H' => r = .bool true ∧ H.le H') := by
  obtain ⟨w, rfl, hw⟩ := hr
  obtain ⟨A2, c2, rfl⟩ := hw.shape
  refine acalls_of_code Try.func7 rfl rfl rfl (by simp) ?_
  refine ac_seq ?_
  refine ac_region (by kernel_rfl) ?_
  refine aops_make (am_box_agg rfl) ?_
  first | refine aops_val (av_assign_bool rfl) ?_ | refine aops_val (av_assign rfl) ?_
  refine ac_seq ?_
  refine ac_region (by kernel_rfl) ?_
  first | refine aops_val (av_assign_ptr rfl) ?_ | refine aops_val (av_assign rfl) ?_
  refine ac_seq ?_
  refine ac_region (by kernel_rfl) ?_
  first | refine aops_val (av_move_ptr rfl) ?_ | refine aops_val (av_move rfl) ?_
  first | refine aops_val (av_loadN (cs := [.int .i64 _, .slice _ _ _, .int .i64 _, .int .i64 _]) rfl Try.underlying24 rfl inf24.size (by (first | assumption | exact cells_get (by (repeat (first | assumption | exact Hp.push_new _ _ | exact Hp.put_same _ _ _ | refine (Hp.push_old _ _ (by (first | assumption | (simp; done) | (simp; omega) | omega))).trans ?_ | refine (Hp.put_other _ _ (by (first | assumption | omega | (simp; done) | (simp; omega)))).trans ?_ | refine le_got (by assumption) (by (first | assumption | (simp; done) | (simp; omega) | omega)) (by intro e; cases e) ?_))) rfl | exact Cells.le (by assumption) (by (repeat (first | assumption | exact Hp.le_refl _ | refine Hp.le_put_new ?_ (by (first | assumption | (simp; done) | (simp; omega) | omega)) _ | refine Hp.le_push' ?_ _ | refine Hp.le_trans ?_ (by assumption)))) (by (first | assumption | (simp; done) | (simp; omega) | omega))))) ?_ | refine aops_val (av_loadN (cs := [.int .i64 _, _, .int .i64 _, .int .i64 _]) rfl Try.underlying24 rfl inf24.size (by (first | assumption | exact cells_get (by (repeat (first | assumption | exact Hp.push_new _ _ | exact Hp.put_same _ _ _ | refine (Hp.push_old _ _ (by (first | assumption | (simp; done) | (simp; omega) | omega))).trans ?_ | refine (Hp.put_other _ _ (by (first | assumption | omega | (simp; done) | (simp; omega)))).trans ?_ | refine le_got (by assumption) (by (first | assumption | (simp; done) | (simp; omega) | omega)) (by intro e; cases e) ?_))) rfl | exact Cells.le (by assumption) (by (repeat (first | assumption | exact Hp.le_refl _ | refine Hp.le_put_new ?_ (by (first | assumption | (simp; done) | (simp; omega) | omega)) _ | refine Hp.le_push' ?_ _ | refine Hp.le_trans ?_ (by assumption)))) (by (first | assumption | (simp; done) | (simp; omega) | omega))))) ?_
  refine aops_op (aop_call (Item_item x _ _ ⟨_, rfl, hw.mono (by (repeat (first | assumption | exact Hp.sees.refl _ | refine Hp.sees_put_new ?_ (by (first | assumption | (simp; done) | (simp; omega) | omega)) _ | refine Hp.sees.push ?_ _ | refine Hp.sees.trans ?_ (by assumption) | refine Hp.sees.trans ?_ (Hp.le.sees (by assumption)) | refine Hp.sees.box ?_ (by (repeat (first | assumption | exact Hp.push_new _ _ | exact Hp.put_same _ _ _ | refine (Hp.push_old _ _ (by (first | assumption | (simp; done) | (simp; omega) | omega))).trans ?_ | refine (Hp.put_other _ _ (by (first | assumption | omega | (simp; done) | (simp; omega)))).trans ?_ | refine le_got (by assumption) (by (first | assumption | (simp; done) | (simp; omega) | omega)) (by intro e; cases e) ?_))))))⟩ hl) rfl Try.func8 rfl rfl rfl ?_)
  rintro v5 H5 ⟨hle5, d5, rfl, hr5⟩; have hz5 := hle5.1; simp only [Hp.push_size, Hp.put_size] at hz5
  refine aops_op (aop_call (Push_nil _ _ _ hr5) rfl Try.func16 rfl rfl rfl ?_)
  rintro v6 H6 ⟨rfl, hle6⟩; have hz6 := hle6.1
  refine ac_seq ?_
  refine ac_region (by kernel_rfl) ?_
  first | refine aops_val (av_move_ptr rfl) ?_ | refine aops_val (av_move rfl) ?_
  refine aops_op (aop_call (Pop_nil _) rfl Try.func18 rfl rfl rfl ?_)
  rintro v7 H7 ⟨rfl, hle7⟩; have hz7 := hle7.1
  refine aops_val (av_move rfl) ?_
  refine aops_val (av_extract rfl rfl) ?_
  refine aops_val (av_extract rfl rfl) ?_
  refine aops_make (am_zero (l := [.int .i64 0, .slice none 0 0, .int .i64 0, .int .i64 0]) inf24.zero rfl (by decide)) ?_
  first | refine aops_op (aop_putN (vs := [.int .i64 _, .slice _ _ _, .int .i64 _, .int .i64 _]) rfl rfl inf24.size (by (repeat (first | assumption | exact Hp.push_new _ _ | exact Hp.put_same _ _ _ | refine (Hp.push_old _ _ (by (first | assumption | (simp; done) | (simp; omega) | omega))).trans ?_ | refine (Hp.put_other _ _ (by (first | assumption | omega | (simp; done) | (simp; omega)))).trans ?_ | refine le_got (by assumption) (by (first | assumption | (simp; done) | (simp; omega) | omega)) (by intro e; cases e) ?_))) (by (first | (simp; done) | (simp; omega) | omega | (rw [setR_length (by first | (simp; omega) | omega)]; first | (simp; omega) | omega))) rfl rfl ?_) | refine aops_op (aop_putN (vs := [.int .i64 _, _, .int .i64 _, .int .i64 _]) rfl rfl inf24.size (by (repeat (first | assumption | exact Hp.push_new _ _ | exact Hp.put_same _ _ _ | refine (Hp.push_old _ _ (by (first | assumption | (simp; done) | (simp; omega) | omega))).trans ?_ | refine (Hp.put_other _ _ (by (first | assumption | omega | (simp; done) | (simp; omega)))).trans ?_ | refine le_got (by assumption) (by (first | assumption | (simp; done) | (simp; omega) | omega)) (by intro e; cases e) ?_))) (by (first | (simp; done) | (simp; omega) | omega | (rw [setR_length (by first | (simp; omega) | omega)]; first | (simp; omega) | omega))) rfl rfl ?_)
  first | refine aops_val (av_assign_bool rfl) ?_ | refine aops_val (av_assign rfl) ?_
  refine ac_seq ?_
  refine ac_region (by kernel_rfl) ?_
  first | refine aops_val (av_move_ptr rfl) ?_ | refine aops_val (av_move rfl) ?_
  refine aops_op (aop_call (Peek_nil _) rfl Try.func21 rfl rfl rfl ?_)
  rintro v8 H8 ⟨rfl, hle8⟩; have hz8 := hle8.1
  refine aops_val (av_move rfl) ?_
  refine aops_val (av_extract rfl rfl) ?_
  refine aops_val (av_extract rfl rfl) ?_
  refine aops_make (am_zero (l := [.int .i64 0, .slice none 0 0, .int .i64 0, .int .i64 0]) inf24.zero rfl (by decide)) ?_
  first | refine aops_op (aop_putN (vs := [.int .i64 _, .slice _ _ _, .int .i64 _, .int .i64 _]) rfl rfl inf24.size (by (repeat (first | assumption | exact Hp.push_new _ _ | exact Hp.put_same _ _ _ | refine (Hp.push_old _ _ (by (first | assumption | (simp; done) | (simp; omega) | omega))).trans ?_ | refine (Hp.put_other _ _ (by (first | assumption | omega | (simp; done) | (simp; omega)))).trans ?_ | refine le_got (by assumption) (by (first | assumption | (simp; done) | (simp; omega) | omega)) (by intro e; cases e) ?_))) (by (first | (simp; done) | (simp; omega) | omega | (rw [setR_length (by first | (simp; omega) | omega)]; first | (simp; omega) | omega))) rfl rfl ?_) | refine aops_op (aop_putN (vs := [.int .i64 _, _, .int .i64 _, .int .i64 _]) rfl rfl inf24.size (by (repeat (first | assumption | exact Hp.push_new _ _ | exact Hp.put_same _ _ _ | refine (Hp.push_old _ _ (by (first | assumption | (simp; done) | (simp; omega) | omega))).trans ?_ | refine (Hp.put_other _ _ (by (first | assumption | omega | (simp; done) | (simp; omega)))).trans ?_ | refine le_got (by assumption) (by (first | assumption | (simp; done) | (simp; omega) | omega)) (by intro e; cases e) ?_))) (by (first | (simp; done) | (simp; omega) | omega | (rw [setR_length (by first | (simp; omega) | omega)]; first | (simp; omega) | omega))) rfl rfl ?_)
  first | refine aops_val (av_assign_bool rfl) ?_ | refine aops_val (av_assign rfl) ?_
  refine ac_seq ?_
  refine ac_region (by kernel_rfl) ?_
  first | refine aops_val (av_move_bool rfl) ?_ | refine aops_val (av_move rfl) ?_
  refine aops_val (av_not rfl) ?_
  first | refine aops_val (av_move_bool rfl) ?_ | refine aops_val (av_move rfl) ?_
  refine aops_guard rfl rfl rfl ?_ ?_
  · intro hg1
    have hp1 := hg1; try simp only [decide_eq_true_eq, decide_eq_false_iff_not, Bool.not_eq_true', Bool.not_eq_false'] at hp1
    first | refine aops_wval (want_yes rfl rfl rfl hg1) (av_move_bool rfl) ?_ | refine aops_wval (want_yes rfl rfl rfl hg1) (av_move rfl) ?_
    refine aops_wval (want_yes rfl rfl rfl hg1) (av_not rfl) ?_
    refine aops_val (av_pick_bool (congrArg Value.bool hg1) rfl) ?_
    first | refine aops_val (av_move_bool rfl) ?_ | refine aops_val (av_move rfl) ?_
    refine aops_guard rfl rfl rfl ?_ ?_
    · intro hg2
      have hp2 := hg2; try simp only [decide_eq_true_eq, decide_eq_false_iff_not, Bool.not_eq_true', Bool.not_eq_false'] at hp2
      first | refine aops_wval (want_yes rfl rfl rfl hg2) (av_move_ptr rfl) ?_ | refine aops_wval (want_yes rfl rfl rfl hg2) (av_move rfl) ?_
      refine aops_want (want_yes rfl rfl rfl hg2) (aop_call (Len_nil _) rfl Try.func19 rfl rfl rfl ?_)
      rintro v9 H9 ⟨rfl, rfl⟩
      refine aops_wval (want_yes rfl rfl rfl hg2) (av_eq rfl rfl) ?_
      refine aops_val (av_pick_bool (congrArg Value.bool hg2) rfl) ?_
      first | refine aops_val (av_move_bool rfl) ?_ | refine aops_val (av_move rfl) ?_
      refine aops_guard rfl rfl rfl ?_ ?_
      · intro hg3
        have hp3 := hg3; try simp only [decide_eq_true_eq, decide_eq_false_iff_not, Bool.not_eq_true', Bool.not_eq_false'] at hp3
        first | refine aops_wval (want_yes rfl rfl rfl hg3) (av_move_ptr rfl) ?_ | refine aops_wval (want_yes rfl rfl rfl hg3) (av_move rfl) ?_
        refine aops_want (want_yes rfl rfl rfl hg3) (aop_call (List_nil _) rfl Try.func22 rfl rfl rfl ?_)
        rintro v10 H10 ⟨rfl, rfl⟩
        refine aops_wval (want_yes rfl rfl rfl hg3) (av_len rfl Try.underlying25) ?_
        refine aops_wval (want_yes rfl rfl rfl hg3) (av_eq rfl rfl) ?_
        refine aops_val (av_pick_bool (congrArg Value.bool hg3) rfl) ?_
        first | refine aops_val (av_move_bool rfl) ?_ | refine aops_val (av_move rfl) ?_
        refine aops_guard rfl rfl rfl ?_ ?_
        · intro hg4
          have hp4 := hg4; try simp only [decide_eq_true_eq, decide_eq_false_iff_not, Bool.not_eq_true', Bool.not_eq_false'] at hp4
          refine aops_want (want_yes rfl rfl rfl hg4) (aop_call (lives_ok _) rfl Try.func14 rfl rfl rfl ?_)
          rintro v11 H11 ⟨rfl, hle11⟩
          refine aops_val (av_pick_bool (congrArg Value.bool hg4) rfl) ?_
          first | refine aops_val (av_assign_bool rfl) ?_ | refine aops_val (av_assign rfl) ?_
          refine ac_ret ?_
          have e1 : H.le H6 := Hp.le_trans (Hp.le_trans (H.le_push _) hle5) hle6
          have e2 : H.le H7 := Hp.le_trans e1 hle7
          have e3 := Hp.le_put_new (Hp.le_push' e2 (.own 0 [.int .i64 0, .slice none 0 0, .int .i64 0, .int .i64 0])) e2.1 (.own 0 (setR [Value.int IntKind.i64 0, Value.slice none 0 0, Value.int IntKind.i64 0, Value.int IntKind.i64 0] 0 [Value.int IntKind.i64 0, Value.slice none 0 0, Value.int IntKind.i64 0, Value.int IntKind.i64 0]))
          have e4 := Hp.le_trans e3 hle8
          have e5 := Hp.le_put_new (Hp.le_push' e4 (.own 0 [.int .i64 0, .slice none 0 0, .int .i64 0, .int .i64 0])) e4.1 (.own 0 (setR [Value.int IntKind.i64 0, Value.slice none 0 0, Value.int IntKind.i64 0, Value.int IntKind.i64 0] 0 [Value.int IntKind.i64 0, Value.slice none 0 0, Value.int IntKind.i64 0, Value.int IntKind.i64 0]))
          exact ⟨.bool true, aresult1 (ares_tmp rfl), rfl, Hp.le_trans e5 hle11⟩
        · intro hg4
          cases hg4
      · intro hg3
        cases hg3
    · intro hg2
      cases hg2
  · intro hg1
    cases hg1
end Go.Proofs.Ytinfigghaonceaa.Am
