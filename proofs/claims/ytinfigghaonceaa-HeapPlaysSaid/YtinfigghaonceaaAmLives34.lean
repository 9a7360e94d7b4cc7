/- The small living call of the statements on heaps. -/
import Derived.Test.YtinfigghaonceaaAmHeap34d
namespace Go.Proofs.Ytinfigghaonceaa.Am
open Go Go.RowKit
set_option linter.unusedVariables false
set_option linter.unusedSimpArgs false

theorem HeapP.boxed {G H : Hp} {v : Value} {xs : List Item} (h : HeapP G H v xs) (cs cs' : List Value) : HeapP ((G.push (.own 0 cs)).put H.size (.own 0 cs')) ((H.push (.own 0 cs)).put H.size (.own 0 cs')) v xs := by
  obtain ⟨hb, s, rfl, h1, h2, h3⟩ := h
  have hz := h3.size
  simp only [Hp.put_size] at hz
  refine ⟨hb, s, rfl, by simp; omega, by rw [Hp.put_other _ _ (by omega), Hp.push_old _ _ h1]; exact h2, ?_⟩
  have := h3.boxed cs cs'
  rw [push_put_comm G h1, Hp.put_comm _ (by omega)] at this
  exact this
theorem HeapP.size {G H : Hp} {v : Value} {xs : List Item} (h : HeapP G H v xs) : H.size = G.size := by
  obtain ⟨hb, s, rfl, h1, h2, h3⟩ := h
  have hz := h3.size
  simpa using hz
def i1 : Item := ⟨1, [], 0, 0⟩
def i2 : Item := ⟨2, [], 0, 0⟩
def i3 : Item := ⟨3, [], 0, 0⟩
theorem new_312 : newM [i3, i1, i2] = [i1, i3, i2] := by rfl
theorem pop_132 : popM [i1, i3, i2] = [i2, i3] := by rfl
theorem HeapP.le {G H : Hp} {v : Value} {xs : List Item} (h : HeapP G H v xs) : G.le H := by
  obtain ⟨hb, s, rfl, h1, h2, h3⟩ := h
  exact Hp.le_trans (G.le_put h2 _) h3.le
def zItem : List Value := [.int .i64 0, .slice none 0 0, .int .i64 0, .int .i64 0]
theorem rep_c (c : Int) (G : Hp) : kItem.rep G ⟨c, [], 0, 0⟩ [.int .i64 c, .slice none 0 0, .int .i64 0, .int .i64 0] := ⟨_, rfl, Sl.nil _ _⟩
theorem lives_ok (H : Hp) : ACalls Try.prog 14 #[] H (fun r H' => r = .bool true ∧ H.le H') := by
  have h3 : Els kItem H [i3, i1, i2] [.int .i64 3, .slice none 0 0, .int .i64 0, .int .i64 0, .int .i64 1, .slice none 0 0, .int .i64 0, .int .i64 0, .int .i64 2, .slice none 0 0, .int .i64 0, .int .i64 0] := Els.cons (rep_c 3 H) (Els.cons (rep_c 1 H) (Els.cons (rep_c 2 H) (Els.nil _ _ [])))
  refine acalls_of_code Try.func14 rfl rfl rfl (by simp) ?_
  refine ac_seq ?_
  refine ac_region (by kernel_rfl) ?_
  first | refine aops_val (av_assign_bool rfl) ?_ | refine aops_val (av_assign rfl) ?_
  refine ac_seq ?_
  refine ac_region (by kernel_rfl) ?_
  first | refine aops_val (av_build (pl := [(0, 1), (1, 1), (2, 1), (3, 1)]) (r := [.int .i64 _, .slice _ _ _, .int .i64 _, .int .i64 _]) Try.underlying24 inf24.zero (by decide) rfl rfl) ?_ | refine aops_val (av_build (pl := [(0, 1), (1, 1), (2, 1), (3, 1)]) (r := [.int .i64 _, _, .int .i64 _, .int .i64 _]) Try.underlying24 inf24.zero (by decide) rfl rfl) ?_
  first | refine aops_val (av_build (pl := [(0, 1), (1, 1), (2, 1), (3, 1)]) (r := [.int .i64 _, .slice _ _ _, .int .i64 _, .int .i64 _]) Try.underlying24 inf24.zero (by decide) rfl rfl) ?_ | refine aops_val (av_build (pl := [(0, 1), (1, 1), (2, 1), (3, 1)]) (r := [.int .i64 _, _, .int .i64 _, .int .i64 _]) Try.underlying24 inf24.zero (by decide) rfl rfl) ?_
  first | refine aops_val (av_build (pl := [(0, 1), (1, 1), (2, 1), (3, 1)]) (r := [.int .i64 _, .slice _ _ _, .int .i64 _, .int .i64 _]) Try.underlying24 inf24.zero (by decide) rfl rfl) ?_ | refine aops_val (av_build (pl := [(0, 1), (1, 1), (2, 1), (3, 1)]) (r := [.int .i64 _, _, .int .i64 _, .int .i64 _]) Try.underlying24 inf24.zero (by decide) rfl rfl) ?_
  first | refine aops_make (am_buildSlice (r := [.int .i64 _, .slice _ _ _, .int .i64 _, .int .i64 _, .int .i64 _, .slice _ _ _, .int .i64 _, .int .i64 _, .int .i64 _, .slice _ _ _, .int .i64 _, .int .i64 _]) Try.underlying25 inf24.size inf24.zero rfl (by decide) (by decide) (by decide) rfl) ?_ | refine aops_make (am_buildSlice (r := [.int .i64 _, _, .int .i64 _, .int .i64 _, .int .i64 _, _, .int .i64 _, .int .i64 _, .int .i64 _, _, .int .i64 _, .int .i64 _]) Try.underlying25 inf24.size inf24.zero rfl (by decide) (by decide) (by decide) rfl) ?_
  refine aops_op (aop_call (New_items [i3, i1, i2] _ _ (h3.sl (H.le_push _).sees (by simp) (Hp.push_new _ _) rfl) (by intro x hx; simp at hx; rcases hx with rfl | rfl | rfl <;> decide) (by simp) (by intro x hx; simp at hx; rcases hx with rfl | rfl | rfl <;> decide)) rfl Try.func15 rfl rfl rfl ?_)
  rintro v1 H1 ⟨G1, hle1, q1⟩; rw [new_312] at q1
  first | refine aops_val (av_assign_ptr rfl) ?_ | refine aops_val (av_assign rfl) ?_
  refine ac_seq ?_
  refine ac_region (by kernel_rfl) ?_
  first | refine aops_val (av_move_ptr rfl) ?_ | refine aops_val (av_move rfl) ?_
  refine aops_op (aop_call (Pop_heap q1 (by intro x hx; simp at hx; rcases hx with rfl | rfl | rfl <;> decide) (by simp)) rfl Try.func18 rfl rfl rfl ?_)
  rintro v2 H2 ⟨G2, cs2, hle2, q2, rfl, hr2⟩; rw [pop_132] at q2; obtain ⟨w2, rfl, hw2⟩ := hr2; obtain ⟨A2, c2, rfl⟩ := hw2.shape
  refine aops_val (av_move rfl) ?_
  refine aops_val (av_extract rfl rfl) ?_
  refine aops_val (av_extract rfl rfl) ?_
  refine aops_make (am_zero (l := [.int .i64 0, .slice none 0 0, .int .i64 0, .int .i64 0]) inf24.zero rfl (by decide)) ?_
  first | refine aops_op (aop_putN (vs := [.int .i64 _, .slice _ _ _, .int .i64 _, .int .i64 _]) rfl rfl inf24.size (by (repeat (first | assumption | exact Hp.push_new _ _ | exact Hp.put_same _ _ _ | refine (Hp.push_old _ _ (by (first | assumption | (simp; done) | (simp; omega) | omega))).trans ?_ | refine (Hp.put_other _ _ (by (first | assumption | omega | (simp; done) | (simp; omega)))).trans ?_ | refine le_got (by assumption) (by (first | assumption | (simp; done) | (simp; omega) | omega)) (by intro e; cases e) ?_))) (by (first | (simp; done) | (simp; omega) | omega | (rw [setR_length (by first | (simp; omega) | omega)]; first | (simp; omega) | omega))) rfl rfl ?_) | refine aops_op (aop_putN (vs := [.int .i64 _, _, .int .i64 _, .int .i64 _]) rfl rfl inf24.size (by (repeat (first | assumption | exact Hp.push_new _ _ | exact Hp.put_same _ _ _ | refine (Hp.push_old _ _ (by (first | assumption | (simp; done) | (simp; omega) | omega))).trans ?_ | refine (Hp.put_other _ _ (by (first | assumption | omega | (simp; done) | (simp; omega)))).trans ?_ | refine le_got (by assumption) (by (first | assumption | (simp; done) | (simp; omega) | omega)) (by intro e; cases e) ?_))) (by (first | (simp; done) | (simp; omega) | omega | (rw [setR_length (by first | (simp; omega) | omega)]; first | (simp; omega) | omega))) rfl rfl ?_)
  first | refine aops_val (av_assign_bool rfl) ?_ | refine aops_val (av_assign rfl) ?_
  refine ac_seq ?_
  refine ac_region (by kernel_rfl) ?_
  first | refine aops_val (av_move_ptr rfl) ?_ | refine aops_val (av_move rfl) ?_
  refine aops_op (aop_call (Peek_heap (q2.boxed _ _) (by intro x hx; simp at hx; rcases hx with rfl | rfl <;> decide)) rfl Try.func21 rfl rfl rfl ?_)
  rintro v3 H3 ⟨G3, cs3, hle3, q3, rfl, hr3⟩; obtain ⟨w3, rfl, hw3⟩ := hr3; obtain ⟨A3, c3, rfl⟩ := hw3.shape; have hz2 := q2.size; have hleH3 := q3.le; have hz3 := q3.size; have hs3 := hle3.1; simp only [Hp.push_size, Hp.put_size] at hs3
  refine aops_val (av_move rfl) ?_
  refine aops_val (av_extract rfl rfl) ?_
  refine aops_val (av_extract rfl rfl) ?_
  refine aops_make (am_zero (l := [.int .i64 0, .slice none 0 0, .int .i64 0, .int .i64 0]) inf24.zero rfl (by decide)) ?_
  first | refine aops_op (aop_putN (vs := [.int .i64 _, .slice _ _ _, .int .i64 _, .int .i64 _]) rfl rfl inf24.size (by (repeat (first | assumption | exact Hp.push_new _ _ | exact Hp.put_same _ _ _ | refine (Hp.push_old _ _ (by (first | assumption | (simp; done) | (simp; omega) | omega))).trans ?_ | refine (Hp.put_other _ _ (by (first | assumption | omega | (simp; done) | (simp; omega)))).trans ?_ | refine le_got (by assumption) (by (first | assumption | (simp; done) | (simp; omega) | omega)) (by intro e; cases e) ?_))) (by (first | (simp; done) | (simp; omega) | omega | (rw [setR_length (by first | (simp; omega) | omega)]; first | (simp; omega) | omega))) rfl rfl ?_) | refine aops_op (aop_putN (vs := [.int .i64 _, _, .int .i64 _, .int .i64 _]) rfl rfl inf24.size (by (repeat (first | assumption | exact Hp.push_new _ _ | exact Hp.put_same _ _ _ | refine (Hp.push_old _ _ (by (first | assumption | (simp; done) | (simp; omega) | omega))).trans ?_ | refine (Hp.put_other _ _ (by (first | assumption | omega | (simp; done) | (simp; omega)))).trans ?_ | refine le_got (by assumption) (by (first | assumption | (simp; done) | (simp; omega) | omega)) (by intro e; cases e) ?_))) (by (first | (simp; done) | (simp; omega) | omega | (rw [setR_length (by first | (simp; omega) | omega)]; first | (simp; omega) | omega))) rfl rfl ?_)
  first | refine aops_val (av_assign_bool rfl) ?_ | refine aops_val (av_assign rfl) ?_
  refine ac_seq ?_
  refine ac_region (by kernel_rfl) ?_
  first | refine aops_val (av_move_bool rfl) ?_ | refine aops_val (av_move rfl) ?_
  first | refine aops_val (av_move_bool rfl) ?_ | refine aops_val (av_move rfl) ?_
  refine aops_guard rfl rfl rfl ?_ ?_
  · intro hg1
    have hp1 := hg1; try simp only [decide_eq_true_eq, decide_eq_false_iff_not, Bool.not_eq_true', Bool.not_eq_false'] at hp1
    first | refine aops_wval (want_yes rfl rfl rfl hg1) (av_move_bool rfl) ?_ | refine aops_wval (want_yes rfl rfl rfl hg1) (av_move rfl) ?_
    refine aops_val (av_pick_bool (congrArg Value.bool hg1) rfl) ?_
    first | refine aops_val (av_move_bool rfl) ?_ | refine aops_val (av_move rfl) ?_
    refine aops_guard rfl rfl rfl ?_ ?_
    · intro hg2
      have hp2 := hg2; try simp only [decide_eq_true_eq, decide_eq_false_iff_not, Bool.not_eq_true', Bool.not_eq_false'] at hp2
      refine aops_wval (want_yes rfl rfl rfl hg2) (av_fieldOff (off := 0) rfl Try.underlying24 rfl inf3.size (by decide) rfl) ?_
      refine aops_wval (want_yes rfl rfl rfl hg2) (av_load1 rfl Try.underlying3 rfl (by (first | assumption | exact (cell_own (by (repeat (first | assumption | exact Hp.push_new _ _ | exact Hp.put_same _ _ _ | refine (Hp.push_old _ _ (by (first | assumption | (simp; done) | (simp; omega) | omega))).trans ?_ | refine (Hp.put_other _ _ (by (first | assumption | omega | (simp; done) | (simp; omega)))).trans ?_ | refine le_got (by assumption) (by (first | assumption | (simp; done) | (simp; omega) | omega)) (by intro e; cases e) ?_)))).trans rfl | exact Hp.cell_le (by assumption) (by (repeat (first | assumption | exact Hp.le_refl _ | refine Hp.le_put_new ?_ (by (first | assumption | (simp; done) | (simp; omega) | omega)) _ | refine Hp.le_push' ?_ _ | refine Hp.le_trans ?_ (by assumption)))) (by (first | assumption | (simp; done) | (simp; omega) | omega))))) ?_
      refine aops_wval (want_yes rfl rfl rfl hg2) (av_eq rfl rfl) ?_
      refine aops_val (av_pick_bool (congrArg Value.bool hg2) rfl) ?_
      first | refine aops_val (av_move_bool rfl) ?_ | refine aops_val (av_move rfl) ?_
      refine aops_guard rfl rfl rfl ?_ ?_
      · intro hg3
        have hp3 := hg3; try simp only [decide_eq_true_eq, decide_eq_false_iff_not, Bool.not_eq_true', Bool.not_eq_false'] at hp3
        refine aops_wval (want_yes rfl rfl rfl hg3) (av_fieldOff (off := 0) rfl Try.underlying24 rfl inf3.size (by decide) rfl) ?_
        refine aops_wval (want_yes rfl rfl rfl hg3) (av_load1 rfl Try.underlying3 rfl (by (first | assumption | exact (cell_own (by (repeat (first | assumption | exact Hp.push_new _ _ | exact Hp.put_same _ _ _ | refine (Hp.push_old _ _ (by (first | assumption | (simp; done) | (simp; omega) | omega))).trans ?_ | refine (Hp.put_other _ _ (by (first | assumption | omega | (simp; done) | (simp; omega)))).trans ?_ | refine le_got (by assumption) (by (first | assumption | (simp; done) | (simp; omega) | omega)) (by intro e; cases e) ?_)))).trans rfl | exact Hp.cell_le (by assumption) (by (repeat (first | assumption | exact Hp.le_refl _ | refine Hp.le_put_new ?_ (by (first | assumption | (simp; done) | (simp; omega) | omega)) _ | refine Hp.le_push' ?_ _ | refine Hp.le_trans ?_ (by assumption)))) (by (first | assumption | (simp; done) | (simp; omega) | omega))))) ?_
        refine aops_wval (want_yes rfl rfl rfl hg3) (av_eq rfl rfl) ?_
        refine aops_val (av_pick_bool (congrArg Value.bool hg3) rfl) ?_
        first | refine aops_val (av_move_bool rfl) ?_ | refine aops_val (av_move rfl) ?_
        refine aops_guard rfl rfl rfl ?_ ?_
        · intro hg4
          have hp4 := hg4; try simp only [decide_eq_true_eq, decide_eq_false_iff_not, Bool.not_eq_true', Bool.not_eq_false'] at hp4
          first | refine aops_wval (want_yes rfl rfl rfl hg4) (av_move_ptr rfl) ?_ | refine aops_wval (want_yes rfl rfl rfl hg4) (av_move rfl) ?_
          refine aops_want (want_yes rfl rfl rfl hg4) (aop_call (Len_heap (q3.boxed _ _)) rfl Try.func19 rfl rfl rfl ?_)
          rintro v4 H4 ⟨rfl, rfl⟩
          refine aops_wval (want_yes rfl rfl rfl hg4) (av_eq rfl rfl) ?_
          refine aops_val (av_pick_bool (congrArg Value.bool hg4) rfl) ?_
          first | refine aops_val (av_assign_bool rfl) ?_ | refine aops_val (av_assign rfl) ?_
          refine ac_ret ?_
          refine ⟨.bool true, aresult1 (ares_tmp rfl), rfl, ?_⟩
          have e1 : H.le H1 := Hp.le_trans (Hp.le_trans (H.le_push _) hle1) q1.le
          have e2 : H.le G2 := Hp.le_trans (Hp.le_trans (H.le_push _) hle1) hle2
          have e3 : H.le ((G2.push (.own 0 zItem)).put H2.size (.own 0 [.int .i64 ([i1, i3, i2].getD 0 dItem).cost, .slice A2 ([i1, i3, i2].getD 0 dItem).nodes.length c2, .int .i64 ([i1, i3, i2].getD 0 dItem).place, .int .i64 ([i1, i3, i2].getD 0 dItem).rank])) := Hp.le_put_new (Hp.le_push' e2 _) (by have := e2.1; omega) _
          have e4 : H.le H3 := Hp.le_trans (Hp.le_trans e3 hle3) q3.le
          exact Hp.le_put_new (Hp.le_push' e4 _) e4.1 _
        · intro hg4
          cases hg4
      · intro hg3
        cases hg3
    · intro hg2
      cases hg2
  · intro hg1
    cases hg1
end Go.Proofs.Ytinfigghaonceaa.Am
