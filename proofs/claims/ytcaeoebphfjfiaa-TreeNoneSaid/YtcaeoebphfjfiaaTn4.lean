/- Texts that the proof rests on, part 4: lemmas for every heap that is related to a world, no condition beyond each lemma's own. -/
import Derived.Test.YtcaeoebphfjfiaaTn3

/- The small living call of the statements on trees. -/
namespace Go.Proofs.Ytcaeoebphfjfiaa.Am
open Go Go.RowKit
set_option maxRecDepth 100000
set_option linter.unusedVariables false
set_option linter.unusedSimpArgs false

theorem New_good (f : Forest) (p : Parts) (cs ds : List Value) (H : Hp) (hp : kForest.rep H f cs) (hq : kParts.rep H p ds) (hsm : Small f p) (hch : Cheap p) (hG : GoodP f p) :
    ACalls Try.prog 11 #[.agg cs.toArray, .agg ds.toArray] H (fun r H' => H.le H' ∧ ∃ b, r = .tuple #[.pointer (some ⟨b, 0, none⟩), .int .i64 0] ∧ TreeR H' (.pointer (some ⟨b, 0, none⟩)) (treeOf f (ofP f p))) :=
  (New_tree f p cs ds H hp hq hsm fun _ => hch).mono fun r H' ⟨hle, g, v, hg, hr, hv⟩ => by
    obtain rfl : g = true := hg.2 hG
    rw [if_pos rfl] at hv
    obtain ⟨b, _, _, _, _, _, rfl, _⟩ := id hv
    exact ⟨hle, b, hr, hv⟩
def twoQ : Parts := ⟨[[⟨0, 0, 1, 1⟩, ⟨1, 1, 2, 3⟩], [⟨0, 0, 1, 1⟩, ⟨1, 1, 2, 3⟩]], [[], [⟨0, 1, 4, 2⟩]]⟩
def twoS : Parts := ⟨[[⟨0, 0, 1, 1⟩], [⟨1, 1, 2, 3⟩]], [[], [⟨0, 1, 4, 2⟩]]⟩
def twoT : TreeT := ⟨[⟨#[120]⟩, ⟨#[121]⟩], [-1, 0], [[⟨0, 0, 1, 1⟩], [⟨0, 1, 6, 6⟩]]⟩
theorem good_two29 : GoodP twoF twoQ := by
  refine ⟨⟨rfl, rfl, rfl, rfl, fun i hi => ?_⟩, rfl, rfl, fun v hv => ?_⟩
  · have hi' : i < 2 := hi
    rcases (by omega : i = 0 ∨ i = 1) with rfl | rfl <;> (unfold OkF; decide)
  · have hv' : v < 2 := hv
    rcases (by omega : v = 0 ∨ v = 1) with rfl | rfl <;> (unfold OkP; rw [goodL_iff, goodL_iff]; unfold OkL; decide)
theorem small_two29 : Small twoF twoQ := ⟨by decide, by decide, by decide, by decide, by decide, by decide, by decide⟩
theorem cheap_two29 : Cheap twoQ := by
  refine ⟨fun v => ?_, fun v => ?_⟩
  · match v with
    | 0 => decide
    | 1 => decide
    | v + 2 => intro x hx; cases hx
  · match v with
    | 0 => decide
    | 1 => decide
    | v + 2 => intro x hx; cases hx
theorem of_two29 : ofP twoF twoQ = twoS := by
  have h := good_two29
  obtain ⟨k1, k2, k3, k4⟩ := up_all h.gf twoF.order.reverse [] twoQ rfl h.lens h.nb (fun v hv => by simp at hv)
  have e1 : upP twoF twoQ = twoF.order.reverse.foldl (fun p v => upC twoF p v.toNat) twoQ := k4
  rw [← e1] at k1 k2
  have e2 : downP twoF (upP twoF twoQ) = twoF.order.foldl (fun p v => downC twoF p v.toNat) (upP twoF twoQ) := down_fold _ _ (fun v hv => by have := h.gf.order_in hv; omega) k1 (h.nb.sub k2)
  unfold ofP
  rw [e2, e1]
  rfl
theorem tree_two29 : treeOf twoF (ofP twoF twoQ) = twoT := by rw [of_two29]; rfl
theorem goodT_two29 : GoodT twoT := by
  have h := ofP_all good_two29
  have := good_tree (ofP_good good_two29) (by rw [of_two29]; exact ⟨by decide, by decide, by decide, by decide, by decide, by decide, by decide⟩) (cheap_two29.sub h.2.1) (by decide)
  rwa [tree_two29] at this
set_option maxHeartbeats 1000000 in
theorem two29_ok (H : Hp) : ACalls Try.prog 56 #[] H (fun r H' => ∃ cs ds, r = .tuple #[.agg cs.toArray, .agg ds.toArray] ∧ kForest.rep H' twoF cs ∧ kParts.rep H' twoQ ds ∧ H.le H') := by
  refine acalls_of_code Try.func56 rfl rfl rfl (by simp) ?_
  refine ac_seq ?_
  refine ac_region (by kernel_rfl) ?_
  refine aops_make (am_zero (l := [.slice none 0 0, .slice none 0 0, .slice none 0 0, .slice none 0 0, .slice none 0 0]) inf26.zero rfl (by decide)) ?_
  refine aops_make (am_zero (l := [.slice none 0 0, .slice none 0 0]) inf29.zero rfl (by decide)) ?_
  refine ac_seq ?_
  refine ac_region (by kernel_rfl) ?_
  first | refine aops_make (am_buildSlice (r := [.string _, .string _]) Try.underlying22 inf9.size inf9.zero rfl (by decide) (by decide) (by decide) rfl) ?_
  first | refine aops_make (am_buildSlice (r := [.int .i64 _, .int .i64 _]) Try.underlying23 inf3.size inf3.zero rfl (by decide) (by decide) (by decide) rfl) ?_
  first | refine aops_make (am_buildSlice (r := [.int .i64 _, .int .i64 _]) Try.underlying23 inf3.size inf3.zero rfl (by decide) (by decide) (by decide) rfl) ?_
  first | refine aops_make (am_buildSlice (r := [.int .i64 _]) Try.underlying23 inf3.size inf3.zero rfl (by decide) (by decide) (by decide) rfl) ?_
  first | refine aops_make (am_buildSlice (r := [.slice _ _ _, .slice _ _ _]) Try.underlying24 inf23.size inf23.zero rfl (by decide) (by decide) (by decide) rfl) ?_ | refine aops_make (am_buildSlice (r := [_, _]) Try.underlying24 inf23.size inf23.zero rfl (by decide) (by decide) (by decide) rfl) ?_
  first | refine aops_make (am_buildSlice (r := [.slice _ _ _, .slice _ _ _]) Try.underlying24 inf23.size inf23.zero rfl (by decide) (by decide) (by decide) rfl) ?_ | refine aops_make (am_buildSlice (r := [_, _]) Try.underlying24 inf23.size inf23.zero rfl (by decide) (by decide) (by decide) rfl) ?_
  first | refine aops_val (av_build (pl := [(0, 1), (1, 1), (2, 1), (3, 1), (4, 1)]) (r := [.slice _ _ _, .slice _ _ _, .slice _ _ _, .slice _ _ _, .slice _ _ _]) Try.underlying26 inf26.zero (by decide) rfl rfl) ?_ | refine aops_val (av_build (pl := [(0, 1), (1, 1), (2, 1), (3, 1), (4, 1)]) (r := [_, _, _, _, _]) Try.underlying26 inf26.zero (by decide) rfl rfl) ?_
  refine aops_make (am_zero (l := [.slice none 0 0, .slice none 0 0, .slice none 0 0, .slice none 0 0, .slice none 0 0]) inf26.zero rfl (by decide)) ?_
  first | refine aops_op (aop_putN (vs := [.slice _ _ _, .slice _ _ _, .slice _ _ _, .slice _ _ _, .slice _ _ _]) rfl rfl inf26.size t_get t_room rfl rfl ?_) | refine aops_op (aop_putN (vs := [_, _, _, _, _]) rfl rfl inf26.size t_get t_room rfl rfl ?_)
  refine ac_seq ?_
  refine ac_region (by kernel_rfl) ?_
  refine aops_val (av_build (pl := [(0, 1), (1, 1), (2, 1), (3, 1)]) (r := [.int .i64 _, .int .i64 _, .int .i64 _, .int .u64 _]) Try.underlying54 inf54.zero (by decide) rfl rfl) ?_
  refine aops_val (av_build (pl := [(0, 1), (1, 1), (2, 1), (3, 1)]) (r := [.int .i64 _, .int .i64 _, .int .i64 _, .int .u64 _]) Try.underlying54 inf54.zero (by decide) rfl rfl) ?_
  first | refine aops_make (am_buildSlice (r := [.int .i64 _, .int .i64 _, .int .i64 _, .int .u64 _, .int .i64 _, .int .i64 _, .int .i64 _, .int .u64 _]) Try.underlying50 inf54.size inf54.zero rfl (by decide) (by decide) (by decide) rfl) ?_
  first | refine aops_val (av_assign_sl rfl) ?_ | refine aops_val (av_assign rfl) ?_
  refine ac_seq ?_
  refine ac_region (by kernel_rfl) ?_
  first | refine aops_val (av_loadN (cs := [.slice _ _ _, .slice _ _ _, .slice _ _ _, .slice _ _ _, .slice _ _ _]) rfl Try.underlying26 rfl inf26.size t_cells) ?_ | refine aops_val (av_loadN (cs := [_, _, _, _, _]) rfl Try.underlying26 rfl inf26.size t_cells) ?_
  first | refine aops_val (av_move_sl rfl) ?_ | refine aops_val (av_move rfl) ?_
  first | refine aops_val (av_move_sl rfl) ?_ | refine aops_val (av_move rfl) ?_
  first | refine aops_make (am_buildSlice (r := [.slice _ _ _, .slice _ _ _]) Try.underlying27 inf50.size inf50.zero rfl (by decide) (by decide) (by decide) rfl) ?_ | refine aops_make (am_buildSlice (r := [_, _]) Try.underlying27 inf50.size inf50.zero rfl (by decide) (by decide) (by decide) rfl) ?_
  refine aops_val (av_build (pl := [(0, 1), (1, 1), (2, 1), (3, 1)]) (r := [.int .i64 _, .int .i64 _, .int .i64 _, .int .u64 _]) Try.underlying54 inf54.zero (by decide) rfl rfl) ?_
  first | refine aops_make (am_buildSlice (r := [.int .i64 _, .int .i64 _, .int .i64 _, .int .u64 _]) Try.underlying50 inf54.size inf54.zero rfl (by decide) (by decide) (by decide) rfl) ?_
  first | refine aops_make (am_buildSlice (r := [.slice _ _ _, .slice _ _ _]) Try.underlying27 inf50.size inf50.zero rfl (by decide) (by decide) (by decide) rfl) ?_ | refine aops_make (am_buildSlice (r := [_, _]) Try.underlying27 inf50.size inf50.zero rfl (by decide) (by decide) (by decide) rfl) ?_
  first | refine aops_val (av_build (pl := [(0, 1), (1, 1)]) (r := [.slice _ _ _, .slice _ _ _]) Try.underlying29 inf29.zero (by decide) rfl rfl) ?_ | refine aops_val (av_build (pl := [(0, 1), (1, 1)]) (r := [_, _]) Try.underlying29 inf29.zero (by decide) rfl rfl) ?_
  first | refine aops_op (aop_putN (vs := [.slice _ _ _, .slice _ _ _, .slice _ _ _, .slice _ _ _, .slice _ _ _]) rfl rfl inf26.size t_get t_room rfl rfl ?_) | refine aops_op (aop_putN (vs := [_, _, _, _, _]) rfl rfl inf26.size t_get t_room rfl rfl ?_)
  first | refine aops_op (aop_putN (vs := [.slice _ _ _, .slice _ _ _]) rfl rfl inf29.size t_get t_room rfl rfl ?_) | refine aops_op (aop_putN (vs := [_, _]) rfl rfl inf29.size t_get t_room rfl rfl ?_)
  refine ac_ret ?_
  refine ⟨_, aresult2 (ares_cell rfl (aload_agg (cs := [_, _, _, _, _]) Try.underlying26 rfl inf26.size t_cells)) (ares_cell rfl (aload_agg (cs := [_, _]) Try.underlying29 rfl inf29.size t_cells)), [_, _, _, _, _], [_, _], rfl, ⟨_, _, _, _, _, rfl, ?_, ?_, ?_, ?_, ?_⟩, ⟨_, _, rfl, ?_, ?_⟩, ?_⟩
  · exact sl_two (k := kStr) t_get (by simp) rfl rfl rfl
  · exact sl_two (k := kInt .i64) t_get (by simp) rfl rfl rfl
  · exact sl_two (k := kInt .i64) t_get (by simp) rfl rfl rfl
  · exact sl_two (k := kSl (kInt .i64)) t_get (by simp) ⟨_, rfl, Sl.nil _ _⟩ ⟨_, rfl, sl_one1 (k := kInt .i64) t_get (by simp) rfl rfl⟩ rfl
  · exact sl_two (k := kSl (kInt .i64)) t_get (by simp) ⟨_, rfl, Sl.nil _ _⟩ ⟨_, rfl, Sl.nil _ _⟩ rfl
  · exact sl_two (k := kSl kLink) t_get (by simp) ⟨_, rfl, sl_link2 (x := ⟨0, 0, 1, 1⟩) (y := ⟨1, 1, 2, 3⟩) t_get (by simp)⟩ ⟨_, rfl, sl_link2 (x := ⟨0, 0, 1, 1⟩) (y := ⟨1, 1, 2, 3⟩) t_get (by simp)⟩ rfl
  · exact sl_two (k := kSl kLink) t_get (by simp) ⟨_, rfl, Sl.nil _ _⟩ ⟨_, rfl, sl_link1 (x := ⟨0, 1, 4, 2⟩) t_get (by simp)⟩ rfl
  · exact t_le
set_option maxHeartbeats 2000000 in
theorem lives29_ok (H : Hp) : ACalls Try.prog 13 #[] H (fun r H' => r = .bool true ∧ H.le H') := by
  refine acalls_of_code Try.func13 rfl rfl rfl (by simp) ?_
  refine ac_seq ?_
  refine ac_region (by kernel_rfl) ?_
  first | refine aops_val (av_assign_bool rfl) ?_ | refine aops_val (av_assign rfl) ?_
  refine ac_seq ?_
  refine ac_region (by kernel_rfl) ?_
  refine aops_op (aop_call (two29_ok _) rfl Try.func56 rfl rfl rfl ?_)
  rintro v1 H1 ⟨cs1, ds1, rfl, hf1, hp1, hle1⟩; have hf10 := hf1; have hp10 := hp1; obtain ⟨a0, a1, a2, a3, a4, rfl, hs0, hs1, hs2, hs3, hs4⟩ := hf1; obtain ⟨A0, c0, rfl⟩ := hs0.shape; obtain ⟨A1, c1, rfl⟩ := hs1.shape; obtain ⟨A2, c2, rfl⟩ := hs2.shape; obtain ⟨A3, c3, rfl⟩ := hs3.shape; obtain ⟨A4, c4, rfl⟩ := hs4.shape; obtain ⟨u0, u1, rfl, hn0, hn1⟩ := hp1; obtain ⟨B0, d0, rfl⟩ := hn0.shape; obtain ⟨B1, d1, rfl⟩ := hn1.shape
  refine aops_val (av_move rfl) ?_
  refine aops_val (av_extract rfl rfl) ?_
  refine aops_val (av_extract rfl rfl) ?_
  refine aops_make (am_zero (l := [.slice none 0 0, .slice none 0 0, .slice none 0 0, .slice none 0 0, .slice none 0 0]) inf26.zero rfl (by decide)) ?_
  refine aops_make (am_zero (l := [.slice none 0 0, .slice none 0 0]) inf29.zero rfl (by decide)) ?_
  first | refine aops_op (aop_putN (vs := [.slice _ _ _, .slice _ _ _, .slice _ _ _, .slice _ _ _, .slice _ _ _]) rfl rfl inf26.size t_get t_room rfl rfl ?_) | refine aops_op (aop_putN (vs := [_, _, _, _, _]) rfl rfl inf26.size t_get t_room rfl rfl ?_)
  first | refine aops_op (aop_putN (vs := [.slice _ _ _, .slice _ _ _]) rfl rfl inf29.size t_get t_room rfl rfl ?_) | refine aops_op (aop_putN (vs := [_, _]) rfl rfl inf29.size t_get t_room rfl rfl ?_)
  refine ac_seq ?_
  refine ac_region (by kernel_rfl) ?_
  first | refine aops_val (av_loadN (cs := [.slice _ _ _, .slice _ _ _, .slice _ _ _, .slice _ _ _, .slice _ _ _]) rfl Try.underlying26 rfl inf26.size t_cells) ?_ | refine aops_val (av_loadN (cs := [_, _, _, _, _]) rfl Try.underlying26 rfl inf26.size t_cells) ?_
  first | refine aops_val (av_loadN (cs := [.slice _ _ _, .slice _ _ _]) rfl Try.underlying29 rfl inf29.size t_cells) ?_ | refine aops_val (av_loadN (cs := [_, _]) rfl Try.underlying29 rfl inf29.size t_cells) ?_
  refine aops_op (aop_call (New_good twoF twoQ _ _ _ (kForest.mono t_sees hf10) (kParts.mono t_sees hp10) small_two29 cheap_two29 good_two29) rfl Try.func11 rfl rfl rfl ?_)
  rintro v2 H2 ⟨hle2, tb, rfl, htr⟩; rw [tree_two29] at htr
  refine aops_val (av_move rfl) ?_
  refine aops_val (av_extract rfl rfl) ?_
  refine aops_val (av_extract rfl rfl) ?_
  first | refine aops_val (av_assign_ptr rfl) ?_ | refine aops_val (av_assign rfl) ?_
  first | refine aops_val (av_assign_int rfl) ?_ | refine aops_val (av_assign rfl) ?_
  refine ac_seq ?_
  have hz1 := hle1.1
  have leH2 : H.le H2 := Hp.le_trans t_le hle2
  clear hle2
  have htr3 := htr.mono (H2.le_push (.own 1 [.int .i64 0, .int .i64 1]))
  have hsl3 : Sl (kInt .i64) (H2.push (.own 1 [.int .i64 0, .int .i64 1])) (.slice (some ⟨H2.size, 0, none⟩) 2 2) [0, 1] := sl_two (k := kInt .i64) t_get (by simp) rfl rfl rfl
  refine ac_region (by kernel_rfl) ?_
  first | refine aops_val (av_move_ptr rfl) ?_ | refine aops_val (av_move rfl) ?_
  first | refine aops_make (am_buildSlice (r := [.int .i64 _, .int .i64 _]) Try.underlying23 inf3.size inf3.zero rfl (by decide) (by decide) (by decide) rfl) ?_
  refine aops_op (aop_call (Row_tree htr3 goodT_two29 (u := .slice (some ⟨H2.size, 0, none⟩) 2 2) hsl3 (by decide)) rfl Try.func16 rfl rfl rfl ?_)
  rintro v3 H3 ⟨hle3, w, hr3⟩; rw [if_pos (by decide)] at hr3; rw [show rowAcc twoT [0, 1] twoT.vars.length = some (7, 6) from rfl] at hr3; obtain ⟨rfl, hw3⟩ := hr3; obtain ⟨Aw, cw, rfl⟩ := hw3.shape; have leH3 : H.le H3 := Hp.le_trans (Hp.le_push' leH2 _) hle3; have htr4 := htr3.mono hle3
  refine aops_val (av_move rfl) ?_
  refine aops_val (av_extract rfl rfl) ?_
  refine aops_val (av_extract rfl rfl) ?_
  refine aops_make (am_zero (l := [.slice none 0 0, .int .i64 0, .int .u64 0]) inf44.zero rfl (by decide)) ?_
  first | refine aops_op (aop_putN (vs := [.slice _ _ _, .int .i64 _, .int .u64 _]) rfl rfl inf44.size t_get t_room rfl rfl ?_) | refine aops_op (aop_putN (vs := [_, .int .i64 _, .int .u64 _]) rfl rfl inf44.size t_get t_room rfl rfl ?_)
  first | refine aops_val (av_assign_bool rfl) ?_ | refine aops_val (av_assign rfl) ?_
  refine ac_seq ?_
  obtain ⟨H4, hH4⟩ : ∃ H4, H4 = (H3.push (.own 0 [.slice none 0 0, .int .i64 0, .int .u64 0])).put H3.size (.own 0 [.slice Aw ([0, 1] : List Int).length cw, .int .i64 7, .int .u64 6]) := ⟨_, rfl⟩
  have le34 : H3.le H4 := by rw [hH4]; exact Hp.le_put_new (H3.le_push _) (Nat.le_refl _) _
  have g4 : H4.get H3.size = .own 0 [.slice Aw ([0, 1] : List Int).length cw, .int .i64 7, .int .u64 6] := by rw [hH4]; exact Hp.put_same _ _ _
  have htr5 := htr4.mono le34
  change ACode true _ _ _ _ _ ((H3.push (.own 0 [.slice none 0 0, .int .i64 0, .int .u64 0])).put H3.size (.own 0 [.slice Aw ([0, 1] : List Int).length cw, .int .i64 7, .int .u64 6]))
  rw [← hH4]
  clear hH4
  refine ac_region (by kernel_rfl) ?_
  first | refine aops_val (av_move_int rfl) ?_ | refine aops_val (av_move rfl) ?_
  refine aops_val (av_eq rfl rfl) ?_
  first | refine aops_val (av_move_bool rfl) ?_ | refine aops_val (av_move rfl) ?_
  refine aops_guard rfl rfl rfl ?_ ?_
  · intro hg1
    have hp1 := hg1; try simp only [decide_eq_true_eq, decide_eq_false_iff_not, Bool.not_eq_true', Bool.not_eq_false'] at hp1
    first | refine aops_wval (want_yes rfl rfl rfl hg1) (av_move_bool rfl) ?_ | refine aops_wval (want_yes rfl rfl rfl hg1) (av_move rfl) ?_
    refine aops_val (av_pick_bool (congrArg Value.bool hg1) rfl) ?_
    first | refine aops_val (av_move_bool rfl) ?_ | refine aops_val (av_move rfl) ?_
    refine aops_guard rfl rfl rfl ?_ ?_
    · intro hg2
      have hp2 := hg2; try simp only [decide_eq_true_eq, decide_eq_false_iff_not, Bool.not_eq_true', Bool.not_eq_false'] at hp2
      refine aops_wval (want_yes rfl rfl rfl hg2) (av_fieldOff (off := 1) rfl Try.underlying44 rfl inf3.size (by decide) rfl) ?_
      refine aops_wval (want_yes rfl rfl rfl hg2) (av_load1 rfl Try.underlying3 rfl t_cell) ?_
      refine aops_wval (want_yes rfl rfl rfl hg2) (av_eq rfl rfl) ?_
      refine aops_val (av_pick_bool (congrArg Value.bool hg2) rfl) ?_
      first | refine aops_val (av_move_bool rfl) ?_ | refine aops_val (av_move rfl) ?_
      refine aops_guard rfl rfl rfl ?_ ?_
      · intro hg3
        have hp3 := hg3; try simp only [decide_eq_true_eq, decide_eq_false_iff_not, Bool.not_eq_true', Bool.not_eq_false'] at hp3
        refine aops_wval (want_yes rfl rfl rfl hg3) (av_fieldOff (off := 2) rfl Try.underlying44 rfl inf42.size (by decide) rfl) ?_
        refine aops_wval (want_yes rfl rfl rfl hg3) (av_load1 rfl Try.underlying42 rfl t_cell) ?_
        refine aops_wval (want_yes rfl rfl rfl hg3) (av_eq rfl rfl) ?_
        refine aops_val (av_pick_bool (congrArg Value.bool hg3) rfl) ?_
        first | refine aops_val (av_move_bool rfl) ?_ | refine aops_val (av_move rfl) ?_
        refine aops_guard rfl rfl rfl ?_ ?_
        · intro hg4
          have hp4 := hg4; try simp only [decide_eq_true_eq, decide_eq_false_iff_not, Bool.not_eq_true', Bool.not_eq_false'] at hp4
          first | refine aops_wval (want_yes rfl rfl rfl hg4) (av_move_ptr rfl) ?_ | refine aops_wval (want_yes rfl rfl rfl hg4) (av_move rfl) ?_
          refine aops_want (want_yes rfl rfl rfl hg4) (aop_call (Len_tree htr5) rfl Try.func21 rfl rfl rfl ?_)
          rintro v5 H4 ⟨rfl, rfl⟩
          refine aops_wval (want_yes rfl rfl rfl hg4) (av_eq rfl rfl) ?_
          refine aops_val (av_pick_bool (congrArg Value.bool hg4) rfl) ?_
          first | refine aops_val (av_move_bool rfl) ?_ | refine aops_val (av_move rfl) ?_
          refine aops_guard rfl rfl rfl ?_ ?_
          · intro hg5
            have hp5 := hg5; try simp only [decide_eq_true_eq, decide_eq_false_iff_not, Bool.not_eq_true', Bool.not_eq_false'] at hp5
            first | refine aops_wval (want_yes rfl rfl rfl hg5) (av_move_ptr rfl) ?_ | refine aops_wval (want_yes rfl rfl rfl hg5) (av_move rfl) ?_
            refine aops_want (want_yes rfl rfl rfl hg5) (aop_call (Parent_tree htr5 (by decide) 1) rfl Try.func20 rfl rfl rfl ?_)
            rintro v6 H4 ⟨rfl, rfl⟩
            refine aops_wval (want_yes rfl rfl rfl hg5) (av_eq rfl rfl) ?_
            refine aops_val (av_pick_bool (congrArg Value.bool hg5) rfl) ?_
            first | refine aops_val (av_assign_bool rfl) ?_ | refine aops_val (av_assign rfl) ?_
            refine ac_ret ?_
            exact ⟨.bool true, aresult1 (ares_tmp rfl), rfl, Hp.le_trans leH3 le34⟩
          · intro hg5
            exact absurd hg5 (by decide)
        · intro hg4
          exact absurd hg4 (by decide)
      · intro hg3
        exact absurd hg3 (by decide)
    · intro hg2
      exact absurd hg2 (by decide)
  · intro hg1
    exact absurd hg1 (by decide)
end Go.Proofs.Ytcaeoebphfjfiaa.Am


/- What is told of no tree. -/
namespace Go.Proofs.Ytcaeoebphfjfiaa.Am
open Go Go.RowKit
set_option maxRecDepth 100000
set_option linter.unusedVariables false
set_option linter.unusedSimpArgs false

theorem in_nil (i : Int) (H : Hp) : ACalls Try.prog 63 #[.pointer none, .int .i64 i] H (fun r H' => r = .bool false ∧ H' = H) := by
  refine acalls_of_code Try.func63 rfl rfl rfl (by simp) ?_
  refine ac_seq ?_
  refine ac_region (by kernel_rfl) ?_
  first | refine aops_val (av_assign_bool rfl) ?_ | refine aops_val (av_assign rfl) ?_
  refine ac_seq ?_
  refine ac_region (by kernel_rfl) ?_
  first | refine aops_val (av_move_ptr rfl) ?_ | refine aops_val (av_move rfl) ?_
  refine aops_val (av_ptr_ne_nil rfl rfl Try.underlying33) ?_
  first | refine aops_val (av_move_bool rfl) ?_ | refine aops_val (av_move rfl) ?_
  refine aops_guard rfl rfl rfl ?_ ?_
  · intro hg1
    exact absurd hg1 (by decide)
  · intro hg1
    have hp1 := hg1; try simp only [decide_eq_true_eq, decide_eq_false_iff_not, Bool.not_eq_true', Bool.not_eq_false'] at hp1
    refine aops_skip (want_no rfl rfl rfl hg1 rfl) ?_
    refine aops_skip (want_no rfl rfl rfl hg1 rfl) ?_
    refine aops_val (av_pick_bool (congrArg Value.bool hg1) rfl) ?_
    first | refine aops_val (av_move_bool rfl) ?_ | refine aops_val (av_move rfl) ?_
    refine aops_skip (want_no rfl rfl rfl rfl rfl) ?_
    refine aops_skip (want_no rfl rfl rfl rfl rfl) ?_
    refine aops_skip (want_no rfl rfl rfl rfl rfl) ?_
    refine aops_skip (want_no rfl rfl rfl rfl rfl) ?_
    refine aops_skip (want_no rfl rfl rfl rfl rfl) ?_
    refine aops_skip (want_no rfl rfl rfl rfl rfl) ?_
    refine aops_skip (want_no rfl rfl rfl rfl rfl) ?_
    refine aops_val (av_pick_bool (congrArg Value.bool rfl) rfl) ?_
    first | refine aops_val (av_assign_bool rfl) ?_ | refine aops_val (av_assign rfl) ?_
    refine ac_ret ?_
    exact ⟨.bool false, aresult1 (ares_tmp rfl), rfl, rfl⟩
theorem Len_nil (H : Hp) : ACalls Try.prog 21 #[.pointer none] H (fun r H' => r = .int .i64 0 ∧ H' = H) := by
  refine acalls_of_code Try.func21 rfl rfl rfl (by simp) ?_
  refine ac_seq ?_
  refine ac_region (by kernel_rfl) ?_
  first | refine aops_val (av_assign_int rfl) ?_ | refine aops_val (av_assign rfl) ?_
  refine ac_seq ?_
  refine ac_seq ?_
  refine ac_region (by kernel_rfl) ?_
  first | refine aops_val (av_move_ptr rfl) ?_ | refine aops_val (av_move rfl) ?_
  refine aops_val (av_ptr_eq_nil rfl t_spot rfl Try.underlying33) ?_
  refine ac_split rfl rfl ?_ ?_
  · intro hc1
    (try simp only [decide_eq_true_eq, decide_eq_false_iff_not, Bool.not_eq_true', Bool.not_eq_false'] at hc1)
    refine ac_seq ?_
    refine ac_region (by kernel_rfl) ?_
    first | refine aops_val (av_assign_int rfl) ?_ | refine aops_val (av_assign rfl) ?_
    refine ac_ret ?_
    exact ⟨.int .i64 0, aresult1 (ares_tmp rfl), rfl, rfl⟩
  · intro hc1
    exact absurd hc1 (by decide)
theorem Parent_nil (i : Int) (H : Hp) : ACalls Try.prog 20 #[.pointer none, .int .i64 i] H (fun r H' => r = .int .i64 (-1) ∧ H' = H) := by
  refine acalls_of_code Try.func20 rfl rfl rfl (by simp) ?_
  refine ac_seq ?_
  refine ac_region (by kernel_rfl) ?_
  first | refine aops_val (av_assign_int rfl) ?_ | refine aops_val (av_assign rfl) ?_
  refine ac_seq ?_
  refine ac_seq ?_
  refine ac_region (by kernel_rfl) ?_
  first | refine aops_val (av_move_ptr rfl) ?_ | refine aops_val (av_move rfl) ?_
  first | refine aops_val (av_move_int rfl) ?_ | refine aops_val (av_move rfl) ?_
  refine aops_op (aop_call (in_nil i _) rfl Try.func63 rfl rfl rfl ?_)
  rintro v H ⟨rfl, rfl⟩
  refine aops_val (av_not rfl) ?_
  refine ac_split rfl rfl ?_ ?_
  · intro hc1
    (try simp only [decide_eq_true_eq, decide_eq_false_iff_not, Bool.not_eq_true', Bool.not_eq_false'] at hc1)
    refine ac_seq ?_
    refine ac_region (by kernel_rfl) ?_
    first | refine aops_val (av_assign_int rfl) ?_ | refine aops_val (av_assign rfl) ?_
    refine ac_ret ?_
    exact ⟨.int .i64 (-1), aresult1 (ares_tmp rfl), rfl, rfl⟩
  · intro hc1
    exact absurd hc1 (by decide)
theorem Var_nil (i : Int) (H : Hp) : ACalls Try.prog 23 #[.pointer none, .int .i64 i] H (fun r H' => r = .tuple #[.string ⟨#[]⟩, .bool false] ∧ H' = H) := by
  refine acalls_of_code Try.func23 rfl rfl rfl (by simp) ?_
  refine ac_seq ?_
  refine ac_region (by kernel_rfl) ?_
  first | refine aops_val (av_assign_str rfl) ?_ | refine aops_val (av_assign rfl) ?_
  first | refine aops_val (av_assign_bool rfl) ?_ | refine aops_val (av_assign rfl) ?_
  refine ac_seq ?_
  refine ac_seq ?_
  refine ac_region (by kernel_rfl) ?_
  first | refine aops_val (av_move_ptr rfl) ?_ | refine aops_val (av_move rfl) ?_
  first | refine aops_val (av_move_int rfl) ?_ | refine aops_val (av_move rfl) ?_
  refine aops_op (aop_call (in_nil i _) rfl Try.func63 rfl rfl rfl ?_)
  rintro v H ⟨rfl, rfl⟩
  refine aops_val (av_not rfl) ?_
  refine ac_split rfl rfl ?_ ?_
  · intro hc1
    (try simp only [decide_eq_true_eq, decide_eq_false_iff_not, Bool.not_eq_true', Bool.not_eq_false'] at hc1)
    refine ac_seq ?_
    refine ac_region (by kernel_rfl) ?_
    first | refine aops_val (av_assign_str rfl) ?_ | refine aops_val (av_assign rfl) ?_
    first | refine aops_val (av_assign_bool rfl) ?_ | refine aops_val (av_assign rfl) ?_
    refine ac_ret ?_
    exact ⟨.tuple #[.string ⟨#[]⟩, .bool false], aresult2 (ares_tmp rfl) (ares_tmp rfl), rfl, rfl⟩
  · intro hc1
    exact absurd hc1 (by decide)
theorem row_nil (i above : Int) (H : Hp) : ACalls Try.prog 62 #[.pointer none, .int .i64 i, .int .i64 above] H (fun r H' => r = .slice none 0 0 ∧ H' = H) := by
  refine acalls_of_code Try.func62 rfl rfl rfl (by simp) ?_
  refine ac_seq ?_
  refine ac_region (by kernel_rfl) ?_
  first | refine aops_val (av_assign_sl rfl) ?_ | refine aops_val (av_assign rfl) ?_
  refine ac_seq ?_
  refine ac_seq ?_
  refine ac_region (by kernel_rfl) ?_
  first | refine aops_val (av_move_ptr rfl) ?_ | refine aops_val (av_move rfl) ?_
  first | refine aops_val (av_move_int rfl) ?_ | refine aops_val (av_move rfl) ?_
  refine aops_op (aop_call (in_nil i _) rfl Try.func63 rfl rfl rfl ?_)
  rintro v H ⟨rfl, rfl⟩
  refine aops_val (av_not rfl) ?_
  refine ac_split rfl rfl ?_ ?_
  · intro hc1
    (try simp only [decide_eq_true_eq, decide_eq_false_iff_not, Bool.not_eq_true', Bool.not_eq_false'] at hc1)
    refine ac_seq ?_
    refine ac_region (by kernel_rfl) ?_
    first | refine aops_val (av_assign_sl rfl) ?_ | refine aops_val (av_assign rfl) ?_
    refine ac_ret ?_
    exact ⟨.slice none 0 0, aresult1 (ares_tmp rfl), rfl, rfl⟩
  · intro hc1
    exact absurd hc1 (by decide)
theorem Group_nil (i above : Int) (H : Hp) : ACalls Try.prog 19 #[.pointer none, .int .i64 i, .int .i64 above] H (fun r H' => H.le H' ∧ Sl kLink H' r []) := by
  refine acalls_of_code Try.func19 rfl rfl rfl (by simp) ?_
  refine ac_seq ?_
  refine ac_region (by kernel_rfl) ?_
  first | refine aops_val (av_assign_sl rfl) ?_ | refine aops_val (av_assign rfl) ?_
  refine ac_seq ?_
  refine ac_region (by kernel_rfl) ?_
  first | refine aops_val (av_move_ptr rfl) ?_ | refine aops_val (av_move rfl) ?_
  first | refine aops_val (av_move_int rfl) ?_ | refine aops_val (av_move rfl) ?_
  first | refine aops_val (av_move_int rfl) ?_ | refine aops_val (av_move rfl) ?_
  refine aops_op (aop_call (row_nil i above _) rfl Try.func62 rfl rfl rfl ?_)
  rintro v H ⟨rfl, rfl⟩
  refine aops_op (aop_call (Clone_links [] _ _ (Sl.nil _ _) (by simp)) rfl Try.func52 rfl rfl rfl ?_)
  rintro v6 H6 ⟨G6, hle6, hown6⟩
  first | refine aops_val (av_assign_sl rfl) ?_ | refine aops_val (av_assign rfl) ?_
  refine ac_ret ?_
  exact ⟨_, aresult1 (ares_tmp rfl), Hp.le_trans hle6 hown6.le, hown6.sl⟩
theorem Below_nil (i : Int) (H : Hp) : ACalls Try.prog 28 #[.pointer none, .int .i64 i] H (fun r H' => r = .slice none 0 0 ∧ H' = H) := by
  refine acalls_of_code Try.func28 rfl rfl rfl (by simp) ?_
  refine ac_seq ?_
  refine ac_region (by kernel_rfl) ?_
  first | refine aops_val (av_assign_sl rfl) ?_ | refine aops_val (av_assign rfl) ?_
  refine ac_seq ?_
  refine ac_region (by kernel_rfl) ?_
  first | refine aops_val (av_assign_sl rfl) ?_ | refine aops_val (av_assign rfl) ?_
  refine ac_seq ?_
  refine ac_seq ?_
  refine ac_region (by kernel_rfl) ?_
  first | refine aops_val (av_move_ptr rfl) ?_ | refine aops_val (av_move rfl) ?_
  refine aops_val (av_ptr_eq_nil rfl t_spot rfl Try.underlying33) ?_
  first | refine aops_val (av_move_bool rfl) ?_ | refine aops_val (av_move rfl) ?_
  refine aops_guard rfl rfl rfl ?_ ?_
  · intro hg1
    have hp1 := hg1; try simp only [decide_eq_true_eq, decide_eq_false_iff_not, Bool.not_eq_true', Bool.not_eq_false'] at hp1
    refine aops_skip (want_no rfl rfl rfl hg1 rfl) ?_
    refine aops_skip (want_no rfl rfl rfl hg1 rfl) ?_
    refine aops_val (av_pick_bool (congrArg Value.bool hg1) rfl) ?_
    refine ac_cond_true rfl rfl ?_
    refine ac_seq ?_
    refine ac_region (by kernel_rfl) ?_
    first | refine aops_val (av_assign_sl rfl) ?_ | refine aops_val (av_assign rfl) ?_
    refine ac_ret ?_
    exact ⟨.slice none 0 0, aresult1 (ares_tmp rfl), rfl, rfl⟩
  · intro hg1
    exact absurd hg1 (by decide)
theorem Size_nil (H : Hp) : ACalls Try.prog 29 #[.pointer none] H (fun r H' => r = .int .i64 0 ∧ H' = H) := by
  refine acalls_of_code Try.func29 rfl rfl rfl (by simp) ?_
  refine ac_seq ?_
  refine ac_region (by kernel_rfl) ?_
  first | refine aops_val (av_assign_int rfl) ?_ | refine aops_val (av_assign rfl) ?_
  refine ac_seq ?_
  refine ac_region (by kernel_rfl) ?_
  first | refine aops_val (av_assign_int rfl) ?_ | refine aops_val (av_assign rfl) ?_
  refine ac_seq ?_
  refine ac_seq ?_
  refine ac_region (by kernel_rfl) ?_
  first | refine aops_val (av_move_ptr rfl) ?_ | refine aops_val (av_move rfl) ?_
  refine aops_val (av_ptr_eq_nil rfl t_spot rfl Try.underlying33) ?_
  refine ac_split rfl rfl ?_ ?_
  · intro hc1
    (try simp only [decide_eq_true_eq, decide_eq_false_iff_not, Bool.not_eq_true', Bool.not_eq_false'] at hc1)
    refine ac_seq ?_
    refine ac_region (by kernel_rfl) ?_
    first | refine aops_val (av_assign_int rfl) ?_ | refine aops_val (av_assign rfl) ?_
    refine ac_ret ?_
    exact ⟨.int .i64 0, aresult1 (ares_tmp rfl), rfl, rfl⟩
  · intro hc1
    exact absurd hc1 (by decide)
theorem Row_nil (u : Value) (H : Hp) : ACalls Try.prog 16 #[.pointer none, u] H (fun r H' => r = .tuple #[.agg #[.slice none 0 0, .int .i64 0, .int .u64 0], .bool false] ∧ H.le H') := by
  refine acalls_of_code Try.func16 rfl rfl rfl (by simp) ?_
  refine ac_seq ?_
  refine ac_region (by kernel_rfl) ?_
  refine aops_make (am_zero (l := [.slice none 0 0, .int .i64 0, .int .u64 0]) inf44.zero rfl (by decide)) ?_
  first | refine aops_val (av_assign_bool rfl) ?_ | refine aops_val (av_assign rfl) ?_
  refine ac_seq ?_
  refine ac_seq ?_
  refine ac_region (by kernel_rfl) ?_
  first | refine aops_val (av_move_ptr rfl) ?_ | refine aops_val (av_move rfl) ?_
  refine aops_val (av_ptr_eq_nil rfl t_spot rfl Try.underlying33) ?_
  first | refine aops_val (av_move_bool rfl) ?_ | refine aops_val (av_move rfl) ?_
  refine aops_guard rfl rfl rfl ?_ ?_
  · intro hg1
    have hp1 := hg1; try simp only [decide_eq_true_eq, decide_eq_false_iff_not, Bool.not_eq_true', Bool.not_eq_false'] at hp1
    refine aops_skip (want_no rfl rfl rfl hg1 rfl) ?_
    refine aops_skip (want_no rfl rfl rfl hg1 rfl) ?_
    refine aops_skip (want_no rfl rfl rfl hg1 rfl) ?_
    refine aops_skip (want_no rfl rfl rfl hg1 rfl) ?_
    refine aops_skip (want_no rfl rfl rfl hg1 rfl) ?_
    refine aops_skip (want_no rfl rfl rfl hg1 rfl) ?_
    refine aops_skip (want_no rfl rfl rfl hg1 rfl) ?_
    refine aops_skip (want_no rfl rfl rfl hg1 rfl) ?_
    refine aops_val (av_pick_bool (congrArg Value.bool hg1) rfl) ?_
    refine ac_cond_true rfl rfl ?_
    refine ac_seq ?_
    refine ac_region (by kernel_rfl) ?_
    first | refine aops_val (av_build (pl := [(0, 1), (1, 1), (2, 1)]) (r := [.slice _ _ _, .int .i64 _, .int .u64 _]) Try.underlying44 inf44.zero (by decide) rfl rfl) ?_ | refine aops_val (av_build (pl := [(0, 1), (1, 1), (2, 1)]) (r := [_, .int .i64 _, .int .u64 _]) Try.underlying44 inf44.zero (by decide) rfl rfl) ?_
    first | refine aops_op (aop_putN (vs := [.slice _ _ _, .int .i64 _, .int .u64 _]) rfl rfl inf44.size t_get t_room rfl rfl ?_) | refine aops_op (aop_putN (vs := [_, .int .i64 _, .int .u64 _]) rfl rfl inf44.size t_get t_room rfl rfl ?_)
    first | refine aops_val (av_assign_bool rfl) ?_ | refine aops_val (av_assign rfl) ?_
    refine ac_ret ?_
    exact ⟨_, aresult2 (ares_cell (by first | assumption | rfl) (aload_agg (cs := [_, _, _]) Try.underlying44 rfl inf44.size t_cells)) (ares_tmp rfl), rfl, Hp.le_put_new (H.le_push _) (Nat.le_refl _) _⟩
  · intro hg1
    exact absurd hg1 (by decide)
theorem find_nil (i above node : Int) (H : Hp) : ACalls Try.prog 60 #[.pointer none, .int .i64 i, .int .i64 above, .int .i64 node] H (fun r H' => r = .tuple #[.agg #[.int .i64 0, .int .i64 0, .int .i64 0, .int .u64 0], .bool false] ∧ H.le H') := by
  refine acalls_of_code Try.func60 rfl rfl rfl (by simp) ?_
  refine ac_seq ?_
  refine ac_region (by kernel_rfl) ?_
  refine aops_make (am_box_int rfl) ?_
  refine aops_make (am_zero (l := [.int .i64 0, .int .i64 0, .int .i64 0, .int .u64 0]) inf54.zero rfl (by decide)) ?_
  first | refine aops_val (av_assign_bool rfl) ?_ | refine aops_val (av_assign rfl) ?_
  refine ac_seq ?_
  refine ac_region (by kernel_rfl) ?_
  first | refine aops_val (av_move_ptr rfl) ?_ | refine aops_val (av_move rfl) ?_
  first | refine aops_val (av_move_int rfl) ?_ | refine aops_val (av_move rfl) ?_
  first | refine aops_val (av_move_int rfl) ?_ | refine aops_val (av_move rfl) ?_
  refine aops_op (aop_call (row_nil i above _) rfl Try.func62 rfl rfl rfl ?_)
  rintro v H ⟨rfl, rfl⟩
  refine aops_make (am_zero (l := [.slice none 0 0]) inf50.zero rfl (by decide)) ?_
  first | refine aops_op (aop_put1 rfl rfl rfl inf50.size t_get t_room rfl ?_)
  refine ac_seq ?_
  obtain ⟨HS, hHS⟩ : ∃ HS, HS = (((H.push (.own 0 [.int .i64 node])).push (.own 0 [.int .i64 0, .int .i64 0, .int .i64 0, .int .u64 0])).push (.own 0 [.slice none 0 0])).put (H.size + 1 + 1) (.own 0 [.slice none 0 0]) := ⟨_, rfl⟩
  have leS : H.le HS := by rw [hHS]; exact Hp.le_put_new (Hp.le_push' (Hp.le_push' (H.le_push _) _) _) (by omega) _
  have zS : HS.size = H.size + 3 := by rw [hHS]; simp
  have gz : HS.get (H.size + 1) = .own 0 [.int .i64 0, .int .i64 0, .int .i64 0, .int .u64 0] := by rw [hHS]; exact t_get
  have gl : HS.get (H.size + 1 + 1) = .own 0 [.slice none 0 0] := by rw [hHS]; exact Hp.put_same _ _ _
  change ACode true _ _ _ _ _ ((((H.push (.own 0 [.int .i64 node])).push (.own 0 [.int .i64 0, .int .i64 0, .int .i64 0, .int .u64 0])).push (.own 0 [.slice none 0 0])).put (H.size + 1 + 1) (.own 0 [.slice none 0 0]))
  rw [← hHS]
  refine ac_region (by kernel_rfl) ?_
  refine aops_val (av_load1 rfl Try.underlying50 rfl t_cell) ?_
  refine aops_val (av_len rfl Try.underlying50) ?_
  refine aops_val (av_makeFunc) ?_
  refine aops_op (aop_call (Search_gen 0 82 _ #[.pointer (some ⟨H.size + 1 + 1, 0, none⟩), .pointer (some ⟨H.size, 0, none⟩)] (fun k => true) HS Try.func82 rfl rfl (fun k hk => by omega) (fun a b _ hb => by omega) (by omega)) rfl Try.func72 rfl rfl rfl ?_)
  rintro v6 HS ⟨⟨lo, rfl, hlo, hlo1, hlo2⟩, rfl⟩; obtain rfl : lo = 0 := by omega
  first | refine aops_val (av_assign_int rfl) ?_ | refine aops_val (av_assign rfl) ?_
  refine ac_seq ?_
  refine ac_seq ?_
  refine ac_draw (by kernel_rfl) (reg_of (B := [0, 0, 2, 7, 15, 31, 31, 127, 255, 511, 31, 2047, 4095]) (π := [0, 1, 2, 3, 4, 5, 6, 7, 8, 9, 10, 11, 12]) (by kernel_rfl)) ?_
  first | refine adr_val rfl rfl (av_move_int rfl) t_lt ?_ | refine adr_val rfl rfl (av_move rfl) t_lt ?_
  refine adr_val rfl rfl (av_load1 rfl Try.underlying50 rfl t_cell) t_lt ?_
  refine adr_val rfl rfl (av_len rfl Try.underlying50) t_lt ?_
  refine adr_val rfl rfl (av_eq rfl rfl) t_lt ?_
  first | refine adr_val rfl rfl (av_move_bool rfl) t_lt ?_ | refine adr_val rfl rfl (av_move rfl) t_lt ?_
  refine adr_guard rfl rfl rfl rfl ?_ ?_
  · intro hg1
    have hp1 := hg1; try simp only [decide_eq_true_eq, decide_eq_false_iff_not, Bool.not_eq_true', Bool.not_eq_false'] at hp1
    refine adr_skip rfl (want_no rfl rfl rfl hg1 rfl) ?_
    refine adr_skip rfl (want_no rfl rfl rfl hg1 rfl) ?_
    refine adr_skip rfl (want_no rfl rfl rfl hg1 rfl) ?_
    refine adr_skip rfl (want_no rfl rfl rfl hg1 rfl) ?_
    refine adr_skip rfl (want_no rfl rfl rfl hg1 rfl) ?_
    refine adr_skip rfl (want_no rfl rfl rfl hg1 rfl) ?_
    refine adr_skip rfl (want_no rfl rfl rfl hg1 rfl) ?_
    refine adr_val rfl rfl (av_pick_bool (congrArg Value.bool hg1) rfl) t_lt ?_
    refine ac_cond_true rfl rfl ?_
    refine ac_seq ?_
    refine ac_region (by kernel_rfl) ?_
    refine aops_val (av_build (pl := [(0, 1), (1, 1), (2, 1), (3, 1)]) (r := [.int .i64 _, .int .i64 _, .int .i64 _, .int .u64 _]) Try.underlying54 inf54.zero (by decide) rfl rfl) ?_
    first | refine aops_op (aop_putN (vs := [.int .i64 _, .int .i64 _, .int .i64 _, .int .u64 _]) rfl rfl inf54.size t_get t_room rfl rfl ?_)
    first | refine aops_val (av_assign_bool rfl) ?_ | refine aops_val (av_assign rfl) ?_
    refine ac_ret ?_
    exact ⟨_, aresult2 (ares_cell (by first | assumption | rfl) (aload_agg (cs := [.int .i64 0, .int .i64 0, .int .i64 0, .int .u64 0]) Try.underlying54 rfl inf54.size t_cells)) (ares_tmp rfl), rfl, Hp.le_put_new leS (by first | (simp; done) | (simp; omega) | omega) _⟩
  · intro hg1
    exact absurd hg1 (by decide)
theorem Find_nil (i above node : Int) (H : Hp) : ACalls Try.prog 26 #[.pointer none, .int .i64 i, .int .i64 above, .int .i64 node] H (fun r H' => r = .tuple #[.agg #[.int .i64 0, .int .i64 0, .int .i64 0, .int .u64 0], .bool false] ∧ H.le H') := by
  refine acalls_of_code Try.func26 rfl rfl rfl (by simp) ?_
  refine ac_seq ?_
  refine ac_region (by kernel_rfl) ?_
  refine aops_make (am_zero (l := [.int .i64 0, .int .i64 0, .int .i64 0, .int .u64 0]) inf54.zero rfl (by decide)) ?_
  first | refine aops_val (av_assign_bool rfl) ?_ | refine aops_val (av_assign rfl) ?_
  refine ac_seq ?_
  refine ac_region (by kernel_rfl) ?_
  first | refine aops_val (av_move_ptr rfl) ?_ | refine aops_val (av_move rfl) ?_
  first | refine aops_val (av_move_int rfl) ?_ | refine aops_val (av_move rfl) ?_
  first | refine aops_val (av_move_int rfl) ?_ | refine aops_val (av_move rfl) ?_
  first | refine aops_val (av_move_int rfl) ?_ | refine aops_val (av_move rfl) ?_
  refine aops_op (aop_call (find_nil i above node _) rfl Try.func60 rfl rfl rfl ?_)
  rintro v5 H5 ⟨rfl, hle5⟩; have hz5 := hle5.1; simp only [Hp.push_size] at hz5
  refine aops_val (av_extract rfl rfl) ?_
  refine aops_val (av_extract rfl rfl) ?_
  first | refine aops_op (aop_putN (vs := [.int .i64 _, .int .i64 _, .int .i64 _, .int .u64 _]) rfl rfl inf54.size t_get t_room rfl rfl ?_)
  first | refine aops_val (av_assign_bool rfl) ?_ | refine aops_val (av_assign rfl) ?_
  refine ac_ret ?_
  exact ⟨_, aresult2 (ares_cell (by first | assumption | rfl) (aload_agg (cs := [_, _, _, _]) Try.underlying54 rfl inf54.size t_cells)) (ares_tmp rfl), rfl, Hp.le_put_new (Hp.le_trans (H.le_push _) hle5) (Nat.le_refl _) _⟩
set_option maxHeartbeats 1000000 in
theorem TreeNone_ok (i above node : Int) (H : Hp) : ACalls Try.prog 5 #[.int .i64 i, .int .i64 above, .int .i64 node] H (fun r H' => r = .bool true ∧ H.le H') := by
  refine acalls_of_code Try.func5 rfl rfl rfl (by simp) ?_
  refine ac_seq ?_
  refine ac_region (by kernel_rfl) ?_
  first | refine aops_val (av_assign_bool rfl) ?_ | refine aops_val (av_assign rfl) ?_
  refine ac_seq ?_
  refine ac_region (by kernel_rfl) ?_
  first | refine aops_val (av_assign_ptr rfl) ?_ | refine aops_val (av_assign rfl) ?_
  refine ac_seq ?_
  refine ac_region (by kernel_rfl) ?_
  first | refine aops_val (av_move_ptr rfl) ?_ | refine aops_val (av_move rfl) ?_
  first | refine aops_val (av_move_int rfl) ?_ | refine aops_val (av_move rfl) ?_
  refine aops_op (aop_call (Var_nil i _) rfl Try.func23 rfl rfl rfl ?_)
  rintro v H ⟨rfl, rfl⟩
  refine aops_val (av_move rfl) ?_
  refine aops_val (av_extract rfl rfl) ?_
  refine aops_val (av_extract rfl rfl) ?_
  first | refine aops_val (av_assign_str rfl) ?_ | refine aops_val (av_assign rfl) ?_
  first | refine aops_val (av_assign_bool rfl) ?_ | refine aops_val (av_assign rfl) ?_
  refine ac_seq ?_
  refine ac_region (by kernel_rfl) ?_
  first | refine aops_val (av_move_ptr rfl) ?_ | refine aops_val (av_move rfl) ?_
  first | refine aops_val (av_move_int rfl) ?_ | refine aops_val (av_move rfl) ?_
  first | refine aops_val (av_move_int rfl) ?_ | refine aops_val (av_move rfl) ?_
  first | refine aops_val (av_move_int rfl) ?_ | refine aops_val (av_move rfl) ?_
  refine aops_op (aop_call (Find_nil i above node _) rfl Try.func26 rfl rfl rfl ?_)
  rintro v5 H5 ⟨rfl, hle5⟩
  refine aops_val (av_move rfl) ?_
  refine aops_val (av_extract rfl rfl) ?_
  refine aops_val (av_extract rfl rfl) ?_
  refine aops_make (am_zero (l := [.int .i64 0, .int .i64 0, .int .i64 0, .int .u64 0]) inf54.zero rfl (by decide)) ?_
  first | refine aops_op (aop_putN (vs := [.int .i64 _, .int .i64 _, .int .i64 _, .int .u64 _]) rfl rfl inf54.size t_get t_room rfl rfl ?_)
  first | refine aops_val (av_assign_bool rfl) ?_ | refine aops_val (av_assign rfl) ?_
  refine ac_seq ?_
  refine ac_region (by kernel_rfl) ?_
  first | refine aops_val (av_move_ptr rfl) ?_ | refine aops_val (av_move rfl) ?_
  refine aops_op (aop_call (Row_nil _ _) rfl Try.func16 rfl rfl rfl ?_)
  rintro v6 H6 ⟨rfl, hle6⟩
  refine aops_val (av_move rfl) ?_
  refine aops_val (av_extract rfl rfl) ?_
  refine aops_val (av_extract rfl rfl) ?_
  refine aops_make (am_zero (l := [.slice none 0 0, .int .i64 0, .int .u64 0]) inf44.zero rfl (by decide)) ?_
  first | refine aops_op (aop_putN (vs := [.slice _ _ _, .int .i64 _, .int .u64 _]) rfl rfl inf44.size t_get t_room rfl rfl ?_) | refine aops_op (aop_putN (vs := [_, .int .i64 _, .int .u64 _]) rfl rfl inf44.size t_get t_room rfl rfl ?_)
  first | refine aops_val (av_assign_bool rfl) ?_ | refine aops_val (av_assign rfl) ?_
  refine ac_seq ?_
  have leH6 := Hp.le_trans (Hp.le_put_new (Hp.le_push' hle5 _) hle5.1 _) hle6
  have leH7 := Hp.le_put_new (Hp.le_push' leH6 (.own 0 [.slice none 0 0, .int .i64 0, .int .u64 0])) leH6.1 (.own 0 [.slice none 0 0, .int .i64 0, .int .u64 0])
  refine ac_region (by kernel_rfl) ?_
  first | refine aops_val (av_move_ptr rfl) ?_ | refine aops_val (av_move rfl) ?_
  refine aops_op (aop_call (Len_nil _) rfl Try.func21 rfl rfl rfl ?_)
  rintro v H ⟨rfl, rfl⟩
  refine aops_val (av_eq rfl rfl) ?_
  first | refine aops_val (av_move_bool rfl) ?_ | refine aops_val (av_move rfl) ?_
  refine aops_guard rfl rfl rfl ?_ ?_
  · intro hg1
    have hp1 := hg1; try simp only [decide_eq_true_eq, decide_eq_false_iff_not, Bool.not_eq_true', Bool.not_eq_false'] at hp1
    first | refine aops_wval (want_yes rfl rfl rfl hg1) (av_move_bool rfl) ?_ | refine aops_wval (want_yes rfl rfl rfl hg1) (av_move rfl) ?_
    refine aops_wval (want_yes rfl rfl rfl hg1) (av_not rfl) ?_
    refine aops_val (av_pick_bool (congrArg Value.bool hg1) rfl) ?_
    first | refine aops_val (av_move_bool rfl) ?_ | refine aops_val (av_move rfl) ?_
    refine aops_guard rfl rfl rfl ?_ ?_
    · intro hg2
      have hp2 := hg2; try simp only [decide_eq_true_eq, decide_eq_false_iff_not, Bool.not_eq_true', Bool.not_eq_false'] at hp2
      first | refine aops_wval (want_yes rfl rfl rfl hg2) (av_move_ptr rfl) ?_ | refine aops_wval (want_yes rfl rfl rfl hg2) (av_move rfl) ?_
      first | refine aops_wval (want_yes rfl rfl rfl hg2) (av_move_int rfl) ?_ | refine aops_wval (want_yes rfl rfl rfl hg2) (av_move rfl) ?_
      refine aops_want (want_yes rfl rfl rfl hg2) (aop_call (Parent_nil i _) rfl Try.func20 rfl rfl rfl ?_)
      rintro v H ⟨rfl, rfl⟩
      refine aops_wval (want_yes rfl rfl rfl hg2) (av_eq rfl rfl) ?_
      refine aops_val (av_pick_bool (congrArg Value.bool hg2) rfl) ?_
      first | refine aops_val (av_move_bool rfl) ?_ | refine aops_val (av_move rfl) ?_
      refine aops_guard rfl rfl rfl ?_ ?_
      · intro hg3
        have hp3 := hg3; try simp only [decide_eq_true_eq, decide_eq_false_iff_not, Bool.not_eq_true', Bool.not_eq_false'] at hp3
        first | refine aops_wval (want_yes rfl rfl rfl hg3) (av_move_ptr rfl) ?_ | refine aops_wval (want_yes rfl rfl rfl hg3) (av_move rfl) ?_
        first | refine aops_wval (want_yes rfl rfl rfl hg3) (av_move_int rfl) ?_ | refine aops_wval (want_yes rfl rfl rfl hg3) (av_move rfl) ?_
        refine aops_want (want_yes rfl rfl rfl hg3) (aop_call (Below_nil i _) rfl Try.func28 rfl rfl rfl ?_)
        rintro v H ⟨rfl, rfl⟩
        refine aops_wval (want_yes rfl rfl rfl hg3) (av_len rfl Try.underlying23) ?_
        refine aops_wval (want_yes rfl rfl rfl hg3) (av_eq rfl rfl) ?_
        refine aops_val (av_pick_bool (congrArg Value.bool hg3) rfl) ?_
        first | refine aops_val (av_move_bool rfl) ?_ | refine aops_val (av_move rfl) ?_
        refine aops_guard rfl rfl rfl ?_ ?_
        · intro hg4
          have hp4 := hg4; try simp only [decide_eq_true_eq, decide_eq_false_iff_not, Bool.not_eq_true', Bool.not_eq_false'] at hp4
          first | refine aops_wval (want_yes rfl rfl rfl hg4) (av_move_ptr rfl) ?_ | refine aops_wval (want_yes rfl rfl rfl hg4) (av_move rfl) ?_
          first | refine aops_wval (want_yes rfl rfl rfl hg4) (av_move_int rfl) ?_ | refine aops_wval (want_yes rfl rfl rfl hg4) (av_move rfl) ?_
          first | refine aops_wval (want_yes rfl rfl rfl hg4) (av_move_int rfl) ?_ | refine aops_wval (want_yes rfl rfl rfl hg4) (av_move rfl) ?_
          refine aops_want (want_yes rfl rfl rfl hg4) (aop_call (Group_nil i above _) rfl Try.func19 rfl rfl rfl ?_)
          rintro v8 H8 ⟨hle8, hs8⟩; obtain ⟨A8, c8, rfl⟩ := hs8.shape
          refine aops_wval (want_yes rfl rfl rfl hg4) (av_len rfl Try.underlying50) ?_
          refine aops_wval (want_yes rfl rfl rfl hg4) (av_eq rfl rfl) ?_
          refine aops_val (av_pick_bool (congrArg Value.bool hg4) rfl) ?_
          first | refine aops_val (av_move_bool rfl) ?_ | refine aops_val (av_move rfl) ?_
          refine aops_guard rfl rfl rfl ?_ ?_
          · intro hg5
            have hp5 := hg5; try simp only [decide_eq_true_eq, decide_eq_false_iff_not, Bool.not_eq_true', Bool.not_eq_false'] at hp5
            first | refine aops_wval (want_yes rfl rfl rfl hg5) (av_move_bool rfl) ?_ | refine aops_wval (want_yes rfl rfl rfl hg5) (av_move rfl) ?_
            refine aops_wval (want_yes rfl rfl rfl hg5) (av_not rfl) ?_
            refine aops_val (av_pick_bool (congrArg Value.bool hg5) rfl) ?_
            first | refine aops_val (av_move_bool rfl) ?_ | refine aops_val (av_move rfl) ?_
            refine aops_guard rfl rfl rfl ?_ ?_
            · intro hg6
              have hp6 := hg6; try simp only [decide_eq_true_eq, decide_eq_false_iff_not, Bool.not_eq_true', Bool.not_eq_false'] at hp6
              first | refine aops_wval (want_yes rfl rfl rfl hg6) (av_move_bool rfl) ?_ | refine aops_wval (want_yes rfl rfl rfl hg6) (av_move rfl) ?_
              refine aops_wval (want_yes rfl rfl rfl hg6) (av_not rfl) ?_
              refine aops_val (av_pick_bool (congrArg Value.bool hg6) rfl) ?_
              first | refine aops_val (av_move_bool rfl) ?_ | refine aops_val (av_move rfl) ?_
              refine aops_guard rfl rfl rfl ?_ ?_
              · intro hg7
                have hp7 := hg7; try simp only [decide_eq_true_eq, decide_eq_false_iff_not, Bool.not_eq_true', Bool.not_eq_false'] at hp7
                first | refine aops_wval (want_yes rfl rfl rfl hg7) (av_move_ptr rfl) ?_ | refine aops_wval (want_yes rfl rfl rfl hg7) (av_move rfl) ?_
                refine aops_want (want_yes rfl rfl rfl hg7) (aop_call (Size_nil _) rfl Try.func29 rfl rfl rfl ?_)
                rintro v H ⟨rfl, rfl⟩
                refine aops_wval (want_yes rfl rfl rfl hg7) (av_eq rfl rfl) ?_
                refine aops_val (av_pick_bool (congrArg Value.bool hg7) rfl) ?_
                first | refine aops_val (av_move_bool rfl) ?_ | refine aops_val (av_move rfl) ?_
                refine aops_guard rfl rfl rfl ?_ ?_
                · intro hg8
                  have hp8 := hg8; try simp only [decide_eq_true_eq, decide_eq_false_iff_not, Bool.not_eq_true', Bool.not_eq_false'] at hp8
                  refine aops_want (want_yes rfl rfl rfl hg8) (aop_call (lives29_ok _) rfl Try.func13 rfl rfl rfl ?_)
                  rintro v H' ⟨rfl, hlv⟩
                  refine aops_val (av_pick_bool (congrArg Value.bool hg8) rfl) ?_
                  first | refine aops_val (av_assign_bool rfl) ?_ | refine aops_val (av_assign rfl) ?_
                  refine ac_ret ?_
                  exact ⟨.bool true, aresult1 (ares_tmp rfl), rfl, Hp.le_trans (Hp.le_trans leH7 hle8) hlv⟩
                · intro hg8
                  exact absurd hg8 (by decide)
              · intro hg7
                exact absurd hg7 (by decide)
            · intro hg6
              exact absurd hg6 (by decide)
          · intro hg5
            exact absurd hg5 (by decide)
        · intro hg4
          exact absurd hg4 (by decide)
      · intro hg3
        exact absurd hg3 (by decide)
    · intro hg2
      exact absurd hg2 (by decide)
  · intro hg1
    exact absurd hg1 (by decide)
end Go.Proofs.Ytcaeoebphfjfiaa.Am
