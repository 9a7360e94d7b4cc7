/- Texts that the proof rests on, part 5: lemmas for every heap that is related to a world, no condition beyond each lemma's own. -/
import Derived.Test.YtnkjikpmgeknbaaRo4
import Derived.Test.YtnkjikpmgeknbaaRo3
namespace Go.Proofs.Ytnkjikpmgeknbaa.Am
open Go Go.RowKit
set_option maxRecDepth 100000
set_option linter.unusedVariables false
set_option linter.unusedSimpArgs false

def twoF : Forest := ⟨[⟨#[120]⟩, ⟨#[121]⟩], [0, 1], [-1, 0], [[], [0]], [[], []]⟩
def twoP : Parts := ⟨[[⟨0, 0, 0, 1⟩, ⟨1, 1, 0, 1⟩], [⟨0, 0, 0, 1⟩, ⟨1, 1, 0, 1⟩]], [[], [⟨0, 1, 0, 1⟩]]⟩
theorem rep_link (G : Hp) (x : Link) : kLink.rep G x [.int .i64 x.a, .int .i64 x.b, .int .i64 x.cost, .int .u64 x.n] := rfl
theorem sl_two {α : Type} {k : Kd α} {H : Hp} {b c st : Nat} {x y : α} {u v : Value} (hg : H.get b = .own st [u, v]) (hb : b < H.size) (h1 : k.rep H x [u]) (h2 : k.rep H y [v]) (hst : k.sz = st) : Sl k H (.slice (some ⟨b, 0, none⟩) 2 c) [x, y] :=
  Els.sl (xs := [x, y]) (cs := [u, v]) (Els.cons (c := [u]) h1 (Els.cons (c := [v]) h2 (Els.nil _ _ []))) (Hp.sees.refl _) hb hg hst
theorem sl_one1 {α : Type} {k : Kd α} {H : Hp} {b c st : Nat} {x : α} {u : Value} (hg : H.get b = .own st [u]) (hb : b < H.size) (h1 : k.rep H x [u]) (hst : k.sz = st) : Sl k H (.slice (some ⟨b, 0, none⟩) 1 c) [x] :=
  Els.sl (xs := [x]) (cs := [u]) (Els.cons (c := [u]) h1 (Els.nil _ _ [])) (Hp.sees.refl _) hb hg hst
theorem sl_link1 {H : Hp} {b c : Nat} {x : Link} (hg : H.get b = .own 4 [.int .i64 x.a, .int .i64 x.b, .int .i64 x.cost, .int .u64 x.n]) (hb : b < H.size) : Sl kLink H (.slice (some ⟨b, 0, none⟩) 1 c) [x] :=
  Els.sl (xs := [x]) (cs := _) (Els.cons (c := _) (rep_link H x) (Els.nil _ _ [])) (Hp.sees.refl _) hb hg rfl
theorem sl_link2 {H : Hp} {b c : Nat} {x y : Link} (hg : H.get b = .own 4 [.int .i64 x.a, .int .i64 x.b, .int .i64 x.cost, .int .u64 x.n, .int .i64 y.a, .int .i64 y.b, .int .i64 y.cost, .int .u64 y.n]) (hb : b < H.size) : Sl kLink H (.slice (some ⟨b, 0, none⟩) 2 c) [x, y] :=
  Els.sl (xs := [x, y]) (cs := _) (Els.cons (c := _) (rep_link H x) (Els.cons (c := _) (rep_link H y) (Els.nil _ _ []))) (Hp.sees.refl _) hb hg rfl
set_option maxHeartbeats 1000000 in
theorem two_ok (H : Hp) : ACalls Try.prog 99 #[] H (fun r H' => ∃ cs ds, r = .tuple #[.agg cs.toArray, .agg ds.toArray] ∧ kForest.rep H' twoF cs ∧ kParts.rep H' twoP ds ∧ H.le H') := by
  refine acalls_of_code Try.func99 rfl rfl rfl (by simp) ?_
  refine ac_seq ?_
  refine ac_region (by kernel_rfl) ?_
  refine aops_make (am_zero (l := [.slice none 0 0, .slice none 0 0, .slice none 0 0, .slice none 0 0, .slice none 0 0]) inf62.zero rfl (by decide)) ?_
  refine aops_make (am_zero (l := [.slice none 0 0, .slice none 0 0]) inf65.zero rfl (by decide)) ?_
  refine ac_seq ?_
  refine ac_region (by kernel_rfl) ?_
  first | refine aops_make (am_buildSlice (r := [.string _, .string _]) Try.underlying59 inf9.size inf9.zero rfl (by decide) (by decide) (by decide) rfl) ?_
  first | refine aops_make (am_buildSlice (r := [.int .i64 _, .int .i64 _]) Try.underlying29 inf3.size inf3.zero rfl (by decide) (by decide) (by decide) rfl) ?_
  first | refine aops_make (am_buildSlice (r := [.int .i64 _, .int .i64 _]) Try.underlying29 inf3.size inf3.zero rfl (by decide) (by decide) (by decide) rfl) ?_
  first | refine aops_make (am_buildSlice (r := [.int .i64 _]) Try.underlying29 inf3.size inf3.zero rfl (by decide) (by decide) (by decide) rfl) ?_
  first | refine aops_make (am_buildSlice (r := [.slice _ _ _, .slice _ _ _]) Try.underlying60 inf29.size inf29.zero rfl (by decide) (by decide) (by decide) rfl) ?_ | refine aops_make (am_buildSlice (r := [_, _]) Try.underlying60 inf29.size inf29.zero rfl (by decide) (by decide) (by decide) rfl) ?_
  first | refine aops_make (am_buildSlice (r := [.slice _ _ _, .slice _ _ _]) Try.underlying60 inf29.size inf29.zero rfl (by decide) (by decide) (by decide) rfl) ?_ | refine aops_make (am_buildSlice (r := [_, _]) Try.underlying60 inf29.size inf29.zero rfl (by decide) (by decide) (by decide) rfl) ?_
  first | refine aops_val (av_build (pl := [(0, 1), (1, 1), (2, 1), (3, 1), (4, 1)]) (r := [.slice _ _ _, .slice _ _ _, .slice _ _ _, .slice _ _ _, .slice _ _ _]) Try.underlying62 inf62.zero (by decide) rfl rfl) ?_ | refine aops_val (av_build (pl := [(0, 1), (1, 1), (2, 1), (3, 1), (4, 1)]) (r := [_, _, _, _, _]) Try.underlying62 inf62.zero (by decide) rfl rfl) ?_
  refine aops_make (am_zero (l := [.slice none 0 0, .slice none 0 0, .slice none 0 0, .slice none 0 0, .slice none 0 0]) inf62.zero rfl (by decide)) ?_
  first | refine aops_op (aop_putN (vs := [.slice _ _ _, .slice _ _ _, .slice _ _ _, .slice _ _ _, .slice _ _ _]) rfl rfl inf62.size t_get t_room rfl rfl ?_) | refine aops_op (aop_putN (vs := [_, _, _, _, _]) rfl rfl inf62.size t_get t_room rfl rfl ?_)
  refine ac_seq ?_
  refine ac_region (by kernel_rfl) ?_
  refine aops_val (av_build (pl := [(0, 1), (1, 1), (2, 1), (3, 1)]) (r := [.int .i64 _, .int .i64 _, .int .i64 _, .int .u64 _]) Try.underlying28 inf28.zero (by decide) rfl rfl) ?_
  refine aops_val (av_build (pl := [(0, 1), (1, 1), (2, 1), (3, 1)]) (r := [.int .i64 _, .int .i64 _, .int .i64 _, .int .u64 _]) Try.underlying28 inf28.zero (by decide) rfl rfl) ?_
  first | refine aops_make (am_buildSlice (r := [.int .i64 _, .int .i64 _, .int .i64 _, .int .u64 _, .int .i64 _, .int .i64 _, .int .i64 _, .int .u64 _]) Try.underlying22 inf28.size inf28.zero rfl (by decide) (by decide) (by decide) rfl) ?_
  first | refine aops_val (av_assign_sl rfl) ?_ | refine aops_val (av_assign rfl) ?_
  refine ac_seq ?_
  refine ac_region (by kernel_rfl) ?_
  first | refine aops_val (av_loadN (cs := [.slice _ _ _, .slice _ _ _, .slice _ _ _, .slice _ _ _, .slice _ _ _]) rfl Try.underlying62 rfl inf62.size t_cells) ?_ | refine aops_val (av_loadN (cs := [_, _, _, _, _]) rfl Try.underlying62 rfl inf62.size t_cells) ?_
  first | refine aops_val (av_move_sl rfl) ?_ | refine aops_val (av_move rfl) ?_
  first | refine aops_val (av_move_sl rfl) ?_ | refine aops_val (av_move rfl) ?_
  first | refine aops_make (am_buildSlice (r := [.slice _ _ _, .slice _ _ _]) Try.underlying63 inf22.size inf22.zero rfl (by decide) (by decide) (by decide) rfl) ?_ | refine aops_make (am_buildSlice (r := [_, _]) Try.underlying63 inf22.size inf22.zero rfl (by decide) (by decide) (by decide) rfl) ?_
  refine aops_val (av_build (pl := [(0, 1), (1, 1), (2, 1), (3, 1)]) (r := [.int .i64 _, .int .i64 _, .int .i64 _, .int .u64 _]) Try.underlying28 inf28.zero (by decide) rfl rfl) ?_
  first | refine aops_make (am_buildSlice (r := [.int .i64 _, .int .i64 _, .int .i64 _, .int .u64 _]) Try.underlying22 inf28.size inf28.zero rfl (by decide) (by decide) (by decide) rfl) ?_
  first | refine aops_make (am_buildSlice (r := [.slice _ _ _, .slice _ _ _]) Try.underlying63 inf22.size inf22.zero rfl (by decide) (by decide) (by decide) rfl) ?_ | refine aops_make (am_buildSlice (r := [_, _]) Try.underlying63 inf22.size inf22.zero rfl (by decide) (by decide) (by decide) rfl) ?_
  first | refine aops_val (av_build (pl := [(0, 1), (1, 1)]) (r := [.slice _ _ _, .slice _ _ _]) Try.underlying65 inf65.zero (by decide) rfl rfl) ?_ | refine aops_val (av_build (pl := [(0, 1), (1, 1)]) (r := [_, _]) Try.underlying65 inf65.zero (by decide) rfl rfl) ?_
  first | refine aops_op (aop_putN (vs := [.slice _ _ _, .slice _ _ _, .slice _ _ _, .slice _ _ _, .slice _ _ _]) rfl rfl inf62.size t_get t_room rfl rfl ?_) | refine aops_op (aop_putN (vs := [_, _, _, _, _]) rfl rfl inf62.size t_get t_room rfl rfl ?_)
  first | refine aops_op (aop_putN (vs := [.slice _ _ _, .slice _ _ _]) rfl rfl inf65.size t_get t_room rfl rfl ?_) | refine aops_op (aop_putN (vs := [_, _]) rfl rfl inf65.size t_get t_room rfl rfl ?_)
  refine ac_ret ?_
  refine ⟨_, aresult2 (ares_cell rfl (aload_agg (cs := [_, _, _, _, _]) Try.underlying62 rfl inf62.size t_cells)) (ares_cell rfl (aload_agg (cs := [_, _]) Try.underlying65 rfl inf65.size t_cells)), [_, _, _, _, _], [_, _], rfl, ⟨_, _, _, _, _, rfl, ?_, ?_, ?_, ?_, ?_⟩, ⟨_, _, rfl, ?_, ?_⟩, ?_⟩
  · exact sl_two (k := kStr) t_get (by simp) rfl rfl rfl
  · exact sl_two (k := kInt .i64) t_get (by simp) rfl rfl rfl
  · exact sl_two (k := kInt .i64) t_get (by simp) rfl rfl rfl
  · exact sl_two (k := kSl (kInt .i64)) t_get (by simp) ⟨_, rfl, Sl.nil _ _⟩ ⟨_, rfl, sl_one1 (k := kInt .i64) t_get (by simp) rfl rfl⟩ rfl
  · exact sl_two (k := kSl (kInt .i64)) t_get (by simp) ⟨_, rfl, Sl.nil _ _⟩ ⟨_, rfl, Sl.nil _ _⟩ rfl
  · exact sl_two (k := kSl kLink) t_get (by simp) ⟨_, rfl, sl_link2 t_get (by simp)⟩ ⟨_, rfl, sl_link2 t_get (by simp)⟩ rfl
  · exact sl_two (k := kSl kLink) t_get (by simp) ⟨_, rfl, Sl.nil _ _⟩ ⟨_, rfl, sl_link1 t_get (by simp)⟩ rfl
  · exact t_le
end Go.Proofs.Ytnkjikpmgeknbaa.Am

namespace Go.Proofs.Ytnkjikpmgeknbaa.Am
open Go Go.RowKit
set_option maxRecDepth 100000
set_option linter.unusedVariables false
set_option linter.unusedSimpArgs false

def twoR : Parts := ⟨[[⟨0, 0, 0, 1⟩], [⟨1, 1, 0, 1⟩]], [[], [⟨0, 1, 0, 1⟩]]⟩
theorem good_two : GoodP twoF twoP := by
  refine ⟨⟨rfl, rfl, rfl, rfl, fun i hi => ?_⟩, rfl, rfl, fun v hv => ?_⟩
  · have hi' : i < 2 := hi
    rcases (by omega : i = 0 ∨ i = 1) with rfl | rfl <;> (unfold OkF; decide)
  · have hv' : v < 2 := hv
    rcases (by omega : v = 0 ∨ v = 1) with rfl | rfl <;> (unfold OkP; rw [goodL_iff, goodL_iff]; unfold OkL; decide)
theorem small_two : Small twoF twoP := ⟨by decide, by decide, by decide, by decide, by decide, by decide, by decide⟩
theorem of_two : ofP twoF twoP = twoR := by
  have h := good_two
  obtain ⟨k1, k2, k3, k4⟩ := up_all h.gf twoF.order.reverse [] twoP rfl h.lens h.nb (fun v hv => by simp at hv)
  have e1 : upP twoF twoP = twoF.order.reverse.foldl (fun p v => upC twoF p v.toNat) twoP := k4
  rw [← e1] at k1 k2
  have e2 : downP twoF (upP twoF twoP) = twoF.order.foldl (fun p v => downC twoF p v.toNat) (upP twoF twoP) := down_fold _ _ (fun v hv => by have := h.gf.order_in hv; omega) k1 (h.nb.sub k2)
  unfold ofP
  rw [e2, e1]
  rfl
theorem of_twoR : ofP twoF twoR = twoR := by have := ofP_twice good_two; rwa [of_two] at this
theorem good_twoR : GoodP twoF twoR := by have := ofP_good good_two; rwa [of_two] at this
theorem small_twoR : Small twoF twoR := ⟨by decide, by decide, by decide, by decide, by decide, by decide, by decide⟩
theorem Of_good (f : Forest) (p : Parts) (cs ds : List Value) (H : Hp) (hp : kForest.rep H f cs) (hq : kParts.rep H p ds) (hsm : Small f p) (hg : GoodP f p) :
    ACalls Try.prog 35 #[.agg cs.toArray, .agg ds.toArray] H (fun r H' => ∃ (u v : Value), r = .tuple #[.agg #[u, v], .int .i64 0] ∧ Sl (kSl kLink) H' u (ofP f p).nodes ∧ Sl (kSl kLink) H' v (ofP f p).links ∧ H.le H') :=
  (Of_parts f p cs ds H hp hq hsm).mono fun r H' ⟨g, es, h1, h2, h3, h4⟩ => by
    obtain rfl : g = true := h1.2 hg
    obtain ⟨u, v, rfl, h5, h6⟩ := h3
    exact ⟨u, v, h2, h5, h6, h4⟩
theorem Is_true (f : Forest) (p : Parts) (cs ds : List Value) (H : Hp) (hp : kForest.rep H f cs) (hq : kParts.rep H p ds) (hsm : Small f p) (hg : GoodP f p) (he : ofP f p = p) :
    ACalls Try.prog 39 #[.agg cs.toArray, .agg ds.toArray] H (fun r H' => r = .bool true ∧ H' = H) :=
  (Is_parts f p cs ds H hp hq hsm).mono fun r H' ⟨⟨g, h1, h2⟩, h3⟩ => by
    obtain rfl : g = true := h2.2 ⟨hg, by rw [he], by rw [he]⟩
    exact ⟨h1, h3⟩
theorem Is_false (f : Forest) (p : Parts) (cs ds : List Value) (H : Hp) (hp : kForest.rep H f cs) (hq : kParts.rep H p ds) (hsm : Small f p) (he : (ofP f p).nodes ≠ p.nodes) :
    ACalls Try.prog 39 #[.agg cs.toArray, .agg ds.toArray] H (fun r H' => r = .bool false ∧ H' = H) :=
  (Is_parts f p cs ds H hp hq hsm).mono fun r H' ⟨⟨g, h1, h2⟩, h3⟩ => by
    obtain rfl : g = false := by cases g with | false => rfl | true => exact absurd (h2.1 rfl).2.1 he
    exact ⟨h1, h3⟩
set_option maxHeartbeats 1000000 in
theorem lives28_ok (H : Hp) : ACalls Try.prog 37 #[] H (fun r H' => r = .bool true ∧ H.le H') := by
  refine acalls_of_code Try.func37 rfl rfl rfl (by simp) ?_
  refine ac_seq ?_
  refine ac_region (by kernel_rfl) ?_
  first | refine aops_val (av_assign_bool rfl) ?_ | refine aops_val (av_assign rfl) ?_
  refine ac_seq ?_
  refine ac_region (by kernel_rfl) ?_
  refine aops_op (aop_call (two_ok _) rfl Try.func99 rfl rfl rfl ?_)
  rintro v1 H1 ⟨cs1, ds1, rfl, hf1, hp1, hle1⟩; have hf10 := hf1; have hp10 := hp1; obtain ⟨a0, a1, a2, a3, a4, rfl, hs0, hs1, hs2, hs3, hs4⟩ := hf1; obtain ⟨A0, c0, rfl⟩ := hs0.shape; obtain ⟨A1, c1, rfl⟩ := hs1.shape; obtain ⟨A2, c2, rfl⟩ := hs2.shape; obtain ⟨A3, c3, rfl⟩ := hs3.shape; obtain ⟨A4, c4, rfl⟩ := hs4.shape; obtain ⟨u0, u1, rfl, hn0, hn1⟩ := hp1; obtain ⟨B0, d0, rfl⟩ := hn0.shape; obtain ⟨B1, d1, rfl⟩ := hn1.shape
  refine aops_val (av_move rfl) ?_
  refine aops_val (av_extract rfl rfl) ?_
  refine aops_val (av_extract rfl rfl) ?_
  refine aops_make (am_zero (l := [.slice none 0 0, .slice none 0 0, .slice none 0 0, .slice none 0 0, .slice none 0 0]) inf62.zero rfl (by decide)) ?_
  refine aops_make (am_zero (l := [.slice none 0 0, .slice none 0 0]) inf65.zero rfl (by decide)) ?_
  first | refine aops_op (aop_putN (vs := [.slice _ _ _, .slice _ _ _, .slice _ _ _, .slice _ _ _, .slice _ _ _]) rfl rfl inf62.size t_get t_room rfl rfl ?_) | refine aops_op (aop_putN (vs := [_, _, _, _, _]) rfl rfl inf62.size t_get t_room rfl rfl ?_)
  first | refine aops_op (aop_putN (vs := [.slice _ _ _, .slice _ _ _]) rfl rfl inf65.size t_get t_room rfl rfl ?_) | refine aops_op (aop_putN (vs := [_, _]) rfl rfl inf65.size t_get t_room rfl rfl ?_)
  refine ac_seq ?_
  refine ac_region (by kernel_rfl) ?_
  first | refine aops_val (av_loadN (cs := [.slice _ _ _, .slice _ _ _, .slice _ _ _, .slice _ _ _, .slice _ _ _]) rfl Try.underlying62 rfl inf62.size t_cells) ?_ | refine aops_val (av_loadN (cs := [_, _, _, _, _]) rfl Try.underlying62 rfl inf62.size t_cells) ?_
  first | refine aops_val (av_loadN (cs := [.slice _ _ _, .slice _ _ _]) rfl Try.underlying65 rfl inf65.size t_cells) ?_ | refine aops_val (av_loadN (cs := [_, _]) rfl Try.underlying65 rfl inf65.size t_cells) ?_
  refine aops_op (aop_call (Of_good twoF twoP _ _ _ (kForest.mono t_sees hf10) (kParts.mono t_sees hp10) small_two good_two) rfl Try.func35 rfl rfl rfl ?_)
  rintro v2 H2 ⟨w0, w1, rfl, hm0, hm1, hle2⟩; rw [of_two] at hm0 hm1; obtain ⟨C0, k0, rfl⟩ := hm0.shape; obtain ⟨C1, k1, rfl⟩ := hm1.shape; have hz2 := hle2.1; simp only [Hp.push_size, Hp.put_size] at hz2
  refine aops_val (av_move rfl) ?_
  refine aops_val (av_extract rfl rfl) ?_
  refine aops_val (av_extract rfl rfl) ?_
  refine aops_make (am_zero (l := [.slice none 0 0, .slice none 0 0]) inf65.zero rfl (by decide)) ?_
  first | refine aops_op (aop_putN (vs := [.slice _ _ _, .slice _ _ _]) rfl rfl inf65.size t_get t_room rfl rfl ?_) | refine aops_op (aop_putN (vs := [_, _]) rfl rfl inf65.size t_get t_room rfl rfl ?_)
  first | refine aops_val (av_assign_int rfl) ?_ | refine aops_val (av_assign rfl) ?_
  refine ac_seq ?_
  refine ac_region (by kernel_rfl) ?_
  first | refine aops_val (av_move_int rfl) ?_ | refine aops_val (av_move rfl) ?_
  refine aops_val (av_eq rfl rfl) ?_
  first | refine aops_val (av_move_bool rfl) ?_ | refine aops_val (av_move rfl) ?_
  refine aops_guard rfl rfl rfl ?_ ?_
  · intro hg1
    have hp1 := hg1; try simp only [decide_eq_true_eq, decide_eq_false_iff_not, Bool.not_eq_true', Bool.not_eq_false'] at hp1
    refine aops_wval (want_yes rfl rfl rfl hg1) (av_fieldOff (off := 0) rfl Try.underlying65 rfl inf63.size (by decide) rfl) ?_
    refine aops_wval (want_yes rfl rfl rfl hg1) (av_load1 rfl Try.underlying63 rfl t_cell) ?_
    refine aops_wval (want_yes rfl rfl rfl hg1) (av_len rfl Try.underlying63) ?_
    refine aops_wval (want_yes rfl rfl rfl hg1) (av_eq rfl rfl) ?_
    refine aops_val (av_pick_bool (congrArg Value.bool hg1) rfl) ?_
    first | refine aops_val (av_move_bool rfl) ?_ | refine aops_val (av_move rfl) ?_
    refine aops_guard rfl rfl rfl ?_ ?_
    · intro hg2
      have hp2 := hg2; try simp only [decide_eq_true_eq, decide_eq_false_iff_not, Bool.not_eq_true', Bool.not_eq_false'] at hp2
      refine aops_wval (want_yes rfl rfl rfl hg2) (av_fieldOff (off := 0) rfl Try.underlying65 rfl inf63.size (by decide) rfl) ?_
      refine aops_wval (want_yes rfl rfl rfl hg2) (av_load1 rfl Try.underlying63 rfl t_cell) ?_
      obtain ⟨b, o, ks, eB, hb, ⟨w3, rfl, hw3⟩, hcell3⟩ := hm0.elem_at (i := 0) (by decide)
      obtain ⟨b', o', ks', eB', hb', ⟨w4, rfl, hw4⟩, hcell4⟩ := hm0.elem_at (i := 1) (by decide)
      obtain ⟨rfl⟩ : C0 = some ⟨b, o, none⟩ := eB
      simp only [Option.some.injEq, Addr.mk.injEq, and_true] at eB'
      obtain ⟨rfl, rfl⟩ := eB'
      have hcell3' := hcell3.one
      have hcell4' := hcell4.one
      obtain ⟨C3, k3, rfl⟩ := hw3.shape
      obtain ⟨C4, k4, rfl⟩ := hw4.shape
      refine aops_wval (want_yes rfl rfl rfl hg2) (av_indexAddr rfl rfl Try.underlying63 inf22.size t_idx t_idx) ?_
      refine aops_wval (want_yes rfl rfl rfl hg2) (av_load1 rfl Try.underlying22 rfl t_cell) ?_
      refine aops_wval (want_yes rfl rfl rfl hg2) (av_len rfl Try.underlying22) ?_
      refine aops_wval (want_yes rfl rfl rfl hg2) (av_eq rfl rfl) ?_
      refine aops_val (av_pick_bool (congrArg Value.bool hg2) rfl) ?_
      first | refine aops_val (av_move_bool rfl) ?_ | refine aops_val (av_move rfl) ?_
      refine aops_guard rfl rfl rfl ?_ ?_
      · intro hg3
        have hp3 := hg3; try simp only [decide_eq_true_eq, decide_eq_false_iff_not, Bool.not_eq_true', Bool.not_eq_false'] at hp3
        refine aops_wval (want_yes rfl rfl rfl hg3) (av_fieldOff (off := 0) rfl Try.underlying65 rfl inf63.size (by decide) rfl) ?_
        refine aops_wval (want_yes rfl rfl rfl hg3) (av_load1 rfl Try.underlying63 rfl t_cell) ?_
        refine aops_wval (want_yes rfl rfl rfl hg3) (av_indexAddr rfl rfl Try.underlying63 inf22.size t_idx t_idx) ?_
        refine aops_wval (want_yes rfl rfl rfl hg3) (av_load1 rfl Try.underlying22 rfl t_cell) ?_
        refine aops_wval (want_yes rfl rfl rfl hg3) (av_len rfl Try.underlying22) ?_
        refine aops_wval (want_yes rfl rfl rfl hg3) (av_eq rfl rfl) ?_
        refine aops_val (av_pick_bool (congrArg Value.bool hg3) rfl) ?_
        first | refine aops_val (av_move_bool rfl) ?_ | refine aops_val (av_move rfl) ?_
        refine aops_guard rfl rfl rfl ?_ ?_
        · intro hg4
          have hp4 := hg4; try simp only [decide_eq_true_eq, decide_eq_false_iff_not, Bool.not_eq_true', Bool.not_eq_false'] at hp4
          first | refine aops_wval (want_yes rfl rfl rfl hg4) (av_loadN (cs := [.slice _ _ _, .slice _ _ _, .slice _ _ _, .slice _ _ _, .slice _ _ _]) rfl Try.underlying62 rfl inf62.size t_cells) ?_ | refine aops_wval (want_yes rfl rfl rfl hg4) (av_loadN (cs := [_, _, _, _, _]) rfl Try.underlying62 rfl inf62.size t_cells) ?_
          first | refine aops_wval (want_yes rfl rfl rfl hg4) (av_loadN (cs := [.slice _ _ _, .slice _ _ _]) rfl Try.underlying65 rfl inf65.size t_cells) ?_ | refine aops_wval (want_yes rfl rfl rfl hg4) (av_loadN (cs := [_, _]) rfl Try.underlying65 rfl inf65.size t_cells) ?_
          refine aops_want (want_yes rfl rfl rfl hg4) (aop_call (Is_false twoF twoP _ _ _ (kForest.mono t_sees hf10) (kParts.mono t_sees hp10) small_two (by rw [of_two]; decide)) rfl Try.func39 rfl rfl rfl ?_)
          rintro v5 H5 ⟨rfl, rfl⟩
          refine aops_wval (want_yes rfl rfl rfl hg4) (av_not rfl) ?_
          refine aops_val (av_pick_bool (congrArg Value.bool hg4) rfl) ?_
          first | refine aops_val (av_move_bool rfl) ?_ | refine aops_val (av_move rfl) ?_
          refine aops_guard rfl rfl rfl ?_ ?_
          · intro hg5
            have hp5 := hg5; try simp only [decide_eq_true_eq, decide_eq_false_iff_not, Bool.not_eq_true', Bool.not_eq_false'] at hp5
            first | refine aops_wval (want_yes rfl rfl rfl hg5) (av_loadN (cs := [.slice _ _ _, .slice _ _ _, .slice _ _ _, .slice _ _ _, .slice _ _ _]) rfl Try.underlying62 rfl inf62.size t_cells) ?_ | refine aops_wval (want_yes rfl rfl rfl hg5) (av_loadN (cs := [_, _, _, _, _]) rfl Try.underlying62 rfl inf62.size t_cells) ?_
            first | refine aops_wval (want_yes rfl rfl rfl hg5) (av_loadN (cs := [.slice _ _ _, .slice _ _ _]) rfl Try.underlying65 rfl inf65.size t_cells) ?_ | refine aops_wval (want_yes rfl rfl rfl hg5) (av_loadN (cs := [_, _]) rfl Try.underlying65 rfl inf65.size t_cells) ?_
            refine aops_want (want_yes rfl rfl rfl hg5) (aop_call (Is_true twoF twoR _ [_, _] _ (kForest.mono t_sees hf10) ⟨_, _, rfl, hm0.mono t_sees, hm1.mono t_sees⟩ small_twoR good_twoR of_twoR) rfl Try.func39 rfl rfl rfl ?_)
            rintro v6 H6 ⟨rfl, rfl⟩
            refine aops_val (av_pick_bool (congrArg Value.bool hg5) rfl) ?_
            first | refine aops_val (av_assign_bool rfl) ?_ | refine aops_val (av_assign rfl) ?_
            refine ac_ret ?_
            exact ⟨.bool true, aresult1 (ares_tmp rfl), rfl, Hp.le_put_new (Hp.le_push' (Hp.le_trans (Hp.le_put_new (Hp.le_put_new (Hp.le_push' (Hp.le_push' hle1 _) _) (by have := hle1.1; simp <;> omega) _) (by have := hle1.1; simp <;> omega) _) hle2) _) (by have := hle1.1; omega) _⟩
          · intro hg5
            exact absurd hg5 (by decide)
        · intro hg4
          exact absurd hg4 (by decide)
      · intro hg3
        exact absurd hg3 (by decide)
    · intro hg2
      exact absurd hg2 (by decide)
  · intro hg1
    exact absurd hg1 (by decide)
end Go.Proofs.Ytnkjikpmgeknbaa.Am

namespace Go.Proofs.Ytnkjikpmgeknbaa.Am
open Go Go.RowKit
set_option maxRecDepth 100000
set_option linter.unusedVariables false
set_option linter.unusedSimpArgs false

structure BigF (f : Forest) : Prop where
  l0 : f.vars.length ≤ 9223372036854775807
  l1 : f.order.length ≤ 9223372036854775807
  l2 : f.parent.length ≤ 9223372036854775807
  l3 : f.links.length ≤ 9223372036854775807
  l4 : f.loops.length ≤ 9223372036854775807
  s3 : ∀ l ∈ f.links, l.length ≤ 9223372036854775807
  s4 : ∀ l ∈ f.loops, l.length ≤ 9223372036854775807
structure BigP (p : Parts) : Prop where
  l0 : p.nodes.length ≤ 9223372036854775807
  l1 : p.links.length ≤ 9223372036854775807
  s0 : ∀ l ∈ p.nodes, l.length ≤ 9223372036854775807
  s1 : ∀ l ∈ p.links, l.length ≤ 9223372036854775807
theorem Forest_28 (f : Forest) (cs : List Value) (H : Hp) (hp : kForest.rep H f cs) (hb : BigF f) :
    ACalls Try.prog 33 #[.agg cs.toArray] H (fun r H' => H.le H' ∧ ∃ ds, r = .agg ds.toArray ∧ kForest.rep H' f.few ds) := by
  have hp0 := hp
  obtain ⟨v0, v1, v2, v3, v4, rfl, hs0, hs1, hs2, hs3, hs4⟩ := hp
  obtain ⟨A0, c0, rfl⟩ := hs0.shape
  obtain ⟨A1, c1, rfl⟩ := hs1.shape
  obtain ⟨A2, c2, rfl⟩ := hs2.shape
  obtain ⟨A3, c3, rfl⟩ := hs3.shape
  obtain ⟨A4, c4, rfl⟩ := hs4.shape
  refine acalls_of_code Try.func33 rfl rfl rfl (by simp) ?_
  refine ac_seq ?_
  refine ac_region (by kernel_rfl) ?_
  refine aops_make (am_box_agg rfl) ?_
  refine aops_make (am_zero (l := [.slice none 0 0, .slice none 0 0, .slice none 0 0, .slice none 0 0, .slice none 0 0]) inf62.zero rfl (by decide)) ?_
  refine ac_seq ?_
  refine ac_region (by kernel_rfl) ?_
  first | refine aops_val (av_loadN (cs := [.slice _ _ _, .slice _ _ _, .slice _ _ _, .slice _ _ _, .slice _ _ _]) rfl Try.underlying62 rfl inf62.size t_cells) ?_ | refine aops_val (av_loadN (cs := [_, _, _, _, _]) rfl Try.underlying62 rfl inf62.size t_cells) ?_
  refine aops_op (aop_call (Few_forest f _ _ (kForest.mono t_sees hp0) hb.l0 hb.l1 hb.l2 hb.l3 hb.l4 hb.s3 hb.s4) rfl Try.func94 rfl rfl rfl ?_)
  rintro v2 H2 ⟨hle2, ds, rfl, hds⟩; have hds0 := hds; obtain ⟨a0, a1, a2, a3, a4, rfl, ht0, ht1, ht2, ht3, ht4⟩ := hds; obtain ⟨B0, d0, rfl⟩ := ht0.shape; obtain ⟨B1, d1, rfl⟩ := ht1.shape; obtain ⟨B2, d2, rfl⟩ := ht2.shape; obtain ⟨B3, d3, rfl⟩ := ht3.shape; obtain ⟨B4, d4, rfl⟩ := ht4.shape; have hz2 := hle2.1; simp only [Hp.push_size] at hz2
  first | refine aops_op (aop_putN (vs := [.slice _ _ _, .slice _ _ _, .slice _ _ _, .slice _ _ _, .slice _ _ _]) rfl rfl inf62.size t_get t_room rfl rfl ?_) | refine aops_op (aop_putN (vs := [_, _, _, _, _]) rfl rfl inf62.size t_get t_room rfl rfl ?_)
  refine ac_ret ?_
  have k1 : H2.get (H.size + 1) = .own 0 [.slice none 0 0, .slice none 0 0, .slice none 0 0, .slice none 0 0, .slice none 0 0] := le_got hle2 (by simp) (by intro e; cases e) t_get
  exact ⟨_, aresult1 (ares_cell (by first | assumption | rfl) (aload_agg (cs := [_, _, _, _, _]) Try.underlying62 rfl inf62.size t_cells)), Hp.le_put_new (Hp.le_trans (Hp.le_push' (H.le_push _) _) hle2) (by simp <;> omega) _, [_, _, _, _, _], rfl, kForest.mono (Hp.sees_box _ k1) hds0⟩
theorem small_few (f : Forest) (p : Parts) : Small f.few p.few4 := by
  have h8 : ∀ {α : Type} (xs : List α), (xs.take 8).length ≤ 8 := fun xs => by rw [List.length_take]; omega
  refine ⟨?_, ?_, ?_, ?_, ?_, fun l hl => ?_, fun l hl => ?_⟩
  · show ((f.vars.take 8).map _).length ≤ _; rw [List.length_map]; have := h8 f.vars; omega
  · show (f.order.take 8).length ≤ _; have := h8 f.order; omega
  · show (f.parent.take 8).length ≤ _; have := h8 f.parent; omega
  · show (((p.nodes.take 8).map fewL).map _).length ≤ _; rw [List.length_map, List.length_map]; have := h8 p.nodes; omega
  · show ((p.links.take 8).map fewL).length ≤ _; rw [List.length_map]; have := h8 p.links; omega
  · obtain ⟨m, _, rfl⟩ := List.mem_map.1 hl
    rw [List.length_take]; omega
  · obtain ⟨m, _, rfl⟩ := List.mem_map.1 hl
    unfold fewL; rw [List.length_map, List.length_take]; omega
theorem Link.few_few (x : Link) : x.few.few = x.few := by
  unfold Link.few
  by_cases h : 1000000000 < x.cost
  · rw [if_pos h]; simp
  · rw [if_neg h, if_neg h]
theorem fewL_le (xs : List Link) : (fewL xs).length ≤ 25 := by unfold fewL; rw [List.length_map, List.length_take]; omega
theorem fewL_take (m : Nat) (xs : List Link) : fewL ((fewL xs).take m) = (fewL xs).take m := by
  have h : (fewL xs).map Link.few = fewL xs := by
    unfold fewL
    rw [List.map_map, show Link.few ∘ Link.few = Link.few from funext Link.few_few]
  show (((fewL xs).take m).take 25).map Link.few = _
  rw [List.take_of_length_le (by rw [List.length_take]; have := fewL_le xs; omega), List.map_take, h]
theorem fewL_idem (xs : List Link) : fewL (fewL xs) = fewL xs := by
  have := fewL_take (fewL xs).length xs
  rwa [List.take_length] at this
theorem few4_few4 (p : Parts) : p.few4.few4 = p.few4 := by
  unfold Parts.few4 Parts.few
  simp only [List.map_map, ← List.map_take, List.take_take, Nat.min_self]
  congr 1
  · refine List.map_congr_left fun l _ => ?_
    simp only [Function.comp]
    rw [fewL_take, List.take_take, Nat.min_self]
  · exact List.map_congr_left fun l _ => fewL_idem l
theorem cutS_idem (s : ByteArray) : cutS (cutS s 32) 32 = cutS s 32 := by
  unfold cutS
  by_cases h : 32 < s.size
  · rw [if_pos h, if_neg (by rw [ByteArray.size_extract]; omega)]
  · rw [if_neg h, if_neg h]
theorem ffew_ffew (f : Forest) : f.few.few = f.few := by
  unfold Forest.few
  simp only [← List.map_take, List.take_take, Nat.min_self, List.map_map]
  congr 1
  · exact List.map_congr_left fun s _ => cutS_idem s
  · exact List.map_congr_left fun l _ => by simp [List.take_take]
  · exact List.map_congr_left fun l _ => by simp [List.take_take]
theorem bigF_few (f : Forest) : BigF f.few := by
  have h := (small_few f ⟨[], []⟩)
  have h8 : ∀ {α : Type} (xs : List α), (xs.take 8).length ≤ 8 := fun xs => by rw [List.length_take]; omega
  refine ⟨by have := h.s0; omega, by have := h.s1; omega, by have := h.s2; omega, ?_, ?_, fun l hl => ?_, fun l hl => ?_⟩
  · show ((f.links.take 8).map _).length ≤ _; rw [List.length_map]; have := h8 f.links; omega
  · show ((f.loops.take 8).map _).length ≤ _; rw [List.length_map]; have := h8 f.loops; omega
  · obtain ⟨m, _, rfl⟩ := List.mem_map.1 hl; rw [List.length_take]; omega
  · obtain ⟨m, _, rfl⟩ := List.mem_map.1 hl; rw [List.length_take]; omega
theorem bigP_few (p : Parts) : BigP p.few4 := by
  have h := (small_few ⟨[], [], [], [], []⟩ p)
  exact ⟨by have := h.s3; omega, by have := h.s4; omega, fun l hl => by have := h.s5 l hl; omega, fun l hl => by have := h.s6 l hl; omega⟩
end Go.Proofs.Ytnkjikpmgeknbaa.Am

namespace Go.Proofs.Ytnkjikpmgeknbaa.Am
open Go Go.RowKit
set_option maxRecDepth 100000
set_option linter.unusedVariables false
set_option linter.unusedSimpArgs false

theorem Same_true (p q : Parts) (cs ds : List Value) (H : Hp) (hp : kParts.rep H p cs) (hq : kParts.rep H q ds) (hn : p.nodes.length ≤ 1000000) (hl : p.links.length ≤ 1000000) (h3 : ∀ l ∈ p.nodes, l.length ≤ 1000000) (h4 : ∀ l ∈ p.links, l.length ≤ 1000000) (he : p = q) :
    ACalls Try.prog 38 #[.agg cs.toArray, .agg ds.toArray] H (fun r H' => r = .bool true ∧ H' = H) :=
  (Same_parts p q cs ds H hp hq hn hl h3 h4).mono fun r H' ⟨⟨g, h1, h2⟩, h3⟩ => by
    obtain rfl : g = true := h2.2 ⟨by rw [he], by rw [he]⟩
    exact ⟨h1, h3⟩
theorem small_sub {f : Forest} {p q : Parts} (h : Small f p) (hl : Lens f.vars.length q) (hs : Sub q p) : Small f q :=
  ⟨h.s0, h.s1, h.s2, by rw [hl.1]; exact h.s0, by rw [hl.2]; exact h.s0, fun l hm => by
    obtain ⟨i, hi, rfl⟩ := List.getElem_of_mem hm
    have k1 := (hs i).1.length_le
    unfold nd at k1
    rw [getD_list hi] at k1
    exact Nat.le_trans k1 (getD_len h.s5 i), fun l hm => by
    obtain ⟨i, hi, rfl⟩ := List.getElem_of_mem hm
    have k1 := (hs i).2.length_le
    unfold lk at k1
    rw [getD_list hi] at k1
    exact Nat.le_trans k1 (getD_len h.s6 i)⟩
end Go.Proofs.Ytnkjikpmgeknbaa.Am

namespace Go.Proofs.Ytnkjikpmgeknbaa.Am
open Go Go.RowKit
set_option maxRecDepth 100000
set_option linter.unusedVariables false
set_option linter.unusedSimpArgs false

def upR (f : Forest) (p : Parts) (k : Nat) : Parts := (f.order.reverse.take k).foldl (fun p v => upC f p v.toNat) p
def downR (f : Forest) (p : Parts) (k : Nat) : Parts := (f.order.take k).foldl (fun p v => downC f p v.toNat) p
end Go.Proofs.Ytnkjikpmgeknbaa.Am

namespace Go.Proofs.Ytnkjikpmgeknbaa.Am
open Go Go.RowKit
set_option maxRecDepth 100000
set_option linter.unusedVariables false
set_option linter.unusedSimpArgs false

end Go.Proofs.Ytnkjikpmgeknbaa.Am

namespace Go.Proofs.Ytnkjikpmgeknbaa.Am
open Go Go.RowKit
set_option maxRecDepth 100000
set_option linter.unusedVariables false
set_option linter.unusedSimpArgs false

def atI (xs : List Int) (v : Int) : Int := match xs.findIdx? (fun x => decide (x = v)) with
  | some i => i
  | none => -1
theorem atI_some {xs : List Int} {v : Int} {i : Nat} (hi : i < xs.length) (h : xs[i] = v) (hno : v ∉ xs.take i) : atI xs v = i := by
  unfold atI
  have : xs.findIdx? (fun x => decide (x = v)) = some i := by
    rw [List.findIdx?_eq_some_iff_getElem]
    refine ⟨hi, decide_eq_true h, fun j hj => ?_⟩
    have : xs[j] ≠ v := fun e => hno (List.mem_take_iff_getElem.2 ⟨j, by omega, e⟩)
    simp [this]
  rw [this]
theorem atI_none {xs : List Int} {v : Int} (hno : v ∉ xs) : atI xs v = -1 := by
  unfold atI
  have : xs.findIdx? (fun x => decide (x = v)) = none := by
    rw [List.findIdx?_eq_none_iff]; intro x hx; simp; intro e; exact hno (e ▸ hx)
  rw [this]
theorem at_raw (f : Forest) (cs : List Value) (v : Int) (H : Hp) (hp : kForest.rep H f cs) (hl : f.order.length ≤ 1000000) :
    ACalls Try.prog 108 #[.agg cs.toArray, .int .i64 v] H (fun r _ => r = .int .i64 (atI f.order v)) := by
  obtain ⟨v0, v1, v2, v3, v4, rfl, hs0, hs1, hs2, hs3, hs4⟩ := hp
  obtain ⟨A0, c0, rfl⟩ := hs0.shape
  obtain ⟨A1, c1, rfl⟩ := hs1.shape
  obtain ⟨A2, c2, rfl⟩ := hs2.shape
  obtain ⟨A3, c3, rfl⟩ := hs3.shape
  obtain ⟨A4, c4, rfl⟩ := hs4.shape
  refine acalls_of_code Try.func108 rfl rfl rfl (by simp) ?_
  refine ac_seq ?_
  refine ac_region (by kernel_rfl) ?_
  refine aops_make (am_box_agg rfl) ?_
  first | refine aops_val (av_assign_int rfl) ?_ | refine aops_val (av_assign rfl) ?_
  refine ac_seq ?_
  refine ac_seq ?_
  refine ac_region (by kernel_rfl) ?_
  first | refine aops_val (av_assign_int rfl) ?_ | refine aops_val (av_assign rfl) ?_
  refine ac_block ?_
  refine ac_loop (fun n t H' => ∃ i : Nat, i ≤ f.order.length ∧ n = f.order.length - i ∧ H' = H.push (.own 0 [.slice A0 f.vars.length c0, .slice A1 f.order.length c1, .slice A2 f.parent.length c2, .slice A3 f.links.length c3, .slice A4 f.loops.length c4]) ∧ v ∉ f.order.take i ∧ t 1 = .int .i64 v ∧ t 2 = .pointer (some ⟨H.size, 0, none⟩) ∧ t 5 = .int .i64 i) (f.order.length) (⟨0, by omega, rfl, rfl, by simp, rfl, rfl, rfl⟩) ?_
  rintro n t _ ⟨i, hi, rfl, rfl, hno, e1, e2, e5⟩
  refine ac_seq ?_
  refine ac_seq ?_
  refine ac_region (by kernel_rfl) ?_
  first | refine aops_val (av_move_int (by first | assumption | rfl)) ?_ | refine aops_val (av_move (by first | assumption | rfl)) ?_
  refine aops_val (av_fieldOff (off := 1) (by first | assumption | rfl) Try.underlying62 (by first | assumption | rfl) inf29.size (by decide) (by first | assumption | rfl)) ?_
  refine aops_val (av_load1 rfl Try.underlying29 rfl t_cell) ?_
  refine aops_val (av_len rfl Try.underlying29) ?_
  refine aops_val (av_lt rfl rfl) ?_
  refine ac_split rfl rfl ?_ ?_
  · intro hc1
    (try simp only [decide_eq_true_eq, decide_eq_false_iff_not, Bool.not_eq_true', Bool.not_eq_false'] at hc1)
    refine ac_skip ?_
    refine ac_seq ?_
    refine ac_block ?_
    refine ac_seq ?_
    have hix : i < f.order.length := by omega
    obtain ⟨b, o, rfl, hb, hcell1⟩ := (hs1.mono (H.le_push (.own 0 [.slice A0 f.vars.length c0, .slice A1 f.order.length c1, .slice A2 f.parent.length c2, .slice A3 f.links.length c3, .slice A4 f.loops.length c4])).sees).int_at (i := (i : Int)) (by omega) (by omega)
    have hgi : f.order.getD (i : Int).toNat 0 = f.order[i] := by rw [Int.toNat_natCast]; exact getD_at hix
    rw [hgi] at hcell1
    refine ac_region (by kernel_rfl) ?_
    refine aops_val (av_fieldOff (off := 1) (by first | assumption | rfl) Try.underlying62 (by first | assumption | rfl) inf29.size (by decide) (by first | assumption | rfl)) ?_
    refine aops_val (av_load1 rfl Try.underlying29 rfl t_cell) ?_
    first | refine aops_val (av_move_int (by first | assumption | rfl)) ?_ | refine aops_val (av_move (by first | assumption | rfl)) ?_
    refine aops_val (av_indexAddr rfl rfl Try.underlying29 inf3.size t_idx t_idx) ?_
    refine aops_val (av_load1 rfl Try.underlying3 rfl t_cell) ?_
    first | refine aops_val (av_move_int (by first | assumption | rfl)) ?_ | refine aops_val (av_move (by first | assumption | rfl)) ?_
    refine aops_val (av_eq rfl rfl) ?_
    refine ac_split rfl rfl ?_ ?_
    · intro hc2
      have he : f.order[i] = v := of_decide_eq_true hc2
      refine ac_seq ?_
      refine ac_region (by kernel_rfl) ?_
      first | refine aops_val (av_move_int (by first | assumption | rfl)) ?_ | refine aops_val (av_move (by first | assumption | rfl)) ?_
      first | refine aops_val (av_assign_int rfl) ?_ | refine aops_val (av_assign rfl) ?_
      refine ac_ret ?_
      exact ⟨.int .i64 i, aresult1 (ares_tmp rfl), by rw [atI_some hix he hno]⟩
    · intro hc2
      have hne : f.order[i] ≠ v := of_decide_eq_false hc2
      refine ac_skip ?_
      refine ac_region (by kernel_rfl) ?_
      first | refine aops_val (av_move_int (by first | assumption | rfl)) ?_ | refine aops_val (av_move (by first | assumption | rfl)) ?_
      first | refine aops_val (av_add64 rfl rfl t_fits) ?_ | refine aops_val (av_add rfl rfl) ?_
      first | refine aops_val (av_assign_int rfl) ?_ | refine aops_val (av_assign rfl) ?_
      exact ⟨f.order.length - (i + 1), by omega, i + 1, by omega, rfl, rfl, by rw [← take_next hix]; simp only [List.mem_append, List.mem_singleton, not_or]; exact ⟨hno, fun e => hne e.symm⟩, e1, e2, rfl⟩
  · intro hc1
    (try simp only [decide_eq_true_eq, decide_eq_false_iff_not, Bool.not_eq_true', Bool.not_eq_false'] at hc1)
    refine ac_exit ?_
    refine ac_seq ?_
    refine ac_region (by kernel_rfl) ?_
    first | refine aops_val (av_assign_int rfl) ?_ | refine aops_val (av_assign rfl) ?_
    refine ac_ret ?_
    rw [List.take_of_length_le (by omega)] at hno
    exact ⟨.int .i64 (-1), aresult1 (ares_tmp rfl), by rw [atI_none hno]⟩
theorem at_forest (f : Forest) (cs : List Value) (v : Int) (H : Hp) (hp : kForest.rep H f cs) (hl : f.order.length ≤ 1000000) :
    ACalls Try.prog 108 #[.agg cs.toArray, .int .i64 v] H (fun r H' => r = .int .i64 (atI f.order v) ∧ H' = H) :=
  ACalls.pure (fun v h => by rw [h]; rfl) (at_raw f cs v H.ro (kForest.mono H.sees_ro hp) hl)
theorem top_u64 (a : Int) (H : Hp) : ACalls Try.prog 148 #[.int .u64 a] H (fun r H' => r = .int .u64 (min a mostI) ∧ H' = H) := by
  refine acalls_of_code Try.func148 rfl rfl rfl (by simp) ?_
  refine ac_seq ?_
  refine ac_region (by kernel_rfl) ?_
  first | refine aops_val (av_assign_int rfl) ?_ | refine aops_val (av_assign rfl) ?_
  refine ac_seq ?_
  refine ac_seq ?_
  refine ac_region (by kernel_rfl) ?_
  first | refine aops_val (av_move_int rfl) ?_ | refine aops_val (av_move rfl) ?_
  refine aops_val (av_gt rfl rfl) ?_
  refine ac_split rfl rfl ?_ ?_
  · intro hc1
    have hgt : a > 4611686018427387904 := of_decide_eq_true hc1
    refine ac_seq ?_
    refine ac_region (by kernel_rfl) ?_
    first | refine aops_val (av_assign_int rfl) ?_ | refine aops_val (av_assign rfl) ?_
    refine ac_ret ?_
    exact ⟨.int .u64 4611686018427387904, aresult1 (ares_tmp rfl), by rw [show min a mostI = 4611686018427387904 by unfold mostI; omega], rfl⟩
  · intro hc1
    have hgt : ¬ a > 4611686018427387904 := of_decide_eq_false hc1
    refine ac_skip ?_
    refine ac_seq ?_
    refine ac_region (by kernel_rfl) ?_
    first | refine aops_val (av_move_int rfl) ?_ | refine aops_val (av_move rfl) ?_
    first | refine aops_val (av_assign_int rfl) ?_ | refine aops_val (av_assign rfl) ?_
    refine ac_ret ?_
    exact ⟨.int .u64 a, aresult1 (ares_tmp rfl), by rw [show min a mostI = a by unfold mostI; omega], rfl⟩
theorem timesR_u64 (a b : Int) (ha : 0 ≤ a) (hb : 0 ≤ b) (H : Hp) : ACalls Try.prog 110 #[.int .u64 a, .int .u64 b] H (fun r H' => r = .int .u64 (timesI a b) ∧ H' = H) := by
  obtain ⟨m, hm⟩ : ∃ m, m = min a mostI := ⟨_, rfl⟩
  obtain ⟨n, hn⟩ : ∃ n, n = min b mostI := ⟨_, rfl⟩
  have hm1 : 0 ≤ m ∧ m ≤ 4611686018427387904 := by unfold mostI at hm; omega
  have hn1 : 0 ≤ n ∧ n ≤ 4611686018427387904 := by unfold mostI at hn; omega
  have ht : timesI a b = min (m * n) mostI := by unfold timesI; rw [← hm, ← hn]
  have hw : ∀ x : Int, 0 ≤ x → x < 18446744073709551616 → IntKind.u64.wrap x = x := fun x h1 h2 => by simp [IntKind.wrap, IntKind.bits, IntKind.signed]; omega
  refine acalls_of_code Try.func110 rfl rfl rfl (by simp) ?_
  refine ac_seq ?_
  refine ac_region (by kernel_rfl) ?_
  first | refine aops_val (av_assign_int rfl) ?_ | refine aops_val (av_assign rfl) ?_
  refine ac_seq ?_
  refine ac_region (by kernel_rfl) ?_
  first | refine aops_val (av_move_int rfl) ?_ | refine aops_val (av_move rfl) ?_
  refine aops_op (aop_call (top_u64 a _) rfl Try.func148 rfl rfl rfl ?_)
  rintro v1 H1 ⟨rfl, rfl⟩; rw [← hm]
  first | refine aops_val (av_move_int rfl) ?_ | refine aops_val (av_move rfl) ?_
  refine aops_op (aop_call (top_u64 b _) rfl Try.func148 rfl rfl rfl ?_)
  rintro v2 H2 ⟨rfl, rfl⟩; rw [← hn]
  first | refine aops_val (av_assign_int rfl) ?_ | refine aops_val (av_assign rfl) ?_
  first | refine aops_val (av_assign_int rfl) ?_ | refine aops_val (av_assign rfl) ?_
  refine ac_seq ?_
  refine ac_seq ?_
  refine ac_region (by kernel_rfl) ?_
  first | refine aops_val (av_move_int rfl) ?_ | refine aops_val (av_move rfl) ?_
  refine aops_val (av_eq rfl rfl) ?_
  first | refine aops_val (av_move_bool rfl) ?_ | refine aops_val (av_move rfl) ?_
  refine aops_guard rfl rfl rfl ?_ ?_
  · intro hg1
    have hm0 : m = 0 := of_decide_eq_true hg1
    refine aops_skip (want_no rfl rfl rfl hg1 rfl) ?_
    refine aops_skip (want_no rfl rfl rfl hg1 rfl) ?_
    refine aops_val (av_pick_bool (congrArg Value.bool hg1) rfl) ?_
    refine ac_cond_true rfl rfl ?_
    refine ac_seq ?_
    refine ac_region (by kernel_rfl) ?_
    first | refine aops_val (av_assign_int rfl) ?_ | refine aops_val (av_assign rfl) ?_
    refine ac_ret ?_
    refine ⟨.int .u64 0, aresult1 (ares_tmp rfl), ?_, rfl⟩
    rw [ht]
    first
      | (rw [hm0]; simp [mostI]; done)
      | (rw [hm0, Int.zero_mul]; rfl)
      | (rw [hn0, Int.mul_zero]; rfl)
  · intro hg1
    have hm0 : m ≠ 0 := of_decide_eq_false hg1
    first | refine aops_wval (want_yes rfl rfl rfl hg1) (av_move_int rfl) ?_ | refine aops_wval (want_yes rfl rfl rfl hg1) (av_move rfl) ?_
    refine aops_wval (want_yes rfl rfl rfl hg1) (av_eq rfl rfl) ?_
    refine aops_val (av_pick_bool (congrArg Value.bool hg1) rfl) ?_
    refine ac_split rfl rfl ?_ ?_
    · intro hc3
      have hn0 : n = 0 := of_decide_eq_true hc3
      refine ac_seq ?_
      refine ac_region (by kernel_rfl) ?_
      first | refine aops_val (av_assign_int rfl) ?_ | refine aops_val (av_assign rfl) ?_
      refine ac_ret ?_
      refine ⟨.int .u64 0, aresult1 (ares_tmp rfl), ?_, rfl⟩
      rw [ht]
      first
        | (rw [hm0]; simp [mostI]; done)
        | (rw [hm0, Int.zero_mul]; rfl)
        | (rw [hn0, Int.mul_zero]; rfl)
    · intro hc3
      have hn0 : n ≠ 0 := of_decide_eq_false hc3
      refine ac_skip ?_
      refine ac_seq ?_
      refine ac_seq ?_
      refine ac_region (by kernel_rfl) ?_
      have hq : IntKind.u64.wrap (Int.tdiv 4611686018427387904 n) = 4611686018427387904 / n := by
        have h1 : (0 : Int) ≤ 4611686018427387904 / n := Int.ediv_nonneg (by omega) (by omega)
        have h2 : (4611686018427387904 : Int) / n ≤ 4611686018427387904 := Int.ediv_le_self _ (by omega)
        rw [Int.tdiv_eq_ediv_of_nonneg (by omega)]
        exact hw _ h1 (by omega)
      first | refine aops_val (av_move_int rfl) ?_ | refine aops_val (av_move rfl) ?_
      first | refine aops_val (av_move_int rfl) ?_ | refine aops_val (av_move rfl) ?_
      refine aops_val (av_quo rfl rfl (by omega)) ?_
      refine aops_val (av_gt rfl rfl) ?_
      refine ac_split rfl rfl ?_ ?_
      · intro hc4
        have hgt : 4611686018427387904 < m * n := (Int.ediv_lt_iff_lt_mul (by omega)).1 (by have := of_decide_eq_true hc4; rwa [hq] at this)
        refine ac_seq ?_
        refine ac_region (by kernel_rfl) ?_
        first | refine aops_val (av_assign_int rfl) ?_ | refine aops_val (av_assign rfl) ?_
        refine ac_ret ?_
        exact ⟨.int .u64 4611686018427387904, aresult1 (ares_tmp rfl), by rw [ht, show min (m * n) mostI = 4611686018427387904 by unfold mostI; omega], rfl⟩
      · intro hc4
        have hgt : ¬ 4611686018427387904 < m * n := fun h => by
          have h1 := (Int.ediv_lt_iff_lt_mul (c := n) (by omega)).2 h
          have h2 := of_decide_eq_false hc4
          rw [hq] at h2
          exact h2 h1
        refine ac_skip ?_
        refine ac_seq ?_
        refine ac_region (by kernel_rfl) ?_
        first | refine aops_val (av_move_int rfl) ?_ | refine aops_val (av_move rfl) ?_
        first | refine aops_val (av_move_int rfl) ?_ | refine aops_val (av_move rfl) ?_
        refine aops_val (av_mul rfl rfl) ?_
        first | refine aops_val (av_assign_int rfl) ?_ | refine aops_val (av_assign rfl) ?_
        refine ac_ret ?_
        have h0 : 0 ≤ m * n := Int.mul_nonneg hm1.1 hn1.1
        refine ⟨.int .u64 (m * n), aresult1 (ares_tmp ?_), by rw [ht, show min (m * n) mostI = m * n by unfold mostI; omega], rfl⟩
        show Value.int .u64 (IntKind.u64.wrap (m * n)) = _
        rw [hw _ h0 (by omega)]
end Go.Proofs.Ytnkjikpmgeknbaa.Am

namespace Go.Proofs.Ytnkjikpmgeknbaa.Am
open Go Go.RowKit
set_option maxRecDepth 100000
set_option linter.unusedVariables false
set_option linter.unusedSimpArgs false

structure RowT where
  nodes : List Int
  cost : Int
  n : Int
def kRow : Kd RowT where
  sz := 3
  pos := by decide
  rep H r cs := ∃ v, cs = [v, .int .i64 r.cost, .int .u64 r.n] ∧ Sl (kInt .i64) H v r.nodes
  len h := by obtain ⟨_, rfl, _⟩ := h; rfl
  mono he h := by obtain ⟨v, rfl, h0⟩ := h; exact ⟨v, rfl, h0.mono he⟩
  one h u hu := by
    obtain ⟨v, rfl, h0⟩ := h
    obtain ⟨_, _, rfl⟩ := h0.shape
    simp at hu
    rcases hu with rfl | rfl | rfl <;> rfl
def dLink : Link := ⟨0, 0, 0, 0⟩
def linkOf (f : Forest) (p : Parts) (v : Nat) (r : RowT) (x : Link) : Int := findI (lk p v) (r.nodes.getD (atI f.order (par f v)).toNat 0) x.a
def rowOne (f : Forest) (p : Parts) (v : Nat) (r : RowT) (x : Link) : Option RowT :=
  if 0 ≤ par f v then
    if 0 ≤ linkOf f p v r x then some ⟨r.nodes ++ [x.a], r.cost + (x.cost + ((lk p v).getD (linkOf f p v r x).toNat dLink).cost), timesI r.n (timesI x.n ((lk p v).getD (linkOf f p v r x).toNat dLink).n)⟩ else none
  else some ⟨r.nodes ++ [x.a], r.cost + x.cost, timesI r.n x.n⟩
def vAt (f : Forest) (i : Nat) : Nat := (f.order.getD i 0).toNat
def rowsK (f : Forest) (p : Parts) : Nat → List RowT
  | 0 => [⟨[], 0, 1⟩]
  | i + 1 => (rowsK f p i).flatMap fun r => (nd p (vAt f i)).filterMap (rowOne f p (vAt f i) r)
def rowsP (f : Forest) (p : Parts) : List RowT := rowsK f p f.order.length
/-- Few enough variables, nodes, and costs. -/
structure Tiny (f : Forest) (p : Parts) : Prop where
  vars : f.vars.length ≤ 5
  nodes : ∀ v, (nd p v).length ≤ 4
  costN : ∀ v, ∀ x ∈ nd p v, 0 ≤ x.cost ∧ x.cost ≤ 1000000000 ∧ 0 ≤ x.n ∧ x.n ≤ 4611686018427387904
  costL : ∀ v, ∀ x ∈ lk p v, 0 ≤ x.cost ∧ x.cost ≤ 1000000000 ∧ 0 ≤ x.n ∧ x.n ≤ 4611686018427387904
structure RowOk (i : Nat) (r : RowT) : Prop where
  len : r.nodes.length = i
  c0 : 0 ≤ r.cost
  c1 : r.cost ≤ 2000000000 * i
  n0 : 0 ≤ r.n
  n1 : r.n ≤ 4611686018427387904
theorem timesI_le {a b : Int} (ha : 0 ≤ a) (hb : 0 ≤ b) : 0 ≤ timesI a b ∧ timesI a b ≤ 4611686018427387904 := by
  have h : 0 ≤ min a mostI * min b mostI := Int.mul_nonneg (by unfold mostI; omega) (by unfold mostI; omega)
  unfold timesI mostI at *
  omega
theorem getD_mem_or {xs : List Link} {i : Nat} : xs.getD i dLink ∈ xs ∨ xs.getD i dLink = dLink := by
  by_cases h : i < xs.length
  · left; rw [List.getD_eq_getElem?_getD, List.getElem?_eq_getElem h]; exact List.getElem_mem h
  · right; rw [List.getD_eq_getElem?_getD, List.getElem?_eq_none (by omega)]; rfl
theorem rowOne_ok {f : Forest} {p : Parts} (ht : Tiny f p) {i v : Nat} {r r' : RowT} {x : Link} (hr : RowOk i r) (hx : x ∈ nd p v) (h : rowOne f p v r x = some r') : RowOk (i + 1) r' := by
  obtain ⟨h1, h2, h3, h4, h5⟩ := hr
  obtain ⟨a1, a2, a3, a4⟩ := ht.costN v x hx
  unfold rowOne at h
  split at h
  · split at h
    · injection h with h
      subst h
      have hl : 0 ≤ ((lk p v).getD (linkOf f p v r x).toNat dLink).cost ∧ ((lk p v).getD (linkOf f p v r x).toNat dLink).cost ≤ 1000000000 ∧ 0 ≤ ((lk p v).getD (linkOf f p v r x).toNat dLink).n := by
        rcases getD_mem_or (xs := lk p v) (i := (linkOf f p v r x).toNat) with h | h
        · obtain ⟨b1, b2, b3, b4⟩ := ht.costL v _ h; exact ⟨b1, b2, b3⟩
        · rw [h]; decide
      have t1 := timesI_le a3 hl.2.2
      have t2 := timesI_le h4 t1.1
      exact ⟨by simp [h1], by show 0 ≤ _ + _; omega, by show _ + _ ≤ _; omega, t2.1, t2.2⟩
    · cases h
  · injection h with h
    subst h
    have t2 := timesI_le h4 a3
    exact ⟨by simp [h1], by show 0 ≤ _ + _; omega, by show _ + _ ≤ _; omega, t2.1, t2.2⟩
theorem rowsK_ok {f : Forest} {p : Parts} (ht : Tiny f p) : ∀ i, ∀ r ∈ rowsK f p i, RowOk i r
  | 0, r, h => by
    simp [rowsK] at h
    subst h
    exact ⟨rfl, by decide, by decide, by decide, by decide⟩
  | i + 1, r, h => by
    obtain ⟨r0, h0, h1⟩ := List.mem_flatMap.1 h
    obtain ⟨x, hx, h2⟩ := List.mem_filterMap.1 h1
    exact rowOne_ok ht (rowsK_ok ht i r0 h0) hx h2
theorem flat_len {α β : Type} {g : α → List β} {m : Nat} (h : ∀ a, (g a).length ≤ m) : ∀ (l : List α), (l.flatMap g).length ≤ m * l.length
  | [] => by simp
  | a :: l => by
    have := flat_len h l
    have := h a
    rw [List.flatMap_cons, List.length_append, List.length_cons, Nat.mul_succ]; omega
theorem rowsK_len {f : Forest} {p : Parts} (ht : Tiny f p) : ∀ i, (rowsK f p i).length ≤ 4 ^ i
  | 0 => by simp [rowsK]
  | i + 1 => by
    have h1 := rowsK_len ht i
    have h2 := flat_len (g := fun r => (nd p (vAt f i)).filterMap (rowOne f p (vAt f i) r)) (m := 4) (fun r => Nat.le_trans (List.length_filterMap_le _ _) (ht.nodes _)) (rowsK f p i)
    show ((rowsK f p i).flatMap _).length ≤ _
    rw [Nat.pow_succ]
    omega
theorem atI_take {xs : List Int} {v : Int} {i : Nat} (h : v ∈ xs.take i) : ∃ q : Nat, atI xs v = q ∧ q < i ∧ ∃ hq : q < xs.length, xs[q] = v := by
  obtain ⟨j, hj, e⟩ := List.getElem_of_mem h
  rw [List.length_take] at hj
  rw [List.getElem_take] at e
  cases hf : xs.findIdx? (fun x => decide (x = v)) with
  | none =>
    rw [List.findIdx?_eq_none_iff] at hf
    have := hf xs[j] (List.getElem_mem _)
    simp [e] at this
  | some q =>
    obtain ⟨hq, h1, h2⟩ := List.findIdx?_eq_some_iff_getElem.1 hf
    refine ⟨q, by unfold atI; rw [hf], ?_, hq, of_decide_eq_true h1⟩
    rcases Nat.lt_or_ge j q with h3 | h3
    · have := h2 j h3; simp [e] at this
    · omega
theorem filterMap_next {α β : Type} {g : α → Option β} {xs : List α} {j : Nat} (h : j < xs.length) : (xs.take (j + 1)).filterMap g = (xs.take j).filterMap g ++ (g xs[j]).toList := by
  rw [List.take_succ_eq_append_getElem h, List.filterMap_append]
  cases hg : g xs[j] <;> simp [hg]
theorem flatMap_next {α β : Type} {g : α → List β} {xs : List α} {j : Nat} (h : j < xs.length) : (xs.take (j + 1)).flatMap g = (xs.take j).flatMap g ++ g xs[j] := by
  rw [List.take_succ_eq_append_getElem h, List.flatMap_append]; simp
/-- A row's cells. -/
theorem Sl.row_at {H : Hp} {A : Option Addr} {n c : Nat} {xs : List RowT} (h : Sl kRow H (.slice A n c) xs) {i : Nat} (hi : i < xs.length) :
    ∃ b o w, A = some ⟨b, o, none⟩ ∧ b < H.size ∧ Cells H b (o + i * 3) [w, .int .i64 xs[i].cost, .int .u64 xs[i].n] ∧ Sl (kInt .i64) H w xs[i].nodes := by
  obtain ⟨b, o, cs, e, hb, ⟨w, rfl, hw⟩, hc⟩ := h.elem_at hi
  exact ⟨b, o, w, e, hb, hc, hw⟩
/-- A slice of plain elements, where a block of other elements becomes something else. -/
theorem Sl.put_odd {α : Type} {k : Kd α} (hk : ∀ (H H' : Hp) x cs, k.rep H x cs → k.rep H' x cs) {G : Hp} {v : Value} {xs : List α} (h : Sl k G v xs) {b1 st : Nat} {cs : List Value} (hb : G.get b1 = .own st cs) (hne : st ≠ k.sz) (x : Blk) : Sl k (G.put b1 x) v xs := by
  rcases h with h | ⟨b, o, c, e, h1, h2, h3⟩
  · exact .inl h
  · have hne' : b ≠ b1 := fun e => by subst e; rw [hb] at h2; exact hne h2
    refine .inr ⟨b, o, c, e, h1, by rw [Hp.put_other _ _ hne']; exact h2, fun i y hy => ?_⟩
    obtain ⟨d, r, hc⟩ := h3 i y hy
    exact ⟨d, hk _ _ _ _ r, fun j u hj => by have := hc j u hj; rw [cell_put_old hne']; exact this⟩
/-- Whatever comes, as long as all that is there stays. -/
theorem OwnP.stays {α : Type} {k : Kd α} {G H H1 : Hp} {v : Value} {xs : List α} (h : OwnP k G H v xs) (hle : H.le H1) : ∃ G1, G.le G1 ∧ OwnP k G1 H1 v xs ∧ ∀ {β : Type} (k' : Kd β) (r : Value) (ys : List β), (∀ (H H' : Hp) x cs, k'.rep H x cs → k'.rep H' x cs) → k.sz ≠ k'.sz → Sl k' H1 r ys → Sl k' G1 r ys := by
  rcases h with ⟨rfl, rfl, rfl⟩ | ⟨b, cs, c, rfl, hb, hd, rfl, hcap, he⟩
  · exact ⟨H1, hle, .inl ⟨rfl, rfl, rfl⟩, fun _ _ _ _ _ h => h⟩
  · have hg : H1.get b = .own k.sz cs := by
      rw [hle.2 b (by simpa using hb) (by rw [Hp.put_same]; intro e; cases e), Hp.put_same]
    have hle1 : G.le (H1.put b .dead) := ⟨by have := hle.1; simpa using this, fun i hi hn => by
      have hne : i ≠ b := fun e => by subst e; exact hn hd
      rw [Hp.put_other _ _ hne, hle.2 i (by simpa using hi) (by rw [Hp.put_other _ _ hne]; exact hn), Hp.put_other _ _ hne]⟩
    refine ⟨H1.put b .dead, hle1, .inr ⟨b, cs, c, rfl, by have := hle.1; simp at *; omega, Hp.put_same _ _ _, by rw [Hp.put_put]; exact (Hp.put_self _ hg).symm, hcap, he.mono hle1.sees⟩, fun k' r ys hk hne h => h.put_odd hk hg hne _⟩
theorem sl_lit1 {α : Type} {k : Kd α} {H : Hp} {b c st : Nat} {x : α} {u : Value} (hg : H.get b = .own st [u]) (hb : b < H.size) (h1 : k.rep H x [u]) (hst : k.sz = st) : Sl k H (.slice (some ⟨b, 0, none⟩) 1 c) [x] :=
  Els.sl (xs := [x]) (cs := [u]) (Els.cons (c := [u]) h1 (Els.nil _ _ [])) (Hp.sees.refl _) hb hg hst
theorem OwnP.put_plain {α : Type} {k : Kd α} (hk : ∀ (H H' : Hp) x cs, k.rep H x cs → k.rep H' x cs) {G H : Hp} {v : Value} {xs : List α} (h : OwnP k G H v xs) {b1 : Nat} (hl : G.get b1 ≠ .dead) (x : Blk) : OwnP k (G.put b1 x) (H.put b1 x) v xs := by
  rcases h with ⟨rfl, rfl, rfl⟩ | ⟨b, cs, c, rfl, hb, hd, rfl, hc, he⟩
  · exact .inl ⟨rfl, rfl, rfl⟩
  · have hne : b ≠ b1 := fun e => hl (e ▸ hd)
    exact .inr ⟨b, cs, c, rfl, hb, by rw [Hp.put_other _ _ hne]; exact hd, (Hp.put_comm _ hne _ _), hc, ⟨he.1, fun i y hy => let ⟨d, a, b⟩ := he.2 i y hy; ⟨d, hk _ _ _ _ a, b⟩⟩⟩
theorem plain_int (k : IntKind) : ∀ (H H' : Hp) x cs, (kInt k).rep H x cs → (kInt k).rep H' x cs := fun _ _ _ _ h => h
theorem plain_link : ∀ (H H' : Hp) x cs, kLink.rep H x cs → kLink.rep H' x cs := fun _ _ _ _ h => h
end Go.Proofs.Ytnkjikpmgeknbaa.Am

namespace Go.Proofs.Ytnkjikpmgeknbaa.Am
open Go Go.RowKit
set_option maxRecDepth 100000
set_option linter.unusedVariables false
set_option linter.unusedSimpArgs false

theorem findI_lt {xs : List Link} {a b : Int} (h : 0 ≤ findI xs a b) : ∃ m : Nat, findI xs a b = m ∧ ∃ hm : m < xs.length, xs[m].a = a ∧ xs[m].b = b := by
  unfold findI at *
  cases hf : xs.findIdx? (isAt a b) with
  | none => rw [hf] at h; simp at h
  | some i =>
    obtain ⟨hi, h1, _⟩ := List.findIdx?_eq_some_iff_getElem.1 hf
    unfold isAt at h1
    rw [Bool.and_eq_true, decide_eq_true_eq, decide_eq_true_eq] at h1
    exact ⟨i, rfl, hi, h1⟩
theorem rowOne_flat {f : Forest} {p : Parts} {w : Nat} {r : RowT} {x : Link} (h : ¬ 0 ≤ par f w) : rowOne f p w r x = some ⟨r.nodes ++ [x.a], r.cost + x.cost, timesI r.n x.n⟩ := if_neg h
theorem rowOne_none {f : Forest} {p : Parts} {w : Nat} {r : RowT} {x : Link} (h : 0 ≤ par f w) (h2 : ¬ 0 ≤ linkOf f p w r x) : rowOne f p w r x = none := by unfold rowOne; rw [if_pos h, if_neg h2]
theorem rowOne_link {f : Forest} {p : Parts} {w m : Nat} {r : RowT} {x : Link} (h : 0 ≤ par f w) (h2 : linkOf f p w r x = m) (hm : m < (lk p w).length) : rowOne f p w r x = some ⟨r.nodes ++ [x.a], r.cost + (x.cost + (lk p w)[m].cost), timesI r.n (timesI x.n (lk p w)[m].n)⟩ := by
  unfold rowOne
  rw [if_pos h, if_pos (by omega), h2, Int.toNat_natCast, List.getD_eq_getElem?_getD, List.getElem?_eq_getElem hm]; rfl
set_option maxHeartbeats 4000000 in
theorem Rows_ref (f : Forest) (p : Parts) (cs ds : List Value) (H : Hp) (hp : kForest.rep H f cs) (hq : kParts.rep H p ds) (hG : GoodP f p) (hsm : Small f p) (ht : Tiny f p) :
    ACalls Try.prog 47 #[.agg cs.toArray, .agg ds.toArray] H (fun r H' => H.le H' ∧ Sl kRow H' r (rowsP f p)) := by
  have hg := hG.gf
  have hp0 := hp
  have hq0 := hq
  obtain ⟨v0, v1, v2, v3, v4, rfl, hs0, hs1, hs2, hs3, hs4⟩ := hp
  obtain ⟨A0, c0, rfl⟩ := hs0.shape
  obtain ⟨A1, c1, rfl⟩ := hs1.shape
  obtain ⟨A2, c2, rfl⟩ := hs2.shape
  obtain ⟨A3, c3, rfl⟩ := hs3.shape
  obtain ⟨A4, c4, rfl⟩ := hs4.shape
  obtain ⟨u0, u1, rfl, hn0, hn1⟩ := hq
  obtain ⟨B0, d0, rfl⟩ := hn0.shape
  obtain ⟨B1, d1, rfl⟩ := hn1.shape
  have hgl := hg.l1
  have hgp := hg.l2
  have hvn := ht.vars
  refine acalls_of_code Try.func47 rfl rfl rfl (by simp) ?_
  refine ac_seq ?_
  refine ac_region (by kernel_rfl) ?_
  refine aops_make (am_box_agg rfl) ?_
  refine aops_make (am_box_agg rfl) ?_
  first | refine aops_val (av_assign_sl rfl) ?_ | refine aops_val (av_assign rfl) ?_
  refine ac_seq ?_
  refine ac_region (by kernel_rfl) ?_
  first | refine aops_val (av_build (pl := [(0, 1), (1, 1), (2, 1)]) (r := [.slice _ _ _, .int .i64 _, .int .u64 _]) Try.underlying152 inf152.zero (by decide) rfl rfl) ?_ | refine aops_val (av_build (pl := [(0, 1), (1, 1), (2, 1)]) (r := [_, .int .i64 _, .int .u64 _]) Try.underlying152 inf152.zero (by decide) rfl rfl) ?_
  first | refine aops_make (am_buildSlice (r := [.slice _ _ _, .int .i64 _, .int .u64 _]) Try.underlying74 inf152.size inf152.zero rfl (by decide) (by decide) (by decide) rfl) ?_ | refine aops_make (am_buildSlice (r := [_, .int .i64 _, .int .u64 _]) Try.underlying74 inf152.size inf152.zero rfl (by decide) (by decide) (by decide) rfl) ?_
  first | refine aops_val (av_assign_sl rfl) ?_ | refine aops_val (av_assign rfl) ?_
  refine ac_seq ?_
  refine ac_seq ?_
  refine ac_region (by kernel_rfl) ?_
  first | refine aops_val (av_assign_int rfl) ?_ | refine aops_val (av_assign rfl) ?_
  refine ac_block ?_
  refine ac_loop (fun n t H' => ∃ (i : Nat) (Ao : Option Addr) (co : Nat), i ≤ f.order.length ∧ n = f.order.length - i ∧ ((H.push (.own 0 [.slice A0 f.vars.length c0, .slice A1 f.order.length c1, .slice A2 f.parent.length c2, .slice A3 f.links.length c3, .slice A4 f.loops.length c4])).push (.own 0 [.slice B0 p.nodes.length d0, .slice B1 p.links.length d1])).le H' ∧ Sl kRow H' (.slice Ao (rowsK f p i).length co) (rowsK f p i) ∧ t 2 = .pointer (some ⟨H.size, 0, none⟩) ∧ t 3 = .pointer (some ⟨H.size + 1, 0, none⟩) ∧ t 5 = .slice Ao (rowsK f p i).length co ∧ t 6 = .int .i64 i) (f.order.length) (⟨0, _, _, by omega, rfl, Hp.le_push _ _, sl_one (k := kRow) (x := ⟨[], 0, 1⟩) ⟨_, rfl, Sl.nil _ _⟩ rfl rfl rfl, rfl, rfl, rfl, rfl⟩) ?_
  rintro n t H1 ⟨i, Ao, co, hi, rfl, hle1, hso, e2, e3, e5, e6⟩
  have hz1 := hle1.1
  simp only [Hp.push_size] at hz1
  have g0 : H1.get H.size = .own 0 [.slice A0 f.vars.length c0, .slice A1 f.order.length c1, .slice A2 f.parent.length c2, .slice A3 f.links.length c3, .slice A4 f.loops.length c4] := le_got hle1 (by simp <;> omega) (by intro e; cases e) t_get
  have g1 : H1.get (H.size + 1) = .own 0 [.slice B0 p.nodes.length d0, .slice B1 p.links.length d1] := le_got hle1 (by simp <;> omega) (by intro e; cases e) t_get
  have leH1 : H.le H1 := Hp.le_trans (Hp.le_push' (H.le_push _) _) hle1
  refine ac_seq ?_
  refine ac_seq ?_
  refine ac_region (by kernel_rfl) ?_
  first | refine aops_val (av_move_int (by first | assumption | rfl)) ?_ | refine aops_val (av_move (by first | assumption | rfl)) ?_
  refine aops_val (av_fieldOff (off := 1) (by first | assumption | rfl) Try.underlying62 (by first | assumption | rfl) inf29.size (by decide) (by first | assumption | rfl)) ?_
  refine aops_val (av_load1 rfl Try.underlying29 rfl t_cell) ?_
  refine aops_val (av_len rfl Try.underlying29) ?_
  refine aops_val (av_lt rfl rfl) ?_
  refine ac_split rfl rfl ?_ ?_
  · intro hc1
    (try simp only [decide_eq_true_eq, decide_eq_false_iff_not, Bool.not_eq_true', Bool.not_eq_false'] at hc1)
    refine ac_skip ?_
    refine ac_seq ?_
    refine ac_block ?_
    refine ac_seq ?_
    have hi' : i < f.order.length := by omega
    have hwm : f.order.getD i 0 ∈ f.order := by rw [getD_at hi']; exact List.getElem_mem hi'
    obtain ⟨b1, o1, rfl, hb1, hcell1⟩ := hs1.int_at (i := (i : Int)) (by omega) (by omega)
    rw [Int.toNat_natCast] at hcell1
    have hcell1' := leH1.cell1 hb1 hcell1
    obtain ⟨w, hw⟩ : ∃ w : Nat, f.order.getD i 0 = (w : Int) := ⟨(f.order.getD i 0).toNat, by have := hg.order_in hwm; omega⟩
    have hwn : w < f.vars.length := by have := hg.order_in hwm; omega
    have hvat : vAt f i = w := by unfold vAt; rw [hw]; rfl
    rw [hw] at hcell1'
    have hge := hg.parent_ge hwn
    obtain ⟨b2, o2, rfl, hb2, hcell2⟩ := hs2.int_at (i := (w : Int)) (by omega) (by omega)
    rw [Int.toNat_natCast] at hcell2
    have hcell2' := leH1.cell1 hb2 hcell2
    have hln := hG.n1
    have hll := hG.n2
    obtain ⟨b3, o3, ks3, eB0, hb3, ⟨wn, rfl, hsn⟩, hcell3⟩ := (hn0.mono leH1.sees).elem_at (i := w) (by omega)
    obtain ⟨b4, o4, ks4, eB1, hb4, ⟨wl, rfl, hsl⟩, hcell4⟩ := (hn1.mono leH1.sees).elem_at (i := w) (by omega)
    subst eB0 eB1
    have hcell3' := hcell3.one
    have hcell4' := hcell4.one
    have gn : p.nodes[w]'(by omega) = nd p w := (getD_list (by omega)).symm
    have gl : p.links[w]'(by omega) = lk p w := (getD_list (by omega)).symm
    rw [gn] at hsn
    rw [gl] at hsl
    obtain ⟨An, cn, rfl⟩ := hsn.shape
    obtain ⟨Al, cl, rfl⟩ := hsl.shape
    have hndl := ht.nodes w
    have hlkl : (lk p w).length ≤ 1000000 := getD_len hsm.s6 w
    have hrl : (rowsK f p i).length ≤ 1024 := Nat.le_trans (rowsK_len ht i) (Nat.pow_le_pow_right (by omega) (by omega : i ≤ 5))
    refine ac_draw (by kernel_rfl) (reg_of (B := [0, 0, 2, 0, 14, 30, 1, 127]) (π := [0, 1, 2, 3, 4, 5, 6, 7]) (by kernel_rfl)) ?_
    first | refine adr_make rfl rfl (am_buildSlice (r := []) Try.underlying74 inf152.size inf152.zero rfl (by decide) (by decide) (by decide) rfl) ?_
    refine adr_val rfl rfl (av_fieldOff (off := 1) (by first | assumption | rfl) Try.underlying62 (by first | assumption | rfl) inf29.size (by decide) (by first | assumption | rfl)) t_lt ?_
    refine adr_val rfl rfl (av_load1 rfl Try.underlying29 rfl t_cell) t_lt ?_
    first | refine adr_val rfl rfl (av_move_int (by first | assumption | rfl)) t_lt ?_ | refine adr_val rfl rfl (av_move (by first | assumption | rfl)) t_lt ?_
    refine adr_val rfl rfl (av_indexAddr rfl rfl Try.underlying29 inf3.size t_idx t_idx) t_lt ?_
    refine adr_val rfl rfl (av_load1 rfl Try.underlying3 rfl t_cell) t_lt ?_
    first | refine adr_val rfl rfl (av_assign_sl rfl) t_lt ?_ | refine adr_val rfl rfl (av_assign rfl) t_lt ?_
    first | refine adr_val rfl rfl (av_assign_int rfl) t_lt ?_ | refine adr_val rfl rfl (av_assign rfl) t_lt ?_
    refine ac_seq ?_
    refine ac_seq ?_
    refine ac_region (by kernel_rfl) ?_
    first | refine aops_val (av_assign_int rfl) ?_ | refine aops_val (av_assign rfl) ?_
    refine ac_block ?_
    refine ac_loop (fun n t H' => ∃ (k : Nat) (G : Hp) (rows : List RowT) (B : Option Addr) (c5 : Nat), k ≤ (rowsK f p i).length ∧ n = (rowsK f p i).length - k ∧ H1.le G ∧ rows = ((rowsK f p i).take k).flatMap (fun r => (nd p w).filterMap (rowOne f p w r)) ∧ OwnP kRow G H' (.slice B rows.length c5) rows ∧ t 2 = .pointer (some ⟨H.size, 0, none⟩) ∧ t 3 = .pointer (some ⟨H.size + 1, 0, none⟩) ∧ t 5 = .slice Ao (rowsK f p i).length co ∧ t 6 = .int .i64 i ∧ t 7 = .slice B rows.length c5 ∧ t 8 = .int .i64 w ∧ t 9 = .int .i64 k) ((rowsK f p i).length) (⟨0, H1.push .dead, [], _, _, by omega, rfl, H1.le_push _, rfl, OwnP.lit kRow H1, e2, e3, e5, e6, rfl, rfl, rfl⟩) ?_
    rintro n t H2 ⟨k, G2, rows, B, c5, hk, rfl, hle2, hrows, hown2, e2, e3, e5, e6, e7, e8, e9⟩
    have hz2 := hown2.size
    have leH2 := Hp.le_trans hle2 hown2.le
    have g02 := le_got leH2 (by omega) (by intro e; cases e) g0
    have g12 := le_got leH2 (by omega) (by intro e; cases e) g1
    have hrows4 : rows.length ≤ 4 * k := by rw [hrows]; have := flat_len (g := (fun r => (nd p w).filterMap (rowOne f p w r))) (m := 4) (fun r => Nat.le_trans (List.length_filterMap_le _ _) hndl) ((rowsK f p i).take k); rw [List.length_take] at this; omega
    refine ac_seq ?_
    refine ac_seq ?_
    refine ac_region (by kernel_rfl) ?_
    first | refine aops_val (av_move_int (by first | assumption | rfl)) ?_ | refine aops_val (av_move (by first | assumption | rfl)) ?_
    first | refine aops_val (av_move_sl (by first | assumption | rfl)) ?_ | refine aops_val (av_move (by first | assumption | rfl)) ?_
    refine aops_val (av_len rfl Try.underlying74) ?_
    refine aops_val (av_lt rfl rfl) ?_
    refine ac_split rfl rfl ?_ ?_
    · intro hc2
      (try simp only [decide_eq_true_eq, decide_eq_false_iff_not, Bool.not_eq_true', Bool.not_eq_false'] at hc2)
      refine ac_skip ?_
      refine ac_seq ?_
      refine ac_block ?_
      refine ac_seq ?_
      have hkx : k < (rowsK f p i).length := by omega
      obtain ⟨bo, oo, wr, eAo, hbo, hcello, hwr⟩ := hso.row_at hkx
      obtain ⟨_, _, eA2, _, _, hcuto, _⟩ := hso.place (by omega)
      subst eAo
      simp only [Option.some.injEq, Addr.mk.injEq, and_true] at eA2
      obtain ⟨rfl, rfl⟩ := eA2
      have hdo : H1.get bo ≠ .dead := Blk.cut_ne hcuto
      obtain ⟨r, hr⟩ : ∃ r, r = (rowsK f p i)[k] := ⟨_, rfl⟩
      rw [← hr] at hcello hwr
      have hrok : RowOk i r := rowsK_ok ht i r (by rw [hr]; exact List.getElem_mem hkx)
      obtain ⟨hrn, hr0, hr1, hr2, hr3⟩ := hrok
      obtain ⟨Ar, cr, rfl⟩ := hwr.shape
      refine ac_region (by kernel_rfl) ?_
      first | refine aops_val (av_assign_int rfl) ?_ | refine aops_val (av_assign rfl) ?_
      refine ac_block ?_
      refine ac_loop (fun n t H' => ∃ (j : Nat) (G : Hp) (rows3 : List RowT) (B : Option Addr) (c5 : Nat), j ≤ (nd p w).length ∧ n = (nd p w).length - j ∧ H1.le G ∧ rows3 = rows ++ ((nd p w).take j).filterMap (rowOne f p w r) ∧ OwnP kRow G H' (.slice B rows3.length c5) rows3 ∧ t 2 = .pointer (some ⟨H.size, 0, none⟩) ∧ t 3 = .pointer (some ⟨H.size + 1, 0, none⟩) ∧ t 5 = .slice (some ⟨bo, oo, none⟩) (rowsK f p i).length co ∧ t 6 = .int .i64 i ∧ t 7 = .slice B rows3.length c5 ∧ t 8 = .int .i64 w ∧ t 9 = .int .i64 k ∧ t 10 = .int .i64 j) ((nd p w).length) (⟨0, G2, rows, B, c5, by omega, rfl, hle2, by simp, hown2, e2, e3, e5, e6, e7, e8, e9, rfl⟩) ?_
      rintro n t H3 ⟨j, G3, rows3, B3, c53, hj, rfl, hle3, hrows3, hown3, e2, e3, e5, e6, e7, e8, e9, e10⟩
      have hz3 := hown3.size
      have leH3 := Hp.le_trans hle3 hown3.le
      have hs3' := leH3.1
      have g03 := le_got leH3 (by omega) (by intro e; cases e) g0
      have g13 := le_got leH3 (by omega) (by intro e; cases e) g1
      have hcell33 := leH3.cell1 hb3 hcell3'
      have hrows34 : rows3.length ≤ 4 * k + 4 := by rw [hrows3, List.length_append]; have := List.length_filterMap_le (rowOne f p w r) ((nd p w).take j); rw [List.length_take] at this; omega
      refine ac_seq ?_
      refine ac_seq ?_
      refine ac_region (by kernel_rfl) ?_
      first | refine aops_val (av_move_int (by first | assumption | rfl)) ?_ | refine aops_val (av_move (by first | assumption | rfl)) ?_
      refine aops_val (av_fieldOff (off := 0) (by first | assumption | rfl) Try.underlying65 (by first | assumption | rfl) inf63.size (by decide) (by first | assumption | rfl)) ?_
      refine aops_val (av_load1 rfl Try.underlying63 rfl t_cell) ?_
      first | refine aops_val (av_move_int (by first | assumption | rfl)) ?_ | refine aops_val (av_move (by first | assumption | rfl)) ?_
      refine aops_val (av_indexAddr rfl rfl Try.underlying63 inf22.size t_idx t_idx) ?_
      refine aops_val (av_load1 rfl Try.underlying22 rfl t_cell) ?_
      refine aops_val (av_len rfl Try.underlying22) ?_
      refine aops_val (av_lt rfl rfl) ?_
      refine ac_split rfl rfl ?_ ?_
      · intro hc3
        (try simp only [decide_eq_true_eq, decide_eq_false_iff_not, Bool.not_eq_true', Bool.not_eq_false'] at hc3)
        refine ac_skip ?_
        refine ac_seq ?_
        refine ac_block ?_
        refine ac_seq ?_
        have hjx : j < (nd p w).length := by omega
        obtain ⟨bx, ox, eAn, hbx, hcellx⟩ := hsn.link_at hjx
        subst eAn
        have hcellx3 := leH3.cells hbx hcellx
        obtain ⟨x, hx⟩ : ∃ x, x = (nd p w)[j] := ⟨_, rfl⟩
        rw [← hx] at hcellx hcellx3
        obtain ⟨hx0, hx1, hx2, hx3⟩ := ht.costN w x (by rw [hx]; exact List.getElem_mem hjx)
        have hnext := filterMap_next (g := rowOne f p w r) hjx
        rw [← hx] at hnext
        refine ac_region (by kernel_rfl) ?_
        refine aops_val (av_fieldOff (off := 0) (by first | assumption | rfl) Try.underlying65 (by first | assumption | rfl) inf63.size (by decide) (by first | assumption | rfl)) ?_
        refine aops_val (av_load1 rfl Try.underlying63 rfl t_cell) ?_
        first | refine aops_val (av_move_int (by first | assumption | rfl)) ?_ | refine aops_val (av_move (by first | assumption | rfl)) ?_
        refine aops_val (av_indexAddr rfl rfl Try.underlying63 inf22.size t_idx t_idx) ?_
        refine aops_val (av_load1 rfl Try.underlying22 rfl t_cell) ?_
        first | refine aops_val (av_move_int (by first | assumption | rfl)) ?_ | refine aops_val (av_move (by first | assumption | rfl)) ?_
        refine aops_val (av_indexAddr rfl rfl Try.underlying22 inf28.size t_idx t_idx) ?_
        refine aops_val (av_loadN (cs := [.int .i64 _, .int .i64 _, .int .i64 _, .int .u64 _]) rfl Try.underlying28 rfl inf28.size t_cells) ?_
        refine aops_make (am_zero (l := [.int .i64 0, .int .i64 0, .int .i64 0, .int .u64 0]) inf28.zero rfl (by decide)) ?_
        first | refine aops_op (aop_putN (vs := [.int .i64 _, .int .i64 _, .int .i64 _, .int .u64 _]) rfl rfl inf28.size t_get t_room rfl rfl ?_)
        refine ac_seq ?_
        obtain ⟨H4, hH4⟩ : ∃ H4, H4 = (H3.push (.own 0 [.int .i64 0, .int .i64 0, .int .i64 0, .int .u64 0])).put H3.size (.own 0 [.int .i64 x.a, .int .i64 x.b, .int .i64 x.cost, .int .u64 x.n]) := ⟨_, rfl⟩
        obtain ⟨G4, hG4⟩ : ∃ G4, G4 = (G3.push (.own 0 [.int .i64 0, .int .i64 0, .int .i64 0, .int .u64 0])).put H3.size (.own 0 [.int .i64 x.a, .int .i64 x.b, .int .i64 x.cost, .int .u64 x.n]) := ⟨_, rfl⟩
        have hown4 : OwnP kRow G4 H4 (.slice B3 rows3.length c53) rows3 := by rw [hH4, hG4]; exact hown3.boxed _ _
        have hle4 : H1.le G4 := by rw [hG4]; exact Hp.le_put_new (Hp.le_push' hle3 _) (by omega) _
        have g24 : H4.get H3.size = .own 0 [.int .i64 x.a, .int .i64 x.b, .int .i64 x.cost, .int .u64 x.n] := by rw [hH4]; exact Hp.put_same _ _ _
        have hz4 : H4.size = H3.size + 1 := by rw [hH4]; simp
        change ACode true _ _ _ _ _ ((H3.push (.own 0 [.int .i64 0, .int .i64 0, .int .i64 0, .int .u64 0])).put H3.size (.own 0 [.int .i64 x.a, .int .i64 x.b, .int .i64 x.cost, .int .u64 x.n]))
        rw [← hH4]
        have hzz4 := hown4.size
        have leH4 := Hp.le_trans hle4 hown4.le
        have g04 := le_got leH4 (by omega) (by intro e; cases e) g0
        have g14 := le_got leH4 (by omega) (by intro e; cases e) g1
        have hcell24 := leH4.cell1 (Nat.lt_of_lt_of_le hb2 leH1.1) hcell2'
        have hcello4 := leH4.cells hbo hcello
        have hcello0 := hcello4 0 _ rfl
        have hcello1 := hcello4 1 _ rfl
        have hcello2 := hcello4 2 _ rfl
        refine ac_draw (by kernel_rfl) (reg_of (B := [0, 1, 0, 4, 3, 31]) (π := [0, 1, 2, 3, 4, 5]) (by kernel_rfl)) ?_
        refine adr_val rfl rfl (av_fieldOff (off := 2) rfl Try.underlying28 rfl inf3.size (by decide) rfl) t_lt ?_
        refine adr_val rfl rfl (av_load1 rfl Try.underlying3 rfl t_cell) t_lt ?_
        refine adr_val rfl rfl (av_fieldOff (off := 3) rfl Try.underlying28 rfl inf26.size (by decide) rfl) t_lt ?_
        refine adr_val rfl rfl (av_load1 rfl Try.underlying26 rfl t_cell) t_lt ?_
        first | refine adr_val rfl rfl (av_assign_int rfl) t_lt ?_ | refine adr_val rfl rfl (av_assign rfl) t_lt ?_
        first | refine adr_val rfl rfl (av_assign_int rfl) t_lt ?_ | refine adr_val rfl rfl (av_assign rfl) t_lt ?_
        refine ac_seq ?_
        refine ac_seq ?_
        refine ac_region (by kernel_rfl) ?_
        refine aops_val (av_fieldOff (off := 2) (by first | assumption | rfl) Try.underlying62 (by first | assumption | rfl) inf29.size (by decide) (by first | assumption | rfl)) ?_
        refine aops_val (av_load1 rfl Try.underlying29 rfl t_cell) ?_
        first | refine aops_val (av_move_int (by first | assumption | rfl)) ?_ | refine aops_val (av_move (by first | assumption | rfl)) ?_
        refine aops_val (av_indexAddr rfl rfl Try.underlying29 inf3.size t_idx t_idx) ?_
        refine aops_val (av_load1 rfl Try.underlying3 rfl t_cell) ?_
        refine aops_val (av_ge rfl rfl) ?_
        refine ac_split rfl rfl ?_ ?_
        · intro hc4
          have hpar : 0 ≤ par f w := of_decide_eq_true hc4
          have hokf := (hg.ok i (by omega)).2.2.2
          rw [hw, Int.toNat_natCast] at hokf
          obtain ⟨q, hq1, hq2, hq3, hq4⟩ := atI_take (xs := f.order) (v := par f w) (i := i) (hokf.resolve_left (by unfold par at hpar; omega))
          have hlo : linkOf f p w r x = findI (lk p w) (r.nodes.getD q 0) x.a := by unfold linkOf; rw [hq1]; rfl
          obtain ⟨bq, oq, eAr, hbq, hcellq⟩ := hwr.int_at (i := (q : Int)) (by omega) (by omega)
          rw [Int.toNat_natCast] at hcellq
          subst eAr
          have hcellq4 := leH4.cell1 hbq hcellq
          have hcell44 := leH4.cell1 hb4 hcell4'
          refine ac_seq ?_
          refine ac_draw (by kernel_rfl) (reg_of (B := [0, 1, 0, 7, 15, 0, 0, 96, 224, 480, 0, 0, 2048, 0, 14336, 30720, 64512, 131040, 262112, 0, 524288, 2097151, 4194303]) (π := [0, 1, 2, 3, 4, 5, 6, 7, 8, 9, 10, 11, 12, 13, 14, 15, 19, 20, 16, 17, 18, 21, 22]) (by kernel_rfl)) ?_
          refine adr_val rfl rfl (av_fieldOff (off := 1) (by first | assumption | rfl) Try.underlying65 (by first | assumption | rfl) inf63.size (by decide) (by first | assumption | rfl)) t_lt ?_
          refine adr_val rfl rfl (av_load1 rfl Try.underlying63 rfl t_cell) t_lt ?_
          first | refine adr_val rfl rfl (av_move_int (by first | assumption | rfl)) t_lt ?_ | refine adr_val rfl rfl (av_move (by first | assumption | rfl)) t_lt ?_
          refine adr_val rfl rfl (av_indexAddr rfl rfl Try.underlying63 inf22.size t_idx t_idx) t_lt ?_
          refine adr_val rfl rfl (av_load1 rfl Try.underlying22 rfl t_cell) t_lt ?_
          first | refine adr_val rfl rfl (av_move_sl (by first | assumption | rfl)) t_lt ?_ | refine adr_val rfl rfl (av_move (by first | assumption | rfl)) t_lt ?_
          first | refine adr_val rfl rfl (av_move_int (by first | assumption | rfl)) t_lt ?_ | refine adr_val rfl rfl (av_move (by first | assumption | rfl)) t_lt ?_
          refine adr_val rfl rfl (av_indexAddr rfl rfl Try.underlying74 inf152.size t_idx t_idx) t_lt ?_
          refine adr_val rfl rfl (av_fieldOff (off := 0) rfl Try.underlying152 rfl inf29.size (by decide) rfl) t_lt ?_
          refine adr_val rfl rfl (av_load1 rfl Try.underlying29 rfl t_cell) t_lt ?_
          first | refine adr_val rfl rfl (av_loadN (cs := [.slice _ _ _, .slice _ _ _, .slice _ _ _, .slice _ _ _, .slice _ _ _]) (by first | assumption | rfl) Try.underlying62 (by first | assumption | rfl) inf62.size t_cells) t_lt ?_ | refine adr_val rfl rfl (av_loadN (cs := [_, _, _, _, _]) (by first | assumption | rfl) Try.underlying62 (by first | assumption | rfl) inf62.size t_cells) t_lt ?_
          refine adr_val rfl rfl (av_fieldOff (off := 2) (by first | assumption | rfl) Try.underlying62 (by first | assumption | rfl) inf29.size (by decide) (by first | assumption | rfl)) t_lt ?_
          refine adr_val rfl rfl (av_load1 rfl Try.underlying29 rfl t_cell) t_lt ?_
          first | refine adr_val rfl rfl (av_move_int (by first | assumption | rfl)) t_lt ?_ | refine adr_val rfl rfl (av_move (by first | assumption | rfl)) t_lt ?_
          refine adr_val rfl rfl (av_indexAddr rfl rfl Try.underlying29 inf3.size t_idx t_idx) t_lt ?_
          refine adr_val rfl rfl (av_load1 rfl Try.underlying3 rfl t_cell) t_lt ?_
          refine adr_val rfl rfl (av_fieldOff (off := 0) rfl Try.underlying28 rfl inf3.size (by decide) rfl) t_lt ?_
          refine adr_val rfl rfl (av_load1 rfl Try.underlying3 rfl t_cell) t_lt ?_
          refine adr_op rfl rfl (aop_call (at_forest f _ _ _ (kForest.mono (Hp.le_trans leH1 leH4).sees hp0) (by omega)) rfl Try.func108 rfl rfl rfl ?_)
          rintro v5 H4 ⟨rfl, rfl⟩; rw [show atI f.order (f.parent.getD w 0) = (q : Int) from hq1]
          refine ⟨t_pend, ?_⟩
          refine adr_val rfl rfl (av_indexAddr rfl rfl Try.underlying29 inf3.size t_idx t_idx) t_lt ?_
          refine adr_val rfl rfl (av_load1 rfl Try.underlying3 rfl t_cell) t_lt ?_
          refine adr_op rfl rfl (aop_call (Find_links (lk p w) _ _ _ _ (hsl.mono leH4.sees) (by omega)) rfl Try.func109 rfl rfl rfl ?_)
          rintro v6 H4 ⟨rfl, rfl⟩
          refine ⟨t_pend, ?_⟩
          first | refine adr_val rfl rfl (av_assign_int rfl) t_lt ?_ | refine adr_val rfl rfl (av_assign rfl) t_lt ?_
          refine ac_seq ?_
          refine ac_seq ?_
          refine ac_region (by kernel_rfl) ?_
          first | refine aops_val (av_move_int rfl) ?_ | refine aops_val (av_move rfl) ?_
          refine aops_val (av_lt rfl rfl) ?_
          refine ac_split rfl rfl ?_ ?_
          · intro hc5
            have hneg : ¬ 0 ≤ linkOf f p w r x := by have := of_decide_eq_true hc5; rw [hlo]; omega
            have hone := rowOne_none hpar hneg
            refine ac_exit ?_
            refine ac_region (by kernel_rfl) ?_
            first | refine aops_val (av_move_int (by first | assumption | rfl)) ?_ | refine aops_val (av_move (by first | assumption | rfl)) ?_
            first | refine aops_val (av_add64 rfl rfl t_fits) ?_ | refine aops_val (av_add rfl rfl) ?_
            first | refine aops_val (av_assign_int rfl) ?_ | refine aops_val (av_assign rfl) ?_
            first
              | (rw [hone] at hnext
                 exact ⟨(nd p w).length - (j + 1), by omega, j + 1, G10, _, A10, c10, by omega, rfl, Hp.le_trans (Hp.le_push' (Hp.le_trans hle4 hle9) _) hle10, by rw [hnext, hrows3]; simp, hown10, e2, e3, e5, e6, rfl, e8, e9, rfl⟩)
              | (rw [hone] at hnext
                 exact ⟨(nd p w).length - (j + 1), by omega, j + 1, G4, rows3, B3, c53, by omega, rfl, hle4, by rw [hnext, hrows3]; simp, hown4, e2, e3, e5, e6, e7, e8, e9, rfl⟩)
          · intro hc5
            have hpos : 0 ≤ findI (lk p w) (r.nodes.getD q 0) x.a := by have := of_decide_eq_false hc5; omega
            obtain ⟨m, hm1, hm2, hm3, hm4⟩ := findI_lt hpos
            rw [hm1] at hlo
            rw [hm1]
            have hone := rowOne_link (r := r) (x := x) hpar hlo hm2
            obtain ⟨bl, ol, eAl, hbl, hcelll⟩ := hsl.link_at hm2
            subst eAl
            have hcelll4 := leH4.cells hbl hcelll
            have hcelll2 := hcelll4 2 _ rfl
            have hcelll3 := hcelll4 3 _ rfl
            obtain ⟨hl0, hl1, hl2, hl3⟩ := ht.costL w (lk p w)[m] (List.getElem_mem hm2)
            refine ac_skip ?_
            refine ac_draw (by kernel_rfl) (reg_of (B := [0, 0, 2, 0, 14, 30, 0, 126, 254, 510, 1023, 0, 0, 4096, 0, 28672, 61440, 0, 258048, 520192, 1044480, 2095104, 4194303, 8388607]) (π := [0, 1, 2, 3, 4, 5, 6, 7, 8, 9, 10, 11, 12, 13, 14, 15, 16, 17, 18, 19, 20, 21, 22, 23]) (by kernel_rfl)) ?_
            first | refine adr_val rfl rfl (av_move_int rfl) t_lt ?_ | refine adr_val rfl rfl (av_move rfl) t_lt ?_
            refine adr_val rfl rfl (av_fieldOff (off := 1) (by first | assumption | rfl) Try.underlying65 (by first | assumption | rfl) inf63.size (by decide) (by first | assumption | rfl)) t_lt ?_
            refine adr_val rfl rfl (av_load1 rfl Try.underlying63 rfl t_cell) t_lt ?_
            first | refine adr_val rfl rfl (av_move_int (by first | assumption | rfl)) t_lt ?_ | refine adr_val rfl rfl (av_move (by first | assumption | rfl)) t_lt ?_
            refine adr_val rfl rfl (av_indexAddr rfl rfl Try.underlying63 inf22.size t_idx t_idx) t_lt ?_
            refine adr_val rfl rfl (av_load1 rfl Try.underlying22 rfl t_cell) t_lt ?_
            first | refine adr_val rfl rfl (av_move_int rfl) t_lt ?_ | refine adr_val rfl rfl (av_move rfl) t_lt ?_
            refine adr_val rfl rfl (av_indexAddr rfl rfl Try.underlying22 inf28.size t_idx t_idx) t_lt ?_
            refine adr_val rfl rfl (av_fieldOff (off := 2) rfl Try.underlying28 rfl inf3.size (by decide) rfl) t_lt ?_
            refine adr_val rfl rfl (av_load1 rfl Try.underlying3 rfl t_cell) t_lt ?_
            first | refine adr_val rfl rfl (av_add64 rfl rfl t_fits) t_lt ?_ | refine adr_val rfl rfl (av_add rfl rfl) t_lt ?_
            first | refine adr_val rfl rfl (av_move_int rfl) t_lt ?_ | refine adr_val rfl rfl (av_move rfl) t_lt ?_
            refine adr_val rfl rfl (av_fieldOff (off := 1) (by first | assumption | rfl) Try.underlying65 (by first | assumption | rfl) inf63.size (by decide) (by first | assumption | rfl)) t_lt ?_
            refine adr_val rfl rfl (av_load1 rfl Try.underlying63 rfl t_cell) t_lt ?_
            first | refine adr_val rfl rfl (av_move_int (by first | assumption | rfl)) t_lt ?_ | refine adr_val rfl rfl (av_move (by first | assumption | rfl)) t_lt ?_
            refine adr_val rfl rfl (av_indexAddr rfl rfl Try.underlying63 inf22.size t_idx t_idx) t_lt ?_
            refine adr_val rfl rfl (av_load1 rfl Try.underlying22 rfl t_cell) t_lt ?_
            first | refine adr_val rfl rfl (av_move_int rfl) t_lt ?_ | refine adr_val rfl rfl (av_move rfl) t_lt ?_
            refine adr_val rfl rfl (av_indexAddr rfl rfl Try.underlying22 inf28.size t_idx t_idx) t_lt ?_
            refine adr_val rfl rfl (av_fieldOff (off := 3) rfl Try.underlying28 rfl inf26.size (by decide) rfl) t_lt ?_
            refine adr_val rfl rfl (av_load1 rfl Try.underlying26 rfl t_cell) t_lt ?_
            refine adr_op rfl rfl (aop_call (timesR_u64 x.n (lk p w)[m].n hx2 hl2 _) rfl Try.func110 rfl rfl rfl ?_)
            rintro v7 H4 ⟨rfl, rfl⟩
            refine ⟨t_pend, ?_⟩
            first | refine adr_val rfl rfl (av_assign_int rfl) t_lt ?_ | refine adr_val rfl rfl (av_assign rfl) t_lt ?_
            first | refine adr_val rfl rfl (av_assign_int rfl) t_lt ?_ | refine adr_val rfl rfl (av_assign rfl) t_lt ?_
            first
              | (obtain ⟨C, hC⟩ : ∃ C, C = x.cost + (lk p w)[m].cost := ⟨_, rfl⟩
                 obtain ⟨N, hN⟩ : ∃ N, N = timesI x.n (lk p w)[m].n := ⟨_, rfl⟩
                 have hC01 : 0 ≤ C ∧ C ≤ 2000000000 := by omega
                 have hN0 : 0 ≤ N := by rw [hN]; exact (timesI_le hx2 hl2).1
                 rw [← hC, ← hN] at hone
                 rw [← hC, ← hN])
              | (obtain ⟨C, hC⟩ : ∃ C, C = x.cost := ⟨_, rfl⟩
                 obtain ⟨N, hN⟩ : ∃ N, N = x.n := ⟨_, rfl⟩
                 have hC01 : 0 ≤ C ∧ C ≤ 2000000000 := by omega
                 have hN0 : 0 ≤ N := by omega
                 have hone := rowOne_flat (p := p) (r := r) (x := x) hpar
                 rw [← hC, ← hN] at hone
                 rw [← hC, ← hN])
            have hsr : r.cost + C ≤ 9223372036854775807 := by omega
            refine ac_draw (by kernel_rfl) (reg_of (B := [0, 0, 0, 0, 12, 28, 60, 126, 0, 256, 768, 2046, 0, 0, 12288, 28672, 61440, 0, 258048, 0, 0, 1572864, 3670016, 7864320, 0, 33034238, 67108862, 134217726, 268435455, 536870911]) (π := [0, 1, 2, 3, 4, 5, 6, 8, 9, 10, 12, 13, 14, 15, 16, 17, 18, 19, 20, 21, 22, 23, 24, 7, 11, 25, 26, 27, 28, 29]) (by kernel_rfl)) ?_
            first | refine adr_val rfl rfl (av_move_sl (by first | assumption | rfl)) t_lt ?_ | refine adr_val rfl rfl (av_move (by first | assumption | rfl)) t_lt ?_
            first | refine adr_make rfl rfl (am_buildSlice (r := []) Try.underlying29 inf3.size inf3.zero rfl (by decide) (by decide) (by decide) rfl) ?_
            first | refine adr_val rfl rfl (av_move_sl (by first | assumption | rfl)) t_lt ?_ | refine adr_val rfl rfl (av_move (by first | assumption | rfl)) t_lt ?_
            first | refine adr_val rfl rfl (av_move_int (by first | assumption | rfl)) t_lt ?_ | refine adr_val rfl rfl (av_move (by first | assumption | rfl)) t_lt ?_
            refine adr_val rfl rfl (av_indexAddr rfl rfl Try.underlying74 inf152.size t_idx t_idx) t_lt ?_
            refine adr_val rfl rfl (av_fieldOff (off := 0) rfl Try.underlying152 rfl inf29.size (by decide) rfl) t_lt ?_
            refine adr_val rfl rfl (av_load1 rfl Try.underlying29 rfl t_cell) t_lt ?_
            refine adr_val rfl rfl (av_fieldOff (off := 0) rfl Try.underlying28 rfl inf3.size (by decide) rfl) t_lt ?_
            refine adr_val rfl rfl (av_load1 rfl Try.underlying3 rfl t_cell) t_lt ?_
            first | refine adr_make rfl rfl (am_buildSlice (r := [.int .i64 _]) Try.underlying29 inf3.size inf3.zero rfl (by decide) (by decide) (by decide) rfl) ?_
            first | refine adr_val rfl rfl (av_move_sl (by first | assumption | rfl)) t_lt ?_ | refine adr_val rfl rfl (av_move (by first | assumption | rfl)) t_lt ?_
            first | refine adr_val rfl rfl (av_move_int (by first | assumption | rfl)) t_lt ?_ | refine adr_val rfl rfl (av_move (by first | assumption | rfl)) t_lt ?_
            refine adr_val rfl rfl (av_indexAddr rfl rfl Try.underlying74 inf152.size t_idx t_idx) t_lt ?_
            refine adr_val rfl rfl (av_fieldOff (off := 1) rfl Try.underlying152 rfl inf3.size (by decide) rfl) t_lt ?_
            refine adr_val rfl rfl (av_load1 rfl Try.underlying3 rfl t_cell) t_lt ?_
            first | refine adr_val rfl rfl (av_move_int rfl) t_lt ?_ | refine adr_val rfl rfl (av_move rfl) t_lt ?_
            first | refine adr_val rfl rfl (av_add64 rfl rfl t_fits) t_lt ?_ | refine adr_val rfl rfl (av_add rfl rfl) t_lt ?_
            first | refine adr_val rfl rfl (av_move_sl (by first | assumption | rfl)) t_lt ?_ | refine adr_val rfl rfl (av_move (by first | assumption | rfl)) t_lt ?_
            first | refine adr_val rfl rfl (av_move_int (by first | assumption | rfl)) t_lt ?_ | refine adr_val rfl rfl (av_move (by first | assumption | rfl)) t_lt ?_
            refine adr_val rfl rfl (av_indexAddr rfl rfl Try.underlying74 inf152.size t_idx t_idx) t_lt ?_
            refine adr_val rfl rfl (av_fieldOff (off := 2) rfl Try.underlying152 rfl inf26.size (by decide) rfl) t_lt ?_
            refine adr_val rfl rfl (av_load1 rfl Try.underlying26 rfl t_cell) t_lt ?_
            first | refine adr_val rfl rfl (av_move_int rfl) t_lt ?_ | refine adr_val rfl rfl (av_move rfl) t_lt ?_
            have o1 := own_lit (kInt .i64) (H := (H4.push (.own 1 [])).push (.own 1 [.int .i64 x.a])) (b := H4.size) (c := 0) (cs := []) (by simp <;> omega) t_get
            have leA : H4.le (((H4.push (.own 1 [])).push (.own 1 [.int .i64 x.a])).put H4.size .dead) := Hp.le_put_new (Hp.le_push' (H4.le_push _) _) (Nat.le_refl _) _
            have hdo4 : H4.get bo ≠ .dead := by rw [leH4.2 bo hbo hdo]; exact hdo
            have hbo4 : bo < H4.size := Nat.lt_of_lt_of_le hbo leH4.1
            refine adr_op rfl rfl (OwnP.append (ys := r.nodes) o1 Try.underlying29 inf3 rfl rfl rfl (hwr.mono (Hp.le_trans leH4 leA).sees) (by simp only [List.length_nil]; omega) (by simp only [List.length_nil]; omega) ?_)
            rintro v7 G7 H7 hle7 hown7
            have hsameO := OwnP.sameO o1 hle7 hown7
            rw [List.nil_append] at hown7
            obtain ⟨A7, c7, rfl⟩ := hown7.shape
            have z7 := hle7.1
            simp only [Hp.put_size, Hp.push_size] at z7
            have z77 := hown7.size
            have g71 : G7.get (H4.size + 1) = .own 1 [.int .i64 x.a] := le_got hle7 (by simp) (by intro e; cases e) t_get
            have le47 : H4.le G7 := Hp.le_trans leA hle7
            have hsame : ∀ b ∈ [bo], H7.get b = ((H4.push (.own 1 [])).push (.own 1 [.int .i64 x.a])).get b := fun b hb => by
              rw [List.mem_singleton] at hb; subst hb
              rw [(Hp.le_trans le47 hown7.le).2 _ hbo4 hdo4, Hp.push_old _ _ (by simp; omega), Hp.push_old _ _ hbo4]
            refine ⟨t_pend, ?_⟩
            clear hsameO hsame
            refine adr_op rfl rfl (OwnP.append (ys := [x.a]) hown7 Try.underlying29 inf3 rfl rfl rfl (sl_lit1 (k := kInt .i64) g71 (show H4.size + 1 < G7.size by omega) rfl rfl) (by simp only [List.length_singleton]; omega) (by simp only [List.length_singleton]; omega) ?_)
            rintro v8 G8 H8 hle8 hown8
            have hsameO := OwnP.sameO hown7 hle8 hown8
            obtain ⟨A8, c8, rfl⟩ := hown8.shape
            have z8 := hle8.1
            have z88 := hown8.size
            have le48 : H4.le H8 := Hp.le_trans le47 (Hp.le_trans hle8 hown8.le)
            have hsame : ∀ b ∈ [bo], H8.get b = H7.get b := fun b hb => by
              rw [List.mem_singleton] at hb; subst hb
              rw [le48.2 _ hbo4 hdo4, (Hp.le_trans le47 hown7.le).2 _ hbo4 hdo4]
            refine ⟨t_pend, ?_⟩
            clear hsameO hsame
            refine adr_op rfl rfl (aop_call (timesR_u64 r.n N hr2 hN0 _) rfl Try.func110 rfl rfl rfl ?_)
            rintro v9 H8 ⟨rfl, rfl⟩
            refine ⟨t_pend, ?_⟩
            first | refine adr_val rfl rfl (av_build (pl := [(0, 1), (1, 1), (2, 1)]) (r := [.slice _ _ _, .int .i64 _, .int .u64 _]) Try.underlying152 inf152.zero (by decide) rfl rfl) t_lt ?_ | refine adr_val rfl rfl (av_build (pl := [(0, 1), (1, 1), (2, 1)]) (r := [_, .int .i64 _, .int .u64 _]) Try.underlying152 inf152.zero (by decide) rfl rfl) t_lt ?_
            first | refine adr_make rfl rfl (am_buildSlice (r := [.slice _ _ _, .int .i64 _, .int .u64 _]) Try.underlying74 inf152.size inf152.zero rfl (by decide) (by decide) (by decide) rfl) ?_ | refine adr_make rfl rfl (am_buildSlice (r := [_, .int .i64 _, .int .u64 _]) Try.underlying74 inf152.size inf152.zero rfl (by decide) (by decide) (by decide) rfl) ?_
            obtain ⟨G9, hle9, hown9, htr⟩ := hown4.stays le48
            have hnodes := htr (kInt .i64) _ _ (plain_int _) (by decide) hown8.sl
            have z99 := hown9.size
            refine adr_op rfl rfl (OwnP.append (ys := [⟨r.nodes ++ [x.a], r.cost + C, timesI r.n N⟩]) (hown9.push _) Try.underlying74 inf152 rfl rfl rfl (sl_one (k := kRow) ⟨_, rfl, hnodes⟩ rfl hown9.size rfl) (by simp only [List.length_singleton]; omega) (by simp only [List.length_singleton]; omega) ?_)
            rintro v10 G10 H10 hle10 hown10
            obtain ⟨A10, c10, e10⟩ := hown10.shape
            subst e10
            refine ⟨t_pend, ?_⟩
            first | refine adr_val rfl rfl (av_assign_sl rfl) t_lt ?_ | refine adr_val rfl rfl (av_assign rfl) t_lt ?_
            refine ac_region (by kernel_rfl) ?_
            first | refine aops_val (av_move_int (by first | assumption | rfl)) ?_ | refine aops_val (av_move (by first | assumption | rfl)) ?_
            first | refine aops_val (av_add64 rfl rfl t_fits) ?_ | refine aops_val (av_add rfl rfl) ?_
            first | refine aops_val (av_assign_int rfl) ?_ | refine aops_val (av_assign rfl) ?_
            first
              | (rw [hone] at hnext
                 exact ⟨(nd p w).length - (j + 1), by omega, j + 1, G10, _, A10, c10, by omega, rfl, Hp.le_trans (Hp.le_push' (Hp.le_trans hle4 hle9) _) hle10, by rw [hnext, hrows3]; simp, hown10, e2, e3, e5, e6, rfl, e8, e9, rfl⟩)
              | (rw [hone] at hnext
                 exact ⟨(nd p w).length - (j + 1), by omega, j + 1, G4, rows3, B3, c53, by omega, rfl, hle4, by rw [hnext, hrows3]; simp, hown4, e2, e3, e5, e6, e7, e8, e9, rfl⟩)
        · intro hc4
          have hpar : ¬ 0 ≤ par f w := of_decide_eq_false hc4
          refine ac_skip ?_
          first
            | (obtain ⟨C, hC⟩ : ∃ C, C = x.cost + (lk p w)[m].cost := ⟨_, rfl⟩
               obtain ⟨N, hN⟩ : ∃ N, N = timesI x.n (lk p w)[m].n := ⟨_, rfl⟩
               have hC01 : 0 ≤ C ∧ C ≤ 2000000000 := by omega
               have hN0 : 0 ≤ N := by rw [hN]; exact (timesI_le hx2 hl2).1
               rw [← hC, ← hN] at hone
               rw [← hC, ← hN])
            | (obtain ⟨C, hC⟩ : ∃ C, C = x.cost := ⟨_, rfl⟩
               obtain ⟨N, hN⟩ : ∃ N, N = x.n := ⟨_, rfl⟩
               have hC01 : 0 ≤ C ∧ C ≤ 2000000000 := by omega
               have hN0 : 0 ≤ N := by omega
               have hone := rowOne_flat (p := p) (r := r) (x := x) hpar
               rw [← hC, ← hN] at hone
               rw [← hC, ← hN])
          have hsr : r.cost + C ≤ 9223372036854775807 := by omega
          refine ac_draw (by kernel_rfl) (reg_of (B := [0, 0, 0, 0, 12, 28, 60, 126, 0, 256, 768, 2046, 0, 0, 12288, 28672, 61440, 0, 258048, 0, 0, 1572864, 3670016, 7864320, 0, 33034238, 67108862, 134217726, 268435455, 536870911]) (π := [0, 1, 2, 3, 4, 5, 6, 8, 9, 10, 12, 13, 14, 15, 16, 17, 18, 19, 20, 21, 22, 23, 24, 7, 11, 25, 26, 27, 28, 29]) (by kernel_rfl)) ?_
          first | refine adr_val rfl rfl (av_move_sl (by first | assumption | rfl)) t_lt ?_ | refine adr_val rfl rfl (av_move (by first | assumption | rfl)) t_lt ?_
          first | refine adr_make rfl rfl (am_buildSlice (r := []) Try.underlying29 inf3.size inf3.zero rfl (by decide) (by decide) (by decide) rfl) ?_
          first | refine adr_val rfl rfl (av_move_sl (by first | assumption | rfl)) t_lt ?_ | refine adr_val rfl rfl (av_move (by first | assumption | rfl)) t_lt ?_
          first | refine adr_val rfl rfl (av_move_int (by first | assumption | rfl)) t_lt ?_ | refine adr_val rfl rfl (av_move (by first | assumption | rfl)) t_lt ?_
          refine adr_val rfl rfl (av_indexAddr rfl rfl Try.underlying74 inf152.size t_idx t_idx) t_lt ?_
          refine adr_val rfl rfl (av_fieldOff (off := 0) rfl Try.underlying152 rfl inf29.size (by decide) rfl) t_lt ?_
          refine adr_val rfl rfl (av_load1 rfl Try.underlying29 rfl t_cell) t_lt ?_
          refine adr_val rfl rfl (av_fieldOff (off := 0) rfl Try.underlying28 rfl inf3.size (by decide) rfl) t_lt ?_
          refine adr_val rfl rfl (av_load1 rfl Try.underlying3 rfl t_cell) t_lt ?_
          first | refine adr_make rfl rfl (am_buildSlice (r := [.int .i64 _]) Try.underlying29 inf3.size inf3.zero rfl (by decide) (by decide) (by decide) rfl) ?_
          first | refine adr_val rfl rfl (av_move_sl (by first | assumption | rfl)) t_lt ?_ | refine adr_val rfl rfl (av_move (by first | assumption | rfl)) t_lt ?_
          first | refine adr_val rfl rfl (av_move_int (by first | assumption | rfl)) t_lt ?_ | refine adr_val rfl rfl (av_move (by first | assumption | rfl)) t_lt ?_
          refine adr_val rfl rfl (av_indexAddr rfl rfl Try.underlying74 inf152.size t_idx t_idx) t_lt ?_
          refine adr_val rfl rfl (av_fieldOff (off := 1) rfl Try.underlying152 rfl inf3.size (by decide) rfl) t_lt ?_
          refine adr_val rfl rfl (av_load1 rfl Try.underlying3 rfl t_cell) t_lt ?_
          first | refine adr_val rfl rfl (av_move_int rfl) t_lt ?_ | refine adr_val rfl rfl (av_move rfl) t_lt ?_
          first | refine adr_val rfl rfl (av_add64 rfl rfl t_fits) t_lt ?_ | refine adr_val rfl rfl (av_add rfl rfl) t_lt ?_
          first | refine adr_val rfl rfl (av_move_sl (by first | assumption | rfl)) t_lt ?_ | refine adr_val rfl rfl (av_move (by first | assumption | rfl)) t_lt ?_
          first | refine adr_val rfl rfl (av_move_int (by first | assumption | rfl)) t_lt ?_ | refine adr_val rfl rfl (av_move (by first | assumption | rfl)) t_lt ?_
          refine adr_val rfl rfl (av_indexAddr rfl rfl Try.underlying74 inf152.size t_idx t_idx) t_lt ?_
          refine adr_val rfl rfl (av_fieldOff (off := 2) rfl Try.underlying152 rfl inf26.size (by decide) rfl) t_lt ?_
          refine adr_val rfl rfl (av_load1 rfl Try.underlying26 rfl t_cell) t_lt ?_
          first | refine adr_val rfl rfl (av_move_int rfl) t_lt ?_ | refine adr_val rfl rfl (av_move rfl) t_lt ?_
          have o1 := own_lit (kInt .i64) (H := (H4.push (.own 1 [])).push (.own 1 [.int .i64 x.a])) (b := H4.size) (c := 0) (cs := []) (by simp <;> omega) t_get
          have leA : H4.le (((H4.push (.own 1 [])).push (.own 1 [.int .i64 x.a])).put H4.size .dead) := Hp.le_put_new (Hp.le_push' (H4.le_push _) _) (Nat.le_refl _) _
          have hdo4 : H4.get bo ≠ .dead := by rw [leH4.2 bo hbo hdo]; exact hdo
          have hbo4 : bo < H4.size := Nat.lt_of_lt_of_le hbo leH4.1
          refine adr_op rfl rfl (OwnP.append (ys := r.nodes) o1 Try.underlying29 inf3 rfl rfl rfl (hwr.mono (Hp.le_trans leH4 leA).sees) (by simp only [List.length_nil]; omega) (by simp only [List.length_nil]; omega) ?_)
          rintro v7 G7 H7 hle7 hown7
          have hsameO := OwnP.sameO o1 hle7 hown7
          rw [List.nil_append] at hown7
          obtain ⟨A7, c7, rfl⟩ := hown7.shape
          have z7 := hle7.1
          simp only [Hp.put_size, Hp.push_size] at z7
          have z77 := hown7.size
          have g71 : G7.get (H4.size + 1) = .own 1 [.int .i64 x.a] := le_got hle7 (by simp) (by intro e; cases e) t_get
          have le47 : H4.le G7 := Hp.le_trans leA hle7
          have hsame : ∀ b ∈ [bo], H7.get b = ((H4.push (.own 1 [])).push (.own 1 [.int .i64 x.a])).get b := fun b hb => by
            rw [List.mem_singleton] at hb; subst hb
            rw [(Hp.le_trans le47 hown7.le).2 _ hbo4 hdo4, Hp.push_old _ _ (by simp; omega), Hp.push_old _ _ hbo4]
          refine ⟨t_pend, ?_⟩
          clear hsameO hsame
          refine adr_op rfl rfl (OwnP.append (ys := [x.a]) hown7 Try.underlying29 inf3 rfl rfl rfl (sl_lit1 (k := kInt .i64) g71 (show H4.size + 1 < G7.size by omega) rfl rfl) (by simp only [List.length_singleton]; omega) (by simp only [List.length_singleton]; omega) ?_)
          rintro v8 G8 H8 hle8 hown8
          have hsameO := OwnP.sameO hown7 hle8 hown8
          obtain ⟨A8, c8, rfl⟩ := hown8.shape
          have z8 := hle8.1
          have z88 := hown8.size
          have le48 : H4.le H8 := Hp.le_trans le47 (Hp.le_trans hle8 hown8.le)
          have hsame : ∀ b ∈ [bo], H8.get b = H7.get b := fun b hb => by
            rw [List.mem_singleton] at hb; subst hb
            rw [le48.2 _ hbo4 hdo4, (Hp.le_trans le47 hown7.le).2 _ hbo4 hdo4]
          refine ⟨t_pend, ?_⟩
          clear hsameO hsame
          refine adr_op rfl rfl (aop_call (timesR_u64 r.n N hr2 hN0 _) rfl Try.func110 rfl rfl rfl ?_)
          rintro v9 H8 ⟨rfl, rfl⟩
          refine ⟨t_pend, ?_⟩
          first | refine adr_val rfl rfl (av_build (pl := [(0, 1), (1, 1), (2, 1)]) (r := [.slice _ _ _, .int .i64 _, .int .u64 _]) Try.underlying152 inf152.zero (by decide) rfl rfl) t_lt ?_ | refine adr_val rfl rfl (av_build (pl := [(0, 1), (1, 1), (2, 1)]) (r := [_, .int .i64 _, .int .u64 _]) Try.underlying152 inf152.zero (by decide) rfl rfl) t_lt ?_
          first | refine adr_make rfl rfl (am_buildSlice (r := [.slice _ _ _, .int .i64 _, .int .u64 _]) Try.underlying74 inf152.size inf152.zero rfl (by decide) (by decide) (by decide) rfl) ?_ | refine adr_make rfl rfl (am_buildSlice (r := [_, .int .i64 _, .int .u64 _]) Try.underlying74 inf152.size inf152.zero rfl (by decide) (by decide) (by decide) rfl) ?_
          obtain ⟨G9, hle9, hown9, htr⟩ := hown4.stays le48
          have hnodes := htr (kInt .i64) _ _ (plain_int _) (by decide) hown8.sl
          have z99 := hown9.size
          refine adr_op rfl rfl (OwnP.append (ys := [⟨r.nodes ++ [x.a], r.cost + C, timesI r.n N⟩]) (hown9.push _) Try.underlying74 inf152 rfl rfl rfl (sl_one (k := kRow) ⟨_, rfl, hnodes⟩ rfl hown9.size rfl) (by simp only [List.length_singleton]; omega) (by simp only [List.length_singleton]; omega) ?_)
          rintro v10 G10 H10 hle10 hown10
          obtain ⟨A10, c10, e10⟩ := hown10.shape
          subst e10
          refine ⟨t_pend, ?_⟩
          first | refine adr_val rfl rfl (av_assign_sl rfl) t_lt ?_ | refine adr_val rfl rfl (av_assign rfl) t_lt ?_
          refine ac_region (by kernel_rfl) ?_
          first | refine aops_val (av_move_int (by first | assumption | rfl)) ?_ | refine aops_val (av_move (by first | assumption | rfl)) ?_
          first | refine aops_val (av_add64 rfl rfl t_fits) ?_ | refine aops_val (av_add rfl rfl) ?_
          first | refine aops_val (av_assign_int rfl) ?_ | refine aops_val (av_assign rfl) ?_
          first
            | (rw [hone] at hnext
               exact ⟨(nd p w).length - (j + 1), by omega, j + 1, G10, _, A10, c10, by omega, rfl, Hp.le_trans (Hp.le_push' (Hp.le_trans hle4 hle9) _) hle10, by rw [hnext, hrows3]; simp, hown10, e2, e3, e5, e6, rfl, e8, e9, rfl⟩)
            | (rw [hone] at hnext
               exact ⟨(nd p w).length - (j + 1), by omega, j + 1, G4, rows3, B3, c53, by omega, rfl, hle4, by rw [hnext, hrows3]; simp, hown4, e2, e3, e5, e6, e7, e8, e9, rfl⟩)
      · intro hc3
        (try simp only [decide_eq_true_eq, decide_eq_false_iff_not, Bool.not_eq_true', Bool.not_eq_false'] at hc3)
        refine ac_exit ?_
        refine ac_region (by kernel_rfl) ?_
        first | refine aops_val (av_move_int (by first | assumption | rfl)) ?_ | refine aops_val (av_move (by first | assumption | rfl)) ?_
        first | refine aops_val (av_add64 rfl rfl t_fits) ?_ | refine aops_val (av_add rfl rfl) ?_
        first | refine aops_val (av_assign_int rfl) ?_ | refine aops_val (av_assign rfl) ?_
        have hj2 : (nd p w).take j = nd p w := List.take_of_length_le (by omega)
        rw [hj2] at hrows3
        exact ⟨(rowsK f p i).length - (k + 1), by omega, k + 1, G3, rows3, B3, c53, by omega, rfl, hle3, by rw [flatMap_next hkx, ← hrows, ← hr]; exact hrows3, hown3, e2, e3, e5, e6, e7, e8, rfl⟩
    · intro hc2
      (try simp only [decide_eq_true_eq, decide_eq_false_iff_not, Bool.not_eq_true', Bool.not_eq_false'] at hc2)
      refine ac_exit ?_
      refine ac_region (by kernel_rfl) ?_
      first | refine aops_val (av_move_sl (by first | assumption | rfl)) ?_ | refine aops_val (av_move (by first | assumption | rfl)) ?_
      first | refine aops_val (av_assign_sl rfl) ?_ | refine aops_val (av_assign rfl) ?_
      refine ac_region (by kernel_rfl) ?_
      first | refine aops_val (av_move_int (by first | assumption | rfl)) ?_ | refine aops_val (av_move (by first | assumption | rfl)) ?_
      first | refine aops_val (av_add64 rfl rfl t_fits) ?_ | refine aops_val (av_add rfl rfl) ?_
      first | refine aops_val (av_assign_int rfl) ?_ | refine aops_val (av_assign rfl) ?_
      have hk2 : (rowsK f p i).take k = rowsK f p i := List.take_of_length_le (by omega)
      rw [hk2] at hrows
      have hnew : rows = rowsK f p (i + 1) := by rw [hrows]; show _ = (rowsK f p i).flatMap _; rw [hvat]
      subst hnew
      exact ⟨f.order.length - (i + 1), by omega, i + 1, B, c5, by omega, rfl, Hp.le_trans hle1 leH2, hown2.sl, e2, e3, rfl, rfl⟩
  · intro hc1
    (try simp only [decide_eq_true_eq, decide_eq_false_iff_not, Bool.not_eq_true', Bool.not_eq_false'] at hc1)
    refine ac_exit ?_
    refine ac_seq ?_
    refine ac_region (by kernel_rfl) ?_
    first | refine aops_val (av_move_sl (by first | assumption | rfl)) ?_ | refine aops_val (av_move (by first | assumption | rfl)) ?_
    first | refine aops_val (av_assign_sl rfl) ?_ | refine aops_val (av_assign rfl) ?_
    refine ac_ret ?_
    have hk : i = f.order.length := by omega
    subst hk
    exact ⟨_, aresult1 (ares_tmp rfl), leH1, hso⟩
end Go.Proofs.Ytnkjikpmgeknbaa.Am

namespace Go.Proofs.Ytnkjikpmgeknbaa.Am
open Go Go.RowKit
set_option maxRecDepth 100000
set_option linter.unusedVariables false
set_option linter.unusedSimpArgs false

def nodeAt (f : Forest) (r : RowT) (v : Int) : Int := r.nodes.getD (atI f.order v).toNat 0
def nodeIn (f : Forest) (rows : List RowT) (v : Nat) (x : Link) : Bool := rows.any fun r => decide (nodeAt f r v = x.a)
def linkIn (f : Forest) (rows : List RowT) (v : Nat) (x : Link) : Bool := rows.any fun r => decide (nodeAt f r v = x.b) && decide (nodeAt f r (par f v) = x.a)
def ofNodes (f : Forest) (p : Parts) (rows : List RowT) (v : Nat) : List Link := (nd p v).filter (nodeIn f rows v)
def ofLinks (f : Forest) (p : Parts) (rows : List RowT) (v : Nat) : List Link := (lk p v).filter (linkIn f rows v)
def ofTo (f : Forest) (p : Parts) (rows : List RowT) (k : Nat) : Parts := ⟨(List.range k).map (ofNodes f p rows), (List.range k).map (ofLinks f p rows)⟩
def refOf (f : Forest) (p : Parts) : Parts := ofTo f p (rowsP f p) f.vars.length
theorem OwnP.get_new {α : Type} {k : Kd α} {G H G' H' : Hp} {v : Value} {xs ys : List α} (h0 : OwnP k G H v xs) (h : OwnP k G' H' v ys) {c : Nat} (hc : G.size ≤ c) : G'.get c = H'.get c := by
  rcases h with ⟨rfl, rfl, rfl⟩ | ⟨b, cs, d, rfl, hb, hd, rfl, _⟩
  · rfl
  · rcases h0 with ⟨h, _⟩ | ⟨b', cs', d', e, hb', _⟩
    · cases h
    · simp only [Value.slice.injEq, Option.some.injEq, Addr.mk.injEq, and_true] at e
      obtain ⟨rfl, _⟩ := e
      rw [Hp.put_other _ _ (by omega)]
theorem OwnP.under {α β : Type} {k : Kd α} {k' : Kd β} {G H : Hp} {v r : Value} {xs : List α} {ys : List β} (h : OwnP k G H v xs) (hk : ∀ (H H' : Hp) x cs, k'.rep H x cs → k'.rep H' x cs) (hne : k.sz ≠ k'.sz) (hs : Sl k' H r ys) : Sl k' G r ys := by
  rcases h with ⟨rfl, rfl, rfl⟩ | ⟨b, cs, d, rfl, hb, hd, rfl, _⟩
  · exact hs
  · have := hs.put_odd hk (b1 := b) (st := k.sz) (cs := cs) (Hp.put_same _ _ _) hne .dead
    rwa [Hp.put_put, Hp.put_self _ hd] at this
theorem filter_next {q : Link → Bool} {xs : List Link} {i : Nat} (h : i < xs.length) : (xs.take (i + 1)).filter q = (xs.take i).filter q ++ (if q xs[i] = true then [xs[i]] else []) := by
  rw [← take_next h, List.filter_append, List.filter_cons, List.filter_nil]
theorem ofTo_nodes (f : Forest) (p : Parts) (rows : List RowT) (k : Nat) : (ofTo f p rows (k + 1)).nodes = (ofTo f p rows k).nodes ++ [ofNodes f p rows k] := by
  show (List.range (k + 1)).map _ = (List.range k).map _ ++ [_]
  rw [List.range_succ, List.map_append]; rfl
theorem ofTo_links (f : Forest) (p : Parts) (rows : List RowT) (k : Nat) : (ofTo f p rows (k + 1)).links = (ofTo f p rows k).links ++ [ofLinks f p rows k] := by
  show (List.range (k + 1)).map _ = (List.range k).map _ ++ [_]
  rw [List.range_succ, List.map_append]; rfl
theorem ofTo_len (f : Forest) (p : Parts) (rows : List RowT) (k : Nat) : (ofTo f p rows k).nodes.length = k ∧ (ofTo f p rows k).links.length = k := by simp [ofTo]
theorem GoodF.at_lt {f : Forest} (h : GoodF f) {v : Nat} (hv : v < f.vars.length) : ∃ q : Nat, atI f.order v = q ∧ q < f.vars.length := by
  obtain ⟨q, h1, _, h3, _⟩ := atI_take (xs := f.order) (v := (v : Int)) (i := f.order.length) (by rw [List.take_length]; exact h.in_order hv)
  exact ⟨q, h1, by have := h.l1; omega⟩
set_option maxHeartbeats 8000000 in
theorem Of_ref (f : Forest) (p : Parts) (cs ds : List Value) (H : Hp) (hp : kForest.rep H f cs) (hq : kParts.rep H p ds) (hG : GoodP f p) (hsm : Small f p) (ht : Tiny f p) :
    ACalls Try.prog 46 #[.agg cs.toArray, .agg ds.toArray] H (fun r H' => ∃ G' N L, H.le G' ∧ r = .agg #[N, L] ∧ PartsP G' H' N L (refOf f p).nodes (refOf f p).links) := by
  have hg := hG.gf
  have hp0 := hp
  have hq0 := hq
  obtain ⟨v0, v1, v2, v3, v4, rfl, hs0, hs1, hs2, hs3, hs4⟩ := hp
  obtain ⟨A0, c0, rfl⟩ := hs0.shape
  obtain ⟨A1, c1, rfl⟩ := hs1.shape
  obtain ⟨A2, c2, rfl⟩ := hs2.shape
  obtain ⟨A3, c3, rfl⟩ := hs3.shape
  obtain ⟨A4, c4, rfl⟩ := hs4.shape
  obtain ⟨u0, u1, rfl, hn0, hn1⟩ := hq
  obtain ⟨B0, d0, rfl⟩ := hn0.shape
  obtain ⟨B1, d1, rfl⟩ := hn1.shape
  have hgl := hg.l1
  have hgp := hg.l2
  have hln := hG.n1
  have hll := hG.n2
  have hvn := ht.vars
  have hrok := rowsK_ok ht f.order.length
  have hrl : (rowsP f p).length ≤ 1024 := Nat.le_trans (rowsK_len ht f.order.length) (Nat.pow_le_pow_right (by omega) (by omega : f.order.length ≤ 5))
  refine acalls_of_code Try.func46 rfl rfl rfl (by simp) ?_
  refine ac_seq ?_
  refine ac_region (by kernel_rfl) ?_
  refine aops_make (am_box_agg rfl) ?_
  refine aops_make (am_box_agg rfl) ?_
  refine aops_make (am_zero (l := [.slice none 0 0, .slice none 0 0]) inf65.zero rfl (by decide)) ?_
  refine ac_seq ?_
  refine ac_region (by kernel_rfl) ?_
  first | refine aops_val (av_build (pl := [(0, 1), (1, 1)]) (r := [.slice _ _ _, .slice _ _ _]) Try.underlying65 inf65.zero (by decide) rfl rfl) ?_ | refine aops_val (av_build (pl := [(0, 1), (1, 1)]) (r := [_, _]) Try.underlying65 inf65.zero (by decide) rfl rfl) ?_
  first | refine aops_val (av_loadN (cs := [.slice _ _ _, .slice _ _ _, .slice _ _ _, .slice _ _ _, .slice _ _ _]) rfl Try.underlying62 rfl inf62.size t_cells) ?_ | refine aops_val (av_loadN (cs := [_, _, _, _, _]) rfl Try.underlying62 rfl inf62.size t_cells) ?_
  first | refine aops_val (av_loadN (cs := [.slice _ _ _, .slice _ _ _]) rfl Try.underlying65 rfl inf65.size t_cells) ?_ | refine aops_val (av_loadN (cs := [_, _]) rfl Try.underlying65 rfl inf65.size t_cells) ?_
  refine aops_op (aop_call (Rows_ref f p _ _ _ (kForest.mono t_sees hp0) (kParts.mono t_sees hq0) hG hsm ht) rfl Try.func47 rfl rfl rfl ?_)
  rintro v5 H5 ⟨hle5, hso⟩; obtain ⟨Ao, co, rfl⟩ := hso.shape; have hz5 := hle5.1; simp only [Hp.push_size] at hz5
  refine aops_make (am_zero (l := [.slice none 0 0, .slice none 0 0]) inf65.zero rfl (by decide)) ?_
  first | refine aops_op (aop_putN (vs := [.slice _ _ _, .slice _ _ _]) rfl rfl inf65.size t_get t_room rfl rfl ?_) | refine aops_op (aop_putN (vs := [_, _]) rfl rfl inf65.size t_get t_room rfl rfl ?_)
  first | refine aops_val (av_assign_sl rfl) ?_ | refine aops_val (av_assign rfl) ?_
  refine ac_seq ?_
  refine ac_seq ?_
  obtain ⟨H6, hH6⟩ : ∃ H6, H6 = (H5.push (.own 0 [.slice none 0 0, .slice none 0 0])).put H5.size (.own 0 [.slice none 0 0, .slice none 0 0]) := ⟨_, rfl⟩
  change ACode true _ _ _ _ _ ((H5.push (.own 0 [.slice none 0 0, .slice none 0 0])).put H5.size (.own 0 [.slice none 0 0, .slice none 0 0]))
  rw [← hH6]
  have le56 : H5.le H6 := by rw [hH6]; exact Hp.le_put_new (H5.le_push _) (Nat.le_refl _) _
  have hz6 : H6.size = H5.size + 1 := by rw [hH6]; simp
  have leB6 := Hp.le_trans hle5 le56
  have k0 : H6.get H.size = .own 0 [.slice A0 f.vars.length c0, .slice A1 f.order.length c1, .slice A2 f.parent.length c2, .slice A3 f.links.length c3, .slice A4 f.loops.length c4] := le_got leB6 (by simp <;> omega) (by intro e; cases e) t_get
  have k1 : H6.get (H.size + 1) = .own 0 [.slice B0 p.nodes.length d0, .slice B1 p.links.length d1] := le_got leB6 (by simp <;> omega) (by intro e; cases e) t_get
  have k2 : H6.get (H.size + 2) = .own 0 [.slice none 0 0, .slice none 0 0] := le_got leB6 (by simp) (by intro e; cases e) t_get
  have k5 : H6.get H5.size = .own 0 [.slice none 0 0, .slice none 0 0] := by rw [hH6]; exact Hp.put_same _ _ _
  have leH6 : H.le H6 := Hp.le_trans (Hp.le_push' (Hp.le_push' (H.le_push _) _) _) leB6
  have hso6 := hso.mono le56.sees
  refine ac_region (by kernel_rfl) ?_
  first | refine aops_val (av_assign_int rfl) ?_ | refine aops_val (av_assign rfl) ?_
  refine ac_block ?_
  refine ac_loop (fun n t H' => ∃ (v : Nat) (G : Hp) (AN AL : Option Addr) (cN cL : Nat), v ≤ f.vars.length ∧ n = f.vars.length - v ∧ H.le G ∧ H6.les G ∧ G.get H.size = .own 0 [.slice A0 f.vars.length c0, .slice A1 f.order.length c1, .slice A2 f.parent.length c2, .slice A3 f.links.length c3, .slice A4 f.loops.length c4] ∧ G.get (H.size + 1) = .own 0 [.slice B0 p.nodes.length d0, .slice B1 p.links.length d1] ∧ G.get (H.size + 2) = .own 0 [.slice none 0 0, .slice none 0 0] ∧ G.get H5.size = .own 0 [.slice AN v cN, .slice AL v cL] ∧ PartsP G H' (.slice AN v cN) (.slice AL v cL) (ofTo f p (rowsP f p) v).nodes (ofTo f p (rowsP f p) v).links ∧ t 2 = .pointer (some ⟨H.size, 0, none⟩) ∧ t 3 = .pointer (some ⟨H.size + 1, 0, none⟩) ∧ t 4 = .pointer (some ⟨H.size + 2, 0, none⟩) ∧ t 5 = .pointer (some ⟨H5.size, 0, none⟩) ∧ t 6 = .slice Ao (rowsP f p).length co ∧ t 7 = .int .i64 v) (f.vars.length) (⟨0, H6, none, none, 0, 0, by omega, rfl, leH6, (Hp.le_refl _).les, k0, k1, k2, k5, ⟨H6, OwnP.nil _ _, OwnP.nil _ _⟩, rfl, rfl, rfl, rfl, rfl, rfl⟩) ?_
  rintro n t H7 ⟨v, G7, AN, AL, cN, cL, hv, rfl, leG7, hles7, kg0, kg1, kg2, kg5, hpp7, e2, e3, e4, e5, e6, e7⟩
  have hz7 := hles7.1
  have hzz7 := hpp7.size
  have hg0 := le_got hpp7.le (by omega) (by intro e; cases e) kg0
  have hg1 := le_got hpp7.le (by omega) (by intro e; cases e) kg1
  have hg5 := le_got hpp7.le (by omega) (by intro e; cases e) kg5
  have hg2 := le_got hpp7.le (by omega) (by intro e; cases e) kg2
  have se7 : H6.sees H7 := hles7.sees.trans hpp7.le.sees
  refine ac_seq ?_
  refine ac_seq ?_
  refine ac_region (by kernel_rfl) ?_
  first | refine aops_val (av_move_int (by first | assumption | rfl)) ?_ | refine aops_val (av_move (by first | assumption | rfl)) ?_
  refine aops_val (av_fieldOff (off := 0) (by first | assumption | rfl) Try.underlying62 (by first | assumption | rfl) inf59.size (by decide) (by first | assumption | rfl)) ?_
  refine aops_val (av_load1 rfl Try.underlying59 rfl t_cell) ?_
  refine aops_val (av_len rfl Try.underlying59) ?_
  refine aops_val (av_lt rfl rfl) ?_
  refine ac_split rfl rfl ?_ ?_
  · intro hc1
    (try simp only [decide_eq_true_eq, decide_eq_false_iff_not, Bool.not_eq_true', Bool.not_eq_false'] at hc1)
    refine ac_skip ?_
    refine ac_seq ?_
    refine ac_block ?_
    refine ac_seq ?_
    have hvx : v < f.vars.length := by omega
    obtain ⟨q, hq1, hq2⟩ := hg.at_lt hvx
    obtain ⟨b3, o3, ks3, eB0, hb3, ⟨wn, rfl, hsn⟩, hcell3⟩ := (hn0.mono (leH6.sees.trans se7)).elem_at (i := v) (by omega)
    obtain ⟨b4, o4, ks4, eB1, hb4, ⟨wl, rfl, hsl⟩, hcell4⟩ := (hn1.mono (leH6.sees.trans se7)).elem_at (i := v) (by omega)
    subst eB0 eB1
    have hcell3' := hcell3.one
    have hcell4' := hcell4.one
    have gn : p.nodes[v]'(by omega) = nd p v := (getD_list (by omega)).symm
    have gl : p.links[v]'(by omega) = lk p v := (getD_list (by omega)).symm
    rw [gn] at hsn
    rw [gl] at hsl
    obtain ⟨An, cn, rfl⟩ := hsn.shape
    obtain ⟨Al, cl, rfl⟩ := hsl.shape
    have hndl : (nd p v).length ≤ 1000000 := getD_len hsm.s5 v
    have hlkl : (lk p v).length ≤ 1000000 := getD_len hsm.s6 v
    have hfo7 := kForest.mono (leH6.sees.trans se7) hp0
    have hso7 := hso6.mono se7
    refine ac_region (by kernel_rfl) ?_
    first | refine aops_make (am_buildSlice (r := []) Try.underlying22 inf28.size inf28.zero rfl (by decide) (by decide) (by decide) rfl) ?_
    first | refine aops_make (am_buildSlice (r := []) Try.underlying22 inf28.size inf28.zero rfl (by decide) (by decide) (by decide) rfl) ?_
    first | refine aops_val (av_assign_sl rfl) ?_ | refine aops_val (av_assign rfl) ?_
    first | refine aops_val (av_assign_sl rfl) ?_ | refine aops_val (av_assign rfl) ?_
    refine ac_seq ?_
    refine ac_seq ?_
    refine ac_region (by kernel_rfl) ?_
    first | refine aops_val (av_assign_int rfl) ?_ | refine aops_val (av_assign rfl) ?_
    refine ac_block ?_
    refine ac_loop (fun n t H' => ∃ (i : Nat) (G : Hp) (B : Option Addr) (c8 : Nat), i ≤ (nd p v).length ∧ n = (nd p v).length - i ∧ (((H7.push (.own 4 [])).push (.own 4 [])).put H7.size .dead).le G ∧ OwnP kLink G H' (.slice B (((nd p v).take i).filter (nodeIn f (rowsP f p) v)).length c8) (((nd p v).take i).filter (nodeIn f (rowsP f p) v)) ∧ t 2 = .pointer (some ⟨H.size, 0, none⟩) ∧ t 3 = .pointer (some ⟨H.size + 1, 0, none⟩) ∧ t 4 = .pointer (some ⟨H.size + 2, 0, none⟩) ∧ t 5 = .pointer (some ⟨H5.size, 0, none⟩) ∧ t 6 = .slice Ao (rowsP f p).length co ∧ t 7 = .int .i64 v ∧ t 8 = .slice B (((nd p v).take i).filter (nodeIn f (rowsP f p) v)).length c8 ∧ t 9 = .slice (some ⟨H7.size + 1, 0, none⟩) 0 0 ∧ t 10 = .int .i64 i) ((nd p v).length) (⟨0, ((H7.push (.own 4 [])).push (.own 4 [])).put H7.size .dead, _, _, by omega, rfl, Hp.le_refl _, own_lit kLink (cs := []) (by simp <;> omega) t_get, e2, e3, e4, e5, e6, e7, rfl, rfl, rfl⟩) ?_
    rintro n t H8 ⟨i, G8, B, c8, hi, rfl, hle8, hown8, e2, e3, e4, e5, e6, e7, e8, e9, e10⟩
    have hz8 := hown8.size
    have leA : H7.le (((H7.push (.own 4 [])).push (.own 4 [])).put H7.size .dead) := Hp.le_put_new (Hp.le_push' (H7.le_push _) _) (Nat.le_refl _) _
    have le78 : H7.le H8 := Hp.le_trans leA (Hp.le_trans hle8 hown8.le)
    have hs8 := hle8.1
    simp only [Hp.put_size, Hp.push_size] at hs8
    have hg08 := le_got le78 (by omega) (by intro e; cases e) hg0
    have hg18 := le_got le78 (by omega) (by intro e; cases e) hg1
    have hcell38 := le78.cell1 hb3 hcell3'
    have hflen : (((nd p v).take i).filter (nodeIn f (rowsP f p) v)).length ≤ (nd p v).length := Nat.le_trans (List.length_filter_le _ _) (by rw [List.length_take]; omega)
    refine ac_seq ?_
    refine ac_seq ?_
    refine ac_region (by kernel_rfl) ?_
    first | refine aops_val (av_move_int (by first | assumption | rfl)) ?_ | refine aops_val (av_move (by first | assumption | rfl)) ?_
    refine aops_val (av_fieldOff (off := 0) (by first | assumption | rfl) Try.underlying65 (by first | assumption | rfl) inf63.size (by decide) (by first | assumption | rfl)) ?_
    refine aops_val (av_load1 rfl Try.underlying63 rfl t_cell) ?_
    first | refine aops_val (av_move_int (by first | assumption | rfl)) ?_ | refine aops_val (av_move (by first | assumption | rfl)) ?_
    refine aops_val (av_indexAddr rfl rfl Try.underlying63 inf22.size t_idx t_idx) ?_
    refine aops_val (av_load1 rfl Try.underlying22 rfl t_cell) ?_
    refine aops_val (av_len rfl Try.underlying22) ?_
    refine aops_val (av_lt rfl rfl) ?_
    refine ac_split rfl rfl ?_ ?_
    · intro hc2
      (try simp only [decide_eq_true_eq, decide_eq_false_iff_not, Bool.not_eq_true', Bool.not_eq_false'] at hc2)
      refine ac_skip ?_
      refine ac_seq ?_
      refine ac_block ?_
      refine ac_seq ?_
      have hix : i < (nd p v).length := by omega
      obtain ⟨bx, ox, eAn, hbx, hcellx⟩ := hsn.link_at hix
      subst eAn
      have hcellx8 := le78.cells hbx hcellx
      obtain ⟨x, hx⟩ : ∃ x, x = (nd p v)[i] := ⟨_, rfl⟩
      rw [← hx] at hcellx hcellx8
      have hcellx80 := hcellx8 0 _ rfl
      have hnext := filter_next (q := nodeIn f (rowsP f p) v) hix
      rw [← hx] at hnext
      refine ac_region (by kernel_rfl) ?_
      first | refine aops_val (av_assign_int rfl) ?_ | refine aops_val (av_assign rfl) ?_
      refine ac_block ?_
      refine ac_loop (fun n t H' => ∃ (k : Nat), k ≤ (rowsP f p).length ∧ n = (rowsP f p).length - k ∧ H' = H8 ∧ (∀ r ∈ (rowsP f p).take k, decide (nodeAt f r v = x.a) = false) ∧ t 2 = .pointer (some ⟨H.size, 0, none⟩) ∧ t 3 = .pointer (some ⟨H.size + 1, 0, none⟩) ∧ t 4 = .pointer (some ⟨H.size + 2, 0, none⟩) ∧ t 5 = .pointer (some ⟨H5.size, 0, none⟩) ∧ t 6 = .slice Ao (rowsP f p).length co ∧ t 7 = .int .i64 v ∧ t 8 = .slice B (((nd p v).take i).filter (nodeIn f (rowsP f p) v)).length c8 ∧ t 9 = .slice (some ⟨H7.size + 1, 0, none⟩) 0 0 ∧ t 10 = .int .i64 i ∧ t 11 = .int .i64 k) ((rowsP f p).length) (⟨0, by omega, rfl, rfl, by simp, e2, e3, e4, e5, e6, e7, e8, e9, e10, rfl⟩) ?_
      rintro n t H8 ⟨k, hk, rfl, rfl, hno, e2, e3, e4, e5, e6, e7, e8, e9, e10, e11⟩
      refine ac_seq ?_
      refine ac_seq ?_
      refine ac_region (by kernel_rfl) ?_
      first | refine aops_val (av_move_int (by first | assumption | rfl)) ?_ | refine aops_val (av_move (by first | assumption | rfl)) ?_
      first | refine aops_val (av_move_sl (by first | assumption | rfl)) ?_ | refine aops_val (av_move (by first | assumption | rfl)) ?_
      refine aops_val (av_len rfl Try.underlying74) ?_
      refine aops_val (av_lt rfl rfl) ?_
      refine ac_split rfl rfl ?_ ?_
      · intro hc3
        (try simp only [decide_eq_true_eq, decide_eq_false_iff_not, Bool.not_eq_true', Bool.not_eq_false'] at hc3)
        refine ac_skip ?_
        refine ac_seq ?_
        refine ac_block ?_
        refine ac_seq ?_
        have hkx : k < (rowsP f p).length := by omega
        obtain ⟨bo, oo, wr, eAo, hbo, hcello, hwr⟩ := (hso7.mono le78.sees).row_at hkx
        have hcello0 := hcello 0 _ rfl
        obtain ⟨r, hr⟩ : ∃ r, r = (rowsP f p)[k] := ⟨_, rfl⟩
        rw [← hr] at hcello hwr
        have hrn : r.nodes.length = f.order.length := (hrok r (by rw [hr]; exact List.getElem_mem hkx)).len
        obtain ⟨Ar, cr, rfl⟩ := hwr.shape
        obtain ⟨bq, oq, eAr, hbq, hcellq⟩ := hwr.int_at (i := (q : Int)) (by omega) (by omega)
        rw [Int.toNat_natCast] at hcellq
        subst eAr
        have hna : nodeAt f r v = r.nodes.getD q 0 := by unfold nodeAt; rw [hq1]; rfl
        subst eAo
        refine ac_draw (by kernel_rfl) (reg_of (B := [0, 0, 3, 7, 15, 0, 0, 96, 255, 511, 0, 1024, 0, 7168, 15360, 0, 64512, 130048, 261120, 524287]) (π := [0, 1, 2, 3, 4, 5, 6, 10, 11, 12, 13, 14, 15, 16, 17, 18, 7, 8, 9, 19]) (by kernel_rfl)) ?_
        first | refine adr_val rfl rfl (av_move_sl (by first | assumption | rfl)) t_lt ?_ | refine adr_val rfl rfl (av_move (by first | assumption | rfl)) t_lt ?_
        first | refine adr_val rfl rfl (av_move_int (by first | assumption | rfl)) t_lt ?_ | refine adr_val rfl rfl (av_move (by first | assumption | rfl)) t_lt ?_
        refine adr_val rfl rfl (av_indexAddr rfl rfl Try.underlying74 inf152.size t_idx t_idx) t_lt ?_
        refine adr_val rfl rfl (av_fieldOff (off := 0) rfl Try.underlying152 rfl inf29.size (by decide) rfl) t_lt ?_
        refine adr_val rfl rfl (av_load1 rfl Try.underlying29 rfl t_cell) t_lt ?_
        first | refine adr_val rfl rfl (av_loadN (cs := [.slice _ _ _, .slice _ _ _, .slice _ _ _, .slice _ _ _, .slice _ _ _]) (by first | assumption | rfl) Try.underlying62 (by first | assumption | rfl) inf62.size t_cells) t_lt ?_ | refine adr_val rfl rfl (av_loadN (cs := [_, _, _, _, _]) (by first | assumption | rfl) Try.underlying62 (by first | assumption | rfl) inf62.size t_cells) t_lt ?_
        first | refine adr_val rfl rfl (av_move_int (by first | assumption | rfl)) t_lt ?_ | refine adr_val rfl rfl (av_move (by first | assumption | rfl)) t_lt ?_
        refine adr_val rfl rfl (av_fieldOff (off := 0) (by first | assumption | rfl) Try.underlying65 (by first | assumption | rfl) inf63.size (by decide) (by first | assumption | rfl)) t_lt ?_
        refine adr_val rfl rfl (av_load1 rfl Try.underlying63 rfl t_cell) t_lt ?_
        first | refine adr_val rfl rfl (av_move_int (by first | assumption | rfl)) t_lt ?_ | refine adr_val rfl rfl (av_move (by first | assumption | rfl)) t_lt ?_
        refine adr_val rfl rfl (av_indexAddr rfl rfl Try.underlying63 inf22.size t_idx t_idx) t_lt ?_
        refine adr_val rfl rfl (av_load1 rfl Try.underlying22 rfl t_cell) t_lt ?_
        first | refine adr_val rfl rfl (av_move_int (by first | assumption | rfl)) t_lt ?_ | refine adr_val rfl rfl (av_move (by first | assumption | rfl)) t_lt ?_
        refine adr_val rfl rfl (av_indexAddr rfl rfl Try.underlying22 inf28.size t_idx t_idx) t_lt ?_
        refine adr_val rfl rfl (av_fieldOff (off := 0) rfl Try.underlying28 rfl inf3.size (by decide) rfl) t_lt ?_
        refine adr_val rfl rfl (av_load1 rfl Try.underlying3 rfl t_cell) t_lt ?_
        refine adr_op rfl rfl (aop_call (at_forest f _ _ _ (kForest.mono le78.sees hfo7) (by omega)) rfl Try.func108 rfl rfl rfl ?_)
        rintro v5 H8 ⟨rfl, rfl⟩; rw [hq1]
        refine ⟨t_pend, ?_⟩
        refine adr_val rfl rfl (av_indexAddr rfl rfl Try.underlying29 inf3.size t_idx t_idx) t_lt ?_
        refine adr_val rfl rfl (av_load1 rfl Try.underlying3 rfl t_cell) t_lt ?_
        refine adr_val rfl rfl (av_eq rfl rfl) t_lt ?_
        refine ac_split rfl rfl ?_ ?_
        · intro hc4
          have hyes : nodeAt f r v = x.a := by rw [hna]; exact of_decide_eq_true hc4
          have hin : nodeIn f (rowsP f p) v x = true := List.any_eq_true.2 ⟨r, by rw [hr]; exact List.getElem_mem hkx, by rw [decide_eq_true hyes]⟩
          rw [if_pos hin] at hnext
          refine ac_seq ?_
          refine ac_region (by kernel_rfl) ?_
          first | refine aops_val (av_move_sl (by first | assumption | rfl)) ?_ | refine aops_val (av_move (by first | assumption | rfl)) ?_
          refine aops_val (av_fieldOff (off := 0) (by first | assumption | rfl) Try.underlying65 (by first | assumption | rfl) inf63.size (by decide) (by first | assumption | rfl)) ?_
          refine aops_val (av_load1 rfl Try.underlying63 rfl t_cell) ?_
          first | refine aops_val (av_move_int (by first | assumption | rfl)) ?_ | refine aops_val (av_move (by first | assumption | rfl)) ?_
          refine aops_val (av_indexAddr rfl rfl Try.underlying63 inf22.size t_idx t_idx) ?_
          refine aops_val (av_load1 rfl Try.underlying22 rfl t_cell) ?_
          first | refine aops_val (av_move_int (by first | assumption | rfl)) ?_ | refine aops_val (av_move (by first | assumption | rfl)) ?_
          refine aops_val (av_indexAddr rfl rfl Try.underlying22 inf28.size t_idx t_idx) ?_
          refine aops_val (av_loadN (cs := [.int .i64 _, .int .i64 _, .int .i64 _, .int .u64 _]) rfl Try.underlying28 rfl inf28.size t_cells) ?_
          first | refine aops_make (am_buildSlice (r := [.int .i64 _, .int .i64 _, .int .i64 _, .int .u64 _]) Try.underlying22 inf28.size inf28.zero rfl (by decide) (by decide) (by decide) rfl) ?_
          refine aops_op (OwnP.append (ys := [x]) (hown8.push _) Try.underlying22 inf28 rfl rfl rfl (sl_one (k := kLink) rfl rfl hown8.size rfl) (by simp only [List.length_singleton]; omega) (by simp only [List.length_singleton]; omega) ?_)
          rintro v6 G6 H6 hle6 hown6
          rw [← hnext] at hown6
          obtain ⟨B', c', e6'⟩ := hown6.shape
          subst e6'
          first | refine aops_val (av_assign_sl rfl) ?_ | refine aops_val (av_assign rfl) ?_
          refine ac_exit ?_
          refine ac_region (by kernel_rfl) ?_
          first | refine aops_val (av_move_int (by first | assumption | rfl)) ?_ | refine aops_val (av_move (by first | assumption | rfl)) ?_
          first | refine aops_val (av_add64 rfl rfl t_fits) ?_ | refine aops_val (av_add rfl rfl) ?_
          first | refine aops_val (av_assign_int rfl) ?_ | refine aops_val (av_assign rfl) ?_
          first
            | exact ⟨(nd p v).length - (i + 1), by omega, i + 1, G6, B', c', by omega, rfl, Hp.le_trans (Hp.le_push' hle8 _) hle6, hown6, e2, e3, e4, e5, e6, e7, rfl, e9, rfl⟩
            | (have hk2 : (rowsP f p).take k = rowsP f p := List.take_of_length_le (by omega)
               rw [hk2] at hno
               have hnin : ¬ nodeIn f (rowsP f p) v x = true := fun h => by
                 obtain ⟨z, hz, hz2⟩ := List.any_eq_true.1 h
                 rw [hno z hz] at hz2; cases hz2
               rw [if_neg hnin, List.append_nil] at hnext
               exact ⟨(nd p v).length - (i + 1), by omega, i + 1, G8, B, c8, by omega, rfl, hle8, by rw [hnext]; exact hown8, e2, e3, e4, e5, e6, e7, by rw [hnext]; exact e8, e9, rfl⟩)
        · intro hc4
          have hnot : decide (nodeAt f r v = x.a) = false := by rw [hna]; exact hc4
          refine ac_skip ?_
          refine ac_region (by kernel_rfl) ?_
          first | refine aops_val (av_move_int (by first | assumption | rfl)) ?_ | refine aops_val (av_move (by first | assumption | rfl)) ?_
          first | refine aops_val (av_add64 rfl rfl t_fits) ?_ | refine aops_val (av_add rfl rfl) ?_
          first | refine aops_val (av_assign_int rfl) ?_ | refine aops_val (av_assign rfl) ?_
          refine ⟨(rowsP f p).length - (k + 1), by omega, k + 1, by omega, rfl, rfl, fun z hz => ?_, e2, e3, e4, e5, e6, e7, e8, e9, e10, rfl⟩
          rw [List.take_succ_eq_append_getElem hkx] at hz
          rcases List.mem_append.1 hz with hz | hz
          · exact hno z hz
          · rw [List.mem_singleton.1 hz, ← hr]; exact hnot
      · intro hc3
        (try simp only [decide_eq_true_eq, decide_eq_false_iff_not, Bool.not_eq_true', Bool.not_eq_false'] at hc3)
        refine ac_exit ?_
        refine ac_region (by kernel_rfl) ?_
        first | refine aops_val (av_move_int (by first | assumption | rfl)) ?_ | refine aops_val (av_move (by first | assumption | rfl)) ?_
        first | refine aops_val (av_add64 rfl rfl t_fits) ?_ | refine aops_val (av_add rfl rfl) ?_
        first | refine aops_val (av_assign_int rfl) ?_ | refine aops_val (av_assign rfl) ?_
        first
          | exact ⟨(nd p v).length - (i + 1), by omega, i + 1, G6, B', c', by omega, rfl, Hp.le_trans (Hp.le_push' hle8 _) hle6, hown6, e2, e3, e4, e5, e6, e7, rfl, e9, rfl⟩
          | (have hk2 : (rowsP f p).take k = rowsP f p := List.take_of_length_le (by omega)
             rw [hk2] at hno
             have hnin : ¬ nodeIn f (rowsP f p) v x = true := fun h => by
               obtain ⟨z, hz, hz2⟩ := List.any_eq_true.1 h
               rw [hno z hz] at hz2; cases hz2
             rw [if_neg hnin, List.append_nil] at hnext
             exact ⟨(nd p v).length - (i + 1), by omega, i + 1, G8, B, c8, by omega, rfl, hle8, by rw [hnext]; exact hown8, e2, e3, e4, e5, e6, e7, by rw [hnext]; exact e8, e9, rfl⟩)
    · intro hc2
      (try simp only [decide_eq_true_eq, decide_eq_false_iff_not, Bool.not_eq_true', Bool.not_eq_false'] at hc2)
      refine ac_exit ?_
      refine ac_seq ?_
      refine ac_seq ?_
      have hnfull : (((nd p v).take i).filter (nodeIn f (rowsP f p) v)) = ofNodes f p (rowsP f p) v := by rw [List.take_of_length_le (by omega)]; rfl
      rw [hnfull] at hown8 e8
      have hbl8 : G8.get (H7.size + 1) = .own 4 [] := le_got hle8 (by simp) (by intro e; cases e) t_get
      have hbl : H8.get (H7.size + 1) = .own 4 [] := le_got hown8.le (by omega) (by intro e; cases e) hbl8
      have hnK : Sl kLink (H8.put (H7.size + 1) .dead) (.slice B (ofNodes f p (rowsP f p) v).length c8) (ofNodes f p (rowsP f p) v) := (hown8.put_plain plain_link (by rw [hbl8]; intro e; cases e) .dead).sl
      have leK : H7.le (H8.put (H7.size + 1) .dead) := Hp.le_put_new le78 (by omega) _
      refine ac_region (by kernel_rfl) ?_
      first | refine aops_val (av_assign_int rfl) ?_ | refine aops_val (av_assign rfl) ?_
      refine ac_block ?_
      refine ac_loop (fun n t H' => ∃ (j : Nat) (G : Hp) (B9 : Option Addr) (c9 : Nat), j ≤ (lk p v).length ∧ n = (lk p v).length - j ∧ (H8.put (H7.size + 1) .dead).le G ∧ OwnP kLink G H' (.slice B9 (((lk p v).take j).filter (linkIn f (rowsP f p) v)).length c9) (((lk p v).take j).filter (linkIn f (rowsP f p) v)) ∧ t 2 = .pointer (some ⟨H.size, 0, none⟩) ∧ t 3 = .pointer (some ⟨H.size + 1, 0, none⟩) ∧ t 4 = .pointer (some ⟨H.size + 2, 0, none⟩) ∧ t 5 = .pointer (some ⟨H5.size, 0, none⟩) ∧ t 6 = .slice Ao (rowsP f p).length co ∧ t 7 = .int .i64 v ∧ t 8 = .slice B (ofNodes f p (rowsP f p) v).length c8 ∧ t 9 = .slice B9 (((lk p v).take j).filter (linkIn f (rowsP f p) v)).length c9 ∧ t 12 = .int .i64 j) ((lk p v).length) (⟨0, H8.put (H7.size + 1) .dead, _, _, by omega, rfl, Hp.le_refl _, own_lit kLink (cs := []) (by omega) hbl, e2, e3, e4, e5, e6, e7, e8, e9, rfl⟩) ?_
      rintro n t H9 ⟨j, G9, B9, c9, hj, rfl, hle9, hown9, e2, e3, e4, e5, e6, e7, e8, e9, e12⟩
      have hz9 := hown9.size
      have hs9 := hle9.1
      simp only [Hp.put_size] at hs9
      have le79 : H7.le H9 := Hp.le_trans leK (Hp.le_trans hle9 hown9.le)
      have hg09 := le_got le79 (by omega) (by intro e; cases e) hg0
      have hg19 := le_got le79 (by omega) (by intro e; cases e) hg1
      have hcell49 := le79.cell1 hb4 hcell4'
      have hmlen : (((lk p v).take j).filter (linkIn f (rowsP f p) v)).length ≤ (lk p v).length := Nat.le_trans (List.length_filter_le _ _) (by rw [List.length_take]; omega)
      refine ac_seq ?_
      refine ac_seq ?_
      refine ac_region (by kernel_rfl) ?_
      first | refine aops_val (av_move_int (by first | assumption | rfl)) ?_ | refine aops_val (av_move (by first | assumption | rfl)) ?_
      refine aops_val (av_fieldOff (off := 1) (by first | assumption | rfl) Try.underlying65 (by first | assumption | rfl) inf63.size (by decide) (by first | assumption | rfl)) ?_
      refine aops_val (av_load1 rfl Try.underlying63 rfl t_cell) ?_
      first | refine aops_val (av_move_int (by first | assumption | rfl)) ?_ | refine aops_val (av_move (by first | assumption | rfl)) ?_
      refine aops_val (av_indexAddr rfl rfl Try.underlying63 inf22.size t_idx t_idx) ?_
      refine aops_val (av_load1 rfl Try.underlying22 rfl t_cell) ?_
      refine aops_val (av_len rfl Try.underlying22) ?_
      refine aops_val (av_lt rfl rfl) ?_
      refine ac_split rfl rfl ?_ ?_
      · intro hc5
        (try simp only [decide_eq_true_eq, decide_eq_false_iff_not, Bool.not_eq_true', Bool.not_eq_false'] at hc5)
        refine ac_skip ?_
        refine ac_seq ?_
        refine ac_block ?_
        refine ac_seq ?_
        have hjx : j < (lk p v).length := by omega
        obtain ⟨by', oy, eAl, hby, hcelly⟩ := hsl.link_at hjx
        subst eAl
        have hcelly9 := le79.cells hby hcelly
        obtain ⟨y, hy⟩ : ∃ y, y = (lk p v)[j] := ⟨_, rfl⟩
        rw [← hy] at hcelly hcelly9
        have hnextl := filter_next (q := linkIn f (rowsP f p) v) hjx
        rw [← hy] at hnextl
        have hgev := hg.parent_ge hvx
        have hpar : par f v ≠ -1 := fun e => by
          have h4 := (hG.ok v hvx).2.2.2 e
          have h5 : (lk p v).length = 0 := by unfold lk; rw [h4]; rfl
          omega
        obtain ⟨u, hu⟩ : ∃ u : Nat, par f v = u := ⟨(par f v).toNat, by unfold par at *; omega⟩
        obtain ⟨q', hq1', hq2'⟩ := hg.at_lt (v := u) (by unfold par at *; omega)
        obtain ⟨b2, o2, eA2, hb2, hcell2⟩ := (hs2.mono (leH6.sees.trans se7)).int_at (i := (v : Int)) (by omega) (by omega)
        rw [Int.toNat_natCast] at hcell2
        subst eA2
        rw [show f.parent.getD v 0 = (u : Int) from hu] at hcell2
        refine ac_region (by kernel_rfl) ?_
        refine aops_val (av_fieldOff (off := 1) (by first | assumption | rfl) Try.underlying65 (by first | assumption | rfl) inf63.size (by decide) (by first | assumption | rfl)) ?_
        refine aops_val (av_load1 rfl Try.underlying63 rfl t_cell) ?_
        first | refine aops_val (av_move_int (by first | assumption | rfl)) ?_ | refine aops_val (av_move (by first | assumption | rfl)) ?_
        refine aops_val (av_indexAddr rfl rfl Try.underlying63 inf22.size t_idx t_idx) ?_
        refine aops_val (av_load1 rfl Try.underlying22 rfl t_cell) ?_
        first | refine aops_val (av_move_int (by first | assumption | rfl)) ?_ | refine aops_val (av_move (by first | assumption | rfl)) ?_
        refine aops_val (av_indexAddr rfl rfl Try.underlying22 inf28.size t_idx t_idx) ?_
        refine aops_val (av_loadN (cs := [.int .i64 _, .int .i64 _, .int .i64 _, .int .u64 _]) rfl Try.underlying28 rfl inf28.size t_cells) ?_
        refine aops_make (am_zero (l := [.int .i64 0, .int .i64 0, .int .i64 0, .int .u64 0]) inf28.zero rfl (by decide)) ?_
        first | refine aops_op (aop_putN (vs := [.int .i64 _, .int .i64 _, .int .i64 _, .int .u64 _]) rfl rfl inf28.size t_get t_room rfl rfl ?_)
        refine ac_seq ?_
        obtain ⟨HT, hHT⟩ : ∃ HT, HT = (H9.push (.own 0 [.int .i64 0, .int .i64 0, .int .i64 0, .int .u64 0])).put H9.size (.own 0 [.int .i64 y.a, .int .i64 y.b, .int .i64 y.cost, .int .u64 y.n]) := ⟨_, rfl⟩
        obtain ⟨GT, hGT⟩ : ∃ GT, GT = (G9.push (.own 0 [.int .i64 0, .int .i64 0, .int .i64 0, .int .u64 0])).put H9.size (.own 0 [.int .i64 y.a, .int .i64 y.b, .int .i64 y.cost, .int .u64 y.n]) := ⟨_, rfl⟩
        have hownT : OwnP kLink GT HT (.slice B9 (((lk p v).take j).filter (linkIn f (rowsP f p) v)).length c9) (((lk p v).take j).filter (linkIn f (rowsP f p) v)) := by rw [hHT, hGT]; exact hown9.boxed _ _
        have hleT : (H8.put (H7.size + 1) .dead).le GT := by rw [hGT]; exact Hp.le_put_new (Hp.le_push' hle9 _) (by simp; omega) _
        have gT : HT.get H9.size = .own 0 [.int .i64 y.a, .int .i64 y.b, .int .i64 y.cost, .int .u64 y.n] := by rw [hHT]; exact Hp.put_same _ _ _
        have hzT : HT.size = H9.size + 1 := by rw [hHT]; simp
        change ACode true _ _ _ _ _ ((H9.push (.own 0 [.int .i64 0, .int .i64 0, .int .i64 0, .int .u64 0])).put H9.size (.own 0 [.int .i64 y.a, .int .i64 y.b, .int .i64 y.cost, .int .u64 y.n]))
        rw [← hHT]
        have hzzT := hownT.size
        have le7T : H7.le HT := Hp.le_trans leK (Hp.le_trans hleT hownT.le)
        have hg0T := le_got le7T (by omega) (by intro e; cases e) hg0
        have hg1T := le_got le7T (by omega) (by intro e; cases e) hg1
        have hcell2T := le7T.cell1 hb2 hcell2
        refine ac_region (by kernel_rfl) ?_
        first | refine aops_val (av_assign_int rfl) ?_ | refine aops_val (av_assign rfl) ?_
        refine ac_block ?_
        refine ac_loop (fun n t H' => ∃ (k : Nat), k ≤ (rowsP f p).length ∧ n = (rowsP f p).length - k ∧ H' = HT ∧ (∀ r ∈ (rowsP f p).take k, (decide (nodeAt f r v = y.b) && decide (nodeAt f r (par f v) = y.a)) = false) ∧ t 2 = .pointer (some ⟨H.size, 0, none⟩) ∧ t 3 = .pointer (some ⟨H.size + 1, 0, none⟩) ∧ t 4 = .pointer (some ⟨H.size + 2, 0, none⟩) ∧ t 5 = .pointer (some ⟨H5.size, 0, none⟩) ∧ t 6 = .slice Ao (rowsP f p).length co ∧ t 7 = .int .i64 v ∧ t 8 = .slice B (ofNodes f p (rowsP f p) v).length c8 ∧ t 9 = .slice B9 (((lk p v).take j).filter (linkIn f (rowsP f p) v)).length c9 ∧ t 12 = .int .i64 j ∧ t 13 = .pointer (some ⟨H9.size, 0, none⟩) ∧ t 14 = .int .i64 k) ((rowsP f p).length) (⟨0, by omega, rfl, rfl, by simp, e2, e3, e4, e5, e6, e7, e8, e9, e12, rfl, rfl⟩) ?_
        rintro n t HT ⟨k, hk, rfl, rfl, hno, e2, e3, e4, e5, e6, e7, e8, e9, e12, e13, e14⟩
        refine ac_seq ?_
        refine ac_seq ?_
        refine ac_region (by kernel_rfl) ?_
        first | refine aops_val (av_move_int (by first | assumption | rfl)) ?_ | refine aops_val (av_move (by first | assumption | rfl)) ?_
        first | refine aops_val (av_move_sl (by first | assumption | rfl)) ?_ | refine aops_val (av_move (by first | assumption | rfl)) ?_
        refine aops_val (av_len rfl Try.underlying74) ?_
        refine aops_val (av_lt rfl rfl) ?_
        refine ac_split rfl rfl ?_ ?_
        · intro hc6
          (try simp only [decide_eq_true_eq, decide_eq_false_iff_not, Bool.not_eq_true', Bool.not_eq_false'] at hc6)
          refine ac_skip ?_
          refine ac_seq ?_
          refine ac_block ?_
          refine ac_seq ?_
          have hkx : k < (rowsP f p).length := by omega
          obtain ⟨bo, oo, wr, eAo, hbo, hcello, hwr⟩ := (hso7.mono le7T.sees).row_at hkx
          have hcello0 := hcello 0 _ rfl
          obtain ⟨r, hr⟩ : ∃ r, r = (rowsP f p)[k] := ⟨_, rfl⟩
          rw [← hr] at hcello hwr
          have hrn : r.nodes.length = f.order.length := (hrok r (by rw [hr]; exact List.getElem_mem hkx)).len
          obtain ⟨Ar, cr, rfl⟩ := hwr.shape
          obtain ⟨bq, oq, eAr, hbq, hcellq⟩ := hwr.int_at (i := (q : Int)) (by omega) (by omega)
          obtain ⟨bq', oq', eAr', hbq', hcellq'⟩ := hwr.int_at (i := (q' : Int)) (by omega) (by omega)
          rw [Int.toNat_natCast] at hcellq hcellq'
          subst eAr
          simp only [Option.some.injEq, Addr.mk.injEq, and_true] at eAr'
          obtain ⟨rfl, rfl⟩ := eAr'
          have hna : nodeAt f r v = r.nodes.getD q 0 := by unfold nodeAt; rw [hq1]; rfl
          have hnu : nodeAt f r (par f v) = r.nodes.getD q' 0 := by unfold nodeAt; rw [hu, hq1']; rfl
          subst eAo
          refine ac_draw (by kernel_rfl) (reg_of (B := [0, 0, 3, 7, 15, 0, 0, 96, 255, 511, 0, 1024, 4095, 8191, 16383, 16383, 65535, 131071, 262143, 16383, 16383, 1064959, 16383, 7356415, 15745023, 33046527, 67108863, 134217727, 16383, 268451839, 1073741823, 2147483647]) (π := [0, 1, 2, 3, 4, 5, 6, 10, 11, 7, 8, 9, 12, 13, 14, 15, 16, 17, 18, 19, 20, 21, 22, 23, 24, 28, 29, 25, 26, 27, 30, 31]) (by kernel_rfl)) ?_
          first | refine adr_val rfl rfl (av_move_sl (by first | assumption | rfl)) t_lt ?_ | refine adr_val rfl rfl (av_move (by first | assumption | rfl)) t_lt ?_
          first | refine adr_val rfl rfl (av_move_int (by first | assumption | rfl)) t_lt ?_ | refine adr_val rfl rfl (av_move (by first | assumption | rfl)) t_lt ?_
          refine adr_val rfl rfl (av_indexAddr rfl rfl Try.underlying74 inf152.size t_idx t_idx) t_lt ?_
          refine adr_val rfl rfl (av_fieldOff (off := 0) rfl Try.underlying152 rfl inf29.size (by decide) rfl) t_lt ?_
          refine adr_val rfl rfl (av_load1 rfl Try.underlying29 rfl t_cell) t_lt ?_
          first | refine adr_val rfl rfl (av_loadN (cs := [.slice _ _ _, .slice _ _ _, .slice _ _ _, .slice _ _ _, .slice _ _ _]) (by first | assumption | rfl) Try.underlying62 (by first | assumption | rfl) inf62.size t_cells) t_lt ?_ | refine adr_val rfl rfl (av_loadN (cs := [_, _, _, _, _]) (by first | assumption | rfl) Try.underlying62 (by first | assumption | rfl) inf62.size t_cells) t_lt ?_
          first | refine adr_val rfl rfl (av_move_int (by first | assumption | rfl)) t_lt ?_ | refine adr_val rfl rfl (av_move (by first | assumption | rfl)) t_lt ?_
          refine adr_val rfl rfl (av_fieldOff (off := 1) (by first | assumption | rfl) Try.underlying28 (by first | assumption | rfl) inf3.size (by decide) (by first | assumption | rfl)) t_lt ?_
          refine adr_val rfl rfl (av_load1 rfl Try.underlying3 rfl t_cell) t_lt ?_
          refine adr_op rfl rfl (aop_call (at_forest f _ _ _ (kForest.mono le7T.sees hfo7) (by omega)) rfl Try.func108 rfl rfl rfl ?_)
          rintro v5 HT ⟨rfl, rfl⟩; rw [hq1]
          refine ⟨t_pend, ?_⟩
          refine adr_val rfl rfl (av_indexAddr rfl rfl Try.underlying29 inf3.size t_idx t_idx) t_lt ?_
          refine adr_val rfl rfl (av_load1 rfl Try.underlying3 rfl t_cell) t_lt ?_
          refine adr_val rfl rfl (av_eq rfl rfl) t_lt ?_
          first | refine adr_val rfl rfl (av_move_bool rfl) t_lt ?_ | refine adr_val rfl rfl (av_move rfl) t_lt ?_
          refine adr_guard rfl rfl rfl rfl ?_ ?_
          · intro hg7
            have hyes1 : nodeAt f r v = y.b := by rw [hna]; exact of_decide_eq_true hg7
            first | refine adr_wval rfl (want_yes rfl rfl rfl hg7) rfl (av_move_sl (by first | assumption | rfl)) t_lt ?_ | refine adr_wval rfl (want_yes rfl rfl rfl hg7) rfl (av_move (by first | assumption | rfl)) t_lt ?_
            first | refine adr_wval rfl (want_yes rfl rfl rfl hg7) rfl (av_move_int (by first | assumption | rfl)) t_lt ?_ | refine adr_wval rfl (want_yes rfl rfl rfl hg7) rfl (av_move (by first | assumption | rfl)) t_lt ?_
            refine adr_wval rfl (want_yes rfl rfl rfl hg7) rfl (av_indexAddr rfl rfl Try.underlying74 inf152.size t_idx t_idx) t_lt ?_
            refine adr_wval rfl (want_yes rfl rfl rfl hg7) rfl (av_fieldOff (off := 0) rfl Try.underlying152 rfl inf29.size (by decide) rfl) t_lt ?_
            refine adr_wval rfl (want_yes rfl rfl rfl hg7) rfl (av_load1 rfl Try.underlying29 rfl t_cell) t_lt ?_
            first | refine adr_wval rfl (want_yes rfl rfl rfl hg7) rfl (av_loadN (cs := [.slice _ _ _, .slice _ _ _, .slice _ _ _, .slice _ _ _, .slice _ _ _]) (by first | assumption | rfl) Try.underlying62 (by first | assumption | rfl) inf62.size t_cells) t_lt ?_ | refine adr_wval rfl (want_yes rfl rfl rfl hg7) rfl (av_loadN (cs := [_, _, _, _, _]) (by first | assumption | rfl) Try.underlying62 (by first | assumption | rfl) inf62.size t_cells) t_lt ?_
            refine adr_wval rfl (want_yes rfl rfl rfl hg7) rfl (av_fieldOff (off := 2) (by first | assumption | rfl) Try.underlying62 (by first | assumption | rfl) inf29.size (by decide) (by first | assumption | rfl)) t_lt ?_
            refine adr_wval rfl (want_yes rfl rfl rfl hg7) rfl (av_load1 rfl Try.underlying29 rfl t_cell) t_lt ?_
            first | refine adr_wval rfl (want_yes rfl rfl rfl hg7) rfl (av_move_int (by first | assumption | rfl)) t_lt ?_ | refine adr_wval rfl (want_yes rfl rfl rfl hg7) rfl (av_move (by first | assumption | rfl)) t_lt ?_
            refine adr_wval rfl (want_yes rfl rfl rfl hg7) rfl (av_indexAddr rfl rfl Try.underlying29 inf3.size t_idx t_idx) t_lt ?_
            refine adr_wval rfl (want_yes rfl rfl rfl hg7) rfl (av_load1 rfl Try.underlying3 rfl t_cell) t_lt ?_
            refine adr_wval rfl (want_yes rfl rfl rfl hg7) rfl (av_fieldOff (off := 0) (by first | assumption | rfl) Try.underlying28 (by first | assumption | rfl) inf3.size (by decide) (by first | assumption | rfl)) t_lt ?_
            refine adr_wval rfl (want_yes rfl rfl rfl hg7) rfl (av_load1 rfl Try.underlying3 rfl t_cell) t_lt ?_
            refine adr_wop rfl (want_yes rfl rfl rfl hg7) rfl (aop_call (at_forest f _ _ _ (kForest.mono le7T.sees hfo7) (by omega)) rfl Try.func108 rfl rfl rfl ?_)
            rintro v6 HT ⟨rfl, rfl⟩; rw [hq1']
            refine ⟨t_pend, ?_⟩
            refine adr_wval rfl (want_yes rfl rfl rfl hg7) rfl (av_indexAddr rfl rfl Try.underlying29 inf3.size t_idx t_idx) t_lt ?_
            refine adr_wval rfl (want_yes rfl rfl rfl hg7) rfl (av_load1 rfl Try.underlying3 rfl t_cell) t_lt ?_
            refine adr_wval rfl (want_yes rfl rfl rfl hg7) rfl (av_eq rfl rfl) t_lt ?_
            refine adr_val rfl rfl (av_pick_bool (congrArg Value.bool hg7) rfl) t_lt ?_
            refine ac_split rfl rfl ?_ ?_
            · intro hc8
              have hyes2 : nodeAt f r (par f v) = y.a := by rw [hnu]; exact of_decide_eq_true hc8
              have hin : linkIn f (rowsP f p) v y = true := List.any_eq_true.2 ⟨r, by rw [hr]; exact List.getElem_mem hkx, by rw [decide_eq_true hyes1, decide_eq_true hyes2]; rfl⟩
              rw [if_pos hin] at hnextl
              refine ac_seq ?_
              refine ac_region (by kernel_rfl) ?_
              first | refine aops_val (av_move_sl (by first | assumption | rfl)) ?_ | refine aops_val (av_move (by first | assumption | rfl)) ?_
              refine aops_val (av_loadN (cs := [.int .i64 _, .int .i64 _, .int .i64 _, .int .u64 _]) (by first | assumption | rfl) Try.underlying28 (by first | assumption | rfl) inf28.size t_cells) ?_
              first | refine aops_make (am_buildSlice (r := [.int .i64 _, .int .i64 _, .int .i64 _, .int .u64 _]) Try.underlying22 inf28.size inf28.zero rfl (by decide) (by decide) (by decide) rfl) ?_
              refine aops_op (OwnP.append (ys := [y]) (hownT.push _) Try.underlying22 inf28 rfl rfl rfl (sl_one (k := kLink) rfl rfl hownT.size rfl) (by simp only [List.length_singleton]; omega) (by simp only [List.length_singleton]; omega) ?_)
              rintro v6 G6 H6' hle6 hown6
              rw [← hnextl] at hown6
              obtain ⟨B', c', e6'⟩ := hown6.shape
              subst e6'
              first | refine aops_val (av_assign_sl rfl) ?_ | refine aops_val (av_assign rfl) ?_
              refine ac_exit ?_
              refine ac_region (by kernel_rfl) ?_
              first | refine aops_val (av_move_int (by first | assumption | rfl)) ?_ | refine aops_val (av_move (by first | assumption | rfl)) ?_
              first | refine aops_val (av_add64 rfl rfl t_fits) ?_ | refine aops_val (av_add rfl rfl) ?_
              first | refine aops_val (av_assign_int rfl) ?_ | refine aops_val (av_assign rfl) ?_
              first
                | exact ⟨(lk p v).length - (j + 1), by omega, j + 1, G6, B', c', by omega, rfl, Hp.le_trans (Hp.le_push' hleT _) hle6, hown6, e2, e3, e4, e5, e6, e7, e8, rfl, rfl⟩
                | (have hk2 : (rowsP f p).take k = rowsP f p := List.take_of_length_le (by omega)
                   rw [hk2] at hno
                   have hnin : ¬ linkIn f (rowsP f p) v y = true := fun h => by
                     obtain ⟨z, hz, hz2⟩ := List.any_eq_true.1 h
                     rw [hno z hz] at hz2; cases hz2
                   rw [if_neg hnin, List.append_nil] at hnextl
                   exact ⟨(lk p v).length - (j + 1), by omega, j + 1, GT, B9, c9, by omega, rfl, hleT, by rw [hnextl]; exact hownT, e2, e3, e4, e5, e6, e7, e8, by rw [hnextl]; exact e9, rfl⟩)
            · intro hc8
              have hnot : (decide (nodeAt f r v = y.b) && decide (nodeAt f r (par f v) = y.a)) = false := by rw [hnu, hc8, Bool.and_false]
              refine ac_skip ?_
              refine ac_region (by kernel_rfl) ?_
              first | refine aops_val (av_move_int (by first | assumption | rfl)) ?_ | refine aops_val (av_move (by first | assumption | rfl)) ?_
              first | refine aops_val (av_add64 rfl rfl t_fits) ?_ | refine aops_val (av_add rfl rfl) ?_
              first | refine aops_val (av_assign_int rfl) ?_ | refine aops_val (av_assign rfl) ?_
              refine ⟨(rowsP f p).length - (k + 1), by omega, k + 1, by omega, rfl, rfl, fun z hz => ?_, e2, e3, e4, e5, e6, e7, e8, e9, e12, e13, rfl⟩
              rw [List.take_succ_eq_append_getElem hkx] at hz
              rcases List.mem_append.1 hz with hz | hz
              · exact hno z hz
              · rw [List.mem_singleton.1 hz, ← hr]; exact hnot
          · intro hg7
            have hnot : (decide (nodeAt f r v = y.b) && decide (nodeAt f r (par f v) = y.a)) = false := by rw [hna, hg7]; rfl
            refine adr_skip rfl (want_no rfl rfl rfl hg7 rfl) ?_
            refine adr_skip rfl (want_no rfl rfl rfl hg7 rfl) ?_
            refine adr_skip rfl (want_no rfl rfl rfl hg7 rfl) ?_
            refine adr_skip rfl (want_no rfl rfl rfl hg7 rfl) ?_
            refine adr_skip rfl (want_no rfl rfl rfl hg7 rfl) ?_
            refine adr_skip rfl (want_no rfl rfl rfl hg7 rfl) ?_
            refine adr_skip rfl (want_no rfl rfl rfl hg7 rfl) ?_
            refine adr_skip rfl (want_no rfl rfl rfl hg7 rfl) ?_
            refine adr_skip rfl (want_no rfl rfl rfl hg7 rfl) ?_
            refine adr_skip rfl (want_no rfl rfl rfl hg7 rfl) ?_
            refine adr_skip rfl (want_no rfl rfl rfl hg7 rfl) ?_
            refine adr_skip rfl (want_no rfl rfl rfl hg7 rfl) ?_
            refine adr_skip rfl (want_no rfl rfl rfl hg7 rfl) ?_
            refine adr_skip rfl (want_no rfl rfl rfl hg7 rfl) ?_
            refine adr_skip rfl (want_no rfl rfl rfl hg7 rfl) ?_
            refine adr_skip rfl (want_no rfl rfl rfl hg7 rfl) ?_
            refine adr_skip rfl (want_no rfl rfl rfl hg7 rfl) ?_
            refine adr_val rfl rfl (av_pick_bool (congrArg Value.bool hg7) (by first | assumption | rfl)) t_lt ?_
            refine ac_cond_false rfl rfl ?_
            refine ac_skip ?_
            refine ac_region (by kernel_rfl) ?_
            first | refine aops_val (av_move_int (by first | assumption | rfl)) ?_ | refine aops_val (av_move (by first | assumption | rfl)) ?_
            first | refine aops_val (av_add64 rfl rfl t_fits) ?_ | refine aops_val (av_add rfl rfl) ?_
            first | refine aops_val (av_assign_int rfl) ?_ | refine aops_val (av_assign rfl) ?_
            refine ⟨(rowsP f p).length - (k + 1), by omega, k + 1, by omega, rfl, rfl, fun z hz => ?_, e2, e3, e4, e5, e6, e7, e8, e9, e12, e13, rfl⟩
            rw [List.take_succ_eq_append_getElem hkx] at hz
            rcases List.mem_append.1 hz with hz | hz
            · exact hno z hz
            · rw [List.mem_singleton.1 hz, ← hr]; exact hnot
        · intro hc6
          (try simp only [decide_eq_true_eq, decide_eq_false_iff_not, Bool.not_eq_true', Bool.not_eq_false'] at hc6)
          refine ac_exit ?_
          refine ac_region (by kernel_rfl) ?_
          first | refine aops_val (av_move_int (by first | assumption | rfl)) ?_ | refine aops_val (av_move (by first | assumption | rfl)) ?_
          first | refine aops_val (av_add64 rfl rfl t_fits) ?_ | refine aops_val (av_add rfl rfl) ?_
          first | refine aops_val (av_assign_int rfl) ?_ | refine aops_val (av_assign rfl) ?_
          first
            | exact ⟨(lk p v).length - (j + 1), by omega, j + 1, G6, B', c', by omega, rfl, Hp.le_trans (Hp.le_push' hleT _) hle6, hown6, e2, e3, e4, e5, e6, e7, e8, rfl, rfl⟩
            | (have hk2 : (rowsP f p).take k = rowsP f p := List.take_of_length_le (by omega)
               rw [hk2] at hno
               have hnin : ¬ linkIn f (rowsP f p) v y = true := fun h => by
                 obtain ⟨z, hz, hz2⟩ := List.any_eq_true.1 h
                 rw [hno z hz] at hz2; cases hz2
               rw [if_neg hnin, List.append_nil] at hnextl
               exact ⟨(lk p v).length - (j + 1), by omega, j + 1, GT, B9, c9, by omega, rfl, hleT, by rw [hnextl]; exact hownT, e2, e3, e4, e5, e6, e7, e8, by rw [hnextl]; exact e9, rfl⟩)
      · intro hc5
        (try simp only [decide_eq_true_eq, decide_eq_false_iff_not, Bool.not_eq_true', Bool.not_eq_false'] at hc5)
        refine ac_exit ?_
        have hlfull : (((lk p v).take j).filter (linkIn f (rowsP f p) v)) = ofLinks f p (rowsP f p) v := by rw [List.take_of_length_le (by omega)]; rfl
        rw [hlfull] at hown9 e9
        have hsl9 := hown9.sl
        have hsn9 : Sl kLink H9 (.slice B (ofNodes f p (rowsP f p) v).length c8) (ofNodes f p (rowsP f p) v) := hnK.mono (Hp.le_trans hle9 hown9.le).sees
        obtain ⟨G1, hle1, hpp9⟩ := hpp7.after le79
        have hs1' := hle1.1
        have hzz9 := hpp9.size
        have kg51 := le_got hle1 (by omega) (by intro e; cases e) kg5
        have hg59 := le_got hpp9.le (by omega) (by intro e; cases e) kg51
        obtain ⟨Gm, hL0, hN0⟩ := hpp9.swap
        have hzm := hN0.size
        have hol := ofTo_len f p (rowsP f p) v
        have kgm5 := le_got hL0.le (by omega) (by intro e; cases e) kg51
        have hnm := hN0.under plain_link (by decide) hsn9
        have hlm := hN0.under plain_link (by decide) hsl9
        refine ac_draw (by kernel_rfl) (reg_of (B := [0, 1, 0, 4, 15, 0, 32, 0, 128, 511, 127, 2047, 4095, 8191]) (π := [0, 1, 2, 3, 5, 6, 7, 8, 4, 10, 9, 11, 12, 13]) (by kernel_rfl)) ?_
        refine adr_val rfl rfl (av_fieldOff (off := 0) (by first | assumption | rfl) Try.underlying65 (by first | assumption | rfl) inf63.size (by decide) (by first | assumption | rfl)) t_lt ?_
        refine adr_val rfl rfl (av_load1 rfl Try.underlying63 rfl t_cell) t_lt ?_
        first | refine adr_val rfl rfl (av_move_sl (by first | assumption | rfl)) t_lt ?_ | refine adr_val rfl rfl (av_move (by first | assumption | rfl)) t_lt ?_
        first | refine adr_make rfl rfl (am_buildSlice (r := [.slice _ _ _]) Try.underlying63 inf22.size inf22.zero rfl (by decide) (by decide) (by decide) rfl) ?_ | refine adr_make rfl rfl (am_buildSlice (r := [_]) Try.underlying63 inf22.size inf22.zero rfl (by decide) (by decide) (by decide) rfl) ?_
        refine adr_val rfl rfl (av_fieldOff (off := 1) (by first | assumption | rfl) Try.underlying65 (by first | assumption | rfl) inf63.size (by decide) (by first | assumption | rfl)) t_lt ?_
        refine adr_val rfl rfl (av_load1 rfl Try.underlying63 rfl t_cell) t_lt ?_
        first | refine adr_val rfl rfl (av_move_sl (by first | assumption | rfl)) t_lt ?_ | refine adr_val rfl rfl (av_move (by first | assumption | rfl)) t_lt ?_
        first | refine adr_make rfl rfl (am_buildSlice (r := [.slice _ _ _]) Try.underlying63 inf22.size inf22.zero rfl (by decide) (by decide) (by decide) rfl) ?_ | refine adr_make rfl rfl (am_buildSlice (r := [_]) Try.underlying63 inf22.size inf22.zero rfl (by decide) (by decide) (by decide) rfl) ?_
        have hNp := (hN0.push (.own 1 [.slice B (ofNodes f p (rowsP f p) v).length c8])).push (.own 1 [.slice B9 (ofLinks f p (rowsP f p) v).length c9])
        refine adr_op rfl rfl (OwnP.append (ys := [ofNodes f p (rowsP f p) v]) hNp Try.underlying63 inf22 rfl rfl rfl (sl_lit1 (k := kSl kLink) (b := H9.size) (u := .slice B (ofNodes f p (rowsP f p) v).length c8) (show ((Gm.push (.own 1 [.slice B (ofNodes f p (rowsP f p) v).length c8])).push (.own 1 [.slice B9 (ofLinks f p (rowsP f p) v).length c9])).get H9.size = .own 1 [.slice B (ofNodes f p (rowsP f p) v).length c8] by rw [hzm, Hp.push_old _ _ (by simp)]; exact Hp.push_new _ _) (by simp <;> omega) ⟨_, rfl, hnm.mono (Hp.le_push' (Gm.le_push _) _).sees⟩ rfl) (by rw [hol.1]; simp only [List.length_singleton]; omega) (by rw [hol.1]; simp only [List.length_singleton]; omega) ?_)
        rintro v6 G6 H6' hle6 hown6
        have hsameO := OwnP.sameO hNp hle6 hown6
        obtain ⟨A6, c6, e6'⟩ := hown6.shape
        rw [List.length_append, hol.1, List.length_singleton] at e6'
        subst e6'
        rw [← ofTo_nodes] at hown6
        have leM6 := Hp.le_trans (Hp.le_push' (Gm.le_push (.own 1 [.slice B (ofNodes f p (rowsP f p) v).length c8])) (.own 1 [.slice B9 (ofLinks f p (rowsP f p) v).length c9])) hle6
        obtain ⟨G2, hle2, hL2, _⟩ := hL0.after leM6
        have hpp6 : PartsP G2 H6' (.slice AL v cL) (.slice A6 (v + 1) c6) _ _ := ⟨G6, hL2, hown6⟩
        have z6 := hle6.1
        simp only [Hp.push_size] at z6
        have zz6 := hown6.size
        have g6l : G6.get (H9.size + 1) = .own 1 [.slice B9 (ofLinks f p (rowsP f p) v).length c9] := le_got hle6 (by simp <;> omega) (by intro e; cases e) (by rw [show H9.size + 1 = (Gm.push (.own 1 [.slice B (ofNodes f p (rowsP f p) v).length c8])).size by simp; omega]; exact Hp.push_new _ _)
        have h6l := le_got hown6.le (by omega) (by intro e; cases e) g6l
        have kg52 := le_got hle2 (by omega) (by intro e; cases e) kg51
        have s12 := hle2.1
        have hsame : ∀ b ∈ [H9.size + 1], H6'.get b = ((H9.push (.own 1 [.slice B (ofNodes f p (rowsP f p) v).length c8])).push (.own 1 [.slice B9 (ofLinks f p (rowsP f p) v).length c9])).get b := fun b hb => by rw [List.mem_singleton] at hb; subst hb; exact hsameO _ 1 [.slice B9 (ofLinks f p (rowsP f p) v).length c9] (by simp; omega) (by rw [show H9.size + 1 = (Gm.push (.own 1 [.slice B (ofNodes f p (rowsP f p) v).length c8])).size by simp; omega]; exact Hp.push_new _ _)
        have hsame2 : ∀ b ∈ [H9.size], H6'.get b = ((H9.push (.own 1 [.slice B (ofNodes f p (rowsP f p) v).length c8])).push (.own 1 [.slice B9 (ofLinks f p (rowsP f p) v).length c9])).get b := fun b hb => by rw [List.mem_singleton] at hb; subst hb; exact hsameO _ 1 [.slice B (ofNodes f p (rowsP f p) v).length c8] (by simp <;> omega) (by rw [hzm, Hp.push_old _ _ (by simp)]; exact Hp.push_new _ _)
        refine ⟨t_pend, ?_⟩
        clear hsameO hsame hsame2
        refine adr_val rfl rfl (av_fieldOff (off := 0) (by first | assumption | rfl) Try.underlying65 (by first | assumption | rfl) inf63.size (by decide) (by first | assumption | rfl)) t_lt ?_
        obtain ⟨Gn, hN2, hL3⟩ := hpp6.swap
        have zn := hL3.size
        have zn2 := hN2.size
        have gnl : Gn.get (H9.size + 1) = .own 1 [.slice B9 (ofLinks f p (rowsP f p) v).length c9] := by rw [OwnP.get_new hL0 hL3 (by omega)]; exact h6l
        have kgn5 := le_got hN2.le (by omega) (by intro e; cases e) kg52
        have hln := hL3.under plain_link (by decide) ((hlm.mono leM6.sees).mono hown6.le.sees)
        refine adr_op rfl rfl (OwnP.append (ys := [ofLinks f p (rowsP f p) v]) hL3 Try.underlying63 inf22 rfl rfl rfl (sl_lit1 (k := kSl kLink) (b := H9.size + 1) gnl (by omega) ⟨_, rfl, hln⟩ rfl) (by rw [hol.2]; simp only [List.length_singleton]; omega) (by rw [hol.2]; simp only [List.length_singleton]; omega) ?_)
        rintro v8 G8' H8' hle8' hown8'
        have hsameO := OwnP.sameO hL3 hle8' hown8'
        obtain ⟨A8, c8', e8'⟩ := hown8'.shape
        rw [List.length_append, hol.2, List.length_singleton] at e8'
        subst e8'
        rw [← ofTo_links] at hown8'
        obtain ⟨G3, hle3, hN3, _⟩ := hN2.after hle8'
        have hpp8 : PartsP G3 H8' (.slice A6 (v + 1) c6) (.slice A8 (v + 1) c8') _ _ := ⟨G8', hN3, hown8'⟩
        have s13 := hle3.1
        have zz8 := hpp8.size
        have kg53 := le_got hle3 (by omega) (by intro e; cases e) kg52
        have hg58 := le_got hpp8.le (by omega) (by intro e; cases e) kg53
        have leG3 := Hp.le_trans hle1 (Hp.le_trans hle2 hle3)
        have kg03 := le_got leG3 (by omega) (by intro e; cases e) kg0
        have kg13 := le_got leG3 (by omega) (by intro e; cases e) kg1
        have kg23 := le_got leG3 (by omega) (by intro e; cases e) kg2
        refine ⟨t_pend, ?_⟩
        clear hsameO
        first | refine adr_op rfl rfl (aop_put1 rfl rfl rfl inf63.size t_get t_room rfl ?_)
        refine ⟨t_pend, ?_⟩
        refine adr_val rfl rfl (av_fieldOff (off := 1) (by first | assumption | rfl) Try.underlying65 (by first | assumption | rfl) inf63.size (by decide) (by first | assumption | rfl)) t_lt ?_
        first | refine adr_op rfl rfl (aop_put1 rfl rfl rfl inf63.size t_get t_room rfl ?_)
        refine ⟨t_pend, ?_⟩
        refine ac_region (by kernel_rfl) ?_
        first | refine aops_val (av_move_int (by first | assumption | rfl)) ?_ | refine aops_val (av_move (by first | assumption | rfl)) ?_
        first | refine aops_val (av_add64 rfl rfl t_fits) ?_ | refine aops_val (av_add rfl rfl) ?_
        first | refine aops_val (av_assign_int rfl) ?_ | refine aops_val (av_assign rfl) ?_
        exact ⟨f.vars.length - (v + 1), by omega, v + 1, (G3.put H5.size (.own 0 [.slice A6 (v + 1) c6, .slice AL v cL])).put H5.size (.own 0 [.slice A6 (v + 1) c6, .slice A8 (v + 1) c8']), A6, A8, c6, c8', by omega, rfl, Hp.le_put_new (Hp.le_put_new (Hp.le_trans leG7 leG3) (by omega) _) (by omega) _, ((hles7.trans leG3.les).box kg53 _).box (Hp.put_same _ _ _) _, by rw [Hp.put_other _ _ (by omega), Hp.put_other _ _ (by omega)]; exact kg03, by rw [Hp.put_other _ _ (by omega), Hp.put_other _ _ (by omega)]; exact kg13, by rw [Hp.put_other _ _ (by omega), Hp.put_other _ _ (by omega)]; exact kg23, Hp.put_same _ _ _, (hpp8.box_put (by omega) kg53 _).box_put (by simp; omega) (Hp.put_same _ _ _) _, e2, e3, e4, e5, e6, rfl⟩
  · intro hc1
    (try simp only [decide_eq_true_eq, decide_eq_false_iff_not, Bool.not_eq_true', Bool.not_eq_false'] at hc1)
    refine ac_exit ?_
    refine ac_seq ?_
    refine ac_region (by kernel_rfl) ?_
    first | refine aops_val (av_loadN (cs := [.slice _ _ _, .slice _ _ _]) (by first | assumption | rfl) Try.underlying65 (by first | assumption | rfl) inf65.size t_cells) ?_ | refine aops_val (av_loadN (cs := [_, _]) (by first | assumption | rfl) Try.underlying65 (by first | assumption | rfl) inf65.size t_cells) ?_
    first | refine aops_op (aop_putN (vs := [.slice _ _ _, .slice _ _ _]) (by first | assumption | rfl) (by first | assumption | rfl) inf65.size t_get t_room (by first | assumption | rfl) (by first | assumption | rfl) ?_) | refine aops_op (aop_putN (vs := [_, _]) (by first | assumption | rfl) (by first | assumption | rfl) inf65.size t_get t_room (by first | assumption | rfl) (by first | assumption | rfl) ?_)
    refine ac_ret ?_
    have hvn' : v = f.vars.length := by omega
    subst hvn'
    exact ⟨_, aresult1 (ares_cell (by first | assumption | rfl) (aload_agg (cs := [_, _]) Try.underlying65 rfl inf65.size t_cells)), _, _, _, Hp.le_put_new leG7 (by omega) _, rfl, hpp7.box_put (by omega) kg2 _⟩
end Go.Proofs.Ytnkjikpmgeknbaa.Am
