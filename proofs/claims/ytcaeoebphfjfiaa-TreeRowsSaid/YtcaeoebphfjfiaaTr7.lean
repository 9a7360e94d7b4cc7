/- Texts that the proof rests on, part 7: lemmas for every heap that is related to a world, no condition beyond each lemma's own. -/
import Derived.Test.YtcaeoebphfjfiaaTr6
import Derived.Test.YtcaeoebphfjfiaaTr1
import Derived.Test.YtcaeoebphfjfiaaTrRow

/- The statement TreeRows, as the abstract machine runs it. -/
namespace Go.Proofs.Ytcaeoebphfjfiaa.Am
open Go Go.RowKit
set_option maxRecDepth 100000
set_option linter.unusedVariables false
set_option linter.unusedSimpArgs false

theorem cheap_few {f : Forest} {p : Parts} (hg : GoodP f.few p.few4) : Cheap p.few4 := by
  have getn : ∀ v, ∀ x ∈ nd p.few4 v, v < f.few.vars.length := fun v x hx => by
    rcases Nat.lt_or_ge v f.few.vars.length with h | h
    · exact h
    · unfold nd at hx
      rw [List.getD_eq_getElem?_getD, List.getElem?_eq_none (by have := hg.n1; omega)] at hx; simp at hx
  have getl : ∀ v, ∀ x ∈ lk p.few4 v, v < f.few.vars.length := fun v x hx => by
    rcases Nat.lt_or_ge v f.few.vars.length with h | h
    · exact h
    · unfold lk at hx
      rw [List.getD_eq_getElem?_getD, List.getElem?_eq_none (by have := hg.n2; omega)] at hx; simp at hx
  refine ⟨fun v x hx => ?_, fun v x hx => ?_⟩
  · have hv := getn v x hx
    obtain ⟨k1, _⟩ := goodL_iff.1 (hg.ok v hv).1
    obtain ⟨a1, a2, a3, a4, a5, a6, a7⟩ := k1 x hx
    refine ⟨a5, ?_, by omega⟩
    have h : v < p.few4.nodes.length := by rw [hg.n1]; exact hv
    unfold nd at hx
    rw [getD_list h] at hx
    obtain ⟨l, hl, e⟩ := List.mem_map.1 (show p.few4.nodes[v] ∈ (p.few.nodes.map (·.take 4)) from List.getElem_mem h)
    rw [← e] at hx
    obtain ⟨l2, _, rfl⟩ := List.mem_map.1 hl
    exact fewL_cost (List.mem_of_mem_take hx)
  · have hv := getl v x hx
    obtain ⟨k1, _⟩ := goodL_iff.1 (hg.ok v hv).2.1
    obtain ⟨a1, a2, a3, a4, a5, a6, a7⟩ := k1 x hx
    refine ⟨a5, ?_, by omega⟩
    have h : v < p.few4.links.length := by rw [hg.n2]; exact hv
    unfold lk at hx
    rw [getD_list h] at hx
    obtain ⟨l, hl, e⟩ := List.mem_map.1 (show p.few4.links[v] ∈ ((p.links.take 8).map fewL) from List.getElem_mem h)
    rw [← e] at hx
    exact fewL_cost hx
theorem few_vars (f : Forest) : f.few.vars.length ≤ 8 := by
  show ((f.vars.take 8).map _).length ≤ 8
  rw [List.length_map, List.length_take]; omega
theorem anyr_next {α : Type} {ls : List α} {q : α → Bool} {j : Nat} (h : j < ls.length) : (ls.take (j + 1)).any q = ((ls.take j).any q || q ls[j]) := by
  rw [List.take_succ_eq_append_getElem h, List.any_append]; simp
def inGroup (i : Nat) (b u above : Int) (r : RowT) : Bool := decide (r.nodes.getD i 0 = b) && (decide (u < 0) || decide (r.nodes.getD u.toNat 0 = above))
set_option maxHeartbeats 8000000 in
theorem TreeRows_ok (f : Forest) (p : Parts) (ns : List Int) (cs ds : List Value) (vn : Value) (H : Hp) (hp : kForest.rep H f cs) (hq : kParts.rep H p ds) (hn : Sl (kInt .i64) H vn ns) (hbf : BigF f) (hbp : BigP p) (hbn : ns.length ≤ 9223372036854775807) :
    ACalls Try.prog 3 #[.agg cs.toArray, .agg ds.toArray, vn] H (fun r H' => r = .bool true ∧ H.le H') := by
  have hp0 := hp
  have hq0 := hq
  obtain ⟨v0, v1, v2, v3, v4, rfl, hs0, hs1, hs2, hs3, hs4⟩ := hp
  obtain ⟨A0, c0, rfl⟩ := hs0.shape
  obtain ⟨A1, c1, rfl⟩ := hs1.shape
  obtain ⟨A2, c2, rfl⟩ := hs2.shape
  obtain ⟨A3, c3, rfl⟩ := hs3.shape
  obtain ⟨A4, c4, rfl⟩ := hs4.shape
  obtain ⟨u0, u1, rfl, hn0, hn1⟩ := hq
  obtain ⟨B0, d0, rfl⟩ := hn0.shape
  obtain ⟨B1, d1, rfl⟩ := hn1.shape
  obtain ⟨An, cn, rfl⟩ := hn.shape
  have hsm := small_few f p
  have hbq := bigP_few p
  have hbg := bigF_few f
  have hpp := few4_few4 p
  have hff := ffew_ffew f
  have htn : GoodP f.few p.few4 → f.few.vars.length < 6 → Tiny f.few p.few4 := tiny_few
  have hch : GoodP f.few p.few4 → Cheap p.few4 := cheap_few
  have hvar := few_vars f
  obtain ⟨F, hF⟩ : ∃ F, F = f.few := ⟨_, rfl⟩
  obtain ⟨Q, hQ⟩ : ∃ Q, Q = p.few4 := ⟨_, rfl⟩
  obtain ⟨N, hN⟩ : ∃ N, N = ns.take 8 := ⟨_, rfl⟩
  have hNl : N.length ≤ 8 := by rw [hN, List.length_take]; omega
  have hNN : N.take 8 = N := List.take_of_length_le hNl
  rw [← hF, ← hQ] at hsm htn hch
  rw [← hQ] at hpp hbq
  rw [← hF] at hff hbg hvar
  refine acalls_of_code Try.func3 rfl rfl rfl (by simp) ?_
  refine ac_seq ?_
  refine ac_region (by kernel_rfl) ?_
  refine aops_make (am_box_agg rfl) ?_
  refine aops_make (am_box_agg rfl) ?_
  first | refine aops_val (av_assign_bool rfl) ?_ | refine aops_val (av_assign rfl) ?_
  refine ac_seq ?_
  refine ac_draw (by kernel_rfl) (reg_of (B := [0, 1, 0, 7, 0, 31, 63, 127, 255]) (π := [0, 2, 4, 1, 3, 5, 6, 7, 8]) (by kernel_rfl)) ?_
  first | refine adr_val rfl rfl (av_loadN (cs := [.slice _ _ _, .slice _ _ _, .slice _ _ _, .slice _ _ _, .slice _ _ _]) rfl Try.underlying26 rfl inf26.size t_cells) t_lt ?_ | refine adr_val rfl rfl (av_loadN (cs := [_, _, _, _, _]) rfl Try.underlying26 rfl inf26.size t_cells) t_lt ?_
  first | refine adr_val rfl rfl (av_loadN (cs := [.slice _ _ _, .slice _ _ _]) rfl Try.underlying29 rfl inf29.size t_cells) t_lt ?_ | refine adr_val rfl rfl (av_loadN (cs := [_, _]) rfl Try.underlying29 rfl inf29.size t_cells) t_lt ?_
  first | refine adr_val rfl rfl (av_move_sl rfl) t_lt ?_ | refine adr_val rfl rfl (av_move rfl) t_lt ?_
  refine adr_op rfl rfl (aop_call (Forest_28 f _ _ (kForest.mono t_sees hp0) hbf) rfl Try.func8 rfl rfl rfl ?_)
  rintro v5 H5 ⟨hle5, es, rfl, hes⟩; rw [← hF] at hes; have hf5 := hes; obtain ⟨a0, a1, a2, a3, a4, rfl, ht0, ht1, ht2, ht3, ht4⟩ := hes; obtain ⟨C0, k0, rfl⟩ := ht0.shape; obtain ⟨C1, k1, rfl⟩ := ht1.shape; obtain ⟨C2, k2, rfl⟩ := ht2.shape; obtain ⟨C3, k3, rfl⟩ := ht3.shape; obtain ⟨C4, k4, rfl⟩ := ht4.shape; have hz5 := hle5.1; simp only [Hp.push_size] at hz5
  refine ⟨t_pend, ?_⟩
  refine adr_op rfl rfl (aop_call (Few4_parts p _ _ (kParts.mono t_sees hq0) hbp.l0 hbp.l1 hbp.s0 hbp.s1) rfl Try.func9 rfl rfl rfl ?_)
  rintro v6 H6 ⟨hle6, es, rfl, hes⟩; rw [← hQ] at hes; have hq6 := hes; obtain ⟨b0, b1, rfl, hm0, hm1⟩ := hes; obtain ⟨D0, m0, rfl⟩ := hm0.shape; obtain ⟨D1, m1, rfl⟩ := hm1.shape; have hz6 := hle6.1; have hf6 := kForest.mono hle6.sees hf5
  refine ⟨t_pend, ?_⟩
  refine adr_op rfl rfl (aop_call (Few_ints ns _ 8 _ (hn.mono t_sees) hbn (by omega) (by omega)) rfl Try.func10 rfl rfl rfl ?_)
  rintro v7 H7 ⟨hle7, hs7⟩; change Sl (kInt .i64) H7 v7 (ns.take 8) at hs7; rw [← hN] at hs7; obtain ⟨E0, n0, rfl⟩ := hs7.shape; have hz7 := hle7.1; have hf7 := kForest.mono hle7.sees hf6; have hq7 := kParts.mono hle7.sees hq6; have h70 : H7.get H.size = .own 0 [.slice A0 f.vars.length c0, .slice A1 f.order.length c1, .slice A2 f.parent.length c2, .slice A3 f.links.length c3, .slice A4 f.loops.length c4] := le_got (Hp.le_trans hle5 (Hp.le_trans hle6 hle7)) (by simp <;> omega) (by intro e; cases e) t_get; have h71 : H7.get (H.size + 1) = .own 0 [.slice B0 p.nodes.length d0, .slice B1 p.links.length d1] := le_got (Hp.le_trans hle5 (Hp.le_trans hle6 hle7)) (by simp <;> omega) (by intro e; cases e) t_get
  refine ⟨t_pend, ?_⟩
  first | refine adr_op rfl rfl (aop_putN (vs := [.slice _ _ _, .slice _ _ _, .slice _ _ _, .slice _ _ _, .slice _ _ _]) rfl rfl inf26.size t_get t_room rfl rfl ?_) | refine adr_op rfl rfl (aop_putN (vs := [_, _, _, _, _]) rfl rfl inf26.size t_get t_room rfl rfl ?_)
  refine ⟨t_pend, ?_⟩
  first | refine adr_op rfl rfl (aop_putN (vs := [.slice _ _ _, .slice _ _ _]) rfl rfl inf29.size t_get t_room rfl rfl ?_) | refine adr_op rfl rfl (aop_putN (vs := [_, _]) rfl rfl inf29.size t_get t_room rfl rfl ?_)
  refine ⟨t_pend, ?_⟩
  first | refine adr_val rfl rfl (av_assign_sl rfl) t_lt ?_ | refine adr_val rfl rfl (av_assign rfl) t_lt ?_
  refine ac_seq ?_
  obtain ⟨HA, hHA⟩ : ∃ HA, HA = (H7.put H.size (.own 0 [.slice C0 F.vars.length k0, .slice C1 F.order.length k1, .slice C2 F.parent.length k2, .slice C3 F.links.length k3, .slice C4 F.loops.length k4])).put (H.size + 1) (.own 0 [.slice D0 Q.nodes.length m0, .slice D1 Q.links.length m1]) := ⟨_, rfl⟩
  have g5 : H7.sees (H7.put H.size (.own 0 [.slice C0 F.vars.length k0, .slice C1 F.order.length k1, .slice C2 F.parent.length k2, .slice C3 F.links.length k3, .slice C4 F.loops.length k4])) := Hp.sees_box _ h70
  have g6 : (H7.put H.size (.own 0 [.slice C0 F.vars.length k0, .slice C1 F.order.length k1, .slice C2 F.parent.length k2, .slice C3 F.links.length k3, .slice C4 F.loops.length k4])).sees HA := by rw [hHA]; exact Hp.sees_box _ (by rw [Hp.put_other _ _ (by omega)]; exact h71)
  have fA := kForest.mono (g5.trans g6) hf7
  have qA := kParts.mono (g5.trans g6) hq7
  have nA := hs7.mono (g5.trans g6)
  have leA : H.le HA := by rw [hHA]; exact Hp.le_put_new (Hp.le_put_new (Hp.le_trans (Hp.le_trans (Hp.le_push' (H.le_push _) _) hle5) (Hp.le_trans hle6 hle7)) (by omega) _) (by omega) _
  have zA : H.size + 2 ≤ HA.size := by rw [hHA]; simp; omega
  have A0' : HA.get H.size = .own 0 [.slice C0 F.vars.length k0, .slice C1 F.order.length k1, .slice C2 F.parent.length k2, .slice C3 F.links.length k3, .slice C4 F.loops.length k4] := by rw [hHA, Hp.put_other _ _ (by omega)]; exact Hp.put_same _ _ _
  have A1' : HA.get (H.size + 1) = .own 0 [.slice D0 Q.nodes.length m0, .slice D1 Q.links.length m1] := by rw [hHA]; exact Hp.put_same _ _ _
  change ACode true _ _ _ _ _ ((H7.put H.size (.own 0 [.slice C0 F.vars.length k0, .slice C1 F.order.length k1, .slice C2 F.parent.length k2, .slice C3 F.links.length k3, .slice C4 F.loops.length k4])).put (H.size + 1) (.own 0 [.slice D0 Q.nodes.length m0, .slice D1 Q.links.length m1]))
  rw [← hHA]
  clear hHA g5 g6 h70 h71 hf7 hq7 hf6 hq6 hle5 hle6 hle7 hz5 hz6 hz7 hf5 hs7
  refine ac_draw (by kernel_rfl) (reg_of (B := [0, 1, 0, 7, 15, 31, 63, 63, 127, 511]) (π := [0, 2, 1, 3, 4, 5, 6, 7, 8, 9]) (by kernel_rfl)) ?_
  first | refine adr_val rfl rfl (av_loadN (cs := [.slice _ _ _, .slice _ _ _, .slice _ _ _, .slice _ _ _, .slice _ _ _]) rfl Try.underlying26 rfl inf26.size t_cells) t_lt ?_ | refine adr_val rfl rfl (av_loadN (cs := [_, _, _, _, _]) rfl Try.underlying26 rfl inf26.size t_cells) t_lt ?_
  first | refine adr_val rfl rfl (av_loadN (cs := [.slice _ _ _, .slice _ _ _]) rfl Try.underlying29 rfl inf29.size t_cells) t_lt ?_ | refine adr_val rfl rfl (av_loadN (cs := [_, _]) rfl Try.underlying29 rfl inf29.size t_cells) t_lt ?_
  refine adr_op rfl rfl (aop_call (Forest_28 F _ _ fA hbg) rfl Try.func8 rfl rfl rfl ?_)
  rintro v8 H8 ⟨hle8, es, rfl, hes⟩; rw [hff] at hes; have f8 := hes; obtain ⟨a5, a6, a7, a8, a9, rfl, hu0, hu1, hu2, hu3, hu4⟩ := hes; obtain ⟨E1, l1, rfl⟩ := hu0.shape; obtain ⟨E2, l2, rfl⟩ := hu1.shape; obtain ⟨E3, l3, rfl⟩ := hu2.shape; obtain ⟨E4, l4, rfl⟩ := hu3.shape; obtain ⟨E5, l5, rfl⟩ := hu4.shape
  refine ⟨t_pend, ?_⟩
  refine adr_op rfl rfl (aop_call (Few4_parts Q _ _ (kParts.mono hle8.sees qA) hbq.l0 hbq.l1 hbq.s0 hbq.s1) rfl Try.func9 rfl rfl rfl ?_)
  rintro v9 H9 ⟨hle9, es, rfl, hes⟩; rw [hpp] at hes; have q9 := hes; obtain ⟨b2, b3, rfl, hm2, hm3⟩ := hes; obtain ⟨D2, m2, rfl⟩ := hm2.shape; obtain ⟨D3, m3, rfl⟩ := hm3.shape
  refine ⟨t_pend, ?_⟩
  refine adr_op rfl rfl (aop_call (New_tree F Q _ _ _ (kForest.mono hle9.sees f8) q9 hsm hch) rfl Try.func11 rfl rfl rfl ?_)
  rintro v10 HB ⟨hle10, g, tv, hg, rfl, htv⟩
  refine ⟨t_pend, ?_⟩
  refine adr_val rfl rfl (av_move rfl) t_lt ?_
  refine adr_val rfl rfl (av_extract rfl rfl) t_lt ?_
  refine adr_val rfl rfl (av_extract rfl rfl) t_lt ?_
  first | refine adr_val rfl rfl (av_assign_ptr rfl) t_lt ?_ | refine adr_val rfl rfl (av_assign rfl) t_lt ?_
  first | refine adr_val rfl rfl (av_assign_int rfl) t_lt ?_ | refine adr_val rfl rfl (av_assign rfl) t_lt ?_
  refine ac_seq ?_
  refine ac_seq ?_
  have leAB := Hp.le_trans hle8 (Hp.le_trans hle9 hle10)
  have leB := Hp.le_trans leA leAB
  have zAB := leAB.1
  have fB := kForest.mono leAB.sees fA
  have qB := kParts.mono leAB.sees qA
  have nB := nA.mono leAB.sees
  have B0' := le_got leAB (by omega) (by intro e; cases e) A0'
  have B1' := le_got leAB (by omega) (by intro e; cases e) A1'
  clear hle8 hle9 hle10 f8 q9 hm2 hm3 hu0 hu1 hu2 hu3 hu4
  refine ac_region (by kernel_rfl) ?_
  first | refine aops_val (av_loadN (cs := [.slice _ _ _, .slice _ _ _, .slice _ _ _, .slice _ _ _, .slice _ _ _]) rfl Try.underlying26 rfl inf26.size t_cells) ?_ | refine aops_val (av_loadN (cs := [_, _, _, _, _]) rfl Try.underlying26 rfl inf26.size t_cells) ?_
  first | refine aops_val (av_loadN (cs := [.slice _ _ _, .slice _ _ _]) rfl Try.underlying29 rfl inf29.size t_cells) ?_ | refine aops_val (av_loadN (cs := [_, _]) rfl Try.underlying29 rfl inf29.size t_cells) ?_
  refine aops_op (aop_call (GoodP_ref F Q _ _ _ fB qB hsm) rfl Try.func12 rfl rfl rfl ?_)
  rintro v13 HB ⟨⟨g2, rfl, hg2⟩, rfl⟩
  refine aops_val (av_not rfl) ?_
  refine ac_split rfl rfl ?_ ?_
  · intro hc1
    obtain rfl : g2 = false := by simpa using hc1
    have hbad : ¬ GoodP F Q := fun h => by have := hg2.2 h; cases this
    obtain rfl : g = false := by cases g with | false => rfl | true => exact absurd (hg.1 rfl) hbad
    rw [if_neg (by decide)] at htv
    subst htv
    refine ac_seq ?_
    refine ac_region (by kernel_rfl) ?_
    first | refine aops_val (av_move_ptr rfl) ?_ | refine aops_val (av_move rfl) ?_
    refine aops_val (av_ptr_eq_nil rfl t_spot rfl Try.underlying33) ?_
    first | refine aops_val (av_move_bool rfl) ?_ | refine aops_val (av_move rfl) ?_
    refine aops_guard rfl rfl rfl ?_ ?_
    · intro hg2
      have hp2 := hg2; try simp only [decide_eq_true_eq, decide_eq_false_iff_not, Bool.not_eq_true', Bool.not_eq_false'] at hp2
      first | refine aops_wval (want_yes rfl rfl rfl hg2) (av_move_int rfl) ?_ | refine aops_wval (want_yes rfl rfl rfl hg2) (av_move rfl) ?_
      refine aops_wval (want_yes rfl rfl rfl hg2) (av_eq rfl rfl) ?_
      refine aops_val (av_pick_bool (congrArg Value.bool hg2) rfl) ?_
      first | refine aops_val (av_move_bool rfl) ?_ | refine aops_val (av_move rfl) ?_
      refine aops_guard rfl rfl rfl ?_ ?_
      · intro hg3
        have hp3 := hg3; try simp only [decide_eq_true_eq, decide_eq_false_iff_not, Bool.not_eq_true', Bool.not_eq_false'] at hp3
        refine aops_want (want_yes rfl rfl rfl hg3) (aop_call (lives29_ok _) rfl Try.func13 rfl rfl rfl ?_)
        rintro v H' ⟨rfl, hlv⟩
        refine aops_val (av_pick_bool (congrArg Value.bool hg3) rfl) ?_
        first | refine aops_val (av_assign_bool rfl) ?_ | refine aops_val (av_assign rfl) ?_
        refine ac_ret ?_
        exact ⟨.bool true, aresult1 (ares_tmp rfl), rfl, Hp.le_trans leB hlv⟩
      · intro hg3
        exact absurd hg3 (by decide)
    · intro hg2
      exact absurd hg2 (by decide)
  · intro hc1
    obtain rfl : g2 = true := by simpa using hc1
    have hG := hg2.1 rfl
    obtain rfl : g = true := hg.2 hG
    rw [if_pos rfl] at htv
    obtain ⟨tb, _, _, _, _, _, etv, _⟩ := id htv
    subst etv
    obtain ⟨k1', k2', k3', k4'⟩ := ofP_all hG
    have hX := ofP_good hG
    have hsx := small_sub hsm k1' k2'
    have hT := good_tree hX hsx ((hch hG).sub k2') (by omega)
    have hall := fun {i : Nat} (hi : i < F.vars.length) {above : Int} {l : Link} => group_row hG hi (above := above) (l := l)
    have hol : F.order.length = F.vars.length := hG.gf.l1
    obtain ⟨tl1, tl2, tl3⟩ := treeOf_len (f := F) (ofP F Q)
    obtain ⟨T, hTe⟩ : ∃ T, T = treeOf F (ofP F Q) := ⟨_, rfl⟩
    refine ac_skip ?_
    refine ac_seq ?_
    refine ac_seq ?_
    refine ac_region (by kernel_rfl) ?_
    first | refine aops_val (av_loadN (cs := [.slice _ _ _, .slice _ _ _, .slice _ _ _, .slice _ _ _, .slice _ _ _]) rfl Try.underlying26 rfl inf26.size t_cells) ?_ | refine aops_val (av_loadN (cs := [_, _, _, _, _]) rfl Try.underlying26 rfl inf26.size t_cells) ?_
    refine aops_op (aop_call (small29_forest F _ _ fB) rfl Try.func14 rfl rfl rfl ?_)
    rintro v17 HB ⟨rfl, rfl⟩
    refine aops_val (av_not rfl) ?_
    refine ac_split rfl rfl ?_ ?_
    · intro hc4
      (try simp only [decide_eq_true_eq, decide_eq_false_iff_not, Bool.not_eq_true', Bool.not_eq_false'] at hc4)
      refine ac_seq ?_
      refine ac_region (by kernel_rfl) ?_
      refine aops_op (aop_call (lives29_ok _) rfl Try.func13 rfl rfl rfl ?_)
      rintro v H' ⟨rfl, hlv⟩
      first | refine aops_val (av_assign_bool rfl) ?_ | refine aops_val (av_assign rfl) ?_
      refine ac_ret ?_
      exact ⟨.bool true, aresult1 (ares_tmp rfl), rfl, Hp.le_trans leB hlv⟩
    · intro hc4
      have hlt : F.vars.length < 6 := by simpa using hc4
      have ht := htn hG hlt
      have hrl : (rowsP F Q).length ≤ 1024 := Nat.le_trans (rowsK_len ht F.order.length) (Nat.pow_le_pow_right (by omega) (by omega : F.order.length ≤ 5))
      have hrn : ∀ r ∈ rowsP F Q, r.nodes.length = F.vars.length := fun r hr => by have := rows_len (f := F) (p := Q) F.order.length r hr; omega
      refine ac_skip ?_
      refine ac_seq ?_
      refine ac_region (by kernel_rfl) ?_
      first | refine aops_val (av_loadN (cs := [.slice _ _ _, .slice _ _ _, .slice _ _ _, .slice _ _ _, .slice _ _ _]) rfl Try.underlying26 rfl inf26.size t_cells) ?_ | refine aops_val (av_loadN (cs := [_, _, _, _, _]) rfl Try.underlying26 rfl inf26.size t_cells) ?_
      first | refine aops_val (av_loadN (cs := [.slice _ _ _, .slice _ _ _]) rfl Try.underlying29 rfl inf29.size t_cells) ?_ | refine aops_val (av_loadN (cs := [_, _]) rfl Try.underlying29 rfl inf29.size t_cells) ?_
      refine aops_op (aop_call (Rows_ref F Q _ _ _ fB qB hG hsm ht) rfl Try.func15 rfl rfl rfl ?_)
      rintro v18 H18 ⟨hle18, hr18⟩; obtain ⟨D8, m8, rfl⟩ := hr18.shape
      first | refine aops_val (av_assign_sl rfl) ?_ | refine aops_val (av_assign rfl) ?_
      refine ac_seq ?_
      refine ac_region (by kernel_rfl) ?_
      first | refine aops_val (av_move_ptr rfl) ?_ | refine aops_val (av_move rfl) ?_
      first | refine aops_val (av_move_sl rfl) ?_ | refine aops_val (av_move rfl) ?_
      refine aops_op (aop_call (Few_ints N _ 8 _ (nB.mono hle18.sees) (by omega) (by omega) (by omega)) rfl Try.func10 rfl rfl rfl ?_)
      rintro v19 H19 ⟨hle19, hs19⟩; change Sl (kInt .i64) H19 v19 (N.take 8) at hs19; rw [hNN] at hs19; obtain ⟨E19, n19, rfl⟩ := hs19.shape
      refine aops_op (aop_call (Row_good hG hT ((htv.mono hle18).mono hle19) hs19 (by omega)) rfl Try.func16 rfl rfl rfl ?_)
      rintro v20 H20 ⟨hle20, Aw, nw, cw, cost, m, ok, rfl, hok⟩
      refine aops_val (av_move rfl) ?_
      refine aops_val (av_extract rfl rfl) ?_
      refine aops_val (av_extract rfl rfl) ?_
      refine aops_make (am_zero (l := [.slice none 0 0, .int .i64 0, .int .u64 0]) inf44.zero rfl (by decide)) ?_
      first | refine aops_op (aop_putN (vs := [.slice _ _ _, .int .i64 _, .int .u64 _]) rfl rfl inf44.size t_get t_room rfl rfl ?_) | refine aops_op (aop_putN (vs := [_, .int .i64 _, .int .u64 _]) rfl rfl inf44.size t_get t_room rfl rfl ?_)
      first | refine aops_val (av_assign_bool rfl) ?_ | refine aops_val (av_assign rfl) ?_
      refine ac_seq ?_
      have leB20 := Hp.le_trans hle18 (Hp.le_trans hle19 hle20)
      have le1820 := Hp.le_trans hle19 hle20
      obtain ⟨HC', hHC⟩ : ∃ HC', HC' = (H20.push (.own 0 [.slice none 0 0, .int .i64 0, .int .u64 0])).put H20.size (.own 0 [.slice Aw nw cw, .int .i64 cost, .int .u64 m]) := ⟨_, rfl⟩
      have le20 : H20.le HC' := by rw [hHC]; exact Hp.le_put_new (H20.le_push _) (Nat.le_refl _) _
      have gw : HC'.get H20.size = .own 0 [.slice Aw nw cw, .int .i64 cost, .int .u64 m] := by rw [hHC]; exact Hp.put_same _ _ _
      have leBC := Hp.le_trans leB20 le20
      have leC := Hp.le_trans leB leBC
      have zBC := leBC.1
      have zC : HC'.size = H20.size + 1 := by rw [hHC]; simp
      have C0' := le_got leBC (by omega) (by intro e; cases e) B0'
      have C1' := le_got leBC (by omega) (by intro e; cases e) B1'
      have trC := htv.mono leBC
      have rC := hr18.mono (Hp.le_trans le1820 le20).sees
      have nC := nB.mono leBC.sees
      change ACode true _ _ _ _ _ ((H20.push (.own 0 [.slice none 0 0, .int .i64 0, .int .u64 0])).put H20.size (.own 0 [.slice Aw nw cw, .int .i64 cost, .int .u64 m]))
      rw [← hHC]
      clear hHC
      refine ac_region (by kernel_rfl) ?_
      first | refine aops_val (av_move_sl rfl) ?_ | refine aops_val (av_move rfl) ?_
      first | refine aops_val (av_move_sl rfl) ?_ | refine aops_val (av_move rfl) ?_
      refine aops_op (aop_call (FindR_ref (rowsP F Q) N _ _ _ rC nC (by omega) (by omega)) rfl Try.func17 rfl rfl rfl ?_)
      rintro v21 HC' ⟨rfl, rfl⟩
      first | refine aops_val (av_assign_int rfl) ?_ | refine aops_val (av_assign rfl) ?_
      refine ac_seq ?_
      refine ac_seq ?_
      have hokf : ok = decide (findRow (rowsP F Q) N ≥ 0) := by
        rcases hok with ⟨h1, i, h2, _⟩ | ⟨h1, h2, _⟩
        · rw [h1, h2]; symm; exact decide_eq_true (by omega)
        · rw [h1, h2]; rfl
      refine ac_draw (by kernel_rfl) (reg_of (B := [0, 0, 2, 7, 15, 31, 63, 127, 255, 511, 1023, 2047, 4095, 8191, 16383, 32767, 65535, 131071, 262143, 524287, 1048575, 2097151, 4194303, 8388607, 16777215, 33554431, 67108863, 134217727, 268435455, 134217727, 1073741823, 2147483647, 4294967295, 8589934591, 17179869183, 8589934591, 8589934591, 111669149695, 249108103167, 523986010111, 1099511627775, 2199023255551, 4398046511103, 8796093022207, 17592186044415, 8796093022207, 8796093022207, 114349209288703, 255086697644031, 536561674354687, 1125899906842623, 2251799813685247, 4503599627370495, 9007199254740991]) (π := [0, 1, 2, 3, 4, 5, 6, 7, 8, 9, 10, 11, 12, 13, 14, 15, 16, 17, 18, 19, 20, 21, 22, 23, 24, 25, 26, 27, 28, 29, 30, 31, 32, 33, 34, 35, 36, 37, 38, 39, 40, 41, 42, 43, 44, 45, 46, 47, 48, 49, 50, 51, 52, 53]) (by kernel_rfl)) ?_
      first | refine adr_val rfl rfl (av_move_bool rfl) t_lt ?_ | refine adr_val rfl rfl (av_move rfl) t_lt ?_
      first | refine adr_val rfl rfl (av_move_int rfl) t_lt ?_ | refine adr_val rfl rfl (av_move rfl) t_lt ?_
      refine adr_val rfl rfl (av_ge rfl rfl) t_lt ?_
      refine adr_val rfl rfl (av_bne rfl rfl Try.underlying4) t_lt ?_
      first | refine adr_val rfl rfl (av_move_bool rfl) t_lt ?_ | refine adr_val rfl rfl (av_move rfl) t_lt ?_
      refine adr_guard rfl rfl rfl rfl ?_ ?_
      · intro hg5
        (have h := hg5; rw [hokf] at h; simp at h)
      · intro hg5
        have hp5 := hg5; try simp only [decide_eq_true_eq, decide_eq_false_iff_not, Bool.not_eq_true', Bool.not_eq_false'] at hp5
        first | refine adr_wval rfl (want_yes rfl rfl rfl hg5) rfl (av_move_bool rfl) t_lt ?_ | refine adr_wval rfl (want_yes rfl rfl rfl hg5) rfl (av_move rfl) t_lt ?_
        refine adr_wval rfl (want_yes rfl rfl rfl hg5) rfl (av_not rfl) t_lt ?_
        first | refine adr_wval rfl (want_yes rfl rfl rfl hg5) rfl (av_move_bool rfl) t_lt ?_ | refine adr_wval rfl (want_yes rfl rfl rfl hg5) rfl (av_move rfl) t_lt ?_
        refine adr_guard rfl rfl rfl rfl ?_ ?_
        · intro hg6
          have hf : ok = false := by have h := hg6; simpa using h
          obtain ⟨_, hfr, rfl, rfl, rfl, rfl, rfl⟩ := hok.resolve_left (fun h => by rw [h.1] at hf; cases hf)
          refine adr_wval rfl (want_yes rfl rfl rfl hg6) rfl (av_fieldOff (off := 0) rfl Try.underlying44 rfl inf23.size (by decide) rfl) t_lt ?_
          refine adr_wval rfl (want_yes rfl rfl rfl hg6) rfl (av_load1 rfl Try.underlying23 rfl t_cell) t_lt ?_
          refine adr_wval rfl (want_yes rfl rfl rfl hg6) rfl (av_len rfl Try.underlying23) t_lt ?_
          refine adr_wval rfl (want_yes rfl rfl rfl hg6) rfl (av_gt rfl rfl) t_lt ?_
          first | refine adr_wval rfl (want_yes rfl rfl rfl hg6) rfl (av_move_bool rfl) t_lt ?_ | refine adr_wval rfl (want_yes rfl rfl rfl hg6) rfl (av_move rfl) t_lt ?_
          refine adr_guard rfl rfl rfl rfl ?_ ?_
          · intro hg7
            exact absurd hg7 (by decide)
          · intro hg7
            have hp7 := hg7; try simp only [decide_eq_true_eq, decide_eq_false_iff_not, Bool.not_eq_true', Bool.not_eq_false'] at hp7
            refine adr_wval rfl (want_yes rfl rfl rfl hg7) rfl (av_fieldOff (off := 1) rfl Try.underlying44 rfl inf3.size (by decide) rfl) t_lt ?_
            refine adr_wval rfl (want_yes rfl rfl rfl hg7) rfl (av_load1 rfl Try.underlying3 rfl t_cell) t_lt ?_
            refine adr_wval rfl (want_yes rfl rfl rfl hg7) rfl (av_ne rfl rfl) t_lt ?_
            refine adr_wval rfl (want_yes rfl rfl rfl hg6) rfl (av_pick_bool (congrArg Value.bool hg7) rfl) t_lt ?_
            first | refine adr_wval rfl (want_yes rfl rfl rfl hg6) rfl (av_move_bool rfl) t_lt ?_ | refine adr_wval rfl (want_yes rfl rfl rfl hg6) rfl (av_move rfl) t_lt ?_
            refine adr_guard rfl rfl rfl rfl ?_ ?_
            · intro hg8
              exact absurd hg8 (by decide)
            · intro hg8
              have hp8 := hg8; try simp only [decide_eq_true_eq, decide_eq_false_iff_not, Bool.not_eq_true', Bool.not_eq_false'] at hp8
              refine adr_wval rfl (want_yes rfl rfl rfl hg8) rfl (av_fieldOff (off := 2) rfl Try.underlying44 rfl inf42.size (by decide) rfl) t_lt ?_
              refine adr_wval rfl (want_yes rfl rfl rfl hg8) rfl (av_load1 rfl Try.underlying42 rfl t_cell) t_lt ?_
              refine adr_wval rfl (want_yes rfl rfl rfl hg8) rfl (av_ne rfl rfl) t_lt ?_
              refine adr_wval rfl (want_yes rfl rfl rfl hg6) rfl (av_pick_bool (congrArg Value.bool hg8) rfl) t_lt ?_
              refine adr_wval rfl (want_yes rfl rfl rfl hg5) rfl (av_pick_bool (congrArg Value.bool hg6) rfl) t_lt ?_
              refine adr_val rfl rfl (av_pick_bool (congrArg Value.bool hg5) rfl) t_lt ?_
              first | refine adr_val rfl rfl (av_move_bool rfl) t_lt ?_ | refine adr_val rfl rfl (av_move rfl) t_lt ?_
              refine adr_guard rfl rfl rfl rfl ?_ ?_
              · intro hg9
                exact absurd hg9 (by decide)
              · intro hg9
                have hp9 := hg9; try simp only [decide_eq_true_eq, decide_eq_false_iff_not, Bool.not_eq_true', Bool.not_eq_false'] at hp9
                first | refine adr_wval rfl (want_yes rfl rfl rfl hg9) rfl (av_move_bool rfl) t_lt ?_ | refine adr_wval rfl (want_yes rfl rfl rfl hg9) rfl (av_move rfl) t_lt ?_
                first | refine adr_wval rfl (want_yes rfl rfl rfl hg9) rfl (av_move_bool rfl) t_lt ?_ | refine adr_wval rfl (want_yes rfl rfl rfl hg9) rfl (av_move rfl) t_lt ?_
                refine adr_guard rfl rfl rfl rfl ?_ ?_
                · intro hg10
                  (have h := hg10; rw [hf] at h; cases h)
                · intro hg10
                  have hp10 := hg10; try simp only [decide_eq_true_eq, decide_eq_false_iff_not, Bool.not_eq_true', Bool.not_eq_false'] at hp10
                  refine adr_skip rfl (want_no rfl rfl rfl hg10 rfl) ?_
                  refine adr_skip rfl (want_no rfl rfl rfl hg10 rfl) ?_
                  refine adr_skip rfl (want_no rfl rfl rfl hg10 rfl) ?_
                  refine adr_skip rfl (want_no rfl rfl rfl hg10 rfl) ?_
                  refine adr_skip rfl (want_no rfl rfl rfl hg10 rfl) ?_
                  refine adr_skip rfl (want_no rfl rfl rfl hg10 rfl) ?_
                  refine adr_skip rfl (want_gone rfl rfl rfl) ?_
                  refine adr_skip rfl (want_gone rfl rfl rfl) ?_
                  refine adr_skip rfl (want_gone rfl rfl rfl) ?_
                  refine adr_skip rfl (want_gone rfl rfl rfl) ?_
                  refine adr_skip rfl (want_gone rfl rfl rfl) ?_
                  refine adr_skip rfl (want_gone rfl rfl rfl) ?_
                  refine adr_skip rfl (want_gone rfl rfl rfl) ?_
                  refine adr_skip rfl (want_gone rfl rfl rfl) ?_
                  refine adr_skip rfl (want_no rfl rfl rfl hg10 rfl) ?_
                  refine adr_skip rfl (want_no rfl rfl rfl hg10 rfl) ?_
                  refine adr_skip rfl (want_gone rfl rfl rfl) ?_
                  refine adr_skip rfl (want_gone rfl rfl rfl) ?_
                  refine adr_skip rfl (want_gone rfl rfl rfl) ?_
                  refine adr_skip rfl (want_gone rfl rfl rfl) ?_
                  refine adr_skip rfl (want_gone rfl rfl rfl) ?_
                  refine adr_skip rfl (want_gone rfl rfl rfl) ?_
                  refine adr_skip rfl (want_gone rfl rfl rfl) ?_
                  refine adr_skip rfl (want_gone rfl rfl rfl) ?_
                  refine adr_skip rfl (want_no rfl rfl rfl hg10 rfl) ?_
                  refine adr_wval rfl (want_yes rfl rfl rfl hg9) rfl (av_pick_bool (congrArg Value.bool hg10) rfl) t_lt ?_
                  refine adr_val rfl rfl (av_pick_bool (congrArg Value.bool hg9) rfl) t_lt ?_
                  refine ac_cond_false rfl rfl ?_
                  refine ac_skip ?_
                  refine ac_seq ?_
                  refine ac_seq ?_
                  refine ac_region (by kernel_rfl) ?_
                  first | refine aops_val (av_assign_int rfl) ?_ | refine aops_val (av_assign rfl) ?_
                  refine ac_block ?_
                  refine ac_loop (fun n t H' => ∃ (i : Nat) (D : Option Addr), i ≤ F.order.length ∧ n = F.order.length - i ∧ HC'.le H' ∧ Sl kRow HC' (.slice D (rowsP F Q).length m8) (rowsP F Q) ∧ t 3 = .pointer (some ⟨H.size, 0, none⟩) ∧ t 7 = .pointer (some ⟨tb, 0, none⟩) ∧ t 9 = .slice D (rowsP F Q).length m8 ∧ t 13 = .int .i64 i) (F.order.length) (⟨0, _, by omega, rfl, Hp.le_refl _, rC, rfl, rfl, rfl, rfl⟩) ?_
                  rintro n t H1 ⟨i, D, hi, rfl, leC1, rD, e3, e7, e9, e13⟩
                  have g1 := le_got leC1 (by omega) (by intro e; cases e) C0'
                  have zC1 := leC1.1
                  refine ac_seq ?_
                  refine ac_seq ?_
                  refine ac_region (by kernel_rfl) ?_
                  first | refine aops_val (av_move_int (by first | assumption | rfl)) ?_ | refine aops_val (av_move (by first | assumption | rfl)) ?_
                  refine aops_val (av_fieldOff (off := 1) (by first | assumption | rfl) Try.underlying26 (by first | assumption | rfl) inf23.size (by decide) (by first | assumption | rfl)) ?_
                  refine aops_val (av_load1 rfl Try.underlying23 rfl t_cell) ?_
                  refine aops_val (av_len rfl Try.underlying23) ?_
                  refine aops_val (av_lt rfl rfl) ?_
                  refine ac_split rfl rfl ?_ ?_
                  · intro hc12
                    have hix : i < F.order.length := by have := of_decide_eq_true hc12; omega
                    refine ac_skip ?_
                    refine ac_seq ?_
                    refine ac_block ?_
                    refine ac_seq ?_
                    refine ac_region (by kernel_rfl) ?_
                    first | refine aops_val (av_assign_int rfl) ?_ | refine aops_val (av_assign rfl) ?_
                    refine ac_block ?_
                    refine ac_loop (fun n t H' => ∃ a : Nat, a ≤ 5 ∧ n = 5 - a ∧ H1.le H' ∧ t 3 = .pointer (some ⟨H.size, 0, none⟩) ∧ t 7 = .pointer (some ⟨tb, 0, none⟩) ∧ t 9 = .slice D (rowsP F Q).length m8 ∧ t 13 = .int .i64 i ∧ t 14 = .int .i64 a) (5) (⟨0, by omega, rfl, Hp.le_refl _, e3, e7, e9, e13, rfl⟩) ?_
                    rintro n t H2 ⟨a, ha, rfl, le12, e3, e7, e9, e13, e14⟩
                    have leC2 := Hp.le_trans leC1 le12
                    refine ac_seq ?_
                    refine ac_seq ?_
                    refine ac_region (by kernel_rfl) ?_
                    first | refine aops_val (av_move_int (by first | assumption | rfl)) ?_ | refine aops_val (av_move (by first | assumption | rfl)) ?_
                    refine aops_val (av_lt rfl rfl) ?_
                    refine ac_split rfl rfl ?_ ?_
                    · intro hc13
                      (try simp only [decide_eq_true_eq, decide_eq_false_iff_not, Bool.not_eq_true', Bool.not_eq_false'] at hc13)
                      refine ac_skip ?_
                      refine ac_seq ?_
                      refine ac_block ?_
                      refine ac_seq ?_
                      refine ac_region (by kernel_rfl) ?_
                      first | refine aops_val (av_move_ptr (by first | assumption | rfl)) ?_ | refine aops_val (av_move (by first | assumption | rfl)) ?_
                      first | refine aops_val (av_move_int (by first | assumption | rfl)) ?_ | refine aops_val (av_move (by first | assumption | rfl)) ?_
                      first | refine aops_val (av_move_int (by first | assumption | rfl)) ?_ | refine aops_val (av_move (by first | assumption | rfl)) ?_
                      refine aops_op (aop_call (Group_tree (trC.mono leC2) hT.l1 hT.l2 hT.lens (i : Int) (a : Int)) rfl Try.func19 rfl rfl rfl ?_)
                      rintro v30 H3 ⟨G3, hleG3, hownG⟩; obtain ⟨L, hL⟩ : ∃ L, L = (treeOf F (ofP F Q)).group (i : Int) (a : Int) := ⟨_, rfl⟩; rw [← hL] at hownG; have hslG := hownG.sl; obtain ⟨AG, cG, rfl⟩ := hslG.shape; have le23 := Hp.le_trans hleG3 hownG.le; have leC3 := Hp.le_trans leC2 le23
                      first | refine aops_val (av_move_ptr (by first | assumption | rfl)) ?_ | refine aops_val (av_move (by first | assumption | rfl)) ?_
                      first | refine aops_val (av_move_int (by first | assumption | rfl)) ?_ | refine aops_val (av_move (by first | assumption | rfl)) ?_
                      refine aops_op (aop_call (Parent_tree (trC.mono leC3) hT.l1 (i : Int)) rfl Try.func20 rfl rfl rfl ?_)
                      rintro v31 H3 ⟨rfl, rfl⟩; rw [if_pos ⟨by omega, by omega⟩, Int.toNat_natCast]; obtain ⟨u, hu⟩ : ∃ u, u = (treeOf F (ofP F Q)).parent.getD i 0 := ⟨_, rfl⟩; rw [← hu]; have hpu := hT.par i (by omega); rw [← hu] at hpu; have hLl : L.length ≤ 1000000 := by rw [hL]; exact group_len hT.lens _ _
                      first | refine aops_val (av_assign_sl rfl) ?_ | refine aops_val (av_assign rfl) ?_
                      first | refine aops_val (av_assign_int rfl) ?_ | refine aops_val (av_assign rfl) ?_
                      refine ac_seq ?_
                      refine ac_region (by kernel_rfl) ?_
                      first | refine aops_val (av_assign_int rfl) ?_ | refine aops_val (av_assign rfl) ?_
                      refine ac_block ?_
                      refine ac_loop (fun n t H' => ∃ k : Nat, k ≤ L.length ∧ n = L.length - k ∧ H' = H3 ∧ t 3 = .pointer (some ⟨H.size, 0, none⟩) ∧ t 7 = .pointer (some ⟨tb, 0, none⟩) ∧ t 9 = .slice D (rowsP F Q).length m8 ∧ t 13 = .int .i64 i ∧ t 14 = .int .i64 a ∧ t 15 = .slice AG L.length cG ∧ t 16 = .int .i64 u ∧ t 17 = .int .i64 k) (L.length) (⟨0, by omega, rfl, rfl, e3, e7, e9, e13, e14, rfl, rfl, rfl⟩) ?_
                      rintro n t H3 ⟨k, hk, rfl, rfl, e3, e7, e9, e13, e14, e15, e16, e17⟩
                      refine ac_seq ?_
                      refine ac_seq ?_
                      refine ac_region (by kernel_rfl) ?_
                      first | refine aops_val (av_move_int (by first | assumption | rfl)) ?_ | refine aops_val (av_move (by first | assumption | rfl)) ?_
                      first | refine aops_val (av_move_sl (by first | assumption | rfl)) ?_ | refine aops_val (av_move (by first | assumption | rfl)) ?_
                      refine aops_val (av_len rfl Try.underlying50) ?_
                      refine aops_val (av_lt rfl rfl) ?_
                      refine ac_split rfl rfl ?_ ?_
                      · intro hc14
                        have hkx : k < L.length := by have := of_decide_eq_true hc14; omega
                        obtain ⟨bL, oL, eL, hbL, hcL⟩ := hslG.link_at hkx
                        obtain ⟨l, hl⟩ : ∃ l, l = L[k] := ⟨_, rfl⟩
                        rw [← hl] at hcL
                        have hcL1 := hcL 1 _ rfl
                        have hany : (rowsP F Q).any (inGroup i l.b u a) = true := by
                          obtain ⟨r, hr, h1, h2⟩ := hall (i := i) (by omega) (above := (a : Int)) (l := l) (by rw [← hL, hl]; exact List.getElem_mem hkx)
                          rw [← hu] at h2
                          rw [List.any_eq_true]
                          refine ⟨r, hr, ?_⟩
                          unfold inGroup
                          rw [decide_eq_true h1, Bool.true_and, Bool.or_eq_true, decide_eq_true_eq, decide_eq_true_eq]
                          exact h2
                        refine ac_skip ?_
                        refine ac_seq ?_
                        refine ac_block ?_
                        refine ac_seq ?_
                        refine ac_region (by kernel_rfl) ?_
                        first | refine aops_val (av_assign_bool rfl) ?_ | refine aops_val (av_assign rfl) ?_
                        refine ac_seq ?_
                        refine ac_seq ?_
                        refine ac_region (by kernel_rfl) ?_
                        first | refine aops_val (av_assign_int rfl) ?_ | refine aops_val (av_assign rfl) ?_
                        refine ac_block ?_
                        refine ac_loop (fun n t H' => ∃ j : Nat, j ≤ (rowsP F Q).length ∧ n = (rowsP F Q).length - j ∧ H' = H3 ∧ t 3 = .pointer (some ⟨H.size, 0, none⟩) ∧ t 7 = .pointer (some ⟨tb, 0, none⟩) ∧ t 9 = .slice D (rowsP F Q).length m8 ∧ t 13 = .int .i64 i ∧ t 14 = .int .i64 a ∧ t 15 = .slice AG L.length cG ∧ t 16 = .int .i64 u ∧ t 17 = .int .i64 k ∧ t 18 = .bool (((rowsP F Q).take j).any (inGroup i l.b u a)) ∧ t 19 = .int .i64 j) ((rowsP F Q).length) (⟨0, by omega, rfl, rfl, e3, e7, e9, e13, e14, e15, e16, e17, rfl, rfl⟩) ?_
                        rintro n t H3 ⟨j, hj, rfl, rfl, e3, e7, e9, e13, e14, e15, e16, e17, e18, e19⟩
                        refine ac_seq ?_
                        refine ac_seq ?_
                        refine ac_region (by kernel_rfl) ?_
                        first | refine aops_val (av_move_int (by first | assumption | rfl)) ?_ | refine aops_val (av_move (by first | assumption | rfl)) ?_
                        first | refine aops_val (av_move_sl (by first | assumption | rfl)) ?_ | refine aops_val (av_move (by first | assumption | rfl)) ?_
                        refine aops_val (av_len rfl Try.underlying40) ?_
                        refine aops_val (av_lt rfl rfl) ?_
                        refine ac_split rfl rfl ?_ ?_
                        · intro hc15
                          have hjx : j < (rowsP F Q).length := by have := of_decide_eq_true hc15; omega
                          obtain ⟨bD, oD, wD, eD, hbD, hcD, hwD⟩ := (rD.mono leC3.sees).row_at hjx
                          subst eD eL
                          have hcD0 := hcD 0 _ rfl
                          obtain ⟨R, hR⟩ : ∃ R, R = (rowsP F Q)[j] := ⟨_, rfl⟩
                          have hRn := hrn R (by rw [hR]; exact List.getElem_mem hjx)
                          have hnx := anyr_next (q := inGroup i l.b u a) hjx
                          rw [← hR] at hnx hwD
                          obtain ⟨AD, cD, rfl⟩ := hwD.shape
                          obtain ⟨bw, ow, ew, hbw, hcw⟩ := hwD.int_at (i := (i : Int)) (by omega) (by omega)
                          rw [Int.toNat_natCast] at hcw
                          subst ew
                          refine ac_skip ?_
                          refine ac_seq ?_
                          refine ac_block ?_
                          refine ac_draw (by kernel_rfl) (reg_of (B := [0, 1, 3, 3, 15, 31, 63, 3, 255, 511, 3, 3, 3075, 7171, 15363, 32767, 65535, 131071, 262143, 524287, 1048575, 1048575, 4194303, 8388607, 16777215, 1048575, 67108863, 134217727, 1048575, 536870911, 1073741823, 2147483647, 4294967295, 8589934591]) (π := [0, 1, 2, 3, 4, 5, 6, 7, 8, 9, 10, 11, 12, 13, 14, 15, 16, 17, 18, 19, 20, 21, 22, 23, 24, 25, 26, 27, 28, 29, 30, 31, 32, 33]) (by kernel_rfl)) ?_
                          first | refine adr_val rfl rfl (av_move_bool (by first | assumption | rfl)) t_lt ?_ | refine adr_val rfl rfl (av_move (by first | assumption | rfl)) t_lt ?_
                          first | refine adr_val rfl rfl (av_move_bool rfl) t_lt ?_ | refine adr_val rfl rfl (av_move rfl) t_lt ?_
                          refine adr_guard rfl rfl rfl rfl ?_ ?_
                          · intro hg16
                            have hc0 : ((rowsP F Q).take j).any (inGroup i l.b u a) = true := hg16
                            refine adr_skip rfl (want_no rfl rfl rfl hg16 rfl) ?_
                            refine adr_skip rfl (want_no rfl rfl rfl hg16 rfl) ?_
                            refine adr_skip rfl (want_no rfl rfl rfl hg16 rfl) ?_
                            refine adr_skip rfl (want_no rfl rfl rfl hg16 rfl) ?_
                            refine adr_skip rfl (want_no rfl rfl rfl hg16 rfl) ?_
                            refine adr_skip rfl (want_no rfl rfl rfl hg16 rfl) ?_
                            refine adr_skip rfl (want_no rfl rfl rfl hg16 rfl) ?_
                            refine adr_skip rfl (want_no rfl rfl rfl hg16 rfl) ?_
                            refine adr_skip rfl (want_no rfl rfl rfl hg16 rfl) ?_
                            refine adr_skip rfl (want_no rfl rfl rfl hg16 rfl) ?_
                            refine adr_skip rfl (want_no rfl rfl rfl hg16 rfl) ?_
                            refine adr_skip rfl (want_no rfl rfl rfl hg16 rfl) ?_
                            refine adr_skip rfl (want_no rfl rfl rfl hg16 rfl) ?_
                            refine adr_skip rfl (want_no rfl rfl rfl hg16 rfl) ?_
                            refine adr_skip rfl (want_no rfl rfl rfl hg16 rfl) ?_
                            refine adr_skip rfl (want_gone rfl rfl rfl) ?_
                            refine adr_skip rfl (want_gone rfl rfl rfl) ?_
                            refine adr_skip rfl (want_gone rfl rfl rfl) ?_
                            refine adr_skip rfl (want_gone rfl rfl rfl) ?_
                            refine adr_skip rfl (want_gone rfl rfl rfl) ?_
                            refine adr_skip rfl (want_gone rfl rfl rfl) ?_
                            refine adr_skip rfl (want_gone rfl rfl rfl) ?_
                            refine adr_skip rfl (want_gone rfl rfl rfl) ?_
                            refine adr_skip rfl (want_gone rfl rfl rfl) ?_
                            refine adr_skip rfl (want_gone rfl rfl rfl) ?_
                            refine adr_skip rfl (want_gone rfl rfl rfl) ?_
                            refine adr_skip rfl (want_gone rfl rfl rfl) ?_
                            refine adr_skip rfl (want_gone rfl rfl rfl) ?_
                            refine adr_skip rfl (want_gone rfl rfl rfl) ?_
                            refine adr_skip rfl (want_no rfl rfl rfl hg16 rfl) ?_
                            refine adr_val rfl rfl (av_pick_bool (congrArg Value.bool hg16) (by first | assumption | rfl)) t_lt ?_
                            first | refine adr_val rfl rfl (av_assign_bool rfl) t_lt ?_ | refine adr_val rfl rfl (av_assign rfl) t_lt ?_
                            refine ac_region (by kernel_rfl) ?_
                            first | refine aops_val (av_move_int (by first | assumption | rfl)) ?_ | refine aops_val (av_move (by first | assumption | rfl)) ?_
                            first | refine aops_val (av_add64 rfl rfl t_fits) ?_ | refine aops_val (av_add rfl rfl) ?_
                            first | refine aops_val (av_assign_int rfl) ?_ | refine aops_val (av_assign rfl) ?_
                            refine ⟨(rowsP F Q).length - (j + 1), by omega, j + 1, by omega, rfl, rfl, e3, e7, e9, e13, e14, e15, e16, e17, congrArg Value.bool ?_, rfl⟩
                            rw [hnx, hc0]
                            unfold inGroup
                            first
                              | rfl
                              | (rw [decide_eq_true hc1, decide_eq_true hc2]; rfl)
                              | (rw [decide_eq_true hc1, decide_eq_false hc2]; rfl)
                              | (rw [decide_eq_false hc1]; rfl)
                          · intro hg16
                            have hc0 : ((rowsP F Q).take j).any (inGroup i l.b u a) = false := hg16
                            first | refine adr_wval rfl (want_yes rfl rfl rfl hg16) rfl (av_move_sl (by first | assumption | rfl)) t_lt ?_ | refine adr_wval rfl (want_yes rfl rfl rfl hg16) rfl (av_move (by first | assumption | rfl)) t_lt ?_
                            first | refine adr_wval rfl (want_yes rfl rfl rfl hg16) rfl (av_move_int (by first | assumption | rfl)) t_lt ?_ | refine adr_wval rfl (want_yes rfl rfl rfl hg16) rfl (av_move (by first | assumption | rfl)) t_lt ?_
                            refine adr_wval rfl (want_yes rfl rfl rfl hg16) rfl (av_indexAddr rfl rfl Try.underlying40 inf49.size t_idx t_idx) t_lt ?_
                            refine adr_wval rfl (want_yes rfl rfl rfl hg16) rfl (av_fieldOff (off := 0) rfl Try.underlying49 rfl inf23.size (by decide) rfl) t_lt ?_
                            refine adr_wval rfl (want_yes rfl rfl rfl hg16) rfl (av_load1 rfl Try.underlying23 rfl t_cell) t_lt ?_
                            first | refine adr_wval rfl (want_yes rfl rfl rfl hg16) rfl (av_move_int (by first | assumption | rfl)) t_lt ?_ | refine adr_wval rfl (want_yes rfl rfl rfl hg16) rfl (av_move (by first | assumption | rfl)) t_lt ?_
                            refine adr_wval rfl (want_yes rfl rfl rfl hg16) rfl (av_indexAddr rfl rfl Try.underlying23 inf3.size t_idx t_idx) t_lt ?_
                            refine adr_wval rfl (want_yes rfl rfl rfl hg16) rfl (av_load1 rfl Try.underlying3 rfl t_cell) t_lt ?_
                            first | refine adr_wval rfl (want_yes rfl rfl rfl hg16) rfl (av_move_sl (by first | assumption | rfl)) t_lt ?_ | refine adr_wval rfl (want_yes rfl rfl rfl hg16) rfl (av_move (by first | assumption | rfl)) t_lt ?_
                            first | refine adr_wval rfl (want_yes rfl rfl rfl hg16) rfl (av_move_int (by first | assumption | rfl)) t_lt ?_ | refine adr_wval rfl (want_yes rfl rfl rfl hg16) rfl (av_move (by first | assumption | rfl)) t_lt ?_
                            refine adr_wval rfl (want_yes rfl rfl rfl hg16) rfl (av_indexAddr rfl rfl Try.underlying50 inf54.size t_idx t_idx) t_lt ?_
                            refine adr_wval rfl (want_yes rfl rfl rfl hg16) rfl (av_fieldOff (off := 1) rfl Try.underlying54 rfl inf3.size (by decide) rfl) t_lt ?_
                            refine adr_wval rfl (want_yes rfl rfl rfl hg16) rfl (av_load1 rfl Try.underlying3 rfl t_cell) t_lt ?_
                            refine adr_wval rfl (want_yes rfl rfl rfl hg16) rfl (av_eq rfl rfl) t_lt ?_
                            first | refine adr_wval rfl (want_yes rfl rfl rfl hg16) rfl (av_move_bool rfl) t_lt ?_ | refine adr_wval rfl (want_yes rfl rfl rfl hg16) rfl (av_move rfl) t_lt ?_
                            refine adr_guard rfl rfl rfl rfl ?_ ?_
                            · intro hg17
                              have hc1 : R.nodes.getD i 0 = l.b := of_decide_eq_true hg17
                              first | refine adr_wval rfl (want_yes rfl rfl rfl hg17) rfl (av_move_int (by first | assumption | rfl)) t_lt ?_ | refine adr_wval rfl (want_yes rfl rfl rfl hg17) rfl (av_move (by first | assumption | rfl)) t_lt ?_
                              refine adr_wval rfl (want_yes rfl rfl rfl hg17) rfl (av_lt rfl rfl) t_lt ?_
                              first | refine adr_wval rfl (want_yes rfl rfl rfl hg17) rfl (av_move_bool rfl) t_lt ?_ | refine adr_wval rfl (want_yes rfl rfl rfl hg17) rfl (av_move rfl) t_lt ?_
                              refine adr_guard rfl rfl rfl rfl ?_ ?_
                              · intro hg18
                                have hc2 : u < 0 := of_decide_eq_true hg18
                                refine adr_skip rfl (want_no rfl rfl rfl hg18 rfl) ?_
                                refine adr_skip rfl (want_no rfl rfl rfl hg18 rfl) ?_
                                refine adr_skip rfl (want_no rfl rfl rfl hg18 rfl) ?_
                                refine adr_skip rfl (want_no rfl rfl rfl hg18 rfl) ?_
                                refine adr_skip rfl (want_no rfl rfl rfl hg18 rfl) ?_
                                refine adr_skip rfl (want_no rfl rfl rfl hg18 rfl) ?_
                                refine adr_skip rfl (want_no rfl rfl rfl hg18 rfl) ?_
                                refine adr_skip rfl (want_no rfl rfl rfl hg18 rfl) ?_
                                refine adr_skip rfl (want_no rfl rfl rfl hg18 rfl) ?_
                                refine adr_skip rfl (want_no rfl rfl rfl hg18 rfl) ?_
                                refine adr_wval rfl (want_yes rfl rfl rfl hg17) rfl (av_pick_bool (congrArg Value.bool hg18) (by first | assumption | rfl)) t_lt ?_
                                refine adr_wval rfl (want_yes rfl rfl rfl hg16) rfl (av_pick_bool (congrArg Value.bool hg17) rfl) t_lt ?_
                                refine adr_val rfl rfl (av_pick_bool (congrArg Value.bool hg16) rfl) t_lt ?_
                                first | refine adr_val rfl rfl (av_assign_bool rfl) t_lt ?_ | refine adr_val rfl rfl (av_assign rfl) t_lt ?_
                                refine ac_region (by kernel_rfl) ?_
                                first | refine aops_val (av_move_int (by first | assumption | rfl)) ?_ | refine aops_val (av_move (by first | assumption | rfl)) ?_
                                first | refine aops_val (av_add64 rfl rfl t_fits) ?_ | refine aops_val (av_add rfl rfl) ?_
                                first | refine aops_val (av_assign_int rfl) ?_ | refine aops_val (av_assign rfl) ?_
                                refine ⟨(rowsP F Q).length - (j + 1), by omega, j + 1, by omega, rfl, rfl, e3, e7, e9, e13, e14, e15, e16, e17, congrArg Value.bool ?_, rfl⟩
                                rw [hnx, hc0]
                                unfold inGroup
                                first
                                  | rfl
                                  | (rw [decide_eq_true hc1, decide_eq_true hc2]; rfl)
                                  | (rw [decide_eq_true hc1, decide_eq_false hc2]; rfl)
                                  | (rw [decide_eq_false hc1]; rfl)
                              · intro hg18
                                have hc2 : ¬ u < 0 := of_decide_eq_false hg18
                                obtain ⟨bw2, ow2, ew2, hbw2, hcw2⟩ := hwD.int_at (i := u) (by omega) (by omega)
                                simp only [Option.some.injEq, Addr.mk.injEq, and_true] at ew2
                                obtain ⟨rfl, rfl⟩ := ew2
                                first | refine adr_wval rfl (want_yes rfl rfl rfl hg18) rfl (av_move_sl (by first | assumption | rfl)) t_lt ?_ | refine adr_wval rfl (want_yes rfl rfl rfl hg18) rfl (av_move (by first | assumption | rfl)) t_lt ?_
                                first | refine adr_wval rfl (want_yes rfl rfl rfl hg18) rfl (av_move_int (by first | assumption | rfl)) t_lt ?_ | refine adr_wval rfl (want_yes rfl rfl rfl hg18) rfl (av_move (by first | assumption | rfl)) t_lt ?_
                                refine adr_wval rfl (want_yes rfl rfl rfl hg18) rfl (av_indexAddr rfl rfl Try.underlying40 inf49.size t_idx t_idx) t_lt ?_
                                refine adr_wval rfl (want_yes rfl rfl rfl hg18) rfl (av_fieldOff (off := 0) rfl Try.underlying49 rfl inf23.size (by decide) rfl) t_lt ?_
                                refine adr_wval rfl (want_yes rfl rfl rfl hg18) rfl (av_load1 rfl Try.underlying23 rfl t_cell) t_lt ?_
                                first | refine adr_wval rfl (want_yes rfl rfl rfl hg18) rfl (av_move_int (by first | assumption | rfl)) t_lt ?_ | refine adr_wval rfl (want_yes rfl rfl rfl hg18) rfl (av_move (by first | assumption | rfl)) t_lt ?_
                                refine adr_wval rfl (want_yes rfl rfl rfl hg18) rfl (av_indexAddr rfl rfl Try.underlying23 inf3.size t_idx t_idx) t_lt ?_
                                refine adr_wval rfl (want_yes rfl rfl rfl hg18) rfl (av_load1 rfl Try.underlying3 rfl t_cell) t_lt ?_
                                first | refine adr_wval rfl (want_yes rfl rfl rfl hg18) rfl (av_move_int (by first | assumption | rfl)) t_lt ?_ | refine adr_wval rfl (want_yes rfl rfl rfl hg18) rfl (av_move (by first | assumption | rfl)) t_lt ?_
                                refine adr_wval rfl (want_yes rfl rfl rfl hg18) rfl (av_eq rfl rfl) t_lt ?_
                                refine adr_wval rfl (want_yes rfl rfl rfl hg17) rfl (av_pick_bool (congrArg Value.bool hg18) rfl) t_lt ?_
                                refine adr_wval rfl (want_yes rfl rfl rfl hg16) rfl (av_pick_bool (congrArg Value.bool hg17) rfl) t_lt ?_
                                refine adr_val rfl rfl (av_pick_bool (congrArg Value.bool hg16) rfl) t_lt ?_
                                first | refine adr_val rfl rfl (av_assign_bool rfl) t_lt ?_ | refine adr_val rfl rfl (av_assign rfl) t_lt ?_
                                refine ac_region (by kernel_rfl) ?_
                                first | refine aops_val (av_move_int (by first | assumption | rfl)) ?_ | refine aops_val (av_move (by first | assumption | rfl)) ?_
                                first | refine aops_val (av_add64 rfl rfl t_fits) ?_ | refine aops_val (av_add rfl rfl) ?_
                                first | refine aops_val (av_assign_int rfl) ?_ | refine aops_val (av_assign rfl) ?_
                                refine ⟨(rowsP F Q).length - (j + 1), by omega, j + 1, by omega, rfl, rfl, e3, e7, e9, e13, e14, e15, e16, e17, congrArg Value.bool ?_, rfl⟩
                                rw [hnx, hc0]
                                unfold inGroup
                                first
                                  | rfl
                                  | (rw [decide_eq_true hc1, decide_eq_true hc2]; rfl)
                                  | (rw [decide_eq_true hc1, decide_eq_false hc2]; rfl)
                                  | (rw [decide_eq_false hc1]; rfl)
                            · intro hg17
                              have hc1 : ¬ R.nodes.getD i 0 = l.b := of_decide_eq_false hg17
                              refine adr_skip rfl (want_no rfl rfl rfl hg17 rfl) ?_
                              refine adr_skip rfl (want_no rfl rfl rfl hg17 rfl) ?_
                              refine adr_skip rfl (want_no rfl rfl rfl hg17 rfl) ?_
                              refine adr_skip rfl (want_gone rfl rfl rfl) ?_
                              refine adr_skip rfl (want_gone rfl rfl rfl) ?_
                              refine adr_skip rfl (want_gone rfl rfl rfl) ?_
                              refine adr_skip rfl (want_gone rfl rfl rfl) ?_
                              refine adr_skip rfl (want_gone rfl rfl rfl) ?_
                              refine adr_skip rfl (want_gone rfl rfl rfl) ?_
                              refine adr_skip rfl (want_gone rfl rfl rfl) ?_
                              refine adr_skip rfl (want_gone rfl rfl rfl) ?_
                              refine adr_skip rfl (want_gone rfl rfl rfl) ?_
                              refine adr_skip rfl (want_gone rfl rfl rfl) ?_
                              refine adr_skip rfl (want_no rfl rfl rfl hg17 rfl) ?_
                              refine adr_wval rfl (want_yes rfl rfl rfl hg16) rfl (av_pick_bool (congrArg Value.bool hg17) (by first | assumption | rfl)) t_lt ?_
                              refine adr_val rfl rfl (av_pick_bool (congrArg Value.bool hg16) rfl) t_lt ?_
                              first | refine adr_val rfl rfl (av_assign_bool rfl) t_lt ?_ | refine adr_val rfl rfl (av_assign rfl) t_lt ?_
                              refine ac_region (by kernel_rfl) ?_
                              first | refine aops_val (av_move_int (by first | assumption | rfl)) ?_ | refine aops_val (av_move (by first | assumption | rfl)) ?_
                              first | refine aops_val (av_add64 rfl rfl t_fits) ?_ | refine aops_val (av_add rfl rfl) ?_
                              first | refine aops_val (av_assign_int rfl) ?_ | refine aops_val (av_assign rfl) ?_
                              refine ⟨(rowsP F Q).length - (j + 1), by omega, j + 1, by omega, rfl, rfl, e3, e7, e9, e13, e14, e15, e16, e17, congrArg Value.bool ?_, rfl⟩
                              rw [hnx, hc0]
                              unfold inGroup
                              first
                                | rfl
                                | (rw [decide_eq_true hc1, decide_eq_true hc2]; rfl)
                                | (rw [decide_eq_true hc1, decide_eq_false hc2]; rfl)
                                | (rw [decide_eq_false hc1]; rfl)
                        · intro hc15
                          (try simp only [decide_eq_true_eq, decide_eq_false_iff_not, Bool.not_eq_true', Bool.not_eq_false'] at hc15)
                          refine ac_exit ?_
                          refine ac_seq ?_
                          refine ac_region (by kernel_rfl) ?_
                          first | refine aops_val (av_move_bool (by first | assumption | rfl)) ?_ | refine aops_val (av_move (by first | assumption | rfl)) ?_
                          refine aops_val (av_not rfl) ?_
                          refine ac_split rfl rfl ?_ ?_
                          · intro hc19
                            (have h := hc19; rw [List.take_of_length_le (by omega), hany] at h; cases h)
                          · intro hc19
                            (try simp only [decide_eq_true_eq, decide_eq_false_iff_not, Bool.not_eq_true', Bool.not_eq_false'] at hc19)
                            refine ac_skip ?_
                            refine ac_region (by kernel_rfl) ?_
                            first | refine aops_val (av_move_int (by first | assumption | rfl)) ?_ | refine aops_val (av_move (by first | assumption | rfl)) ?_
                            first | refine aops_val (av_add64 rfl rfl t_fits) ?_ | refine aops_val (av_add rfl rfl) ?_
                            first | refine aops_val (av_assign_int rfl) ?_ | refine aops_val (av_assign rfl) ?_
                            exact ⟨L.length - (k + 1), by omega, k + 1, by omega, rfl, rfl, e3, e7, e9, e13, e14, e15, e16, rfl⟩
                      · intro hc14
                        (try simp only [decide_eq_true_eq, decide_eq_false_iff_not, Bool.not_eq_true', Bool.not_eq_false'] at hc14)
                        refine ac_exit ?_
                        refine ac_region (by kernel_rfl) ?_
                        first | refine aops_val (av_move_int (by first | assumption | rfl)) ?_ | refine aops_val (av_move (by first | assumption | rfl)) ?_
                        first | refine aops_val (av_add64 rfl rfl t_fits) ?_ | refine aops_val (av_add rfl rfl) ?_
                        first | refine aops_val (av_assign_int rfl) ?_ | refine aops_val (av_assign rfl) ?_
                        exact ⟨5 - (a + 1), by omega, a + 1, by omega, rfl, Hp.le_trans le12 le23, e3, e7, e9, e13, rfl⟩
                    · intro hc13
                      (try simp only [decide_eq_true_eq, decide_eq_false_iff_not, Bool.not_eq_true', Bool.not_eq_false'] at hc13)
                      refine ac_exit ?_
                      refine ac_region (by kernel_rfl) ?_
                      first | refine aops_val (av_move_int (by first | assumption | rfl)) ?_ | refine aops_val (av_move (by first | assumption | rfl)) ?_
                      first | refine aops_val (av_add64 rfl rfl t_fits) ?_ | refine aops_val (av_add rfl rfl) ?_
                      first | refine aops_val (av_assign_int rfl) ?_ | refine aops_val (av_assign rfl) ?_
                      exact ⟨F.order.length - (i + 1), by omega, i + 1, D, by omega, rfl, leC2, rD, e3, e7, e9, rfl⟩
                  · intro hc12
                    have hix : ¬ i < F.order.length := by have := of_decide_eq_false hc12; omega
                    refine ac_exit ?_
                    refine ac_seq ?_
                    refine ac_region (by kernel_rfl) ?_
                    refine aops_op (aop_call (lives29_ok _) rfl Try.func13 rfl rfl rfl ?_)
                    rintro v H' ⟨rfl, hlv⟩
                    first | refine aops_val (av_assign_bool rfl) ?_ | refine aops_val (av_assign rfl) ?_
                    refine ac_ret ?_
                    exact ⟨.bool true, aresult1 (ares_tmp rfl), rfl, Hp.le_trans leC (Hp.le_trans leC1 hlv)⟩
        · intro hg6
          have hf : ok = true := by have h := hg6; simpa using h
          obtain ⟨_, i0, hfr, hi0, hns, rfl, rfl, rfl, hw⟩ := hok.resolve_right (fun h => by rw [h.1] at hf; cases hf)
          rw [hfr] at hg5 ⊢
          obtain ⟨bR, oR, wR, eR, hbR, hcellR, hwR⟩ := rC.row_at hi0
          subst eR
          have hcR1 := hcellR 1 _ rfl
          have hcR2 := hcellR 2 _ rfl
          refine adr_skip rfl (want_no rfl rfl rfl hg6 rfl) ?_
          refine adr_skip rfl (want_no rfl rfl rfl hg6 rfl) ?_
          refine adr_skip rfl (want_no rfl rfl rfl hg6 rfl) ?_
          refine adr_skip rfl (want_no rfl rfl rfl hg6 rfl) ?_
          refine adr_skip rfl (want_no rfl rfl rfl hg6 rfl) ?_
          refine adr_skip rfl (want_gone rfl rfl rfl) ?_
          refine adr_skip rfl (want_gone rfl rfl rfl) ?_
          refine adr_skip rfl (want_gone rfl rfl rfl) ?_
          refine adr_skip rfl (want_no rfl rfl rfl hg6 rfl) ?_
          refine adr_skip rfl (want_no rfl rfl rfl hg6 rfl) ?_
          refine adr_skip rfl (want_gone rfl rfl rfl) ?_
          refine adr_skip rfl (want_gone rfl rfl rfl) ?_
          refine adr_skip rfl (want_gone rfl rfl rfl) ?_
          refine adr_skip rfl (want_no rfl rfl rfl hg6 rfl) ?_
          refine adr_wval rfl (want_yes rfl rfl rfl hg5) rfl (av_pick_bool (congrArg Value.bool hg6) rfl) t_lt ?_
          refine adr_val rfl rfl (av_pick_bool (congrArg Value.bool hg5) rfl) t_lt ?_
          first | refine adr_val rfl rfl (av_move_bool rfl) t_lt ?_ | refine adr_val rfl rfl (av_move rfl) t_lt ?_
          first | refine adr_wval rfl (want_yes rfl rfl rfl rfl) rfl (av_move_bool rfl) t_lt ?_ | refine adr_wval rfl (want_yes rfl rfl rfl rfl) rfl (av_move rfl) t_lt ?_
          first | refine adr_wval rfl (want_yes rfl rfl rfl rfl) rfl (av_move_bool rfl) t_lt ?_ | refine adr_wval rfl (want_yes rfl rfl rfl rfl) rfl (av_move rfl) t_lt ?_
          refine adr_guard rfl rfl rfl rfl ?_ ?_
          · intro hg20
            have hp20 := hg20; try simp only [decide_eq_true_eq, decide_eq_false_iff_not, Bool.not_eq_true', Bool.not_eq_false'] at hp20
            refine adr_wval rfl (want_yes rfl rfl rfl hg20) rfl (av_fieldOff (off := 0) rfl Try.underlying44 rfl inf23.size (by decide) rfl) t_lt ?_
            refine adr_wval rfl (want_yes rfl rfl rfl hg20) rfl (av_load1 rfl Try.underlying23 rfl t_cell) t_lt ?_
            first | refine adr_wval rfl (want_yes rfl rfl rfl hg20) rfl (av_move_sl rfl) t_lt ?_ | refine adr_wval rfl (want_yes rfl rfl rfl hg20) rfl (av_move rfl) t_lt ?_
            refine adr_wop rfl (want_yes rfl rfl rfl hg20) rfl (aop_call (SameI_ints N N _ _ _ (hw.mono le20.sees) nC (by omega)) rfl Try.func18 rfl rfl rfl ?_)
            rintro v22 HC' ⟨rfl, rfl⟩
            refine ⟨t_pend, ?_⟩
            refine adr_wval rfl (want_yes rfl rfl rfl hg20) rfl (av_not rfl) t_lt ?_
            first | refine adr_wval rfl (want_yes rfl rfl rfl hg20) rfl (av_move_bool rfl) t_lt ?_ | refine adr_wval rfl (want_yes rfl rfl rfl hg20) rfl (av_move rfl) t_lt ?_
            refine adr_guard rfl rfl rfl rfl ?_ ?_
            · intro hg21
              (have h := hg21; simp at h)
            · intro hg21
              have hp21 := hg21; try simp only [decide_eq_true_eq, decide_eq_false_iff_not, Bool.not_eq_true', Bool.not_eq_false'] at hp21
              refine adr_wval rfl (want_yes rfl rfl rfl hg21) rfl (av_fieldOff (off := 1) rfl Try.underlying44 rfl inf3.size (by decide) rfl) t_lt ?_
              refine adr_wval rfl (want_yes rfl rfl rfl hg21) rfl (av_load1 rfl Try.underlying3 rfl t_cell) t_lt ?_
              first | refine adr_wval rfl (want_yes rfl rfl rfl hg21) rfl (av_move_sl rfl) t_lt ?_ | refine adr_wval rfl (want_yes rfl rfl rfl hg21) rfl (av_move rfl) t_lt ?_
              first | refine adr_wval rfl (want_yes rfl rfl rfl hg21) rfl (av_move_int rfl) t_lt ?_ | refine adr_wval rfl (want_yes rfl rfl rfl hg21) rfl (av_move rfl) t_lt ?_
              refine adr_wval rfl (want_yes rfl rfl rfl hg21) rfl (av_indexAddr rfl rfl Try.underlying40 inf49.size t_idx t_idx) t_lt ?_
              refine adr_wval rfl (want_yes rfl rfl rfl hg21) rfl (av_fieldOff (off := 1) rfl Try.underlying49 rfl inf3.size (by decide) rfl) t_lt ?_
              refine adr_wval rfl (want_yes rfl rfl rfl hg21) rfl (av_load1 rfl Try.underlying3 rfl t_cell) t_lt ?_
              refine adr_wval rfl (want_yes rfl rfl rfl hg21) rfl (av_ne rfl rfl) t_lt ?_
              refine adr_wval rfl (want_yes rfl rfl rfl hg20) rfl (av_pick_bool (congrArg Value.bool hg21) rfl) t_lt ?_
              first | refine adr_wval rfl (want_yes rfl rfl rfl hg20) rfl (av_move_bool rfl) t_lt ?_ | refine adr_wval rfl (want_yes rfl rfl rfl hg20) rfl (av_move rfl) t_lt ?_
              refine adr_guard rfl rfl rfl rfl ?_ ?_
              · intro hg22
                (have h := hg22; simp at h)
              · intro hg22
                have hp22 := hg22; try simp only [decide_eq_true_eq, decide_eq_false_iff_not, Bool.not_eq_true', Bool.not_eq_false'] at hp22
                refine adr_wval rfl (want_yes rfl rfl rfl hg22) rfl (av_fieldOff (off := 2) rfl Try.underlying44 rfl inf42.size (by decide) rfl) t_lt ?_
                refine adr_wval rfl (want_yes rfl rfl rfl hg22) rfl (av_load1 rfl Try.underlying42 rfl t_cell) t_lt ?_
                first | refine adr_wval rfl (want_yes rfl rfl rfl hg22) rfl (av_move_sl rfl) t_lt ?_ | refine adr_wval rfl (want_yes rfl rfl rfl hg22) rfl (av_move rfl) t_lt ?_
                first | refine adr_wval rfl (want_yes rfl rfl rfl hg22) rfl (av_move_int rfl) t_lt ?_ | refine adr_wval rfl (want_yes rfl rfl rfl hg22) rfl (av_move rfl) t_lt ?_
                refine adr_wval rfl (want_yes rfl rfl rfl hg22) rfl (av_indexAddr rfl rfl Try.underlying40 inf49.size t_idx t_idx) t_lt ?_
                refine adr_wval rfl (want_yes rfl rfl rfl hg22) rfl (av_fieldOff (off := 2) rfl Try.underlying49 rfl inf42.size (by decide) rfl) t_lt ?_
                refine adr_wval rfl (want_yes rfl rfl rfl hg22) rfl (av_load1 rfl Try.underlying42 rfl t_cell) t_lt ?_
                refine adr_wval rfl (want_yes rfl rfl rfl hg22) rfl (av_ne rfl rfl) t_lt ?_
                refine adr_wval rfl (want_yes rfl rfl rfl hg20) rfl (av_pick_bool (congrArg Value.bool hg22) rfl) t_lt ?_
                refine adr_wval rfl (want_yes rfl rfl rfl rfl) rfl (av_pick_bool (congrArg Value.bool hg20) rfl) t_lt ?_
                refine adr_val rfl rfl (av_pick_bool (congrArg Value.bool rfl) rfl) t_lt ?_
                refine ac_split rfl rfl ?_ ?_
                · intro hc23
                  (have h := hc23; simp at h)
                · intro hc23
                  (try simp only [decide_eq_true_eq, decide_eq_false_iff_not, Bool.not_eq_true', Bool.not_eq_false'] at hc23)
                  refine ac_skip ?_
                  refine ac_seq ?_
                  refine ac_seq ?_
                  refine ac_region (by kernel_rfl) ?_
                  first | refine aops_val (av_assign_int rfl) ?_ | refine aops_val (av_assign rfl) ?_
                  refine ac_block ?_
                  refine ac_loop (fun n t H' => ∃ (i : Nat) (D : Option Addr), i ≤ F.order.length ∧ n = F.order.length - i ∧ HC'.le H' ∧ Sl kRow HC' (.slice D (rowsP F Q).length m8) (rowsP F Q) ∧ t 3 = .pointer (some ⟨H.size, 0, none⟩) ∧ t 7 = .pointer (some ⟨tb, 0, none⟩) ∧ t 9 = .slice D (rowsP F Q).length m8 ∧ t 13 = .int .i64 i) (F.order.length) (⟨0, _, by omega, rfl, Hp.le_refl _, rC, rfl, rfl, rfl, rfl⟩) ?_
                  rintro n t H1 ⟨i, D, hi, rfl, leC1, rD, e3, e7, e9, e13⟩
                  have g1 := le_got leC1 (by omega) (by intro e; cases e) C0'
                  have zC1 := leC1.1
                  refine ac_seq ?_
                  refine ac_seq ?_
                  refine ac_region (by kernel_rfl) ?_
                  first | refine aops_val (av_move_int (by first | assumption | rfl)) ?_ | refine aops_val (av_move (by first | assumption | rfl)) ?_
                  refine aops_val (av_fieldOff (off := 1) (by first | assumption | rfl) Try.underlying26 (by first | assumption | rfl) inf23.size (by decide) (by first | assumption | rfl)) ?_
                  refine aops_val (av_load1 rfl Try.underlying23 rfl t_cell) ?_
                  refine aops_val (av_len rfl Try.underlying23) ?_
                  refine aops_val (av_lt rfl rfl) ?_
                  refine ac_split rfl rfl ?_ ?_
                  · intro hc24
                    have hix : i < F.order.length := by have := of_decide_eq_true hc24; omega
                    refine ac_skip ?_
                    refine ac_seq ?_
                    refine ac_block ?_
                    refine ac_seq ?_
                    refine ac_region (by kernel_rfl) ?_
                    first | refine aops_val (av_assign_int rfl) ?_ | refine aops_val (av_assign rfl) ?_
                    refine ac_block ?_
                    refine ac_loop (fun n t H' => ∃ a : Nat, a ≤ 5 ∧ n = 5 - a ∧ H1.le H' ∧ t 3 = .pointer (some ⟨H.size, 0, none⟩) ∧ t 7 = .pointer (some ⟨tb, 0, none⟩) ∧ t 9 = .slice D (rowsP F Q).length m8 ∧ t 13 = .int .i64 i ∧ t 14 = .int .i64 a) (5) (⟨0, by omega, rfl, Hp.le_refl _, e3, e7, e9, e13, rfl⟩) ?_
                    rintro n t H2 ⟨a, ha, rfl, le12, e3, e7, e9, e13, e14⟩
                    have leC2 := Hp.le_trans leC1 le12
                    refine ac_seq ?_
                    refine ac_seq ?_
                    refine ac_region (by kernel_rfl) ?_
                    first | refine aops_val (av_move_int (by first | assumption | rfl)) ?_ | refine aops_val (av_move (by first | assumption | rfl)) ?_
                    refine aops_val (av_lt rfl rfl) ?_
                    refine ac_split rfl rfl ?_ ?_
                    · intro hc25
                      (try simp only [decide_eq_true_eq, decide_eq_false_iff_not, Bool.not_eq_true', Bool.not_eq_false'] at hc25)
                      refine ac_skip ?_
                      refine ac_seq ?_
                      refine ac_block ?_
                      refine ac_seq ?_
                      refine ac_region (by kernel_rfl) ?_
                      first | refine aops_val (av_move_ptr (by first | assumption | rfl)) ?_ | refine aops_val (av_move (by first | assumption | rfl)) ?_
                      first | refine aops_val (av_move_int (by first | assumption | rfl)) ?_ | refine aops_val (av_move (by first | assumption | rfl)) ?_
                      first | refine aops_val (av_move_int (by first | assumption | rfl)) ?_ | refine aops_val (av_move (by first | assumption | rfl)) ?_
                      refine aops_op (aop_call (Group_tree (trC.mono leC2) hT.l1 hT.l2 hT.lens (i : Int) (a : Int)) rfl Try.func19 rfl rfl rfl ?_)
                      rintro v30 H3 ⟨G3, hleG3, hownG⟩; obtain ⟨L, hL⟩ : ∃ L, L = (treeOf F (ofP F Q)).group (i : Int) (a : Int) := ⟨_, rfl⟩; rw [← hL] at hownG; have hslG := hownG.sl; obtain ⟨AG, cG, rfl⟩ := hslG.shape; have le23 := Hp.le_trans hleG3 hownG.le; have leC3 := Hp.le_trans leC2 le23
                      first | refine aops_val (av_move_ptr (by first | assumption | rfl)) ?_ | refine aops_val (av_move (by first | assumption | rfl)) ?_
                      first | refine aops_val (av_move_int (by first | assumption | rfl)) ?_ | refine aops_val (av_move (by first | assumption | rfl)) ?_
                      refine aops_op (aop_call (Parent_tree (trC.mono leC3) hT.l1 (i : Int)) rfl Try.func20 rfl rfl rfl ?_)
                      rintro v31 H3 ⟨rfl, rfl⟩; rw [if_pos ⟨by omega, by omega⟩, Int.toNat_natCast]; obtain ⟨u, hu⟩ : ∃ u, u = (treeOf F (ofP F Q)).parent.getD i 0 := ⟨_, rfl⟩; rw [← hu]; have hpu := hT.par i (by omega); rw [← hu] at hpu; have hLl : L.length ≤ 1000000 := by rw [hL]; exact group_len hT.lens _ _
                      first | refine aops_val (av_assign_sl rfl) ?_ | refine aops_val (av_assign rfl) ?_
                      first | refine aops_val (av_assign_int rfl) ?_ | refine aops_val (av_assign rfl) ?_
                      refine ac_seq ?_
                      refine ac_region (by kernel_rfl) ?_
                      first | refine aops_val (av_assign_int rfl) ?_ | refine aops_val (av_assign rfl) ?_
                      refine ac_block ?_
                      refine ac_loop (fun n t H' => ∃ k : Nat, k ≤ L.length ∧ n = L.length - k ∧ H' = H3 ∧ t 3 = .pointer (some ⟨H.size, 0, none⟩) ∧ t 7 = .pointer (some ⟨tb, 0, none⟩) ∧ t 9 = .slice D (rowsP F Q).length m8 ∧ t 13 = .int .i64 i ∧ t 14 = .int .i64 a ∧ t 15 = .slice AG L.length cG ∧ t 16 = .int .i64 u ∧ t 17 = .int .i64 k) (L.length) (⟨0, by omega, rfl, rfl, e3, e7, e9, e13, e14, rfl, rfl, rfl⟩) ?_
                      rintro n t H3 ⟨k, hk, rfl, rfl, e3, e7, e9, e13, e14, e15, e16, e17⟩
                      refine ac_seq ?_
                      refine ac_seq ?_
                      refine ac_region (by kernel_rfl) ?_
                      first | refine aops_val (av_move_int (by first | assumption | rfl)) ?_ | refine aops_val (av_move (by first | assumption | rfl)) ?_
                      first | refine aops_val (av_move_sl (by first | assumption | rfl)) ?_ | refine aops_val (av_move (by first | assumption | rfl)) ?_
                      refine aops_val (av_len rfl Try.underlying50) ?_
                      refine aops_val (av_lt rfl rfl) ?_
                      refine ac_split rfl rfl ?_ ?_
                      · intro hc26
                        have hkx : k < L.length := by have := of_decide_eq_true hc26; omega
                        obtain ⟨bL, oL, eL, hbL, hcL⟩ := hslG.link_at hkx
                        obtain ⟨l, hl⟩ : ∃ l, l = L[k] := ⟨_, rfl⟩
                        rw [← hl] at hcL
                        have hcL1 := hcL 1 _ rfl
                        have hany : (rowsP F Q).any (inGroup i l.b u a) = true := by
                          obtain ⟨r, hr, h1, h2⟩ := hall (i := i) (by omega) (above := (a : Int)) (l := l) (by rw [← hL, hl]; exact List.getElem_mem hkx)
                          rw [← hu] at h2
                          rw [List.any_eq_true]
                          refine ⟨r, hr, ?_⟩
                          unfold inGroup
                          rw [decide_eq_true h1, Bool.true_and, Bool.or_eq_true, decide_eq_true_eq, decide_eq_true_eq]
                          exact h2
                        refine ac_skip ?_
                        refine ac_seq ?_
                        refine ac_block ?_
                        refine ac_seq ?_
                        refine ac_region (by kernel_rfl) ?_
                        first | refine aops_val (av_assign_bool rfl) ?_ | refine aops_val (av_assign rfl) ?_
                        refine ac_seq ?_
                        refine ac_seq ?_
                        refine ac_region (by kernel_rfl) ?_
                        first | refine aops_val (av_assign_int rfl) ?_ | refine aops_val (av_assign rfl) ?_
                        refine ac_block ?_
                        refine ac_loop (fun n t H' => ∃ j : Nat, j ≤ (rowsP F Q).length ∧ n = (rowsP F Q).length - j ∧ H' = H3 ∧ t 3 = .pointer (some ⟨H.size, 0, none⟩) ∧ t 7 = .pointer (some ⟨tb, 0, none⟩) ∧ t 9 = .slice D (rowsP F Q).length m8 ∧ t 13 = .int .i64 i ∧ t 14 = .int .i64 a ∧ t 15 = .slice AG L.length cG ∧ t 16 = .int .i64 u ∧ t 17 = .int .i64 k ∧ t 18 = .bool (((rowsP F Q).take j).any (inGroup i l.b u a)) ∧ t 19 = .int .i64 j) ((rowsP F Q).length) (⟨0, by omega, rfl, rfl, e3, e7, e9, e13, e14, e15, e16, e17, rfl, rfl⟩) ?_
                        rintro n t H3 ⟨j, hj, rfl, rfl, e3, e7, e9, e13, e14, e15, e16, e17, e18, e19⟩
                        refine ac_seq ?_
                        refine ac_seq ?_
                        refine ac_region (by kernel_rfl) ?_
                        first | refine aops_val (av_move_int (by first | assumption | rfl)) ?_ | refine aops_val (av_move (by first | assumption | rfl)) ?_
                        first | refine aops_val (av_move_sl (by first | assumption | rfl)) ?_ | refine aops_val (av_move (by first | assumption | rfl)) ?_
                        refine aops_val (av_len rfl Try.underlying40) ?_
                        refine aops_val (av_lt rfl rfl) ?_
                        refine ac_split rfl rfl ?_ ?_
                        · intro hc27
                          have hjx : j < (rowsP F Q).length := by have := of_decide_eq_true hc27; omega
                          obtain ⟨bD, oD, wD, eD, hbD, hcD, hwD⟩ := (rD.mono leC3.sees).row_at hjx
                          subst eD eL
                          have hcD0 := hcD 0 _ rfl
                          obtain ⟨R, hR⟩ : ∃ R, R = (rowsP F Q)[j] := ⟨_, rfl⟩
                          have hRn := hrn R (by rw [hR]; exact List.getElem_mem hjx)
                          have hnx := anyr_next (q := inGroup i l.b u a) hjx
                          rw [← hR] at hnx hwD
                          obtain ⟨AD, cD, rfl⟩ := hwD.shape
                          obtain ⟨bw, ow, ew, hbw, hcw⟩ := hwD.int_at (i := (i : Int)) (by omega) (by omega)
                          rw [Int.toNat_natCast] at hcw
                          subst ew
                          refine ac_skip ?_
                          refine ac_seq ?_
                          refine ac_block ?_
                          refine ac_draw (by kernel_rfl) (reg_of (B := [0, 1, 3, 3, 15, 31, 63, 3, 255, 511, 3, 3, 3075, 7171, 15363, 32767, 65535, 131071, 262143, 524287, 1048575, 1048575, 4194303, 8388607, 16777215, 1048575, 67108863, 134217727, 1048575, 536870911, 1073741823, 2147483647, 4294967295, 8589934591]) (π := [0, 1, 2, 3, 4, 5, 6, 7, 8, 9, 10, 11, 12, 13, 14, 15, 16, 17, 18, 19, 20, 21, 22, 23, 24, 25, 26, 27, 28, 29, 30, 31, 32, 33]) (by kernel_rfl)) ?_
                          first | refine adr_val rfl rfl (av_move_bool (by first | assumption | rfl)) t_lt ?_ | refine adr_val rfl rfl (av_move (by first | assumption | rfl)) t_lt ?_
                          first | refine adr_val rfl rfl (av_move_bool rfl) t_lt ?_ | refine adr_val rfl rfl (av_move rfl) t_lt ?_
                          refine adr_guard rfl rfl rfl rfl ?_ ?_
                          · intro hg28
                            have hc0 : ((rowsP F Q).take j).any (inGroup i l.b u a) = true := hg28
                            refine adr_skip rfl (want_no rfl rfl rfl hg28 rfl) ?_
                            refine adr_skip rfl (want_no rfl rfl rfl hg28 rfl) ?_
                            refine adr_skip rfl (want_no rfl rfl rfl hg28 rfl) ?_
                            refine adr_skip rfl (want_no rfl rfl rfl hg28 rfl) ?_
                            refine adr_skip rfl (want_no rfl rfl rfl hg28 rfl) ?_
                            refine adr_skip rfl (want_no rfl rfl rfl hg28 rfl) ?_
                            refine adr_skip rfl (want_no rfl rfl rfl hg28 rfl) ?_
                            refine adr_skip rfl (want_no rfl rfl rfl hg28 rfl) ?_
                            refine adr_skip rfl (want_no rfl rfl rfl hg28 rfl) ?_
                            refine adr_skip rfl (want_no rfl rfl rfl hg28 rfl) ?_
                            refine adr_skip rfl (want_no rfl rfl rfl hg28 rfl) ?_
                            refine adr_skip rfl (want_no rfl rfl rfl hg28 rfl) ?_
                            refine adr_skip rfl (want_no rfl rfl rfl hg28 rfl) ?_
                            refine adr_skip rfl (want_no rfl rfl rfl hg28 rfl) ?_
                            refine adr_skip rfl (want_no rfl rfl rfl hg28 rfl) ?_
                            refine adr_skip rfl (want_gone rfl rfl rfl) ?_
                            refine adr_skip rfl (want_gone rfl rfl rfl) ?_
                            refine adr_skip rfl (want_gone rfl rfl rfl) ?_
                            refine adr_skip rfl (want_gone rfl rfl rfl) ?_
                            refine adr_skip rfl (want_gone rfl rfl rfl) ?_
                            refine adr_skip rfl (want_gone rfl rfl rfl) ?_
                            refine adr_skip rfl (want_gone rfl rfl rfl) ?_
                            refine adr_skip rfl (want_gone rfl rfl rfl) ?_
                            refine adr_skip rfl (want_gone rfl rfl rfl) ?_
                            refine adr_skip rfl (want_gone rfl rfl rfl) ?_
                            refine adr_skip rfl (want_gone rfl rfl rfl) ?_
                            refine adr_skip rfl (want_gone rfl rfl rfl) ?_
                            refine adr_skip rfl (want_gone rfl rfl rfl) ?_
                            refine adr_skip rfl (want_gone rfl rfl rfl) ?_
                            refine adr_skip rfl (want_no rfl rfl rfl hg28 rfl) ?_
                            refine adr_val rfl rfl (av_pick_bool (congrArg Value.bool hg28) (by first | assumption | rfl)) t_lt ?_
                            first | refine adr_val rfl rfl (av_assign_bool rfl) t_lt ?_ | refine adr_val rfl rfl (av_assign rfl) t_lt ?_
                            refine ac_region (by kernel_rfl) ?_
                            first | refine aops_val (av_move_int (by first | assumption | rfl)) ?_ | refine aops_val (av_move (by first | assumption | rfl)) ?_
                            first | refine aops_val (av_add64 rfl rfl t_fits) ?_ | refine aops_val (av_add rfl rfl) ?_
                            first | refine aops_val (av_assign_int rfl) ?_ | refine aops_val (av_assign rfl) ?_
                            refine ⟨(rowsP F Q).length - (j + 1), by omega, j + 1, by omega, rfl, rfl, e3, e7, e9, e13, e14, e15, e16, e17, congrArg Value.bool ?_, rfl⟩
                            rw [hnx, hc0]
                            unfold inGroup
                            first
                              | rfl
                              | (rw [decide_eq_true hc1, decide_eq_true hc2]; rfl)
                              | (rw [decide_eq_true hc1, decide_eq_false hc2]; rfl)
                              | (rw [decide_eq_false hc1]; rfl)
                          · intro hg28
                            have hc0 : ((rowsP F Q).take j).any (inGroup i l.b u a) = false := hg28
                            first | refine adr_wval rfl (want_yes rfl rfl rfl hg28) rfl (av_move_sl (by first | assumption | rfl)) t_lt ?_ | refine adr_wval rfl (want_yes rfl rfl rfl hg28) rfl (av_move (by first | assumption | rfl)) t_lt ?_
                            first | refine adr_wval rfl (want_yes rfl rfl rfl hg28) rfl (av_move_int (by first | assumption | rfl)) t_lt ?_ | refine adr_wval rfl (want_yes rfl rfl rfl hg28) rfl (av_move (by first | assumption | rfl)) t_lt ?_
                            refine adr_wval rfl (want_yes rfl rfl rfl hg28) rfl (av_indexAddr rfl rfl Try.underlying40 inf49.size t_idx t_idx) t_lt ?_
                            refine adr_wval rfl (want_yes rfl rfl rfl hg28) rfl (av_fieldOff (off := 0) rfl Try.underlying49 rfl inf23.size (by decide) rfl) t_lt ?_
                            refine adr_wval rfl (want_yes rfl rfl rfl hg28) rfl (av_load1 rfl Try.underlying23 rfl t_cell) t_lt ?_
                            first | refine adr_wval rfl (want_yes rfl rfl rfl hg28) rfl (av_move_int (by first | assumption | rfl)) t_lt ?_ | refine adr_wval rfl (want_yes rfl rfl rfl hg28) rfl (av_move (by first | assumption | rfl)) t_lt ?_
                            refine adr_wval rfl (want_yes rfl rfl rfl hg28) rfl (av_indexAddr rfl rfl Try.underlying23 inf3.size t_idx t_idx) t_lt ?_
                            refine adr_wval rfl (want_yes rfl rfl rfl hg28) rfl (av_load1 rfl Try.underlying3 rfl t_cell) t_lt ?_
                            first | refine adr_wval rfl (want_yes rfl rfl rfl hg28) rfl (av_move_sl (by first | assumption | rfl)) t_lt ?_ | refine adr_wval rfl (want_yes rfl rfl rfl hg28) rfl (av_move (by first | assumption | rfl)) t_lt ?_
                            first | refine adr_wval rfl (want_yes rfl rfl rfl hg28) rfl (av_move_int (by first | assumption | rfl)) t_lt ?_ | refine adr_wval rfl (want_yes rfl rfl rfl hg28) rfl (av_move (by first | assumption | rfl)) t_lt ?_
                            refine adr_wval rfl (want_yes rfl rfl rfl hg28) rfl (av_indexAddr rfl rfl Try.underlying50 inf54.size t_idx t_idx) t_lt ?_
                            refine adr_wval rfl (want_yes rfl rfl rfl hg28) rfl (av_fieldOff (off := 1) rfl Try.underlying54 rfl inf3.size (by decide) rfl) t_lt ?_
                            refine adr_wval rfl (want_yes rfl rfl rfl hg28) rfl (av_load1 rfl Try.underlying3 rfl t_cell) t_lt ?_
                            refine adr_wval rfl (want_yes rfl rfl rfl hg28) rfl (av_eq rfl rfl) t_lt ?_
                            first | refine adr_wval rfl (want_yes rfl rfl rfl hg28) rfl (av_move_bool rfl) t_lt ?_ | refine adr_wval rfl (want_yes rfl rfl rfl hg28) rfl (av_move rfl) t_lt ?_
                            refine adr_guard rfl rfl rfl rfl ?_ ?_
                            · intro hg29
                              have hc1 : R.nodes.getD i 0 = l.b := of_decide_eq_true hg29
                              first | refine adr_wval rfl (want_yes rfl rfl rfl hg29) rfl (av_move_int (by first | assumption | rfl)) t_lt ?_ | refine adr_wval rfl (want_yes rfl rfl rfl hg29) rfl (av_move (by first | assumption | rfl)) t_lt ?_
                              refine adr_wval rfl (want_yes rfl rfl rfl hg29) rfl (av_lt rfl rfl) t_lt ?_
                              first | refine adr_wval rfl (want_yes rfl rfl rfl hg29) rfl (av_move_bool rfl) t_lt ?_ | refine adr_wval rfl (want_yes rfl rfl rfl hg29) rfl (av_move rfl) t_lt ?_
                              refine adr_guard rfl rfl rfl rfl ?_ ?_
                              · intro hg30
                                have hc2 : u < 0 := of_decide_eq_true hg30
                                refine adr_skip rfl (want_no rfl rfl rfl hg30 rfl) ?_
                                refine adr_skip rfl (want_no rfl rfl rfl hg30 rfl) ?_
                                refine adr_skip rfl (want_no rfl rfl rfl hg30 rfl) ?_
                                refine adr_skip rfl (want_no rfl rfl rfl hg30 rfl) ?_
                                refine adr_skip rfl (want_no rfl rfl rfl hg30 rfl) ?_
                                refine adr_skip rfl (want_no rfl rfl rfl hg30 rfl) ?_
                                refine adr_skip rfl (want_no rfl rfl rfl hg30 rfl) ?_
                                refine adr_skip rfl (want_no rfl rfl rfl hg30 rfl) ?_
                                refine adr_skip rfl (want_no rfl rfl rfl hg30 rfl) ?_
                                refine adr_skip rfl (want_no rfl rfl rfl hg30 rfl) ?_
                                refine adr_wval rfl (want_yes rfl rfl rfl hg29) rfl (av_pick_bool (congrArg Value.bool hg30) (by first | assumption | rfl)) t_lt ?_
                                refine adr_wval rfl (want_yes rfl rfl rfl hg28) rfl (av_pick_bool (congrArg Value.bool hg29) rfl) t_lt ?_
                                refine adr_val rfl rfl (av_pick_bool (congrArg Value.bool hg28) rfl) t_lt ?_
                                first | refine adr_val rfl rfl (av_assign_bool rfl) t_lt ?_ | refine adr_val rfl rfl (av_assign rfl) t_lt ?_
                                refine ac_region (by kernel_rfl) ?_
                                first | refine aops_val (av_move_int (by first | assumption | rfl)) ?_ | refine aops_val (av_move (by first | assumption | rfl)) ?_
                                first | refine aops_val (av_add64 rfl rfl t_fits) ?_ | refine aops_val (av_add rfl rfl) ?_
                                first | refine aops_val (av_assign_int rfl) ?_ | refine aops_val (av_assign rfl) ?_
                                refine ⟨(rowsP F Q).length - (j + 1), by omega, j + 1, by omega, rfl, rfl, e3, e7, e9, e13, e14, e15, e16, e17, congrArg Value.bool ?_, rfl⟩
                                rw [hnx, hc0]
                                unfold inGroup
                                first
                                  | rfl
                                  | (rw [decide_eq_true hc1, decide_eq_true hc2]; rfl)
                                  | (rw [decide_eq_true hc1, decide_eq_false hc2]; rfl)
                                  | (rw [decide_eq_false hc1]; rfl)
                              · intro hg30
                                have hc2 : ¬ u < 0 := of_decide_eq_false hg30
                                obtain ⟨bw2, ow2, ew2, hbw2, hcw2⟩ := hwD.int_at (i := u) (by omega) (by omega)
                                simp only [Option.some.injEq, Addr.mk.injEq, and_true] at ew2
                                obtain ⟨rfl, rfl⟩ := ew2
                                first | refine adr_wval rfl (want_yes rfl rfl rfl hg30) rfl (av_move_sl (by first | assumption | rfl)) t_lt ?_ | refine adr_wval rfl (want_yes rfl rfl rfl hg30) rfl (av_move (by first | assumption | rfl)) t_lt ?_
                                first | refine adr_wval rfl (want_yes rfl rfl rfl hg30) rfl (av_move_int (by first | assumption | rfl)) t_lt ?_ | refine adr_wval rfl (want_yes rfl rfl rfl hg30) rfl (av_move (by first | assumption | rfl)) t_lt ?_
                                refine adr_wval rfl (want_yes rfl rfl rfl hg30) rfl (av_indexAddr rfl rfl Try.underlying40 inf49.size t_idx t_idx) t_lt ?_
                                refine adr_wval rfl (want_yes rfl rfl rfl hg30) rfl (av_fieldOff (off := 0) rfl Try.underlying49 rfl inf23.size (by decide) rfl) t_lt ?_
                                refine adr_wval rfl (want_yes rfl rfl rfl hg30) rfl (av_load1 rfl Try.underlying23 rfl t_cell) t_lt ?_
                                first | refine adr_wval rfl (want_yes rfl rfl rfl hg30) rfl (av_move_int (by first | assumption | rfl)) t_lt ?_ | refine adr_wval rfl (want_yes rfl rfl rfl hg30) rfl (av_move (by first | assumption | rfl)) t_lt ?_
                                refine adr_wval rfl (want_yes rfl rfl rfl hg30) rfl (av_indexAddr rfl rfl Try.underlying23 inf3.size t_idx t_idx) t_lt ?_
                                refine adr_wval rfl (want_yes rfl rfl rfl hg30) rfl (av_load1 rfl Try.underlying3 rfl t_cell) t_lt ?_
                                first | refine adr_wval rfl (want_yes rfl rfl rfl hg30) rfl (av_move_int (by first | assumption | rfl)) t_lt ?_ | refine adr_wval rfl (want_yes rfl rfl rfl hg30) rfl (av_move (by first | assumption | rfl)) t_lt ?_
                                refine adr_wval rfl (want_yes rfl rfl rfl hg30) rfl (av_eq rfl rfl) t_lt ?_
                                refine adr_wval rfl (want_yes rfl rfl rfl hg29) rfl (av_pick_bool (congrArg Value.bool hg30) rfl) t_lt ?_
                                refine adr_wval rfl (want_yes rfl rfl rfl hg28) rfl (av_pick_bool (congrArg Value.bool hg29) rfl) t_lt ?_
                                refine adr_val rfl rfl (av_pick_bool (congrArg Value.bool hg28) rfl) t_lt ?_
                                first | refine adr_val rfl rfl (av_assign_bool rfl) t_lt ?_ | refine adr_val rfl rfl (av_assign rfl) t_lt ?_
                                refine ac_region (by kernel_rfl) ?_
                                first | refine aops_val (av_move_int (by first | assumption | rfl)) ?_ | refine aops_val (av_move (by first | assumption | rfl)) ?_
                                first | refine aops_val (av_add64 rfl rfl t_fits) ?_ | refine aops_val (av_add rfl rfl) ?_
                                first | refine aops_val (av_assign_int rfl) ?_ | refine aops_val (av_assign rfl) ?_
                                refine ⟨(rowsP F Q).length - (j + 1), by omega, j + 1, by omega, rfl, rfl, e3, e7, e9, e13, e14, e15, e16, e17, congrArg Value.bool ?_, rfl⟩
                                rw [hnx, hc0]
                                unfold inGroup
                                first
                                  | rfl
                                  | (rw [decide_eq_true hc1, decide_eq_true hc2]; rfl)
                                  | (rw [decide_eq_true hc1, decide_eq_false hc2]; rfl)
                                  | (rw [decide_eq_false hc1]; rfl)
                            · intro hg29
                              have hc1 : ¬ R.nodes.getD i 0 = l.b := of_decide_eq_false hg29
                              refine adr_skip rfl (want_no rfl rfl rfl hg29 rfl) ?_
                              refine adr_skip rfl (want_no rfl rfl rfl hg29 rfl) ?_
                              refine adr_skip rfl (want_no rfl rfl rfl hg29 rfl) ?_
                              refine adr_skip rfl (want_gone rfl rfl rfl) ?_
                              refine adr_skip rfl (want_gone rfl rfl rfl) ?_
                              refine adr_skip rfl (want_gone rfl rfl rfl) ?_
                              refine adr_skip rfl (want_gone rfl rfl rfl) ?_
                              refine adr_skip rfl (want_gone rfl rfl rfl) ?_
                              refine adr_skip rfl (want_gone rfl rfl rfl) ?_
                              refine adr_skip rfl (want_gone rfl rfl rfl) ?_
                              refine adr_skip rfl (want_gone rfl rfl rfl) ?_
                              refine adr_skip rfl (want_gone rfl rfl rfl) ?_
                              refine adr_skip rfl (want_gone rfl rfl rfl) ?_
                              refine adr_skip rfl (want_no rfl rfl rfl hg29 rfl) ?_
                              refine adr_wval rfl (want_yes rfl rfl rfl hg28) rfl (av_pick_bool (congrArg Value.bool hg29) (by first | assumption | rfl)) t_lt ?_
                              refine adr_val rfl rfl (av_pick_bool (congrArg Value.bool hg28) rfl) t_lt ?_
                              first | refine adr_val rfl rfl (av_assign_bool rfl) t_lt ?_ | refine adr_val rfl rfl (av_assign rfl) t_lt ?_
                              refine ac_region (by kernel_rfl) ?_
                              first | refine aops_val (av_move_int (by first | assumption | rfl)) ?_ | refine aops_val (av_move (by first | assumption | rfl)) ?_
                              first | refine aops_val (av_add64 rfl rfl t_fits) ?_ | refine aops_val (av_add rfl rfl) ?_
                              first | refine aops_val (av_assign_int rfl) ?_ | refine aops_val (av_assign rfl) ?_
                              refine ⟨(rowsP F Q).length - (j + 1), by omega, j + 1, by omega, rfl, rfl, e3, e7, e9, e13, e14, e15, e16, e17, congrArg Value.bool ?_, rfl⟩
                              rw [hnx, hc0]
                              unfold inGroup
                              first
                                | rfl
                                | (rw [decide_eq_true hc1, decide_eq_true hc2]; rfl)
                                | (rw [decide_eq_true hc1, decide_eq_false hc2]; rfl)
                                | (rw [decide_eq_false hc1]; rfl)
                        · intro hc27
                          (try simp only [decide_eq_true_eq, decide_eq_false_iff_not, Bool.not_eq_true', Bool.not_eq_false'] at hc27)
                          refine ac_exit ?_
                          refine ac_seq ?_
                          refine ac_region (by kernel_rfl) ?_
                          first | refine aops_val (av_move_bool (by first | assumption | rfl)) ?_ | refine aops_val (av_move (by first | assumption | rfl)) ?_
                          refine aops_val (av_not rfl) ?_
                          refine ac_split rfl rfl ?_ ?_
                          · intro hc31
                            (have h := hc31; rw [List.take_of_length_le (by omega), hany] at h; cases h)
                          · intro hc31
                            (try simp only [decide_eq_true_eq, decide_eq_false_iff_not, Bool.not_eq_true', Bool.not_eq_false'] at hc31)
                            refine ac_skip ?_
                            refine ac_region (by kernel_rfl) ?_
                            first | refine aops_val (av_move_int (by first | assumption | rfl)) ?_ | refine aops_val (av_move (by first | assumption | rfl)) ?_
                            first | refine aops_val (av_add64 rfl rfl t_fits) ?_ | refine aops_val (av_add rfl rfl) ?_
                            first | refine aops_val (av_assign_int rfl) ?_ | refine aops_val (av_assign rfl) ?_
                            exact ⟨L.length - (k + 1), by omega, k + 1, by omega, rfl, rfl, e3, e7, e9, e13, e14, e15, e16, rfl⟩
                      · intro hc26
                        (try simp only [decide_eq_true_eq, decide_eq_false_iff_not, Bool.not_eq_true', Bool.not_eq_false'] at hc26)
                        refine ac_exit ?_
                        refine ac_region (by kernel_rfl) ?_
                        first | refine aops_val (av_move_int (by first | assumption | rfl)) ?_ | refine aops_val (av_move (by first | assumption | rfl)) ?_
                        first | refine aops_val (av_add64 rfl rfl t_fits) ?_ | refine aops_val (av_add rfl rfl) ?_
                        first | refine aops_val (av_assign_int rfl) ?_ | refine aops_val (av_assign rfl) ?_
                        exact ⟨5 - (a + 1), by omega, a + 1, by omega, rfl, Hp.le_trans le12 le23, e3, e7, e9, e13, rfl⟩
                    · intro hc25
                      (try simp only [decide_eq_true_eq, decide_eq_false_iff_not, Bool.not_eq_true', Bool.not_eq_false'] at hc25)
                      refine ac_exit ?_
                      refine ac_region (by kernel_rfl) ?_
                      first | refine aops_val (av_move_int (by first | assumption | rfl)) ?_ | refine aops_val (av_move (by first | assumption | rfl)) ?_
                      first | refine aops_val (av_add64 rfl rfl t_fits) ?_ | refine aops_val (av_add rfl rfl) ?_
                      first | refine aops_val (av_assign_int rfl) ?_ | refine aops_val (av_assign rfl) ?_
                      exact ⟨F.order.length - (i + 1), by omega, i + 1, D, by omega, rfl, leC2, rD, e3, e7, e9, rfl⟩
                  · intro hc24
                    have hix : ¬ i < F.order.length := by have := of_decide_eq_false hc24; omega
                    refine ac_exit ?_
                    refine ac_seq ?_
                    refine ac_region (by kernel_rfl) ?_
                    refine aops_op (aop_call (lives29_ok _) rfl Try.func13 rfl rfl rfl ?_)
                    rintro v H' ⟨rfl, hlv⟩
                    first | refine aops_val (av_assign_bool rfl) ?_ | refine aops_val (av_assign rfl) ?_
                    refine ac_ret ?_
                    exact ⟨.bool true, aresult1 (ares_tmp rfl), rfl, Hp.le_trans leC (Hp.le_trans leC1 hlv)⟩
          · intro hg20
            (have h := hg20; rw [hf] at h; cases h)
end Go.Proofs.Ytcaeoebphfjfiaa.Am


/- Links among the arguments of a statement. -/
namespace Go.Proofs.Ytcaeoebphfjfiaa.Am
open Go Go.RowKit
set_option maxRecDepth 100000
theorem cells_i64 : Try.prog.cellsOf 3 = 1 := by kernel_rfl
theorem cells_u64 : Try.prog.cellsOf 42 = 1 := by kernel_rfl
theorem cells_link : Try.prog.cellsOf 54 = 4 := by kernel_rfl
theorem opens_ints : Opens Try.prog (kSl (kInt .i64)) 23 (fun xs => xs.length ≤ maxLen ∧ ∀ x ∈ xs, fits .i64 x) := opens_sl Try.underlying23 cells_i64 (opens_int Try.underlying3)
theorem opens_link : Opens Try.prog kLink 54 (fun x => fits .i64 x.a ∧ fits .i64 x.b ∧ fits .i64 x.cost ∧ fits .u64 x.n) := fun Hh enc W fuel cs x h => by
  obtain ⟨xs, n, _, _, hl, hxs, hf⟩ := DataW.trod_struct Try.underlying54 h
  rw [cells_link] at hl
  have hxs : xs.length = 4 := hxs
  match cs, hl with
  | [c0, c1, c2, c3], _ =>
    have f0 : DataW.trod enc Try.prog W 0 (fun _ => true) true n 3 (([c0, c1, c2, c3].drop 0).take (Try.prog.cellsOf 3)) = xs[0]? := hf 0 _ rfl
    have f1 : DataW.trod enc Try.prog W 0 (fun _ => true) true n 3 (([c0, c1, c2, c3].drop 1).take (Try.prog.cellsOf 3)) = xs[1]? := hf 1 _ rfl
    have f2 : DataW.trod enc Try.prog W 0 (fun _ => true) true n 3 (([c0, c1, c2, c3].drop 2).take (Try.prog.cellsOf 3)) = xs[2]? := hf 2 _ rfl
    have f3 : DataW.trod enc Try.prog W 0 (fun _ => true) true n 42 (([c0, c1, c2, c3].drop 3).take (Try.prog.cellsOf 42)) = xs[3]? := hf 3 _ rfl
    rw [cells_i64, List.getElem?_eq_getElem (show 0 < xs.length by omega)] at f0
    rw [cells_i64, List.getElem?_eq_getElem (show 1 < xs.length by omega)] at f1
    rw [cells_i64, List.getElem?_eq_getElem (show 2 < xs.length by omega)] at f2
    rw [cells_u64, List.getElem?_eq_getElem (show 3 < xs.length by omega)] at f3
    obtain ⟨y0, r0, b0, v0⟩ := opens_int (P := Try.prog) Try.underlying3 Hh enc W n _ _ f0
    obtain ⟨y1, r1, b1, v1⟩ := opens_int (P := Try.prog) Try.underlying3 Hh enc W n _ _ f1
    obtain ⟨y2, r2, b2, v2⟩ := opens_int (P := Try.prog) Try.underlying3 Hh enc W n _ _ f2
    obtain ⟨y3, r3, b3, v3⟩ := opens_int (P := Try.prog) Try.underlying42 Hh enc W n _ _ f3
    refine ⟨⟨y0, y1, y2, y3⟩, ?_, ⟨b0, b1, b2, b3⟩, fun v hv => ?_⟩
    · have e0 : [absV W c0] = [Value.int .i64 y0] := r0
      have e1 : [absV W c1] = [Value.int .i64 y1] := r1
      have e2 : [absV W c2] = [Value.int .i64 y2] := r2
      have e3 : [absV W c3] = [Value.int .u64 y3] := r3
      simp only [List.cons.injEq, and_true] at e0 e1 e2 e3
      simp [kLink, e0, e1, e2, e3]
    · simp at hv
      rcases hv with rfl | rfl | rfl | rfl
      · exact v0 _ (List.mem_singleton.2 rfl)
      · exact v1 _ (List.mem_singleton.2 rfl)
      · exact v2 _ (List.mem_singleton.2 rfl)
      · exact v3 _ (List.mem_singleton.2 rfl)
theorem opens_links : Opens Try.prog (kSl kLink) 50 (fun xs => xs.length ≤ maxLen ∧ ∀ x ∈ xs, fits .i64 x.a ∧ fits .i64 x.b ∧ fits .i64 x.cost ∧ fits .u64 x.n) := opens_sl Try.underlying50 cells_link opens_link
end Go.Proofs.Ytcaeoebphfjfiaa.Am


/- Forests and parts among the arguments of a statement. -/
namespace Go.Proofs.Ytcaeoebphfjfiaa.Am
open Go Go.RowKit
set_option maxRecDepth 100000
theorem cells_links : Try.prog.cellsOf 50 = 1 := by kernel_rfl
theorem cells_ints : Try.prog.cellsOf 23 = 1 := by kernel_rfl
theorem cells_str : Try.prog.cellsOf 9 = 1 := by kernel_rfl
theorem cells_strs : Try.prog.cellsOf 22 = 1 := by kernel_rfl
theorem cells_intss : Try.prog.cellsOf 24 = 1 := by kernel_rfl
theorem cells_linkss : Try.prog.cellsOf 27 = 1 := by kernel_rfl
theorem cells_parts : Try.prog.cellsOf 29 = 2 := by kernel_rfl
theorem cells_forest : Try.prog.cellsOf 26 = 5 := by kernel_rfl
theorem opens_strs : Opens Try.prog (kSl kStr) 22 (fun xs => xs.length ≤ maxLen ∧ ∀ x ∈ xs, x.size ≤ maxLen) := opens_sl Try.underlying22 cells_str (opens_str Try.underlying9)
theorem opens_intss : Opens Try.prog (kSl (kSl (kInt .i64))) 24 (fun xs => xs.length ≤ maxLen ∧ ∀ x ∈ xs, x.length ≤ maxLen ∧ ∀ n ∈ x, fits .i64 n) := opens_sl Try.underlying24 cells_ints opens_ints
theorem opens_linkss : Opens Try.prog (kSl (kSl kLink)) 27 (fun xs : List (List Link) => xs.length ≤ maxLen ∧ ∀ l ∈ xs, l.length ≤ maxLen ∧ ∀ x ∈ l, fits .i64 x.a ∧ fits .i64 x.b ∧ fits .i64 x.cost ∧ fits .u64 x.n) := opens_sl Try.underlying27 cells_links opens_links
theorem opens_parts : Opens Try.prog kParts 29 BigP := fun Hh enc W fuel cs x h => by
  obtain ⟨xs, n, _, _, hl, hxs, hf⟩ := DataW.trod_struct Try.underlying29 h
  rw [cells_parts] at hl
  have hxs : xs.length = 2 := hxs
  match cs, hl with
  | [c0, c1], _ =>
    have f0 : DataW.trod enc Try.prog W 0 (fun _ => true) true n 27 (([c0, c1].drop 0).take (Try.prog.cellsOf 27)) = xs[0]? := hf 0 _ rfl
    have f1 : DataW.trod enc Try.prog W 0 (fun _ => true) true n 27 (([c0, c1].drop 1).take (Try.prog.cellsOf 27)) = xs[1]? := hf 1 _ rfl
    rw [cells_linkss, List.getElem?_eq_getElem (show 0 < xs.length by omega)] at f0
    rw [cells_linkss, List.getElem?_eq_getElem (show 1 < xs.length by omega)] at f1
    obtain ⟨y0, ⟨w0, r0, s0⟩, b0, v0⟩ := opens_linkss Hh enc W n _ _ f0
    obtain ⟨y1, ⟨w1, r1, s1⟩, b1, v1⟩ := opens_linkss Hh enc W n _ _ f1
    refine ⟨⟨y0, y1⟩, ⟨w0, w1, ?_, s0, s1⟩, ⟨b0.1, b1.1, fun l hl => (b0.2 l hl).1, fun l hl => (b1.2 l hl).1⟩, fun v hv => ?_⟩
    · have e0 : [absV W c0] = [w0] := r0
      have e1 : [absV W c1] = [w1] := r1
      simp only [List.cons.injEq, and_true] at e0 e1
      simp [e0, e1]
    · simp at hv
      rcases hv with rfl | rfl
      · exact v0 _ (List.mem_singleton.2 rfl)
      · exact v1 _ (List.mem_singleton.2 rfl)
theorem opens_forest : Opens Try.prog kForest 26 BigF := fun Hh enc W fuel cs x h => by
  obtain ⟨xs, n, _, _, hl, hxs, hf⟩ := DataW.trod_struct Try.underlying26 h
  rw [cells_forest] at hl
  have hxs : xs.length = 5 := hxs
  match cs, hl with
  | [c0, c1, c2, c3, c4], _ =>
    have f0 : DataW.trod enc Try.prog W 0 (fun _ => true) true n 22 (([c0, c1, c2, c3, c4].drop 0).take (Try.prog.cellsOf 22)) = xs[0]? := hf 0 _ rfl
    have f1 : DataW.trod enc Try.prog W 0 (fun _ => true) true n 23 (([c0, c1, c2, c3, c4].drop 1).take (Try.prog.cellsOf 23)) = xs[1]? := hf 1 _ rfl
    have f2 : DataW.trod enc Try.prog W 0 (fun _ => true) true n 23 (([c0, c1, c2, c3, c4].drop 2).take (Try.prog.cellsOf 23)) = xs[2]? := hf 2 _ rfl
    have f3 : DataW.trod enc Try.prog W 0 (fun _ => true) true n 24 (([c0, c1, c2, c3, c4].drop 3).take (Try.prog.cellsOf 24)) = xs[3]? := hf 3 _ rfl
    have f4 : DataW.trod enc Try.prog W 0 (fun _ => true) true n 24 (([c0, c1, c2, c3, c4].drop 4).take (Try.prog.cellsOf 24)) = xs[4]? := hf 4 _ rfl
    rw [cells_strs, List.getElem?_eq_getElem (show 0 < xs.length by omega)] at f0
    rw [cells_ints, List.getElem?_eq_getElem (show 1 < xs.length by omega)] at f1
    rw [cells_ints, List.getElem?_eq_getElem (show 2 < xs.length by omega)] at f2
    rw [cells_intss, List.getElem?_eq_getElem (show 3 < xs.length by omega)] at f3
    rw [cells_intss, List.getElem?_eq_getElem (show 4 < xs.length by omega)] at f4
    obtain ⟨y0, ⟨w0, r0, s0⟩, b0, v0⟩ := opens_strs Hh enc W n _ _ f0
    obtain ⟨y1, ⟨w1, r1, s1⟩, b1, v1⟩ := opens_ints Hh enc W n _ _ f1
    obtain ⟨y2, ⟨w2, r2, s2⟩, b2, v2⟩ := opens_ints Hh enc W n _ _ f2
    obtain ⟨y3, ⟨w3, r3, s3⟩, b3, v3⟩ := opens_intss Hh enc W n _ _ f3
    obtain ⟨y4, ⟨w4, r4, s4⟩, b4, v4⟩ := opens_intss Hh enc W n _ _ f4
    refine ⟨⟨y0, y1, y2, y3, y4⟩, ⟨w0, w1, w2, w3, w4, ?_, s0, s1, s2, s3, s4⟩, ⟨b0.1, b1.1, b2.1, b3.1, b4.1, fun l hl => (b3.2 l hl).1, fun l hl => (b4.2 l hl).1⟩, fun v hv => ?_⟩
    · have e0 : [absV W c0] = [w0] := r0
      have e1 : [absV W c1] = [w1] := r1
      have e2 : [absV W c2] = [w2] := r2
      have e3 : [absV W c3] = [w3] := r3
      have e4 : [absV W c4] = [w4] := r4
      simp only [List.cons.injEq, and_true] at e0 e1 e2 e3 e4
      simp [e0, e1, e2, e3, e4]
    · simp at hv
      rcases hv with rfl | rfl | rfl | rfl | rfl
      · exact v0 _ (List.mem_singleton.2 rfl)
      · exact v1 _ (List.mem_singleton.2 rfl)
      · exact v2 _ (List.mem_singleton.2 rfl)
      · exact v3 _ (List.mem_singleton.2 rfl)
      · exact v4 _ (List.mem_singleton.2 rfl)
end Go.Proofs.Ytcaeoebphfjfiaa.Am
