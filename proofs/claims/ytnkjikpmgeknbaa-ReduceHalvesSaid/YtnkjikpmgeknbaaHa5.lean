/- Texts that the proof rests on, part 5: lemmas for every heap that is related to a world, no condition beyond each lemma's own. -/
import Derived.Test.YtnkjikpmgeknbaaHa4
import Derived.Test.YtnkjikpmgeknbaaHa1
import Derived.Test.YtnkjikpmgeknbaaHa2
namespace Go.Proofs.Ytnkjikpmgeknbaa.Am
open Go Go.RowKit
set_option maxRecDepth 100000
set_option linter.unusedVariables false
set_option linter.unusedSimpArgs false

def rootless (f : Forest) (x : Parts) (v : Int) : Bool := decide (f.parent.getD v.toNat 0 = -1) && decide ((x.nodes.getD v.toNat []).length = 0)
def ofP (f : Forest) (p : Parts) : Parts := if f.order.any (rootless f (downP f (upP f p))) = true then ⟨List.replicate f.vars.length [], List.replicate f.vars.length []⟩ else downP f (upP f p)
theorem sl_empties {H : Hp} {b n : Nat} (hb : b < H.size) (hg : H.get b = .own 1 (List.replicate n [Value.slice none 0 0]).flatten) : Sl (kSl kLink) H (.slice (some ⟨b, 0, none⟩) n n) (List.replicate n []) := by
  refine .inr ⟨b, 0, n, by rw [List.length_replicate], hb, by rw [hg]; rfl, fun i x hi => ?_⟩
  have hl := (List.getElem?_eq_some_iff.1 hi).1
  rw [List.length_replicate] at hl
  rw [List.getElem?_replicate, if_pos hl] at hi
  injection hi with hi
  subst hi
  refine ⟨[.slice none 0 0], ⟨_, rfl, Sl.nil _ _⟩, fun j v hj => ?_⟩
  have hj0 : j = 0 := by have := (List.getElem?_eq_some_iff.1 hj).1; simp at this; exact this
  subst hj0
  simp at hj
  subst hj
  rw [cell_own hg, List.flatten_replicate_singleton, List.getElem?_replicate, if_pos (by simp [kSl]; omega)]
theorem Fits.of {n : Nat} {f : Forest} {p : Parts} (h : Fits n p) (hn : f.vars.length = n) : Fits n (ofP f p) := by
  unfold ofP
  split
  · exact ⟨by simp [hn], by simp [hn], fun l hl => by rw [List.eq_of_mem_replicate hl]; simp, fun l hl => by rw [List.eq_of_mem_replicate hl]; simp⟩
  · exact h.upP.downP
set_option maxHeartbeats 1000000 in
theorem of_parts (f : Forest) (p : Parts) (cs ds : List Value) (H : Hp) (hp : kForest.rep H f cs) (hq : kParts.rep H p ds) (hg : GoodF f) (hfit : Fits f.vars.length p) (hn : f.vars.length ≤ 1000000) :
    ACalls Try.prog 97 #[.agg cs.toArray, .agg ds.toArray] H (fun r H' => ∃ es, r = .agg es.toArray ∧ kParts.rep H' (ofP f p) es ∧ H.le H') := by
  have hp0 := hp
  have hq0 := hq
  obtain ⟨v0, v1, v2, v3, v4, rfl, hs0, hs1, hs2, hs3, hs4⟩ := hp
  obtain ⟨A0, c0, rfl⟩ := hs0.shape
  obtain ⟨A1, c1, rfl⟩ := hs1.shape
  obtain ⟨A2, c2, rfl⟩ := hs2.shape
  obtain ⟨A3, c3, rfl⟩ := hs3.shape
  obtain ⟨A4, c4, rfl⟩ := hs4.shape
  obtain ⟨u0, u1, rfl, hn0, hn1⟩ := hq
  obtain ⟨B0, d0, rfl⟩ := hn0.shape
  obtain ⟨B1, d1, rfl⟩ := hn1.shape
  have hgl := hg.l1
  have hgp := hg.l2
  have hfx : Fits f.vars.length (downP f (upP f p)) := hfit.upP.downP
  obtain ⟨x, hx⟩ : ∃ x, x = downP f (upP f p) := ⟨_, rfl⟩
  rw [← hx] at hfx
  refine acalls_of_code Try.func97 rfl rfl rfl (by simp) ?_
  refine ac_seq ?_
  refine ac_region (by kernel_rfl) ?_
  refine aops_make (am_box_agg rfl) ?_
  refine aops_make (am_box_agg rfl) ?_
  refine aops_make (am_zero (l := [.slice none 0 0, .slice none 0 0]) inf65.zero rfl (by decide)) ?_
  refine ac_seq ?_
  refine ac_draw (by kernel_rfl) (reg_of (B := [0, 0, 0, 6, 15, 0, 63]) (π := [0, 1, 2, 5, 3, 4, 6]) (by kernel_rfl)) ?_
  first | refine adr_val rfl rfl (av_loadN (cs := [.slice _ _ _, .slice _ _ _, .slice _ _ _, .slice _ _ _, .slice _ _ _]) rfl Try.underlying62 rfl inf62.size t_cells) t_lt ?_ | refine adr_val rfl rfl (av_loadN (cs := [_, _, _, _, _]) rfl Try.underlying62 rfl inf62.size t_cells) t_lt ?_
  first | refine adr_val rfl rfl (av_loadN (cs := [.slice _ _ _, .slice _ _ _, .slice _ _ _, .slice _ _ _, .slice _ _ _]) rfl Try.underlying62 rfl inf62.size t_cells) t_lt ?_ | refine adr_val rfl rfl (av_loadN (cs := [_, _, _, _, _]) rfl Try.underlying62 rfl inf62.size t_cells) t_lt ?_
  first | refine adr_val rfl rfl (av_loadN (cs := [.slice _ _ _, .slice _ _ _]) rfl Try.underlying65 rfl inf65.size t_cells) t_lt ?_ | refine adr_val rfl rfl (av_loadN (cs := [_, _]) rfl Try.underlying65 rfl inf65.size t_cells) t_lt ?_
  refine adr_make rfl rfl (am_zero (l := [.slice none 0 0, .slice none 0 0]) inf65.zero rfl (by decide)) ?_
  refine adr_op rfl rfl (aop_call (up_parts f p _ _ _ (kForest.mono t_sees hp0) (kParts.mono t_sees hq0) hg hfit hn) rfl Try.func102 rfl rfl rfl ?_)
  rintro v5 H5 ⟨G5, N5, L5, hle5, rfl, hpp5⟩; have hleC5 := Hp.le_trans hle5 hpp5.le; have hzC5 := hleC5.1; simp only [Hp.push_size] at hzC5; obtain ⟨A5, c5, rfl⟩ := hpp5.slN.shape; obtain ⟨A6, c6, rfl⟩ := hpp5.slL.shape
  refine ⟨t_pend, ?_⟩
  refine adr_op rfl rfl (aop_call (down_parts f (upP f p) _ [_, _] _ (kForest.mono t_sees hp0) ⟨_, _, rfl, hpp5.slN, hpp5.slL⟩ hg hfit.upP hn) rfl Try.func103 rfl rfl rfl ?_)
  rintro v6 H6 ⟨G6, N6, L6, hle6, rfl, hpp6⟩; rw [← hx] at hpp6; have hleC6 := Hp.le_trans hle6 hpp6.le; have hzC6 := hleC6.1; obtain ⟨AN, cN, rfl⟩ := hpp6.slN.shape; obtain ⟨AL, cL, rfl⟩ := hpp6.slL.shape
  refine ⟨t_pend, ?_⟩
  first | refine adr_op rfl rfl (aop_putN (vs := [.slice _ _ _, .slice _ _ _]) rfl rfl inf65.size t_get t_room rfl rfl ?_) | refine adr_op rfl rfl (aop_putN (vs := [_, _]) rfl rfl inf65.size t_get t_room rfl rfl ?_)
  refine ⟨t_pend, ?_⟩
  refine ac_seq ?_
  refine ac_seq ?_
  have h63 : H6.get (H.size + 3) = .own 0 [.slice none 0 0, .slice none 0 0] := le_got (Hp.le_trans hleC5 hleC6) (by simp) (by intro e; cases e) t_get
  obtain ⟨HS, hHS⟩ : ∃ HS, HS = H6.put (H.size + 3) (.own 0 [.slice AN x.nodes.length cN, .slice AL x.links.length cL]) := ⟨_, rfl⟩
  have hseS : H6.sees HS := by rw [hHS]; exact Hp.sees_box _ h63
  have hleA := Hp.le_put_new (b := H.size + 3) (Hp.le_trans (Hp.le_push _ _) (Hp.le_trans hleC5 hleC6)) (by simp) (.own 0 [.slice AN x.nodes.length cN, .slice AL x.links.length cL])
  rw [← hHS] at hleA
  have k0 : HS.get H.size = .own 0 [.slice A0 f.vars.length c0, .slice A1 f.order.length c1, .slice A2 f.parent.length c2, .slice A3 f.links.length c3, .slice A4 f.loops.length c4] := le_got hleA (by simp; omega) (by intro e; cases e) t_get
  have k2 : HS.get (H.size + 2) = .own 0 [.slice none 0 0, .slice none 0 0] := le_got hleA (by simp) (by intro e; cases e) t_get
  have k5 : HS.get (H.size + 3) = .own 0 [.slice AN x.nodes.length cN, .slice AL x.links.length cL] := by rw [hHS]; exact Hp.put_same _ _ _
  have hzS : HS.size = H6.size := by rw [hHS]; simp
  have hleHS : H.le HS := Hp.le_trans (Hp.le_push' (Hp.le_push' (H.le_push _) _) _) hleA
  have hsN : Sl (kSl kLink) HS (.slice AN x.nodes.length cN) x.nodes := hpp6.slN.mono hseS
  have hsL : Sl (kSl kLink) HS (.slice AL x.links.length cL) x.links := hpp6.slL.mono hseS
  change ACode true _ _ _ _ _ (H6.put (H.size + 3) (.own 0 [.slice AN x.nodes.length cN, .slice AL x.links.length cL]))
  rw [← hHS]
  refine ac_region (by kernel_rfl) ?_
  refine aops_val (av_fieldOff (off := 1) rfl Try.underlying62 rfl inf29.size (by decide) rfl) ?_
  refine aops_val (av_load1 rfl Try.underlying29 rfl t_cell) ?_
  refine aops_val (av_len rfl Try.underlying29) ?_
  first | refine aops_val (av_move_int rfl) ?_ | refine aops_val (av_move rfl) ?_
  refine ac_block ?_
  refine ac_loop (fun n t H' => ∃ (k : Nat), k ≤ f.order.length ∧ n = f.order.length - k ∧ H' = HS ∧ (∀ (j : Nat) (h : j < f.order.length), j < k → rootless f x f.order[j] = false) ∧ t 2 = .pointer (some ⟨H.size, 0, none⟩) ∧ t 4 = .pointer (some ⟨H.size + 2, 0, none⟩) ∧ t 5 = .pointer (some ⟨H.size + 3, 0, none⟩) ∧ t 15 = .slice A1 f.order.length c1 ∧ t 16 = .int .i64 f.order.length ∧ t 17 = .int .i64 k) (f.order.length) (⟨0, by omega, rfl, rfl, fun j h h0 => by omega, rfl, rfl, rfl, rfl, rfl, rfl⟩) ?_
  rintro n t HS ⟨k, hk, rfl, rfl, hok, e2, e4, e5, e15, e16, e17⟩
  refine ac_seq ?_
  refine ac_region (by kernel_rfl) ?_
  refine aops_val (av_lt (by first | assumption | rfl) (by first | assumption | rfl)) ?_
  refine ac_seq ?_
  refine ac_split rfl rfl ?_ ?_
  · intro hc1
    (try simp only [decide_eq_true_eq, decide_eq_false_iff_not, Bool.not_eq_true', Bool.not_eq_false'] at hc1)
    refine ac_skip ?_
    refine ac_seq ?_
    refine ac_block ?_
    refine ac_seq ?_
    refine ac_region (by kernel_rfl) ?_
    have hk' : k < f.order.length := by omega
    have hwm : f.order.getD k 0 ∈ f.order := by rw [getD_at hk']; exact List.getElem_mem hk'
    obtain ⟨b1, o1, rfl, hb1, hcell1⟩ := hs1.int_at (i := (k : Int)) (by omega) (by omega)
    rw [Int.toNat_natCast] at hcell1
    have hcell1' := hleHS.cell1 hb1 hcell1
    obtain ⟨w, hw⟩ : ∃ w : Nat, f.order.getD k 0 = (w : Int) := ⟨(f.order.getD k 0).toNat, by have := hg.order_in hwm; omega⟩
    have hwn : w < f.vars.length := by have := hg.order_in hwm; omega
    rw [hw] at hcell1'
    obtain ⟨b2, o2, rfl, hb2, hcell2⟩ := hs2.int_at (i := (w : Int)) (by omega) (by omega)
    rw [Int.toNat_natCast] at hcell2
    have hcell2' := hleHS.cell1 hb2 hcell2
    have hwx : w < x.nodes.length := by rw [hfx.n1]; exact hwn
    obtain ⟨b3, o3, ks, eB, hb3, ⟨w0, rfl, hw0⟩, hcell3⟩ := hsN.elem_at hwx
    subst eB
    have hcell3' := hcell3.one
    obtain ⟨A9, c9, rfl⟩ := hw0.shape
    have hwk : f.order[k] = (w : Int) := by rw [← getD_at hk']; exact hw
    refine aops_val (av_indexAddr (by first | assumption | rfl) (by first | assumption | rfl) Try.underlying29 inf3.size t_idx t_idx) ?_
    refine aops_val (av_load1 rfl Try.underlying3 rfl t_cell) ?_
    first | refine aops_val (av_assign_int rfl) ?_ | refine aops_val (av_assign rfl) ?_
    refine ac_seq ?_
    refine ac_region (by kernel_rfl) ?_
    refine aops_val (av_fieldOff (off := 2) (by first | assumption | rfl) Try.underlying62 (by first | assumption | rfl) inf29.size (by decide) (by first | assumption | rfl)) ?_
    refine aops_val (av_load1 rfl Try.underlying29 rfl t_cell) ?_
    first | refine aops_val (av_move_int rfl) ?_ | refine aops_val (av_move rfl) ?_
    refine aops_val (av_indexAddr rfl rfl Try.underlying29 inf3.size t_idx t_idx) ?_
    refine aops_val (av_load1 rfl Try.underlying3 rfl t_cell) ?_
    refine aops_val (av_eq rfl rfl) ?_
    first | refine aops_val (av_move_bool rfl) ?_ | refine aops_val (av_move rfl) ?_
    refine aops_guard rfl rfl rfl ?_ ?_
    · intro hg2
      have hpar : f.parent.getD w 0 = -1 := of_decide_eq_true hg2
      refine aops_wval (want_yes rfl rfl rfl hg2) (av_fieldOff (off := 0) (by first | assumption | rfl) Try.underlying65 (by first | assumption | rfl) inf63.size (by decide) (by first | assumption | rfl)) ?_
      refine aops_wval (want_yes rfl rfl rfl hg2) (av_load1 rfl Try.underlying63 rfl t_cell) ?_
      first | refine aops_wval (want_yes rfl rfl rfl hg2) (av_move_int rfl) ?_ | refine aops_wval (want_yes rfl rfl rfl hg2) (av_move rfl) ?_
      refine aops_wval (want_yes rfl rfl rfl hg2) (av_indexAddr rfl rfl Try.underlying63 inf22.size t_idx t_idx) ?_
      refine aops_wval (want_yes rfl rfl rfl hg2) (av_load1 rfl Try.underlying22 rfl t_cell) ?_
      refine aops_wval (want_yes rfl rfl rfl hg2) (av_len rfl Try.underlying22) ?_
      refine aops_wval (want_yes rfl rfl rfl hg2) (av_eq rfl rfl) ?_
      refine aops_val (av_pick_bool (congrArg Value.bool hg2) rfl) ?_
      refine ac_split rfl rfl ?_ ?_
      · intro hc3
        have hlen : x.nodes[w].length = 0 := by have := of_decide_eq_true hc3; omega
        have hany : f.order.any (rootless f x) = true := List.any_eq_true.2 ⟨_, List.getElem_mem hk', by rw [hwk]; unfold rootless; rw [Int.toNat_natCast, getD_list hwx, decide_eq_true hpar, decide_eq_true hlen]; rfl⟩
        refine ac_seq ?_
        refine ac_region (by kernel_rfl) ?_
        refine aops_val (av_fieldOff (off := 0) (by first | assumption | rfl) Try.underlying62 (by first | assumption | rfl) inf59.size (by decide) (by first | assumption | rfl)) ?_
        refine aops_val (av_load1 rfl Try.underlying59 rfl t_cell) ?_
        refine aops_val (av_len rfl Try.underlying59) ?_
        first | refine aops_val (av_assign_int rfl) ?_ | refine aops_val (av_assign rfl) ?_
        refine ac_seq ?_
        refine ac_draw (by kernel_rfl) (reg_of (B := [0, 1, 0, 4, 15, 31]) (π := [0, 1, 2, 3, 4, 5]) (by kernel_rfl)) ?_
        first | refine adr_val rfl rfl (av_move_int rfl) t_lt ?_ | refine adr_val rfl rfl (av_move rfl) t_lt ?_
        refine adr_make rfl rfl (am_makeSlice Try.underlying63 inf22 rfl (by decide) (by decide) rfl rfl (by omega) (by omega) (by omega)) ?_
        first | refine adr_val rfl rfl (av_move_int rfl) t_lt ?_ | refine adr_val rfl rfl (av_move rfl) t_lt ?_
        refine adr_make rfl rfl (am_makeSlice Try.underlying63 inf22 rfl (by decide) (by decide) rfl rfl (by omega) (by omega) (by omega)) ?_
        first | refine adr_val rfl rfl (av_build (pl := [(0, 1), (1, 1)]) (r := [.slice _ _ _, .slice _ _ _]) Try.underlying65 inf65.zero (by decide) rfl rfl) t_lt ?_ | refine adr_val rfl rfl (av_build (pl := [(0, 1), (1, 1)]) (r := [_, _]) Try.underlying65 inf65.zero (by decide) rfl rfl) t_lt ?_
        first | refine adr_op rfl rfl (aop_putN (vs := [.slice _ _ _, .slice _ _ _]) (by first | assumption | rfl) (by first | assumption | rfl) inf65.size t_get t_room (by first | assumption | rfl) (by first | assumption | rfl) ?_) | refine adr_op rfl rfl (aop_putN (vs := [_, _]) (by first | assumption | rfl) (by first | assumption | rfl) inf65.size t_get t_room (by first | assumption | rfl) (by first | assumption | rfl) ?_)
        refine ⟨t_pend, ?_⟩
        refine ac_ret ?_
        have hof : ofP f p = ⟨List.replicate f.vars.length [], List.replicate f.vars.length []⟩ := by unfold ofP; rw [← hx, if_pos hany]
        rw [hof]
        refine ⟨_, aresult1 (ares_cell (by first | assumption | rfl) (aload_agg (cs := [_, _]) Try.underlying65 rfl inf65.size t_cells)), [_, _], rfl, ⟨_, _, rfl, sl_empties ?_ ?_, sl_empties ?_ ?_⟩, ?_⟩
        · simp <;> omega
        · rw [Hp.put_other _ _ (by omega), Hp.push_old _ _ (by simp)]; exact Hp.push_new _ _
        · simp <;> omega
        · rw [Hp.put_other _ _ (by simp; omega)]; exact Hp.push_new _ _
        · exact Hp.le_put_new (Hp.le_push' (Hp.le_push' hleHS _) _) (by omega) _
      · intro hc3
        have hlen : x.nodes[w].length ≠ 0 := by have := of_decide_eq_false hc3; omega
        refine ac_skip ?_
        refine ac_region (by kernel_rfl) ?_
        first | refine aops_val (av_add64 (by first | assumption | rfl) (by first | assumption | rfl) t_fits) ?_ | refine aops_val (av_add (by first | assumption | rfl) (by first | assumption | rfl)) ?_
        first | refine aops_val (av_move_int rfl) ?_ | refine aops_val (av_move rfl) ?_
        refine ⟨f.order.length - (k + 1), by omega, k + 1, by omega, rfl, rfl, fun j h h0 => ?_, e2, e4, e5, e15, e16, rfl⟩
        rcases Nat.lt_or_ge j k with h1 | h1
        · exact hok j h h1
        · obtain rfl : j = k := by omega
          rw [hwk]; unfold rootless; rw [Int.toNat_natCast, getD_list hwx]
          first
            | (rw [decide_eq_false hpar]; rfl)
            | (rw [decide_eq_false hlen, Bool.and_false])
    · intro hg2
      have hpar : f.parent.getD w 0 ≠ -1 := of_decide_eq_false hg2
      refine aops_skip (want_no rfl rfl rfl hg2 rfl) ?_
      refine aops_skip (want_no rfl rfl rfl hg2 rfl) ?_
      refine aops_skip (want_no rfl rfl rfl hg2 rfl) ?_
      refine aops_skip (want_no rfl rfl rfl hg2 rfl) ?_
      refine aops_skip (want_no rfl rfl rfl hg2 rfl) ?_
      refine aops_skip (want_no rfl rfl rfl hg2 rfl) ?_
      refine aops_skip (want_no rfl rfl rfl hg2 rfl) ?_
      refine aops_val (av_pick_bool (congrArg Value.bool hg2) (by first | assumption | rfl)) ?_
      refine ac_cond_false rfl rfl ?_
      refine ac_skip ?_
      refine ac_region (by kernel_rfl) ?_
      first | refine aops_val (av_add64 (by first | assumption | rfl) (by first | assumption | rfl) t_fits) ?_ | refine aops_val (av_add (by first | assumption | rfl) (by first | assumption | rfl)) ?_
      first | refine aops_val (av_move_int rfl) ?_ | refine aops_val (av_move rfl) ?_
      refine ⟨f.order.length - (k + 1), by omega, k + 1, by omega, rfl, rfl, fun j h h0 => ?_, e2, e4, e5, e15, e16, rfl⟩
      rcases Nat.lt_or_ge j k with h1 | h1
      · exact hok j h h1
      · obtain rfl : j = k := by omega
        rw [hwk]; unfold rootless; rw [Int.toNat_natCast, getD_list hwx]
        first
          | (rw [decide_eq_false hpar]; rfl)
          | (rw [decide_eq_false hlen, Bool.and_false])
  · intro hc1
    (try simp only [decide_eq_true_eq, decide_eq_false_iff_not, Bool.not_eq_true', Bool.not_eq_false'] at hc1)
    refine ac_exit ?_
    refine ac_seq ?_
    refine ac_region (by kernel_rfl) ?_
    first | refine aops_val (av_loadN (cs := [.slice _ _ _, .slice _ _ _]) (by first | assumption | rfl) Try.underlying65 (by first | assumption | rfl) inf65.size t_cells) ?_ | refine aops_val (av_loadN (cs := [_, _]) (by first | assumption | rfl) Try.underlying65 (by first | assumption | rfl) inf65.size t_cells) ?_
    first | refine aops_op (aop_putN (vs := [.slice _ _ _, .slice _ _ _]) (by first | assumption | rfl) (by first | assumption | rfl) inf65.size t_get t_room (by first | assumption | rfl) (by first | assumption | rfl) ?_) | refine aops_op (aop_putN (vs := [_, _]) (by first | assumption | rfl) (by first | assumption | rfl) inf65.size t_get t_room (by first | assumption | rfl) (by first | assumption | rfl) ?_)
    refine ac_ret ?_
    have hof : ofP f p = x := by
      unfold ofP
      rw [← hx, if_neg]
      intro h
      obtain ⟨v, hv, hr⟩ := List.any_eq_true.1 h
      obtain ⟨j, hj, rfl⟩ := List.getElem_of_mem hv
      rw [hok j hj (by omega)] at hr
      cases hr
    rw [hof]
    exact ⟨_, aresult1 (ares_cell (by first | assumption | rfl) (aload_agg (cs := [_, _]) Try.underlying65 rfl inf65.size t_cells)), [_, _], rfl, ⟨_, _, rfl, hsN.mono (Hp.sees_box _ k2), hsL.mono (Hp.sees_box _ k2)⟩, Hp.le_put_new hleHS (by omega) _⟩
end Go.Proofs.Ytnkjikpmgeknbaa.Am
namespace Go.Proofs.Ytnkjikpmgeknbaa.Am
open Go Go.RowKit
set_option maxRecDepth 100000
set_option linter.unusedVariables false
set_option linter.unusedSimpArgs false

def nd (p : Parts) (v : Nat) : List Link := p.nodes.getD v []
def lk (p : Parts) (v : Nat) : List Link := p.links.getD v []
def firsts (l : List Link) : List Int := l.map (·.a)
def lasts (l : List Link) : List Int := l.map (·.b)
def par (f : Forest) (v : Nat) : Int := f.parent.getD v 0
theorem getD_set {ns : List (List Link)} {u w : Nat} {l : List Link} (hu : u < ns.length) : (ns.set u l).getD w [] = if w = u then l else ns.getD w [] := by
  rw [List.getD_eq_getElem?_getD, List.getElem?_set, List.getD_eq_getElem?_getD]
  by_cases h : u = w
  · subst h; rw [if_pos rfl, if_pos hu, if_pos rfl]; rfl
  · rw [if_neg h, if_neg (fun e => h e.symm)]
theorem parts_ext {p q : Parts} {n : Nat} (hp : p.nodes.length = n) (hp2 : p.links.length = n) (hq : q.nodes.length = n) (hq2 : q.links.length = n) (h1 : ∀ v, v < n → nd p v = nd q v) (h2 : ∀ v, v < n → lk p v = lk q v) : p = q := by
  obtain ⟨pn, pl⟩ := p
  obtain ⟨qn, ql⟩ := q
  simp only at hp hp2 hq hq2
  have e1 : pn = qn := List.ext_getElem (by omega) fun i a b => by
    have := h1 i (by omega)
    unfold nd at this
    rwa [getD_list a, getD_list b] at this
  have e2 : pl = ql := List.ext_getElem (by omega) fun i a b => by
    have := h2 i (by omega)
    unfold lk at this
    rwa [getD_list a, getD_list b] at this
  rw [e1, e2]
/-- A variable's links whose ends are left. -/
def left (p : Parts) (v u : Nat) : List Link := (lk p v).filter fun x => decide (x.a ∈ firsts (nd p u)) && decide (x.b ∈ firsts (nd p v))
def upC (f : Forest) (p : Parts) (v : Nat) : Parts :=
  if par f v = -1 then p else ⟨p.nodes.set (par f v).toNat ((nd p (par f v).toNat).filter fun x => decide (x.a ∈ firsts (left p v (par f v).toNat))), p.links.set v (left p v (par f v).toNat)⟩
def downC (f : Forest) (p : Parts) (v : Nat) : Parts :=
  if par f v = -1 then p else ⟨p.nodes.set v ((nd p v).filter fun x => decide (x.a ∈ lasts (left p v (par f v).toNat))), p.links.set v (left p v (par f v).toNat)⟩
def NB (p : Parts) : Prop := ∀ v, ∀ x ∈ nd p v, x.a = x.b
theorem mem_firsts {l : List Link} {n : Int} : n ∈ endsL l false ↔ n ∈ firsts l := by rw [endsL_mem]; unfold firsts; simp [List.mem_map]
theorem mem_lasts {l : List Link} {n : Int} : n ∈ endsL l true ↔ n ∈ lasts l := by rw [endsL_mem]; unfold lasts; simp [List.mem_map]
theorem withinL_left (p : Parts) (v u : Nat) : withinL (lk p v) (endsL (nd p u) false) (endsL (nd p v) false) = left p v u := by
  unfold withinL left
  exact List.filter_congr fun x _ => by simp only [mem_firsts]
theorem withinL_keep {p : Parts} (hb : NB p) (v : Nat) (l : List Int) : withinL (nd p v) l l = (nd p v).filter fun x => decide (x.a ∈ l) := by
  unfold withinL
  exact List.filter_congr fun x hx => by rw [← hb v x hx, Bool.and_self]
theorem linksStep_eq {p : Parts} {v u : Nat} : linksStep p.nodes p.links v u = p.links.set v (left p v u) := by
  unfold linksStep
  exact congrArg _ (withinL_left p v u)
theorem upStep_eq {f : Forest} {p : Parts} {v : Nat} (hb : NB p) (hv : v < p.links.length) : upStep f p v = upC f p v := by
  unfold upStep upC
  split
  · rw [if_pos (by assumption)]
  · rw [if_neg (by assumption), linksStep_eq, getD_set hv, if_pos rfl]
    unfold keepStep
    rw [show p.nodes.getD (f.parent.getD v 0).toNat [] = nd p (par f v).toNat from rfl, withinL_keep hb]
    exact congrArg (fun l => Parts.mk (p.nodes.set _ l) _) (List.filter_congr fun x _ => by simp only [mem_firsts]; rfl)
theorem downStep_eq {f : Forest} {p : Parts} {v : Nat} (hb : NB p) (hv : v < p.links.length) : downStep f p v = downC f p v := by
  unfold downStep downC
  split
  · rw [if_pos (by assumption)]
  · rw [if_neg (by assumption), linksStep_eq, getD_set hv, if_pos rfl]
    unfold keepStep
    rw [show p.nodes.getD v [] = nd p v from rfl, withinL_keep hb]
    exact congrArg (fun l => Parts.mk (p.nodes.set _ l) _) (List.filter_congr fun x _ => by simp only [mem_lasts]; rfl)
/-- As many lists of each as variables. -/
def Lens (n : Nat) (p : Parts) : Prop := p.nodes.length = n ∧ p.links.length = n
theorem Lens.up {n : Nat} {f : Forest} {p : Parts} (h : Lens n p) (v : Nat) : Lens n (upC f p v) := by
  unfold upC; split
  · exact h
  · exact ⟨by simp [h.1], by simp [h.2]⟩
theorem Lens.down {n : Nat} {f : Forest} {p : Parts} (h : Lens n p) (v : Nat) : Lens n (downC f p v) := by
  unfold downC; split
  · exact h
  · exact ⟨by simp [h.1], by simp [h.2]⟩
theorem nd_up {n : Nat} {f : Forest} {p : Parts} {v : Nat} (h : Lens n p) (hu : (par f v).toNat < n) (w : Nat) : nd (upC f p v) w = if par f v ≠ -1 ∧ w = (par f v).toNat then (nd p w).filter (fun x => decide (x.a ∈ firsts (left p v (par f v).toNat))) else nd p w := by
  unfold upC
  by_cases hp : par f v = -1
  · rw [if_pos hp, if_neg (fun h => h.1 hp)]
  · rw [if_neg hp]
    show (p.nodes.set _ _).getD w [] = _
    rw [getD_set (by rw [h.1]; exact hu)]
    by_cases hw : w = (par f v).toNat
    · rw [if_pos hw, if_pos ⟨hp, hw⟩, hw]
    · rw [if_neg hw, if_neg (fun h => hw h.2)]; rfl
theorem lk_up {n : Nat} {f : Forest} {p : Parts} {v : Nat} (h : Lens n p) (hv : v < n) (w : Nat) : lk (upC f p v) w = if par f v ≠ -1 ∧ w = v then left p v (par f v).toNat else lk p w := by
  unfold upC
  by_cases hp : par f v = -1
  · rw [if_pos hp, if_neg (fun h => h.1 hp)]
  · rw [if_neg hp]
    show (p.links.set _ _).getD w [] = _
    rw [getD_set (by rw [h.2]; exact hv)]
    by_cases hw : w = v
    · rw [if_pos hw, if_pos ⟨hp, hw⟩]
    · rw [if_neg hw, if_neg (fun h => hw h.2)]; rfl
theorem nd_down {n : Nat} {f : Forest} {p : Parts} {v : Nat} (h : Lens n p) (hv : v < n) (w : Nat) : nd (downC f p v) w = if par f v ≠ -1 ∧ w = v then (nd p v).filter (fun x => decide (x.a ∈ lasts (left p v (par f v).toNat))) else nd p w := by
  unfold downC
  by_cases hp : par f v = -1
  · rw [if_pos hp, if_neg (fun h => h.1 hp)]
  · rw [if_neg hp]
    show (p.nodes.set _ _).getD w [] = _
    rw [getD_set (by rw [h.1]; exact hv)]
    by_cases hw : w = v
    · rw [if_pos hw, if_pos ⟨hp, hw⟩]
    · rw [if_neg hw, if_neg (fun h => hw h.2)]; rfl
theorem lk_down {n : Nat} {f : Forest} {p : Parts} {v : Nat} (h : Lens n p) (hv : v < n) (w : Nat) : lk (downC f p v) w = if par f v ≠ -1 ∧ w = v then left p v (par f v).toNat else lk p w := by
  unfold downC
  by_cases hp : par f v = -1
  · rw [if_pos hp, if_neg (fun h => h.1 hp)]
  · rw [if_neg hp]
    show (p.links.set _ _).getD w [] = _
    rw [getD_set (by rw [h.2]; exact hv)]
    by_cases hw : w = v
    · rw [if_pos hw, if_pos ⟨hp, hw⟩]
    · rw [if_neg hw, if_neg (fun h => hw h.2)]; rfl
/-- What is left is of what there was, in its order. -/
def Sub (q p : Parts) : Prop := ∀ v, (nd q v).Sublist (nd p v) ∧ (lk q v).Sublist (lk p v)
theorem Sub.refl (p : Parts) : Sub p p := fun _ => ⟨List.Sublist.refl _, List.Sublist.refl _⟩
theorem Sub.trans {p q r : Parts} (h : Sub r q) (k : Sub q p) : Sub r p := fun v => ⟨(h v).1.trans (k v).1, (h v).2.trans (k v).2⟩
theorem Sub.up {n : Nat} {f : Forest} {p : Parts} {v : Nat} (h : Lens n p) (hu : (par f v).toNat < n) (hv : v < n) : Sub (upC f p v) p := fun w => by
  rw [nd_up h hu, lk_up h hv]
  constructor
  · split
    · exact List.filter_sublist
    · exact List.Sublist.refl _
  · split
    · rename_i hw; rw [hw.2]; exact List.filter_sublist
    · exact List.Sublist.refl _
theorem Sub.down {n : Nat} {f : Forest} {p : Parts} {v : Nat} (h : Lens n p) (hv : v < n) : Sub (downC f p v) p := fun w => by
  rw [nd_down h hv, lk_down h hv]
  constructor
  · split
    · rename_i hw; rw [hw.2]; exact List.filter_sublist
    · exact List.Sublist.refl _
  · split
    · rename_i hw; rw [hw.2]; exact List.filter_sublist
    · exact List.Sublist.refl _
theorem NB.sub {p q : Parts} (h : NB p) (k : Sub q p) : NB q := fun v x hx => h v x ((k v).1.subset hx)
theorem left_mem {p : Parts} {v u : Nat} {x : Link} : x ∈ left p v u ↔ x ∈ lk p v ∧ x.a ∈ firsts (nd p u) ∧ x.b ∈ firsts (nd p v) := by
  unfold left; rw [List.mem_filter, Bool.and_eq_true, decide_eq_true_eq, decide_eq_true_eq]
/-- The order of a good forest, cut somewhere. -/
theorem GoodF.cut {f : Forest} (h : GoodF f) {d r : List Int} {w : Int} (e : f.order = d ++ w :: r) : (0 ≤ w ∧ w < f.vars.length) ∧ w ∉ d ∧ w ∉ r ∧ (par f w.toNat = -1 ∨ par f w.toNat ∈ d) := by
  have hl := h.l1
  have hlen : d.length < f.vars.length := by rw [← hl, e]; simp
  have h1 := h.ok d.length hlen
  have hw : f.order.getD d.length 0 = w := by rw [e]; simp [List.getD_eq_getElem?_getD]
  have ht : f.order.take d.length = d := by rw [e]; simp
  unfold OkF at h1
  rw [hw, ht] at h1
  refine ⟨⟨h1.1, h1.2.1⟩, h1.2.2.1, ?_, h1.2.2.2⟩
  have := h.nodup
  rw [e] at this
  have := (List.nodup_append.1 this).2.1
  exact (List.nodup_cons.1 this).1
end Go.Proofs.Ytnkjikpmgeknbaa.Am
namespace Go.Proofs.Ytnkjikpmgeknbaa.Am
open Go Go.RowKit
set_option maxRecDepth 100000
set_option linter.unusedVariables false
set_option linter.unusedSimpArgs false

def BS (p : Parts) (v : Nat) : Prop := ∀ x ∈ lk p v, x.b ∈ firsts (nd p v)
def UP (f : Forest) (p : Parts) (v : Nat) : Prop := ∀ y ∈ nd p (par f v).toNat, y.a ∈ firsts (lk p v)
structure Full (f : Forest) (p : Parts) (v : Nat) : Prop where
  ends : ∀ x ∈ lk p v, x.a ∈ firsts (nd p (par f v).toNat) ∧ x.b ∈ firsts (nd p v)
  up : UP f p v
  down : ∀ y ∈ nd p v, y.a ∈ lasts (lk p v)
/-- A variable whose parent is another one. -/
structure Kid (f : Forest) (n w : Nat) : Prop where
  lt : w < n
  ge : -1 ≤ par f w
  up : (par f w).toNat < n
  ne : par f w ≠ w
theorem Kid.ne' {f : Forest} {n w : Nat} (h : Kid f n w) (hp : par f w ≠ -1) : w ≠ (par f w).toNat := fun e => h.ne (by have := h.ge; omega)
theorem GoodF.kid {f : Forest} (h : GoodF f) {d r : List Int} {w : Nat} (e : f.order = d ++ (w : Int) :: r) : Kid f f.vars.length w := by
  obtain ⟨⟨h1, h2⟩, h3, h4, h5⟩ := h.cut e
  have h6 := h.parent_ge (v := w) (by omega)
  have h7 : par f w ≠ w := fun e2 => by
    rw [Int.toNat_natCast] at h5
    rcases h5 with h5 | h5
    · omega
    · rw [e2] at h5; exact h3 h5
  exact ⟨by omega, h6.1, by have := h6.2; unfold par; omega, h7⟩
theorem up_step_inv {f : Forest} {n : Nat} {p : Parts} {w : Nat} {done : List Int} (hl : Lens n p) (hk : Kid f n w) (hwd : (w : Int) ∉ done) (hpd : par f w ∉ done) (h : ∀ v : Nat, (v : Int) ∈ done → par f v ≠ -1 → BS p v ∧ UP f p v) :
    ∀ v : Nat, (v : Int) ∈ done ++ [(w : Int)] → par f v ≠ -1 → BS (upC f p w) v ∧ UP f (upC f p w) v := by
  intro v hv hpv
  have hsub := Sub.up hl hk.up hk.lt
  rcases List.mem_append.1 hv with hv | hv
  · obtain ⟨h1, h2⟩ := h v hv hpv
    have hne : v ≠ w := fun e => hwd (e ▸ hv)
    have hlk : lk (upC f p w) v = lk p v := by rw [lk_up hl hk.lt, if_neg (fun h => hne h.2)]
    have hnd : nd (upC f p w) v = nd p v := by
      rw [nd_up hl hk.up, if_neg]
      intro ⟨h3, h4⟩
      exact hpd (by rwa [show par f w = (v : Int) by have := hk.ge; omega])
    refine ⟨fun x hx => ?_, fun y hy => ?_⟩
    · rw [hlk] at hx; rw [hnd]; exact h1 x hx
    · rw [hlk]; exact h2 y ((hsub _).1.subset hy)
  · obtain rfl : v = w := by have := List.mem_singleton.1 hv; omega
    have hlk : lk (upC f p v) v = left p v (par f v).toNat := by rw [lk_up hl hk.lt, if_pos ⟨hpv, rfl⟩]
    have hnd : nd (upC f p v) v = nd p v := by rw [nd_up hl hk.up, if_neg (fun h => hk.ne' hpv h.2)]
    refine ⟨fun x hx => ?_, fun y hy => ?_⟩
    · rw [hlk] at hx; rw [hnd]; exact (left_mem.1 hx).2.2
    · rw [hlk]
      unfold UP at *
      rw [nd_up hl hk.up, if_pos ⟨hpv, rfl⟩, List.mem_filter, decide_eq_true_eq] at hy
      exact hy.2
theorem down_step_inv {f : Forest} {n : Nat} {p : Parts} {w : Nat} {done : List Int} (hl : Lens n p) (hb : NB p) (hk : Kid f n w) (hwd : (w : Int) ∉ done) (hpd : ∀ v : Nat, (v : Int) ∈ done → par f v ≠ -1 → par f v ≠ w) (hge : ∀ v : Nat, (v : Int) ∈ done → -1 ≤ par f v)
    (h1 : ∀ v : Nat, (v : Int) ∈ done → par f v ≠ -1 → Full f p v) (h2 : ∀ v : Nat, v < n → (v : Int) ∉ done → par f v ≠ -1 → BS p v ∧ UP f p v) :
    (∀ v : Nat, (v : Int) ∈ done ++ [(w : Int)] → par f v ≠ -1 → Full f (downC f p w) v) ∧ (∀ v : Nat, v < n → (v : Int) ∉ done ++ [(w : Int)] → par f v ≠ -1 → BS (downC f p w) v ∧ UP f (downC f p w) v) := by
  have hsub := Sub.down (f := f) hl hk.lt
  constructor
  · intro v hv hpv
    rcases List.mem_append.1 hv with hv | hv
    · obtain ⟨k1, k2, k3⟩ := h1 v hv hpv
      have hne : v ≠ w := fun e => hwd (e ▸ hv)
      have hlk : lk (downC f p w) v = lk p v := by rw [lk_down hl hk.lt, if_neg (fun h => hne h.2)]
      have hnd : nd (downC f p w) v = nd p v := by rw [nd_down hl hk.lt, if_neg (fun h => hne h.2)]
      refine ⟨fun x hx => ?_, fun y hy => ?_, fun y hy => ?_⟩
      · rw [hlk] at hx
        rw [hnd]
        have hnu : nd (downC f p w) (par f v).toNat = nd p (par f v).toNat := by
          rw [nd_down hl hk.lt, if_neg (fun h => hpd v hv hpv (by have := h.2; have := hge v hv; omega))]
        rw [hnu]; exact k1 x hx
      · rw [hlk]; exact k2 y ((hsub _).1.subset hy)
      · rw [hlk]; rw [hnd] at hy; exact k3 y hy
    · obtain rfl : v = w := by have := List.mem_singleton.1 hv; omega
      obtain ⟨k1, k2⟩ := h2 v hk.lt hwd hpv
      have hlk : lk (downC f p v) v = left p v (par f v).toNat := by rw [lk_down hl hk.lt, if_pos ⟨hpv, rfl⟩]
      have hnu : nd (downC f p v) (par f v).toNat = nd p (par f v).toNat := by rw [nd_down hl hk.lt, if_neg (fun h => hk.ne' hpv h.2.symm)]
      have hnd : nd (downC f p v) v = (nd p v).filter fun x => decide (x.a ∈ lasts (left p v (par f v).toNat)) := by rw [nd_down hl hk.lt, if_pos ⟨hpv, rfl⟩]
      refine ⟨fun x hx => ?_, fun y hy => ?_, fun y hy => ?_⟩
      · rw [hlk] at hx
        obtain ⟨m1, m2, m3⟩ := left_mem.1 hx
        rw [hnu, hnd]
        refine ⟨m2, ?_⟩
        obtain ⟨z, hz, e⟩ := List.mem_map.1 m3
        exact List.mem_map.2 ⟨z, List.mem_filter.2 ⟨hz, by rw [decide_eq_true_eq, e]; exact List.mem_map.2 ⟨x, hx, rfl⟩⟩, e⟩
      · rw [hnu] at hy
        rw [hlk]
        obtain ⟨x, hx, e⟩ := List.mem_map.1 (k2 y hy)
        exact List.mem_map.2 ⟨x, left_mem.2 ⟨hx, by rw [e]; exact List.mem_map.2 ⟨y, hy, rfl⟩, k1 x hx⟩, e⟩
      · rw [hnd, List.mem_filter, decide_eq_true_eq] at hy
        rw [hlk]; exact hy.2
  · intro v hv hvd hpv
    simp only [List.mem_append, List.mem_singleton, not_or] at hvd
    obtain ⟨k1, k2⟩ := h2 v hv hvd.1 hpv
    have hne : v ≠ w := fun e => hvd.2 (by rw [e])
    have hlk : lk (downC f p w) v = lk p v := by rw [lk_down hl hk.lt, if_neg (fun h => hne h.2)]
    have hnd : nd (downC f p w) v = nd p v := by rw [nd_down hl hk.lt, if_neg (fun h => hne h.2)]
    refine ⟨fun x hx => ?_, fun y hy => ?_⟩
    · rw [hlk] at hx; rw [hnd]; exact k1 x hx
    · rw [hlk]; exact k2 y ((hsub _).1.subset hy)
theorem up_all {f : Forest} (hg : GoodF f) : ∀ (rest done : List Int) (p : Parts), f.order.reverse = done ++ rest → Lens f.vars.length p → NB p → (∀ v : Nat, (v : Int) ∈ done → par f v ≠ -1 → BS p v ∧ UP f p v) →
    Lens f.vars.length (rest.foldl (fun p v => upC f p v.toNat) p) ∧ Sub (rest.foldl (fun p v => upC f p v.toNat) p) p ∧ (∀ v : Nat, v < f.vars.length → par f v ≠ -1 → BS (rest.foldl (fun p v => upC f p v.toNat) p) v ∧ UP f (rest.foldl (fun p v => upC f p v.toNat) p) v) ∧ rest.foldl (fun p v => upStep f p v.toNat) p = rest.foldl (fun p v => upC f p v.toNat) p
  | [], done, p, e, hl, hb, h => ⟨hl, Sub.refl p, fun v hv hp => h v (by have := hg.in_order hv; rw [← List.mem_reverse, e, List.append_nil] at this; exact this) hp, rfl⟩
  | w :: rest, done, p, e, hl, hb, h => by
    have e' : f.order = rest.reverse ++ w :: done.reverse := by
      have := congrArg List.reverse e
      rw [List.reverse_reverse, List.reverse_append, List.reverse_cons, List.append_assoc] at this
      exact this
    obtain ⟨⟨w1, w2⟩, w3, w4, w5⟩ := hg.cut e'
    obtain ⟨m, rfl⟩ : ∃ m : Nat, w = m := ⟨w.toNat, by omega⟩
    have hk := hg.kid e'
    have hnd := hg.nodup
    rw [e'] at hnd
    have hdis := (List.nodup_append.1 hnd).2.2
    rw [Int.toNat_natCast] at w5
    have hpd : par f m ∉ done := fun hm => by
      rcases w5 with h5 | h5
      · rw [h5] at hm
        have : (-1 : Int) ∈ f.order := by rw [e']; simp [hm]
        have := (hg.order_in this).1
        omega
      · exact hdis _ h5 _ (List.mem_cons_of_mem _ (List.mem_reverse.2 hm)) rfl
    have hs := up_step_inv hl hk (fun hm => w4 (List.mem_reverse.2 hm)) hpd h
    have hsub := Sub.up hl hk.up hk.lt
    obtain ⟨k1, k2, k3, k4⟩ := up_all hg rest (done ++ [(m : Int)]) (upC f p m) (by rw [e, List.append_assoc]; rfl) (hl.up m) (hb.sub hsub) hs
    simp only [List.foldl_cons, Int.toNat_natCast]
    refine ⟨k1, k2.trans hsub, k3, ?_⟩
    rw [upStep_eq hb (by rw [hl.2]; exact hk.lt)]
    exact k4
theorem down_all {f : Forest} (hg : GoodF f) : ∀ (rest done : List Int) (p : Parts), f.order = done ++ rest → Lens f.vars.length p → NB p → (∀ v : Nat, (v : Int) ∈ done → par f v ≠ -1 → Full f p v) → (∀ v : Nat, v < f.vars.length → (v : Int) ∉ done → par f v ≠ -1 → BS p v ∧ UP f p v) →
    Lens f.vars.length (rest.foldl (fun p v => downC f p v.toNat) p) ∧ Sub (rest.foldl (fun p v => downC f p v.toNat) p) p ∧ (∀ v : Nat, v < f.vars.length → par f v ≠ -1 → Full f (rest.foldl (fun p v => downC f p v.toNat) p) v)
  | [], done, p, e, hl, hb, h, h2 => ⟨hl, Sub.refl p, fun v hv hp => h v (by have := hg.in_order hv; rw [e, List.append_nil] at this; exact this) hp⟩
  | w :: rest, done, p, e, hl, hb, h, h2 => by
    obtain ⟨⟨w1, w2⟩, w3, w4, w5⟩ := hg.cut e
    obtain ⟨m, rfl⟩ : ∃ m : Nat, w = m := ⟨w.toNat, by omega⟩
    have hk := hg.kid e
    have hpd : ∀ v : Nat, (v : Int) ∈ done → par f v ≠ -1 → par f v ≠ m := fun v hv hp hm => by
      obtain ⟨d1, d2, e2⟩ := List.append_of_mem hv
      have e3 : f.order = d1 ++ (v : Int) :: (d2 ++ (m : Int) :: rest) := by rw [e, e2]; simp
      obtain ⟨_, _, _, h5⟩ := hg.cut e3
      rw [Int.toNat_natCast] at h5
      rcases h5 with h5 | h5
      · exact hp h5
      · rw [hm] at h5; exact w3 (by rw [e2]; simp [h5])
    have hge : ∀ v : Nat, (v : Int) ∈ done → -1 ≤ par f v := fun v hv => (hg.parent_ge (by have := hg.order_in (v := v) (by rw [e]; simp [hv]); omega)).1
    obtain ⟨s1, s2⟩ := down_step_inv hl hb hk w3 hpd hge h h2
    have hsub := Sub.down (f := f) hl hk.lt
    obtain ⟨k1, k2, k3⟩ := down_all hg rest (done ++ [(m : Int)]) (downC f p m) (by rw [e, List.append_assoc]; rfl) (hl.down m) (hb.sub hsub) s1 s2
    simp only [List.foldl_cons, Int.toNat_natCast]
    exact ⟨k1, k2.trans hsub, k3⟩
theorem down_fold {f : Forest} {n : Nat} : ∀ (rest : List Int) (p : Parts), (∀ v ∈ rest, v.toNat < n) → Lens n p → NB p → rest.foldl (fun p v => downStep f p v.toNat) p = rest.foldl (fun p v => downC f p v.toNat) p
  | [], _, _, _, _ => rfl
  | w :: rest, p, hr, hl, hb => by
    have hw := hr w (by simp)
    simp only [List.foldl_cons]
    rw [downStep_eq hb (by rw [hl.2]; exact hw)]
    exact down_fold rest _ (fun v hv => hr v (by simp [hv])) (hl.down _) (hb.sub (Sub.down hl hw))
end Go.Proofs.Ytnkjikpmgeknbaa.Am
namespace Go.Proofs.Ytnkjikpmgeknbaa.Am
open Go Go.RowKit
set_option maxRecDepth 100000
set_option linter.unusedVariables false
set_option linter.unusedSimpArgs false

theorem lessL_trans {x y z : Link} (h : lessL x y = true) (k : lessL y z = true) : lessL x z = true := by
  simp only [lessL, Bool.or_eq_true, Bool.and_eq_true, decide_eq_true_eq] at *
  omega
theorem pairwise_near {α : Type} {R : α → α → Prop} (tr : ∀ x y z, R x y → R y z → R x z) {xs : List α} (h : ∀ (i : Nat) (hi : i < xs.length), 0 < i → R (xs[i - 1]'(by omega)) xs[i]) : xs.Pairwise R := by
  rw [List.pairwise_iff_getElem]
  intro i j hi hj hij
  obtain ⟨d, rfl⟩ : ∃ d, j = i + 1 + d := ⟨j - i - 1, by omega⟩
  clear hij
  induction d with
  | zero => exact h (i + 1) hj (by omega)
  | succ d ih => exact tr _ _ _ (ih (by omega)) (h (i + 1 + d + 1) hj (by omega))
theorem goodL_iff {xs : List Link} : GoodL xs ↔ (∀ x ∈ xs, OkL x) ∧ xs.Pairwise fun x y => lessL x y = true := by
  constructor
  · intro h
    refine ⟨fun x hx => ?_, pairwise_near (R := fun x y => lessL x y = true) (fun _ _ _ h1 h2 => lessL_trans h1 h2) fun i hi h0 => (h i hi).2 h0⟩
    obtain ⟨i, hi, rfl⟩ := List.getElem_of_mem hx
    exact (h i hi).1
  · intro ⟨h1, h2⟩ i hi
    exact ⟨h1 _ (List.getElem_mem hi), fun h0 => (List.pairwise_iff_getElem.1 h2) (i - 1) i (by omega) hi (by omega)⟩
theorem GoodL.sub {xs ys : List Link} (h : GoodL xs) (hs : ys.Sublist xs) : GoodL ys := by
  rw [goodL_iff] at *
  exact ⟨fun x hx => h.1 x (hs.subset hx), h.2.sublist hs⟩
theorem GoodP.lens {f : Forest} {p : Parts} (h : GoodP f p) : Lens f.vars.length p := ⟨h.n1, h.n2⟩
theorem GoodP.nb {f : Forest} {p : Parts} (h : GoodP f p) : NB p := fun v x hx => by
  by_cases hv : v < f.vars.length
  · exact (h.ok v hv).2.2.1 x hx
  · unfold nd at hx
    rw [List.getD_eq_getElem?_getD, List.getElem?_eq_none (by have := h.n1; omega)] at hx
    simp at hx
theorem GoodP.sub {f : Forest} {p q : Parts} (h : GoodP f p) (hl : Lens f.vars.length q) (hs : Sub q p) : GoodP f q := by
  refine ⟨h.gf, hl.1, hl.2, fun v hv => ?_⟩
  obtain ⟨k1, k2, k3, k4⟩ := h.ok v hv
  obtain ⟨s1, s2⟩ := hs v
  unfold nd at s1
  unfold lk at s2
  refine ⟨k1.sub s1, k2.sub s2, fun x hx => k3 x (s1.subset hx), fun hp => ?_⟩
  have := k4 hp
  rw [this] at s2
  exact List.sublist_nil.1 s2
theorem reduced {f : Forest} {p : Parts} (h : GoodP f p) : Lens f.vars.length (upP f p) ∧ Sub (upP f p) p ∧ Lens f.vars.length (downP f (upP f p)) ∧ Sub (downP f (upP f p)) p ∧ ∀ v : Nat, v < f.vars.length → par f v ≠ -1 → Full f (downP f (upP f p)) v := by
  obtain ⟨k1, k2, k3, k4⟩ := up_all h.gf f.order.reverse [] p rfl h.lens h.nb (fun v hv => by simp at hv)
  have e1 : upP f p = f.order.reverse.foldl (fun p v => upC f p v.toNat) p := k4
  rw [← e1] at k1 k2 k3
  have hb := h.nb.sub k2
  obtain ⟨d1, d2, d3⟩ := down_all h.gf f.order [] (upP f p) rfl k1 hb (fun v hv => by simp at hv) (fun v hv _ hp => k3 v hv hp)
  have e2 : downP f (upP f p) = f.order.foldl (fun p v => downC f p v.toNat) (upP f p) := down_fold _ _ (fun v hv => by have := h.gf.order_in hv; omega) k1 hb
  rw [← e2] at d1 d2 d3
  exact ⟨k1, k2, d1, d2.trans k2, d3⟩
theorem set_getD {ns : List (List Link)} {v : Nat} (hv : v < ns.length) : ns.set v (ns.getD v []) = ns := by
  rw [getD_list hv]; exact List.set_getElem_self _
theorem Full.left {f : Forest} {p : Parts} {v : Nat} (h : Full f p v) : left p v (par f v).toNat = lk p v := by
  unfold Am.left
  rw [List.filter_eq_self]
  intro x hx
  obtain ⟨h1, h2⟩ := h.ends x hx
  rw [decide_eq_true h1, decide_eq_true h2]; rfl
theorem up_stays {f : Forest} {n : Nat} {p : Parts} {v : Nat} (hl : Lens n p) (hb : NB p) (hv : v < n) (hu : (par f v).toNat < n) (h : par f v ≠ -1 → Full f p v) : upStep f p v = p := by
  rw [upStep_eq hb (by rw [hl.2]; exact hv)]
  unfold upC
  split
  · rfl
  · rename_i hp
    have hF := h hp
    rw [hF.left, List.filter_eq_self.2 (fun y hy => by rw [decide_eq_true_eq]; exact hF.up y hy)]
    unfold nd lk
    rw [set_getD (by rw [hl.1]; exact hu), set_getD (by rw [hl.2]; exact hv)]
theorem down_stays {f : Forest} {n : Nat} {p : Parts} {v : Nat} (hl : Lens n p) (hb : NB p) (hv : v < n) (h : par f v ≠ -1 → Full f p v) : downStep f p v = p := by
  rw [downStep_eq hb (by rw [hl.2]; exact hv)]
  unfold downC
  split
  · rfl
  · rename_i hp
    have hF := h hp
    rw [hF.left, List.filter_eq_self.2 (fun y hy => by rw [decide_eq_true_eq]; exact hF.down y hy)]
    unfold nd lk
    rw [set_getD (by rw [hl.1]; exact hv), set_getD (by rw [hl.2]; exact hv)]
theorem foldl_self {α β : Type} {g : α → β → α} {a : α} : ∀ (l : List β), (∀ b ∈ l, g a b = a) → l.foldl g a = a
  | [], _ => rfl
  | b :: l, h => by rw [List.foldl_cons, h b (by simp)]; exact foldl_self l fun c hc => h c (by simp [hc])
theorem all_stays {f : Forest} {p : Parts} (hg : GoodF f) (hl : Lens f.vars.length p) (hb : NB p) (h : ∀ v : Nat, v < f.vars.length → par f v ≠ -1 → Full f p v) : upP f p = p ∧ downP f p = p := by
  have hv : ∀ v ∈ f.order, v.toNat < f.vars.length := fun v hv => by have := hg.order_in hv; omega
  refine ⟨foldl_self _ fun v hm => ?_, foldl_self _ fun v hm => ?_⟩
  · rw [List.mem_reverse] at hm
    have := hv v hm
    exact up_stays hl hb this (by have := (hg.parent_ge this); unfold par; omega) (h _ this)
  · exact down_stays hl hb (hv v hm) (h _ (hv v hm))
def empties (n : Nat) : Parts := ⟨List.replicate n [], List.replicate n []⟩
theorem nd_empties (n v : Nat) : nd (empties n) v = [] := by
  unfold nd empties
  rw [List.getD_eq_getElem?_getD, List.getElem?_replicate]
  split <;> rfl
theorem lk_empties (n v : Nat) : lk (empties n) v = [] := nd_empties n v
theorem lens_empties (n : Nat) : Lens n (empties n) := ⟨by simp [empties], by simp [empties]⟩
theorem sub_empties (n : Nat) (p : Parts) : Sub (empties n) p := fun v => by rw [nd_empties, lk_empties]; exact ⟨List.nil_sublist _, List.nil_sublist _⟩
theorem full_empties (f : Forest) (n v : Nat) : Full f (empties n) v :=
  ⟨fun x hx => by rw [lk_empties] at hx; simp at hx, fun y hy => by rw [nd_empties] at hy; simp at hy, fun y hy => by rw [nd_empties] at hy; simp at hy⟩
/-- What is left fits together, and is of what there was. -/
theorem ofP_all {f : Forest} {p : Parts} (h : GoodP f p) : Lens f.vars.length (ofP f p) ∧ Sub (ofP f p) p ∧ (∀ v : Nat, v < f.vars.length → par f v ≠ -1 → Full f (ofP f p) v) ∧ (f.order.any (rootless f (ofP f p)) = true → ofP f p = empties f.vars.length) := by
  obtain ⟨k1, k2, d1, d2, d3⟩ := reduced h
  unfold ofP
  split
  · exact ⟨lens_empties _, sub_empties _ _, fun v _ _ => full_empties f _ v, fun _ => rfl⟩
  · rename_i hr
    exact ⟨d1, d2, d3, fun h => absurd h hr⟩
theorem ofP_good {f : Forest} {p : Parts} (h : GoodP f p) : GoodP f (ofP f p) := h.sub (ofP_all h).1 (ofP_all h).2.1
theorem ofP_fix {f : Forest} {p : Parts} (hg : GoodF f) (hl : Lens f.vars.length p) (hb : NB p) (h : ∀ v : Nat, v < f.vars.length → par f v ≠ -1 → Full f p v) (hr : f.order.any (rootless f p) = true → p = empties f.vars.length) : ofP f p = p := by
  obtain ⟨e1, e2⟩ := all_stays hg hl hb h
  unfold ofP
  rw [e1, e2]
  split
  · rename_i h; exact (hr h).symm
  · rfl
theorem ofP_twice {f : Forest} {p : Parts} (h : GoodP f p) : ofP f (ofP f p) = ofP f p := by
  obtain ⟨k1, k2, k3, k4⟩ := ofP_all h
  exact ofP_fix h.gf k1 (h.nb.sub k2) k3 k4
end Go.Proofs.Ytnkjikpmgeknbaa.Am
namespace Go.Proofs.Ytnkjikpmgeknbaa.Am
open Go Go.RowKit
set_option maxRecDepth 100000
set_option linter.unusedVariables false
set_option linter.unusedSimpArgs false

theorem OwnP.lists_put {G H : Hp} {v : Value} {xs : List (List Link)} (h : OwnP (kSl kLink) G H v xs) {b1 : Nat} {cs : List Value} (hb : G.get b1 = .own 1 cs) (x : Blk) : OwnP (kSl kLink) (G.put b1 x) (H.put b1 x) v xs := by
  rcases h with ⟨rfl, rfl, rfl⟩ | ⟨b, ds, c, rfl, h1, hd, rfl, hc, he⟩
  · exact .inl ⟨rfl, rfl, rfl⟩
  · have hne : b ≠ b1 := fun e => by rw [e, hb] at hd; cases hd
    exact .inr ⟨b, ds, c, rfl, h1, by rw [Hp.put_other _ _ hne]; exact hd, (Hp.put_comm _ hne _ _), hc, he.lists_put hb x⟩
theorem own_lit {α : Type} (k : Kd α) {H : Hp} {b c : Nat} {cs : List Value} (hb : b < H.size) (hg : H.get b = .own k.sz cs) : OwnP k (H.put b .dead) H (.slice (some ⟨b, 0, none⟩) 0 c) [] :=
  .inr ⟨b, cs, c, rfl, hb, Hp.put_same _ _ _, by rw [Hp.put_put, Hp.put_self _ hg], .inr (Nat.zero_le _), Els.nil _ _ _⟩
theorem copied_parts (p : Parts) (ds : List Value) (H : Hp) (hq : kParts.rep H p ds) (h1 : p.nodes.length ≤ 1000000) (h2 : p.links.length ≤ 1000000) :
    ACalls Try.prog 104 #[.agg ds.toArray] H (fun r H' => ∃ G' N L, H.le G' ∧ r = .agg #[N, L] ∧ PartsP G' H' N L p.nodes p.links) := by
  obtain ⟨u0, u1, rfl, hn0, hn1⟩ := hq
  obtain ⟨B0, d0, rfl⟩ := hn0.shape
  obtain ⟨B1, d1, rfl⟩ := hn1.shape
  refine acalls_of_code Try.func104 rfl rfl rfl (by simp) ?_
  refine ac_seq ?_
  refine ac_region (by kernel_rfl) ?_
  refine aops_make (am_box_agg rfl) ?_
  refine aops_make (am_zero (l := [.slice none 0 0, .slice none 0 0]) inf65.zero rfl (by decide)) ?_
  refine ac_seq ?_
  refine ac_draw (by kernel_rfl) (reg_of (B := [0, 0, 2, 7, 0, 0, 32, 127, 255, 511]) (π := [0, 1, 2, 4, 5, 6, 3, 7, 8, 9]) (by kernel_rfl)) ?_
  first | refine adr_make rfl rfl (am_buildSlice (r := []) Try.underlying63 inf22.size inf22.zero rfl (by decide) (by decide) (by decide) rfl) ?_
  refine adr_val rfl rfl (av_fieldOff (off := 0) rfl Try.underlying65 rfl inf63.size (by decide) rfl) t_lt ?_
  refine adr_val rfl rfl (av_load1 rfl Try.underlying63 rfl t_cell) t_lt ?_
  first | refine adr_make rfl rfl (am_buildSlice (r := []) Try.underlying63 inf22.size inf22.zero rfl (by decide) (by decide) (by decide) rfl) ?_
  refine adr_val rfl rfl (av_fieldOff (off := 1) rfl Try.underlying65 rfl inf63.size (by decide) rfl) t_lt ?_
  refine adr_val rfl rfl (av_load1 rfl Try.underlying63 rfl t_cell) t_lt ?_
  have o1 := own_lit (kSl kLink) (H := ((((H.push (.own 0 [.slice B0 p.nodes.length d0, .slice B1 p.links.length d1])).push (.own 0 [.slice none 0 0, .slice none 0 0])).push (.own 1 [])).push (.own 1 []))) (b := H.size + 2) (c := 0) (cs := []) (by simp) t_get
  have leA : H.le (((((H.push (.own 0 [.slice B0 p.nodes.length d0, .slice B1 p.links.length d1])).push (.own 0 [.slice none 0 0, .slice none 0 0])).push (.own 1 [])).push (.own 1 [])).put (H.size + 2) .dead) := Hp.le_put_new (Hp.le_push' (Hp.le_push' (Hp.le_push' (H.le_push _) _) _) _) (by omega) _
  refine adr_op rfl rfl (OwnP.append (ys := p.nodes) o1 Try.underlying63 inf22 rfl rfl rfl (hn0.mono leA.sees) (by simp only [List.length_nil]; omega) (by simp only [List.length_nil]; omega) ?_)
  rintro v6 G6 H6 hle6 hown6
  have hsameO := OwnP.sameO o1 hle6 hown6
  rw [List.nil_append] at hown6
  obtain ⟨A6, c6, rfl⟩ := hown6.shape
  have z6 := hle6.1
  simp only [Hp.put_size, Hp.push_size] at z6
  have z66 := hown6.size
  have g63 : G6.get (H.size + 3) = .own 1 [] := le_got hle6 (by simp) (by intro e; cases e) t_get
  have g62 : G6.get (H.size + 1) = .own 0 [.slice none 0 0, .slice none 0 0] := le_got hle6 (by simp) (by intro e; cases e) t_get
  have h63 := le_got hown6.le (by omega) (by intro e; cases e) g63
  have leB : H.le H6 := Hp.le_trans leA (Hp.le_trans hle6 hown6.le)
  refine ⟨t_pend, ?_⟩
  clear hsameO
  have o2 := own_lit (kSl kLink) (H := H6) (b := H.size + 3) (c := 0) (cs := []) (by omega) h63
  refine adr_op rfl rfl (OwnP.append (ys := p.links) o2 Try.underlying63 inf22 rfl rfl rfl (hn1.mono (Hp.le_put_new leB (by omega) _).sees) (by simp only [List.length_nil]; omega) (by simp only [List.length_nil]; omega) ?_)
  rintro v7 G7 H7 hle7 hown7
  have hsameO := OwnP.sameO o2 hle7 hown7
  rw [List.nil_append] at hown7
  obtain ⟨A7, c7, rfl⟩ := hown7.shape
  have z7 := hle7.1
  simp only [Hp.put_size] at z7
  have z77 := hown7.size
  obtain ⟨G8, hle8, hown8, _⟩ := (hown6.lists_put g63 .dead).after hle7
  have hpp : PartsP G8 H7 (.slice A6 p.nodes.length c6) (.slice A7 p.links.length c7) p.nodes p.links := ⟨G7, hown8, hown7⟩
  have z8 := hle8.1
  simp only [Hp.put_size] at z8
  have g82 : G8.get (H.size + 1) = .own 0 [.slice none 0 0, .slice none 0 0] := le_got hle8 (by simp; omega) (by intro e; cases e) (by rw [Hp.put_other _ _ (by omega)]; exact g62)
  have h72 := le_got hpp.le (by omega) (by intro e; cases e) g82
  have leC : H.le G8 := Hp.le_trans (Hp.le_put_new (Hp.le_trans leA hle6) (by omega) _) hle8
  refine ⟨t_pend, ?_⟩
  clear hsameO
  first | refine adr_val rfl rfl (av_build (pl := [(0, 1), (1, 1)]) (r := [.slice _ _ _, .slice _ _ _]) Try.underlying65 inf65.zero (by decide) rfl rfl) t_lt ?_ | refine adr_val rfl rfl (av_build (pl := [(0, 1), (1, 1)]) (r := [_, _]) Try.underlying65 inf65.zero (by decide) rfl rfl) t_lt ?_
  first | refine adr_op rfl rfl (aop_putN (vs := [.slice _ _ _, .slice _ _ _]) rfl rfl inf65.size t_get t_room rfl rfl ?_) | refine adr_op rfl rfl (aop_putN (vs := [_, _]) rfl rfl inf65.size t_get t_room rfl rfl ?_)
  refine ⟨t_pend, ?_⟩
  refine ac_ret ?_
  exact ⟨_, aresult1 (ares_cell rfl (aload_agg (cs := [.slice A6 p.nodes.length c6, .slice A7 p.links.length c7]) Try.underlying65 rfl inf65.size t_cells)), _, _, _, Hp.le_put_new leC (by omega) _, rfl, hpp.box_put (by omega) g82 _⟩
end Go.Proofs.Ytnkjikpmgeknbaa.Am
namespace Go.Proofs.Ytnkjikpmgeknbaa.Am
open Go Go.RowKit
set_option maxRecDepth 100000
set_option linter.unusedVariables false
set_option linter.unusedSimpArgs false

theorem Equal_raw (xs ys : List Link) (v u : Value) (H : Hp) (hs : Sl kLink H v xs) (hu : Sl kLink H u ys) (hl : xs.length ≤ 9223372036854775807) :
    ACalls Try.prog 189 #[v, u] H (fun r _ => r = .bool (decide (xs = ys))) := by
  obtain ⟨A, c, rfl⟩ := hs.shape
  obtain ⟨B, c2, rfl⟩ := hu.shape
  refine acalls_of_code Try.func189 rfl rfl rfl (by simp) ?_
  refine ac_seq ?_
  refine ac_region (by kernel_rfl) ?_
  first | refine aops_val (av_assign_bool rfl) ?_ | refine aops_val (av_assign rfl) ?_
  refine ac_seq ?_
  refine ac_seq ?_
  refine ac_region (by kernel_rfl) ?_
  first | refine aops_val (av_move_sl rfl) ?_ | refine aops_val (av_move rfl) ?_
  refine aops_val (av_len rfl Try.underlying22) ?_
  first | refine aops_val (av_move_sl rfl) ?_ | refine aops_val (av_move rfl) ?_
  refine aops_val (av_len rfl Try.underlying22) ?_
  refine aops_val (av_ne rfl rfl) ?_
  refine ac_split rfl rfl ?_ ?_
  · intro hc1
    have hne : xs.length ≠ ys.length := by have := of_decide_eq_true hc1; omega
    refine ac_seq ?_
    refine ac_region (by kernel_rfl) ?_
    first | refine aops_val (av_assign_bool rfl) ?_ | refine aops_val (av_assign rfl) ?_
    refine ac_ret ?_
    exact ⟨.bool false, aresult1 (ares_tmp rfl), by rw [decide_eq_false (fun e => hne (by rw [e]))]⟩
  · intro hc1
    have hlen : xs.length = ys.length := by have := of_decide_eq_false hc1; omega
    refine ac_skip ?_
    refine ac_seq ?_
    refine ac_seq ?_
    refine ac_region (by kernel_rfl) ?_
    first | refine aops_val (av_move_sl rfl) ?_ | refine aops_val (av_move rfl) ?_
    refine aops_val (av_len rfl Try.underlying22) ?_
    first | refine aops_val (av_move_int rfl) ?_ | refine aops_val (av_move rfl) ?_
    refine ac_block ?_
    refine ac_loop (fun n t H' => ∃ (i : Nat), i ≤ xs.length ∧ n = xs.length - i ∧ H' = H ∧ (∀ (j : Nat) (h : j < xs.length), j < i → xs[j] = ys[j]) ∧ t 0 = .slice A xs.length c ∧ t 1 = .slice B ys.length c2 ∧ t 12 = .int .i64 xs.length ∧ t 13 = .int .i64 i) (xs.length) (⟨0, by omega, rfl, rfl, fun j h h0 => by omega, rfl, rfl, rfl, rfl⟩) ?_
    rintro n t _ ⟨i, hi, rfl, rfl, hok, e0, e1, e12, e13⟩
    refine ac_seq ?_
    refine ac_region (by kernel_rfl) ?_
    refine aops_val (av_lt (by first | assumption | rfl) (by first | assumption | rfl)) ?_
    refine ac_seq ?_
    refine ac_split rfl rfl ?_ ?_
    · intro hc2
      (try simp only [decide_eq_true_eq, decide_eq_false_iff_not, Bool.not_eq_true', Bool.not_eq_false'] at hc2)
      refine ac_skip ?_
      refine ac_seq ?_
      refine ac_block ?_
      refine ac_seq ?_
      refine ac_region (by kernel_rfl) ?_
      first | refine aops_val (av_move_int (by first | assumption | rfl)) ?_ | refine aops_val (av_move (by first | assumption | rfl)) ?_
      first | refine aops_val (av_assign_int rfl) ?_ | refine aops_val (av_assign rfl) ?_
      refine ac_seq ?_
      refine ac_draw (by kernel_rfl) (reg_of (B := [0, 0, 3, 7, 0, 0, 48, 112, 255]) (π := [0, 1, 2, 3, 4, 5, 6, 7, 8]) (by kernel_rfl)) ?_
      first | refine adr_val rfl rfl (av_move_sl (by first | assumption | rfl)) t_lt ?_ | refine adr_val rfl rfl (av_move (by first | assumption | rfl)) t_lt ?_
      first | refine adr_val rfl rfl (av_move_int rfl) t_lt ?_ | refine adr_val rfl rfl (av_move rfl) t_lt ?_
      have hix : i < xs.length := by omega
      have hiy : i < ys.length := by omega
      obtain ⟨b, o, rfl, hb, hcell1⟩ := hs.link_at hix
      obtain ⟨b2, o2, rfl, hb2, hcell2⟩ := hu.link_at hiy
      refine adr_val rfl rfl (av_indexAddr rfl rfl Try.underlying22 inf28.size t_idx t_idx) t_lt ?_
      refine adr_val rfl rfl (av_loadN (cs := [.int .i64 _, .int .i64 _, .int .i64 _, .int .u64 _]) rfl Try.underlying28 rfl inf28.size t_cells) t_lt ?_
      first | refine adr_val rfl rfl (av_move_sl (by first | assumption | rfl)) t_lt ?_ | refine adr_val rfl rfl (av_move (by first | assumption | rfl)) t_lt ?_
      first | refine adr_val rfl rfl (av_move_int rfl) t_lt ?_ | refine adr_val rfl rfl (av_move rfl) t_lt ?_
      refine adr_val rfl rfl (av_indexAddr rfl rfl Try.underlying22 inf28.size t_idx t_idx) t_lt ?_
      refine adr_val rfl rfl (av_loadN (cs := [.int .i64 _, .int .i64 _, .int .i64 _, .int .u64 _]) rfl Try.underlying28 rfl inf28.size t_cells) t_lt ?_
      refine adr_val rfl rfl (av_link_neq rfl rfl) t_lt ?_
      refine ac_split rfl rfl ?_ ?_
      · intro hc3
        have hne : xs[i] ≠ ys[i] := by simpa using hc3
        refine ac_seq ?_
        refine ac_region (by kernel_rfl) ?_
        first | refine aops_val (av_assign_bool rfl) ?_ | refine aops_val (av_assign rfl) ?_
        refine ac_ret ?_
        refine ⟨.bool false, aresult1 (ares_tmp rfl), ?_⟩
        rw [decide_eq_false]
        intro e; subst e; exact hne rfl
      · intro hc3
        have heq : xs[i] = ys[i] := by simpa using hc3
        refine ac_skip ?_
        refine ac_region (by kernel_rfl) ?_
        first | refine aops_val (av_add64 (by first | assumption | rfl) (by first | assumption | rfl) t_fits) ?_ | refine aops_val (av_add (by first | assumption | rfl) (by first | assumption | rfl)) ?_
        first | refine aops_val (av_move_int rfl) ?_ | refine aops_val (av_move rfl) ?_
        refine ⟨xs.length - (i + 1), by omega, i + 1, by omega, rfl, rfl, fun j h h0 => ?_, e0, e1, e12, rfl⟩
        rcases Nat.lt_or_ge j i with h1 | h1
        · exact hok j h h1
        · obtain rfl : j = i := by omega
          exact heq
    · intro hc2
      (try simp only [decide_eq_true_eq, decide_eq_false_iff_not, Bool.not_eq_true', Bool.not_eq_false'] at hc2)
      refine ac_exit ?_
      refine ac_seq ?_
      refine ac_region (by kernel_rfl) ?_
      first | refine aops_val (av_assign_bool rfl) ?_ | refine aops_val (av_assign rfl) ?_
      refine ac_ret ?_
      refine ⟨.bool true, aresult1 (ares_tmp rfl), ?_⟩
      rw [decide_eq_true]
      exact List.ext_getElem hlen fun j h1 h2 => hok j h1 (by omega)
theorem PSame_links (xs ys : List Link) (v u : Value) (H : Hp) (hs : Sl kLink H v xs) (hu : Sl kLink H u ys) (hl : xs.length ≤ 9223372036854775807) :
    ACalls Try.prog 142 #[v, u] H (fun r H' => r = .bool (decide (xs = ys)) ∧ H' = H) := by
  refine ACalls.pure (R := fun r => r = .bool (decide (xs = ys))) (fun v h => by rw [h]; rfl) ?_
  have hs := hs.mono H.sees_ro
  have hu := hu.mono H.sees_ro
  obtain ⟨A, c, rfl⟩ := hs.shape
  obtain ⟨B, c2, rfl⟩ := hu.shape
  refine acalls_of_code Try.func142 rfl rfl rfl (by simp) ?_
  refine ac_seq ?_
  refine ac_region (by kernel_rfl) ?_
  first | refine aops_val (av_assign_bool rfl) ?_ | refine aops_val (av_assign rfl) ?_
  refine ac_seq ?_
  refine ac_region (by kernel_rfl) ?_
  first | refine aops_val (av_move_sl rfl) ?_ | refine aops_val (av_move rfl) ?_
  first | refine aops_val (av_move_sl rfl) ?_ | refine aops_val (av_move rfl) ?_
  refine aops_op (aop_call (Equal_raw xs ys _ _ _ hs hu hl) rfl Try.func189 rfl rfl rfl ?_)
  rintro v2 H2 rfl
  first | refine aops_val (av_assign_bool rfl) ?_ | refine aops_val (av_assign rfl) ?_
  refine ac_ret ?_
  exact ⟨_, aresult1 (ares_tmp rfl), rfl⟩
theorem EqualFunc_raw (xs ys : List (List Link)) (v u : Value) (H : Hp) (hs : Sl (kSl kLink) H v xs) (hu : Sl (kSl kLink) H u ys) (hl : xs.length ≤ 9223372036854775807) (hx : ∀ l ∈ xs, l.length ≤ 9223372036854775807) :
    ACalls Try.prog 141 #[v, u, .func (.func 142) #[] #[]] H (fun r _ => r = .bool (decide (xs = ys))) := by
  obtain ⟨A, c, rfl⟩ := hs.shape
  obtain ⟨B, c2, rfl⟩ := hu.shape
  refine acalls_of_code Try.func141 rfl rfl rfl (by simp) ?_
  refine ac_seq ?_
  refine ac_region (by kernel_rfl) ?_
  first | refine aops_val (av_assign_bool rfl) ?_ | refine aops_val (av_assign rfl) ?_
  refine ac_seq ?_
  refine ac_seq ?_
  refine ac_region (by kernel_rfl) ?_
  first | refine aops_val (av_move_sl rfl) ?_ | refine aops_val (av_move rfl) ?_
  refine aops_val (av_len rfl Try.underlying63) ?_
  first | refine aops_val (av_move_sl rfl) ?_ | refine aops_val (av_move rfl) ?_
  refine aops_val (av_len rfl Try.underlying63) ?_
  refine aops_val (av_ne rfl rfl) ?_
  refine ac_split rfl rfl ?_ ?_
  · intro hc1
    have hne : xs.length ≠ ys.length := by have := of_decide_eq_true hc1; omega
    refine ac_seq ?_
    refine ac_region (by kernel_rfl) ?_
    first | refine aops_val (av_assign_bool rfl) ?_ | refine aops_val (av_assign rfl) ?_
    refine ac_ret ?_
    exact ⟨.bool false, aresult1 (ares_tmp rfl), by rw [decide_eq_false (fun e => hne (by rw [e]))]⟩
  · intro hc1
    have hlen : xs.length = ys.length := by have := of_decide_eq_false hc1; omega
    refine ac_skip ?_
    refine ac_seq ?_
    refine ac_seq ?_
    refine ac_region (by kernel_rfl) ?_
    first | refine aops_val (av_move_sl rfl) ?_ | refine aops_val (av_move rfl) ?_
    refine aops_val (av_len rfl Try.underlying63) ?_
    first | refine aops_val (av_move_int rfl) ?_ | refine aops_val (av_move rfl) ?_
    refine ac_block ?_
    refine ac_loop (fun n t H' => ∃ (i : Nat), i ≤ xs.length ∧ n = xs.length - i ∧ H' = H ∧ (∀ (j : Nat) (h : j < xs.length), j < i → xs[j] = ys[j]) ∧ t 0 = .slice A xs.length c ∧ t 1 = .slice B ys.length c2 ∧ t 2 = .func (.func 142) #[] #[] ∧ t 15 = .slice A xs.length c ∧ t 16 = .int .i64 xs.length ∧ t 17 = .int .i64 i) (xs.length) (⟨0, by omega, rfl, rfl, fun j h h0 => by omega, rfl, rfl, rfl, rfl, rfl, rfl⟩) ?_
    rintro n t _ ⟨i, hi, rfl, rfl, hok, e0, e1, e2, e15, e16, e17⟩
    refine ac_seq ?_
    refine ac_region (by kernel_rfl) ?_
    refine aops_val (av_lt (by first | assumption | rfl) (by first | assumption | rfl)) ?_
    refine ac_seq ?_
    refine ac_split rfl rfl ?_ ?_
    · intro hc2
      (try simp only [decide_eq_true_eq, decide_eq_false_iff_not, Bool.not_eq_true', Bool.not_eq_false'] at hc2)
      refine ac_skip ?_
      refine ac_seq ?_
      refine ac_block ?_
      refine ac_seq ?_
      refine ac_region (by kernel_rfl) ?_
      have hix : i < xs.length := by omega
      have hiy : i < ys.length := by omega
      obtain ⟨b, o, ks, eA, hb, ⟨w0, rfl, hw0⟩, hcell0⟩ := hs.elem_at hix
      obtain ⟨b1, o1, ks1, eB, hb1, ⟨w1, rfl, hw1⟩, hcell1⟩ := hu.elem_at hiy
      subst eA eB
      have hcell0' := hcell0.one
      have hcell1' := hcell1.one
      first | refine aops_val (av_move_int (by first | assumption | rfl)) ?_ | refine aops_val (av_move (by first | assumption | rfl)) ?_
      refine aops_val (av_indexAddr (by first | assumption | rfl) (by first | assumption | rfl) Try.underlying63 inf22.size t_idx t_idx) ?_
      refine aops_val (av_load1 rfl Try.underlying22 rfl t_cell) ?_
      first | refine aops_val (av_assign_int rfl) ?_ | refine aops_val (av_assign rfl) ?_
      first | refine aops_val (av_assign_sl rfl) ?_ | refine aops_val (av_assign rfl) ?_
      refine ac_seq ?_
      refine ac_region (by kernel_rfl) ?_
      first | refine aops_val (av_move_sl (by first | assumption | rfl)) ?_ | refine aops_val (av_move (by first | assumption | rfl)) ?_
      first | refine aops_val (av_move_int rfl) ?_ | refine aops_val (av_move rfl) ?_
      refine aops_val (av_indexAddr rfl rfl Try.underlying63 inf22.size t_idx t_idx) ?_
      refine aops_val (av_load1 rfl Try.underlying22 rfl t_cell) ?_
      first | refine aops_val (av_assign_sl rfl) ?_ | refine aops_val (av_assign rfl) ?_
      refine ac_seq ?_
      refine ac_region (by kernel_rfl) ?_
      first | refine aops_val (av_move_func (by first | assumption | rfl)) ?_ | refine aops_val (av_move (by first | assumption | rfl)) ?_
      first | refine aops_val (av_move_sl rfl) ?_ | refine aops_val (av_move rfl) ?_
      first | refine aops_val (av_move_sl rfl) ?_ | refine aops_val (av_move rfl) ?_
      refine aops_op (aop_call (PSame_links xs[i] ys[i] _ _ _ hw0 hw1 (hx _ (List.getElem_mem hix))) rfl Try.func142 rfl rfl rfl ?_)
      rintro v5 H1 ⟨rfl, rfl⟩
      refine aops_val (av_not rfl) ?_
      refine ac_split rfl rfl ?_ ?_
      · intro hc3
        have hne : xs[i] ≠ ys[i] := by simpa using hc3
        refine ac_seq ?_
        refine ac_region (by kernel_rfl) ?_
        first | refine aops_val (av_assign_bool rfl) ?_ | refine aops_val (av_assign rfl) ?_
        refine ac_ret ?_
        refine ⟨.bool false, aresult1 (ares_tmp rfl), ?_⟩
        rw [decide_eq_false]
        intro e; subst e; exact hne rfl
      · intro hc3
        have heq : xs[i] = ys[i] := by simpa using hc3
        refine ac_skip ?_
        refine ac_region (by kernel_rfl) ?_
        first | refine aops_val (av_add64 (by first | assumption | rfl) (by first | assumption | rfl) t_fits) ?_ | refine aops_val (av_add (by first | assumption | rfl) (by first | assumption | rfl)) ?_
        first | refine aops_val (av_move_int rfl) ?_ | refine aops_val (av_move rfl) ?_
        refine ⟨xs.length - (i + 1), by omega, i + 1, by omega, rfl, rfl, fun j h h0 => ?_, e0, e1, e2, e15, e16, rfl⟩
        rcases Nat.lt_or_ge j i with h1 | h1
        · exact hok j h h1
        · obtain rfl : j = i := by omega
          exact heq
    · intro hc2
      (try simp only [decide_eq_true_eq, decide_eq_false_iff_not, Bool.not_eq_true', Bool.not_eq_false'] at hc2)
      refine ac_exit ?_
      refine ac_seq ?_
      refine ac_region (by kernel_rfl) ?_
      first | refine aops_val (av_assign_bool rfl) ?_ | refine aops_val (av_assign rfl) ?_
      refine ac_ret ?_
      refine ⟨.bool true, aresult1 (ares_tmp rfl), ?_⟩
      rw [decide_eq_true]
      exact List.ext_getElem hlen fun j h1 h2 => hok j h1 (by omega)
theorem EqualFunc_lists (xs ys : List (List Link)) (v u : Value) (H : Hp) (hs : Sl (kSl kLink) H v xs) (hu : Sl (kSl kLink) H u ys) (hl : xs.length ≤ 9223372036854775807) (hx : ∀ l ∈ xs, l.length ≤ 9223372036854775807) :
    ACalls Try.prog 141 #[v, u, .func (.func 142) #[] #[]] H (fun r H' => r = .bool (decide (xs = ys)) ∧ H' = H) :=
  ACalls.pure (fun v h => by rw [h]; rfl) (EqualFunc_raw xs ys v u H.ro (hs.mono H.sees_ro) (hu.mono H.sees_ro) hl hx)
theorem DSame_parts (p q : Parts) (cs ds : List Value) (H : Hp) (hp : kParts.rep H p cs) (hq : kParts.rep H q ds) (h1 : p.nodes.length ≤ 1000000) (h2 : p.links.length ≤ 1000000) (h3 : ∀ l ∈ p.nodes, l.length ≤ 1000000) (h4 : ∀ l ∈ p.links, l.length ≤ 1000000) :
    ACalls Try.prog 101 #[.agg cs.toArray, .agg ds.toArray] H (fun r H' => (∃ g, r = .bool g ∧ (g = true ↔ p.nodes = q.nodes ∧ p.links = q.links)) ∧ H' = H) := by
  refine ACalls.pure (R := fun r => ∃ g, r = .bool g ∧ (g = true ↔ p.nodes = q.nodes ∧ p.links = q.links)) (fun v ⟨g, h, _⟩ => by rw [h]; rfl) ?_
  obtain ⟨u0, u1, rfl, hn0, hn1⟩ := kParts.mono H.sees_ro hp
  obtain ⟨w0, w1, rfl, hm0, hm1⟩ := kParts.mono H.sees_ro hq
  obtain ⟨B0, d0, rfl⟩ := hn0.shape
  obtain ⟨B1, d1, rfl⟩ := hn1.shape
  obtain ⟨C0, k0, rfl⟩ := hm0.shape
  obtain ⟨C1, k1, rfl⟩ := hm1.shape
  refine acalls_of_code Try.func101 rfl rfl rfl (by simp) ?_
  refine ac_seq ?_
  refine ac_region (by kernel_rfl) ?_
  refine aops_make (am_box_agg rfl) ?_
  refine aops_make (am_box_agg rfl) ?_
  first | refine aops_val (av_assign_bool rfl) ?_ | refine aops_val (av_assign rfl) ?_
  refine ac_seq ?_
  refine ac_region (by kernel_rfl) ?_
  refine aops_val (av_fieldOff (off := 0) rfl Try.underlying65 rfl inf63.size (by decide) rfl) ?_
  refine aops_val (av_load1 rfl Try.underlying63 rfl t_cell) ?_
  refine aops_val (av_fieldOff (off := 0) rfl Try.underlying65 rfl inf63.size (by decide) rfl) ?_
  refine aops_val (av_load1 rfl Try.underlying63 rfl t_cell) ?_
  refine aops_op (aop_call (EqualFunc_lists p.nodes q.nodes _ _ _ (hn0.mono t_sees) (hm0.mono t_sees) (by omega) (fun l hl => by have := h3 l hl; omega)) rfl Try.func141 rfl rfl rfl ?_)
  rintro v2 H2 ⟨rfl, rfl⟩
  first | refine aops_val (av_move_bool rfl) ?_ | refine aops_val (av_move rfl) ?_
  refine aops_guard rfl rfl rfl ?_ ?_
  · intro hg1
    have hp1 := hg1; try simp only [decide_eq_true_eq, decide_eq_false_iff_not, Bool.not_eq_true', Bool.not_eq_false'] at hp1
    refine aops_wval (want_yes rfl rfl rfl hg1) (av_fieldOff (off := 1) rfl Try.underlying65 rfl inf63.size (by decide) rfl) ?_
    refine aops_wval (want_yes rfl rfl rfl hg1) (av_load1 rfl Try.underlying63 rfl t_cell) ?_
    refine aops_wval (want_yes rfl rfl rfl hg1) (av_fieldOff (off := 1) rfl Try.underlying65 rfl inf63.size (by decide) rfl) ?_
    refine aops_wval (want_yes rfl rfl rfl hg1) (av_load1 rfl Try.underlying63 rfl t_cell) ?_
    refine aops_want (want_yes rfl rfl rfl hg1) (aop_call (EqualFunc_lists p.links q.links _ _ _ (hn1.mono t_sees) (hm1.mono t_sees) (by omega) (fun l hl => by have := h4 l hl; omega)) rfl Try.func141 rfl rfl rfl ?_)
    rintro v3 H3 ⟨rfl, rfl⟩
    refine aops_val (av_pick_bool (congrArg Value.bool hg1) rfl) ?_
    first | refine aops_val (av_assign_bool rfl) ?_ | refine aops_val (av_assign rfl) ?_
    refine ac_ret ?_
    refine ⟨_, aresult1 (ares_tmp rfl), _, rfl, ?_⟩
    simp_all
  · intro hg1
    have hp1 := hg1; try simp only [decide_eq_true_eq, decide_eq_false_iff_not, Bool.not_eq_true', Bool.not_eq_false'] at hp1
    refine aops_skip (want_no rfl rfl rfl hg1 rfl) ?_
    refine aops_skip (want_no rfl rfl rfl hg1 rfl) ?_
    refine aops_skip (want_no rfl rfl rfl hg1 rfl) ?_
    refine aops_skip (want_no rfl rfl rfl hg1 rfl) ?_
    refine aops_skip (want_no rfl rfl rfl hg1 rfl) ?_
    refine aops_val (av_pick_bool (congrArg Value.bool hg1) rfl) ?_
    first | refine aops_val (av_assign_bool rfl) ?_ | refine aops_val (av_assign rfl) ?_
    refine ac_ret ?_
    refine ⟨_, aresult1 (ares_tmp rfl), _, rfl, ?_⟩
    simp_all
end Go.Proofs.Ytnkjikpmgeknbaa.Am
namespace Go.Proofs.Ytnkjikpmgeknbaa.Am
open Go Go.RowKit
set_option maxRecDepth 100000
set_option linter.unusedVariables false
set_option linter.unusedSimpArgs false

theorem Small.fits {f : Forest} {p : Parts} (h : Small f p) (hg : GoodP f p) : Fits f.vars.length p := ⟨hg.n1, hg.n2, h.s5, h.s6⟩
def noParts : Parts := ⟨[], []⟩
theorem noParts_rep (H : Hp) : kParts.rep H noParts [.slice none 0 0, .slice none 0 0] := ⟨_, _, rfl, Sl.nil _ _, Sl.nil _ _⟩
theorem Of_parts (f : Forest) (p : Parts) (cs ds : List Value) (H : Hp) (hp : kForest.rep H f cs) (hq : kParts.rep H p ds) (hsm : Small f p) :
    ACalls Try.prog 35 #[.agg cs.toArray, .agg ds.toArray] H (fun r H' => ∃ (g : Bool) (es : List Value), (g = true ↔ GoodP f p) ∧ r = .tuple #[.agg es.toArray, .int .i64 (if g = true then 0 else 1)] ∧ kParts.rep H' (if g = true then ofP f p else noParts) es ∧ H.le H') := by
  have hp0 := hp
  have hq0 := hq
  obtain ⟨v0, v1, v2, v3, v4, rfl, hs0, hs1, hs2, hs3, hs4⟩ := hp
  obtain ⟨A0, c0, rfl⟩ := hs0.shape
  obtain ⟨A1, c1, rfl⟩ := hs1.shape
  obtain ⟨A2, c2, rfl⟩ := hs2.shape
  obtain ⟨A3, c3, rfl⟩ := hs3.shape
  obtain ⟨A4, c4, rfl⟩ := hs4.shape
  obtain ⟨u0, u1, rfl, hn0, hn1⟩ := hq
  obtain ⟨B0, d0, rfl⟩ := hn0.shape
  obtain ⟨B1, d1, rfl⟩ := hn1.shape
  refine acalls_of_code Try.func35 rfl rfl rfl (by simp) ?_
  refine ac_seq ?_
  refine ac_region (by kernel_rfl) ?_
  refine aops_make (am_box_agg rfl) ?_
  refine aops_make (am_box_agg rfl) ?_
  refine aops_make (am_zero (l := [.slice none 0 0, .slice none 0 0]) inf65.zero rfl (by decide)) ?_
  first | refine aops_val (av_assign_int rfl) ?_ | refine aops_val (av_assign rfl) ?_
  refine ac_seq ?_
  refine ac_seq ?_
  refine ac_region (by kernel_rfl) ?_
  first | refine aops_val (av_loadN (cs := [.slice _ _ _, .slice _ _ _, .slice _ _ _, .slice _ _ _, .slice _ _ _]) rfl Try.underlying62 rfl inf62.size t_cells) ?_ | refine aops_val (av_loadN (cs := [_, _, _, _, _]) rfl Try.underlying62 rfl inf62.size t_cells) ?_
  first | refine aops_val (av_loadN (cs := [.slice _ _ _, .slice _ _ _]) rfl Try.underlying65 rfl inf65.size t_cells) ?_ | refine aops_val (av_loadN (cs := [_, _]) rfl Try.underlying65 rfl inf65.size t_cells) ?_
  refine aops_op (aop_call (GoodP_dom f p _ _ _ (kForest.mono t_sees hp0) (kParts.mono t_sees hq0) hsm) rfl Try.func96 rfl rfl rfl ?_)
  rintro v5 H5 ⟨⟨g, rfl, hg⟩, rfl⟩
  refine aops_val (av_not rfl) ?_
  refine ac_split rfl rfl ?_ ?_
  · intro hc1
    have hgf : g = false := by simpa using hc1
    refine ac_seq ?_
    refine ac_region (by kernel_rfl) ?_
    first | refine aops_val (av_build (pl := [(0, 1), (1, 1)]) (r := [.slice _ _ _, .slice _ _ _]) Try.underlying65 inf65.zero (by decide) rfl rfl) ?_ | refine aops_val (av_build (pl := [(0, 1), (1, 1)]) (r := [_, _]) Try.underlying65 inf65.zero (by decide) rfl rfl) ?_
    first | refine aops_op (aop_putN (vs := [.slice _ _ _, .slice _ _ _]) rfl rfl inf65.size t_get t_room rfl rfl ?_) | refine aops_op (aop_putN (vs := [_, _]) rfl rfl inf65.size t_get t_room rfl rfl ?_)
    first | refine aops_val (av_assign_int rfl) ?_ | refine aops_val (av_assign rfl) ?_
    refine ac_ret ?_
    subst hgf
    exact ⟨_, aresult2 (ares_cell (by first | assumption | rfl) (aload_agg (cs := [_, _]) Try.underlying65 rfl inf65.size t_cells)) (ares_tmp rfl), false, [_, _], hg, rfl, noParts_rep _, Hp.le_put_new (Hp.le_push' (Hp.le_push' (H.le_push _) _) _) (by simp <;> omega) _⟩
  · intro hc1
    have hgt : g = true := by simpa using hc1
    refine ac_skip ?_
    refine ac_seq ?_
    refine ac_region (by kernel_rfl) ?_
    first | refine aops_val (av_loadN (cs := [.slice _ _ _, .slice _ _ _, .slice _ _ _, .slice _ _ _, .slice _ _ _]) rfl Try.underlying62 rfl inf62.size t_cells) ?_ | refine aops_val (av_loadN (cs := [_, _, _, _, _]) rfl Try.underlying62 rfl inf62.size t_cells) ?_
    first | refine aops_val (av_loadN (cs := [.slice _ _ _, .slice _ _ _]) rfl Try.underlying65 rfl inf65.size t_cells) ?_ | refine aops_val (av_loadN (cs := [_, _]) rfl Try.underlying65 rfl inf65.size t_cells) ?_
    refine aops_op (aop_call (of_parts f p _ _ _ (kForest.mono t_sees hp0) (kParts.mono t_sees hq0) (hg.1 hgt).gf (hsm.fits (hg.1 hgt)) hsm.s0) rfl Try.func97 rfl rfl rfl ?_)
    rintro v6 H6 ⟨es, rfl, hes, hle6⟩; have hz6 := hle6.1; simp only [Hp.push_size] at hz6; obtain ⟨w0, w1, rfl, hm0, hm1⟩ := hes; obtain ⟨C0, k0, rfl⟩ := hm0.shape; obtain ⟨C1, k1, rfl⟩ := hm1.shape
    first | refine aops_op (aop_putN (vs := [.slice _ _ _, .slice _ _ _]) rfl rfl inf65.size t_get t_room rfl rfl ?_) | refine aops_op (aop_putN (vs := [_, _]) rfl rfl inf65.size t_get t_room rfl rfl ?_)
    first | refine aops_val (av_assign_int rfl) ?_ | refine aops_val (av_assign rfl) ?_
    refine ac_ret ?_
    subst hgt
    have k2 : H6.get (H.size + 2) = .own 0 [.slice none 0 0, .slice none 0 0] := le_got hle6 (by simp) (by intro e; cases e) t_get
    exact ⟨_, aresult2 (ares_cell (by first | assumption | rfl) (aload_agg (cs := [_, _]) Try.underlying65 rfl inf65.size t_cells)) (ares_tmp rfl), true, [_, _], hg, rfl, ⟨_, _, rfl, hm0.mono (Hp.sees_box _ k2), hm1.mono (Hp.sees_box _ k2)⟩, Hp.le_put_new (Hp.le_trans (Hp.le_push' (Hp.le_push' (H.le_push _) _) _) hle6) (by simp <;> omega) _⟩
theorem UpE_parts (f : Forest) (p : Parts) (cs ds : List Value) (H : Hp) (hp : kForest.rep H f cs) (hq : kParts.rep H p ds) (hsm : Small f p) :
    ACalls Try.prog 40 #[.agg cs.toArray, .agg ds.toArray] H (fun r H' => ∃ (g : Bool) (es : List Value), (g = true ↔ GoodP f p) ∧ r = .tuple #[.agg es.toArray, .int .i64 (if g = true then 0 else 1)] ∧ kParts.rep H' (if g = true then upP f p else noParts) es ∧ H.le H') := by
  have hp0 := hp
  have hq0 := hq
  obtain ⟨v0, v1, v2, v3, v4, rfl, hs0, hs1, hs2, hs3, hs4⟩ := hp
  obtain ⟨A0, c0, rfl⟩ := hs0.shape
  obtain ⟨A1, c1, rfl⟩ := hs1.shape
  obtain ⟨A2, c2, rfl⟩ := hs2.shape
  obtain ⟨A3, c3, rfl⟩ := hs3.shape
  obtain ⟨A4, c4, rfl⟩ := hs4.shape
  obtain ⟨u0, u1, rfl, hn0, hn1⟩ := hq
  obtain ⟨B0, d0, rfl⟩ := hn0.shape
  obtain ⟨B1, d1, rfl⟩ := hn1.shape
  refine acalls_of_code Try.func40 rfl rfl rfl (by simp) ?_
  refine ac_seq ?_
  refine ac_region (by kernel_rfl) ?_
  refine aops_make (am_box_agg rfl) ?_
  refine aops_make (am_box_agg rfl) ?_
  refine aops_make (am_zero (l := [.slice none 0 0, .slice none 0 0]) inf65.zero rfl (by decide)) ?_
  first | refine aops_val (av_assign_int rfl) ?_ | refine aops_val (av_assign rfl) ?_
  refine ac_seq ?_
  refine ac_seq ?_
  refine ac_region (by kernel_rfl) ?_
  first | refine aops_val (av_loadN (cs := [.slice _ _ _, .slice _ _ _, .slice _ _ _, .slice _ _ _, .slice _ _ _]) rfl Try.underlying62 rfl inf62.size t_cells) ?_ | refine aops_val (av_loadN (cs := [_, _, _, _, _]) rfl Try.underlying62 rfl inf62.size t_cells) ?_
  first | refine aops_val (av_loadN (cs := [.slice _ _ _, .slice _ _ _]) rfl Try.underlying65 rfl inf65.size t_cells) ?_ | refine aops_val (av_loadN (cs := [_, _]) rfl Try.underlying65 rfl inf65.size t_cells) ?_
  refine aops_op (aop_call (GoodP_dom f p _ _ _ (kForest.mono t_sees hp0) (kParts.mono t_sees hq0) hsm) rfl Try.func96 rfl rfl rfl ?_)
  rintro v5 H5 ⟨⟨g, rfl, hg⟩, rfl⟩
  refine aops_val (av_not rfl) ?_
  refine ac_split rfl rfl ?_ ?_
  · intro hc1
    have hgf : g = false := by simpa using hc1
    refine ac_seq ?_
    refine ac_region (by kernel_rfl) ?_
    first | refine aops_val (av_build (pl := [(0, 1), (1, 1)]) (r := [.slice _ _ _, .slice _ _ _]) Try.underlying65 inf65.zero (by decide) rfl rfl) ?_ | refine aops_val (av_build (pl := [(0, 1), (1, 1)]) (r := [_, _]) Try.underlying65 inf65.zero (by decide) rfl rfl) ?_
    first | refine aops_op (aop_putN (vs := [.slice _ _ _, .slice _ _ _]) rfl rfl inf65.size t_get t_room rfl rfl ?_) | refine aops_op (aop_putN (vs := [_, _]) rfl rfl inf65.size t_get t_room rfl rfl ?_)
    first | refine aops_val (av_assign_int rfl) ?_ | refine aops_val (av_assign rfl) ?_
    refine ac_ret ?_
    subst hgf
    exact ⟨_, aresult2 (ares_cell (by first | assumption | rfl) (aload_agg (cs := [_, _]) Try.underlying65 rfl inf65.size t_cells)) (ares_tmp rfl), false, [_, _], hg, rfl, noParts_rep _, Hp.le_put_new (Hp.le_push' (Hp.le_push' (H.le_push _) _) _) (by simp <;> omega) _⟩
  · intro hc1
    have hgt : g = true := by simpa using hc1
    refine ac_skip ?_
    refine ac_seq ?_
    refine ac_region (by kernel_rfl) ?_
    first | refine aops_val (av_loadN (cs := [.slice _ _ _, .slice _ _ _, .slice _ _ _, .slice _ _ _, .slice _ _ _]) rfl Try.underlying62 rfl inf62.size t_cells) ?_ | refine aops_val (av_loadN (cs := [_, _, _, _, _]) rfl Try.underlying62 rfl inf62.size t_cells) ?_
    first | refine aops_val (av_loadN (cs := [.slice _ _ _, .slice _ _ _]) rfl Try.underlying65 rfl inf65.size t_cells) ?_ | refine aops_val (av_loadN (cs := [_, _]) rfl Try.underlying65 rfl inf65.size t_cells) ?_
    refine aops_op (aop_call (up_parts f p _ _ _ (kForest.mono t_sees hp0) (kParts.mono t_sees hq0) (hg.1 hgt).gf (hsm.fits (hg.1 hgt)) hsm.s0) rfl Try.func102 rfl rfl rfl ?_)
    rintro v6 H6 ⟨G6, w0, w1, hleG, rfl, hpp⟩; have hle6 := Hp.le_trans hleG hpp.le; have hz6 := hle6.1; simp only [Hp.push_size] at hz6; have hm0 := hpp.slN; have hm1 := hpp.slL; obtain ⟨C0, k0, rfl⟩ := hm0.shape; obtain ⟨C1, k1, rfl⟩ := hm1.shape
    first | refine aops_op (aop_putN (vs := [.slice _ _ _, .slice _ _ _]) rfl rfl inf65.size t_get t_room rfl rfl ?_) | refine aops_op (aop_putN (vs := [_, _]) rfl rfl inf65.size t_get t_room rfl rfl ?_)
    first | refine aops_val (av_assign_int rfl) ?_ | refine aops_val (av_assign rfl) ?_
    refine ac_ret ?_
    subst hgt
    have k2 : H6.get (H.size + 2) = .own 0 [.slice none 0 0, .slice none 0 0] := le_got hle6 (by simp) (by intro e; cases e) t_get
    exact ⟨_, aresult2 (ares_cell (by first | assumption | rfl) (aload_agg (cs := [_, _]) Try.underlying65 rfl inf65.size t_cells)) (ares_tmp rfl), true, [_, _], hg, rfl, ⟨_, _, rfl, hm0.mono (Hp.sees_box _ k2), hm1.mono (Hp.sees_box _ k2)⟩, Hp.le_put_new (Hp.le_trans (Hp.le_push' (Hp.le_push' (H.le_push _) _) _) hle6) (by simp <;> omega) _⟩
theorem DownE_parts (f : Forest) (p : Parts) (cs ds : List Value) (H : Hp) (hp : kForest.rep H f cs) (hq : kParts.rep H p ds) (hsm : Small f p) :
    ACalls Try.prog 41 #[.agg cs.toArray, .agg ds.toArray] H (fun r H' => ∃ (g : Bool) (es : List Value), (g = true ↔ GoodP f p) ∧ r = .tuple #[.agg es.toArray, .int .i64 (if g = true then 0 else 1)] ∧ kParts.rep H' (if g = true then downP f p else noParts) es ∧ H.le H') := by
  have hp0 := hp
  have hq0 := hq
  obtain ⟨v0, v1, v2, v3, v4, rfl, hs0, hs1, hs2, hs3, hs4⟩ := hp
  obtain ⟨A0, c0, rfl⟩ := hs0.shape
  obtain ⟨A1, c1, rfl⟩ := hs1.shape
  obtain ⟨A2, c2, rfl⟩ := hs2.shape
  obtain ⟨A3, c3, rfl⟩ := hs3.shape
  obtain ⟨A4, c4, rfl⟩ := hs4.shape
  obtain ⟨u0, u1, rfl, hn0, hn1⟩ := hq
  obtain ⟨B0, d0, rfl⟩ := hn0.shape
  obtain ⟨B1, d1, rfl⟩ := hn1.shape
  refine acalls_of_code Try.func41 rfl rfl rfl (by simp) ?_
  refine ac_seq ?_
  refine ac_region (by kernel_rfl) ?_
  refine aops_make (am_box_agg rfl) ?_
  refine aops_make (am_box_agg rfl) ?_
  refine aops_make (am_zero (l := [.slice none 0 0, .slice none 0 0]) inf65.zero rfl (by decide)) ?_
  first | refine aops_val (av_assign_int rfl) ?_ | refine aops_val (av_assign rfl) ?_
  refine ac_seq ?_
  refine ac_seq ?_
  refine ac_region (by kernel_rfl) ?_
  first | refine aops_val (av_loadN (cs := [.slice _ _ _, .slice _ _ _, .slice _ _ _, .slice _ _ _, .slice _ _ _]) rfl Try.underlying62 rfl inf62.size t_cells) ?_ | refine aops_val (av_loadN (cs := [_, _, _, _, _]) rfl Try.underlying62 rfl inf62.size t_cells) ?_
  first | refine aops_val (av_loadN (cs := [.slice _ _ _, .slice _ _ _]) rfl Try.underlying65 rfl inf65.size t_cells) ?_ | refine aops_val (av_loadN (cs := [_, _]) rfl Try.underlying65 rfl inf65.size t_cells) ?_
  refine aops_op (aop_call (GoodP_dom f p _ _ _ (kForest.mono t_sees hp0) (kParts.mono t_sees hq0) hsm) rfl Try.func96 rfl rfl rfl ?_)
  rintro v5 H5 ⟨⟨g, rfl, hg⟩, rfl⟩
  refine aops_val (av_not rfl) ?_
  refine ac_split rfl rfl ?_ ?_
  · intro hc1
    have hgf : g = false := by simpa using hc1
    refine ac_seq ?_
    refine ac_region (by kernel_rfl) ?_
    first | refine aops_val (av_build (pl := [(0, 1), (1, 1)]) (r := [.slice _ _ _, .slice _ _ _]) Try.underlying65 inf65.zero (by decide) rfl rfl) ?_ | refine aops_val (av_build (pl := [(0, 1), (1, 1)]) (r := [_, _]) Try.underlying65 inf65.zero (by decide) rfl rfl) ?_
    first | refine aops_op (aop_putN (vs := [.slice _ _ _, .slice _ _ _]) rfl rfl inf65.size t_get t_room rfl rfl ?_) | refine aops_op (aop_putN (vs := [_, _]) rfl rfl inf65.size t_get t_room rfl rfl ?_)
    first | refine aops_val (av_assign_int rfl) ?_ | refine aops_val (av_assign rfl) ?_
    refine ac_ret ?_
    subst hgf
    exact ⟨_, aresult2 (ares_cell (by first | assumption | rfl) (aload_agg (cs := [_, _]) Try.underlying65 rfl inf65.size t_cells)) (ares_tmp rfl), false, [_, _], hg, rfl, noParts_rep _, Hp.le_put_new (Hp.le_push' (Hp.le_push' (H.le_push _) _) _) (by simp <;> omega) _⟩
  · intro hc1
    have hgt : g = true := by simpa using hc1
    refine ac_skip ?_
    refine ac_seq ?_
    refine ac_region (by kernel_rfl) ?_
    first | refine aops_val (av_loadN (cs := [.slice _ _ _, .slice _ _ _, .slice _ _ _, .slice _ _ _, .slice _ _ _]) rfl Try.underlying62 rfl inf62.size t_cells) ?_ | refine aops_val (av_loadN (cs := [_, _, _, _, _]) rfl Try.underlying62 rfl inf62.size t_cells) ?_
    first | refine aops_val (av_loadN (cs := [.slice _ _ _, .slice _ _ _]) rfl Try.underlying65 rfl inf65.size t_cells) ?_ | refine aops_val (av_loadN (cs := [_, _]) rfl Try.underlying65 rfl inf65.size t_cells) ?_
    refine aops_op (aop_call (down_parts f p _ _ _ (kForest.mono t_sees hp0) (kParts.mono t_sees hq0) (hg.1 hgt).gf (hsm.fits (hg.1 hgt)) hsm.s0) rfl Try.func103 rfl rfl rfl ?_)
    rintro v6 H6 ⟨G6, w0, w1, hleG, rfl, hpp⟩; have hle6 := Hp.le_trans hleG hpp.le; have hz6 := hle6.1; simp only [Hp.push_size] at hz6; have hm0 := hpp.slN; have hm1 := hpp.slL; obtain ⟨C0, k0, rfl⟩ := hm0.shape; obtain ⟨C1, k1, rfl⟩ := hm1.shape
    first | refine aops_op (aop_putN (vs := [.slice _ _ _, .slice _ _ _]) rfl rfl inf65.size t_get t_room rfl rfl ?_) | refine aops_op (aop_putN (vs := [_, _]) rfl rfl inf65.size t_get t_room rfl rfl ?_)
    first | refine aops_val (av_assign_int rfl) ?_ | refine aops_val (av_assign rfl) ?_
    refine ac_ret ?_
    subst hgt
    have k2 : H6.get (H.size + 2) = .own 0 [.slice none 0 0, .slice none 0 0] := le_got hle6 (by simp) (by intro e; cases e) t_get
    exact ⟨_, aresult2 (ares_cell (by first | assumption | rfl) (aload_agg (cs := [_, _]) Try.underlying65 rfl inf65.size t_cells)) (ares_tmp rfl), true, [_, _], hg, rfl, ⟨_, _, rfl, hm0.mono (Hp.sees_box _ k2), hm1.mono (Hp.sees_box _ k2)⟩, Hp.le_put_new (Hp.le_trans (Hp.le_push' (Hp.le_push' (H.le_push _) _) _) hle6) (by simp <;> omega) _⟩
theorem Is_parts (f : Forest) (p : Parts) (cs ds : List Value) (H : Hp) (hp : kForest.rep H f cs) (hq : kParts.rep H p ds) (hsm : Small f p) :
    ACalls Try.prog 39 #[.agg cs.toArray, .agg ds.toArray] H (fun r H' => (∃ g, r = .bool g ∧ (g = true ↔ GoodP f p ∧ (ofP f p).nodes = p.nodes ∧ (ofP f p).links = p.links)) ∧ H' = H) := by
  refine ACalls.pure (R := fun r => ∃ g, r = .bool g ∧ (g = true ↔ GoodP f p ∧ (ofP f p).nodes = p.nodes ∧ (ofP f p).links = p.links)) (fun v ⟨g, h, _⟩ => by rw [h]; rfl) ?_
  have hp0 := kForest.mono H.sees_ro hp
  have hq0 := kParts.mono H.sees_ro hq
  have hp := hp0
  have hq := hq0
  obtain ⟨v0, v1, v2, v3, v4, rfl, hs0, hs1, hs2, hs3, hs4⟩ := hp
  obtain ⟨A0, c0, rfl⟩ := hs0.shape
  obtain ⟨A1, c1, rfl⟩ := hs1.shape
  obtain ⟨A2, c2, rfl⟩ := hs2.shape
  obtain ⟨A3, c3, rfl⟩ := hs3.shape
  obtain ⟨A4, c4, rfl⟩ := hs4.shape
  obtain ⟨u0, u1, rfl, hn0, hn1⟩ := hq
  obtain ⟨B0, d0, rfl⟩ := hn0.shape
  obtain ⟨B1, d1, rfl⟩ := hn1.shape
  refine acalls_of_code Try.func39 rfl rfl rfl (by simp) ?_
  refine ac_seq ?_
  refine ac_region (by kernel_rfl) ?_
  refine aops_make (am_box_agg rfl) ?_
  refine aops_make (am_box_agg rfl) ?_
  first | refine aops_val (av_assign_bool rfl) ?_ | refine aops_val (av_assign rfl) ?_
  refine ac_seq ?_
  refine ac_draw (by kernel_rfl) (reg_of (B := [0, 0, 3, 7, 15, 15, 63, 15, 255, 511, 1023]) (π := [0, 1, 2, 3, 4, 5, 7, 6, 8, 9, 10]) (by kernel_rfl)) ?_
  first | refine adr_val rfl rfl (av_loadN (cs := [.slice _ _ _, .slice _ _ _, .slice _ _ _, .slice _ _ _, .slice _ _ _]) rfl Try.underlying62 rfl inf62.size t_cells) t_lt ?_ | refine adr_val rfl rfl (av_loadN (cs := [_, _, _, _, _]) rfl Try.underlying62 rfl inf62.size t_cells) t_lt ?_
  first | refine adr_val rfl rfl (av_loadN (cs := [.slice _ _ _, .slice _ _ _]) rfl Try.underlying65 rfl inf65.size t_cells) t_lt ?_ | refine adr_val rfl rfl (av_loadN (cs := [_, _]) rfl Try.underlying65 rfl inf65.size t_cells) t_lt ?_
  refine adr_op rfl rfl (aop_call (GoodP_dom f p _ _ _ (kForest.mono t_sees hp0) (kParts.mono t_sees hq0) hsm) rfl Try.func96 rfl rfl rfl ?_)
  rintro v5 H5 ⟨⟨g, rfl, hg⟩, rfl⟩
  refine ⟨t_pend, ?_⟩
  first | refine adr_val rfl rfl (av_move_bool rfl) t_lt ?_ | refine adr_val rfl rfl (av_move rfl) t_lt ?_
  refine adr_guard rfl rfl rfl rfl ?_ ?_
  · intro hg1
    have hgt : g = true := hg1
    have hG := hg.1 hgt
    have hfo := (hsm.fits hG).of (p := p) rfl
    first | refine adr_wval rfl (want_yes rfl rfl rfl hg1) rfl (av_loadN (cs := [.slice _ _ _, .slice _ _ _, .slice _ _ _, .slice _ _ _, .slice _ _ _]) rfl Try.underlying62 rfl inf62.size t_cells) t_lt ?_ | refine adr_wval rfl (want_yes rfl rfl rfl hg1) rfl (av_loadN (cs := [_, _, _, _, _]) rfl Try.underlying62 rfl inf62.size t_cells) t_lt ?_
    first | refine adr_wval rfl (want_yes rfl rfl rfl hg1) rfl (av_loadN (cs := [.slice _ _ _, .slice _ _ _]) rfl Try.underlying65 rfl inf65.size t_cells) t_lt ?_ | refine adr_wval rfl (want_yes rfl rfl rfl hg1) rfl (av_loadN (cs := [_, _]) rfl Try.underlying65 rfl inf65.size t_cells) t_lt ?_
    first | refine adr_wval rfl (want_yes rfl rfl rfl hg1) rfl (av_loadN (cs := [.slice _ _ _, .slice _ _ _]) rfl Try.underlying65 rfl inf65.size t_cells) t_lt ?_ | refine adr_wval rfl (want_yes rfl rfl rfl hg1) rfl (av_loadN (cs := [_, _]) rfl Try.underlying65 rfl inf65.size t_cells) t_lt ?_
    refine adr_wop rfl (want_yes rfl rfl rfl hg1) rfl (aop_call (of_parts f p _ _ _ (kForest.mono t_sees hp0) (kParts.mono t_sees hq0) hG.gf (hsm.fits hG) hsm.s0) rfl Try.func97 rfl rfl rfl ?_)
    rintro v6 H6 ⟨es, rfl, hes, hle6⟩; have hz6 := hle6.1; simp only [Hp.push_size] at hz6; have hes0 := hes; obtain ⟨w0, w1, rfl, hm0, hm1⟩ := hes; obtain ⟨C0, k0, rfl⟩ := hm0.shape; obtain ⟨C1, k1, rfl⟩ := hm1.shape
    refine ⟨t_pend, ?_⟩
    refine adr_wop rfl (want_yes rfl rfl rfl hg1) rfl (aop_call (DSame_parts (ofP f p) p [_, _] [_, _] _ hes0 (kParts.mono (Hp.sees.trans t_sees hle6.sees) hq0) (by have := hfo.n1; have := hsm.s0; omega) (by have := hfo.n2; have := hsm.s0; omega) hfo.s1 hfo.s2) rfl Try.func101 rfl rfl rfl ?_)
    rintro v7 H7 ⟨⟨g2, rfl, hg2⟩, rfl⟩
    refine ⟨t_pend, ?_⟩
    refine adr_val rfl rfl (av_pick_bool (congrArg Value.bool hg1) rfl) t_lt ?_
    first | refine adr_val rfl rfl (av_assign_bool rfl) t_lt ?_ | refine adr_val rfl rfl (av_assign rfl) t_lt ?_
    refine ac_ret ?_
    refine ⟨_, aresult1 (ares_tmp rfl), _, rfl, ?_⟩
    first
      | (subst hgt; rw [hg2]; exact ⟨fun h => ⟨hG, h⟩, fun h => h.2⟩)
      | exact ⟨fun h => by simp at h, fun h => by have := hg.2 h.1; rw [hgf] at this; cases this⟩
      | trace_state
  · intro hg1
    have hgf : g = false := by simpa using hg1
    refine adr_skip rfl (want_no rfl rfl rfl hg1 rfl) ?_
    refine adr_skip rfl (want_no rfl rfl rfl hg1 rfl) ?_
    refine adr_skip rfl (want_no rfl rfl rfl hg1 rfl) ?_
    refine adr_skip rfl (want_no rfl rfl rfl hg1 rfl) ?_
    refine adr_skip rfl (want_no rfl rfl rfl hg1 rfl) ?_
    refine adr_val rfl rfl (av_pick_bool (congrArg Value.bool hg1) rfl) t_lt ?_
    first | refine adr_val rfl rfl (av_assign_bool rfl) t_lt ?_ | refine adr_val rfl rfl (av_assign rfl) t_lt ?_
    refine ac_ret ?_
    refine ⟨_, aresult1 (ares_tmp rfl), _, rfl, ?_⟩
    first
      | (subst hgt; rw [hg2]; exact ⟨fun h => ⟨hG, h⟩, fun h => h.2⟩)
      | exact ⟨fun h => by simp at h, fun h => by have := hg.2 h.1; rw [hgf] at this; cases this⟩
      | trace_state
end Go.Proofs.Ytnkjikpmgeknbaa.Am
namespace Go.Proofs.Ytnkjikpmgeknbaa.Am
open Go Go.RowKit
set_option maxRecDepth 100000
set_option linter.unusedVariables false
set_option linter.unusedSimpArgs false

def twoF : Forest := ⟨[⟨#[120]⟩, ⟨#[121]⟩], [0, 1], [-1, 0], [[], [0]], [[], []]⟩
def twoP : Parts := ⟨[[⟨0, 0, 0, 1⟩, ⟨1, 1, 0, 1⟩], [⟨0, 0, 0, 1⟩, ⟨1, 1, 0, 1⟩]], [[], [⟨0, 1, 0, 1⟩]]⟩
theorem rep_link (G : Hp) (x : Link) : kLink.rep G x [.int .i64 x.a, .int .i64 x.b, .int .i64 x.cost, .int .u64 x.n] := rfl
theorem sl_two {α : Type} {k : Kd α} {H : Hp} {b c st : Nat} {x y : α} {u v : Value} (hg : H.get b = .own st [u, v]) (hb : b < H.size) (h1 : k.rep H x [u]) (h2 : k.rep H y [v]) (hst : k.sz = st) : Sl k H (.slice (some ⟨b, 0, none⟩) 2 c) [x, y] :=
  Els.sl (xs := [x, y]) (cs := [u, v]) (Els.cons (c := [u]) h1 (Els.cons (c := [v]) h2 (Els.nil _ _ []))) (Hp.sees.refl _) hb hg hst
theorem sl_one1 {α : Type} {k : Kd α} {H : Hp} {b c st : Nat} {x : α} {u : Value} (hg : H.get b = .own st [u]) (hb : b < H.size) (h1 : k.rep H x [u]) (hst : k.sz = st) : Sl k H (.slice (some ⟨b, 0, none⟩) 1 c) [x] :=
  Els.sl (xs := [x]) (cs := [u]) (Els.cons (c := [u]) h1 (Els.nil _ _ [])) (Hp.sees.refl _) hb hg hst
theorem sl_link1 {H : Hp} {b c : Nat} {x : Link} (hg : H.get b = .own 4 [.int .i64 x.a, .int .i64 x.b, .int .i64 x.cost, .int .u64 x.n]) (hb : b < H.size) : Sl kLink H (.slice (some ⟨b, 0, none⟩) 1 c) [x] :=
  Els.sl (xs := [x]) (cs := _) (Els.cons (c := _) (rep_link H x) (Els.nil _ _ [])) (Hp.sees.refl _) hb hg rfl
theorem sl_link2 {H : Hp} {b c : Nat} {x y : Link} (hg : H.get b = .own 4 [.int .i64 x.a, .int .i64 x.b, .int .i64 x.cost, .int .u64 x.n, .int .i64 y.a, .int .i64 y.b, .int .i64 y.cost, .int .u64 y.n]) (hb : b < H.size) : Sl kLink H (.slice (some ⟨b, 0, none⟩) 2 c) [x, y] :=
  Els.sl (xs := [x, y]) (cs := _) (Els.cons (c := _) (rep_link H x) (Els.cons (c := _) (rep_link H y) (Els.nil _ _ []))) (Hp.sees.refl _) hb hg rfl
set_option maxHeartbeats 1000000 in
theorem two_ok (H : Hp) : ACalls Try.prog 99 #[] H (fun r H' => ∃ cs ds, r = .tuple #[.agg cs.toArray, .agg ds.toArray] ∧ kForest.rep H' twoF cs ∧ kParts.rep H' twoP ds ∧ H.le H') := by
  refine acalls_of_code Try.func99 rfl rfl rfl (by simp) ?_
  refine ac_seq ?_
  refine ac_region (by kernel_rfl) ?_
  refine aops_make (am_zero (l := [.slice none 0 0, .slice none 0 0, .slice none 0 0, .slice none 0 0, .slice none 0 0]) inf62.zero rfl (by decide)) ?_
  refine aops_make (am_zero (l := [.slice none 0 0, .slice none 0 0]) inf65.zero rfl (by decide)) ?_
  refine ac_seq ?_
  refine ac_region (by kernel_rfl) ?_
  first | refine aops_make (am_buildSlice (r := [.string _, .string _]) Try.underlying59 inf9.size inf9.zero rfl (by decide) (by decide) (by decide) rfl) ?_
  first | refine aops_make (am_buildSlice (r := [.int .i64 _, .int .i64 _]) Try.underlying29 inf3.size inf3.zero rfl (by decide) (by decide) (by decide) rfl) ?_
  first | refine aops_make (am_buildSlice (r := [.int .i64 _, .int .i64 _]) Try.underlying29 inf3.size inf3.zero rfl (by decide) (by decide) (by decide) rfl) ?_
  first | refine aops_make (am_buildSlice (r := [.int .i64 _]) Try.underlying29 inf3.size inf3.zero rfl (by decide) (by decide) (by decide) rfl) ?_
  first | refine aops_make (am_buildSlice (r := [.slice _ _ _, .slice _ _ _]) Try.underlying60 inf29.size inf29.zero rfl (by decide) (by decide) (by decide) rfl) ?_ | refine aops_make (am_buildSlice (r := [_, _]) Try.underlying60 inf29.size inf29.zero rfl (by decide) (by decide) (by decide) rfl) ?_
  first | refine aops_make (am_buildSlice (r := [.slice _ _ _, .slice _ _ _]) Try.underlying60 inf29.size inf29.zero rfl (by decide) (by decide) (by decide) rfl) ?_ | refine aops_make (am_buildSlice (r := [_, _]) Try.underlying60 inf29.size inf29.zero rfl (by decide) (by decide) (by decide) rfl) ?_
  first | refine aops_val (av_build (pl := [(0, 1), (1, 1), (2, 1), (3, 1), (4, 1)]) (r := [.slice _ _ _, .slice _ _ _, .slice _ _ _, .slice _ _ _, .slice _ _ _]) Try.underlying62 inf62.zero (by decide) rfl rfl) ?_ | refine aops_val (av_build (pl := [(0, 1), (1, 1), (2, 1), (3, 1), (4, 1)]) (r := [_, _, _, _, _]) Try.underlying62 inf62.zero (by decide) rfl rfl) ?_
  refine aops_make (am_zero (l := [.slice none 0 0, .slice none 0 0, .slice none 0 0, .slice none 0 0, .slice none 0 0]) inf62.zero rfl (by decide)) ?_
  first | refine aops_op (aop_putN (vs := [.slice _ _ _, .slice _ _ _, .slice _ _ _, .slice _ _ _, .slice _ _ _]) rfl rfl inf62.size t_get t_room rfl rfl ?_) | refine aops_op (aop_putN (vs := [_, _, _, _, _]) rfl rfl inf62.size t_get t_room rfl rfl ?_)
  refine ac_seq ?_
  refine ac_region (by kernel_rfl) ?_
  refine aops_val (av_build (pl := [(0, 1), (1, 1), (2, 1), (3, 1)]) (r := [.int .i64 _, .int .i64 _, .int .i64 _, .int .u64 _]) Try.underlying28 inf28.zero (by decide) rfl rfl) ?_
  refine aops_val (av_build (pl := [(0, 1), (1, 1), (2, 1), (3, 1)]) (r := [.int .i64 _, .int .i64 _, .int .i64 _, .int .u64 _]) Try.underlying28 inf28.zero (by decide) rfl rfl) ?_
  first | refine aops_make (am_buildSlice (r := [.int .i64 _, .int .i64 _, .int .i64 _, .int .u64 _, .int .i64 _, .int .i64 _, .int .i64 _, .int .u64 _]) Try.underlying22 inf28.size inf28.zero rfl (by decide) (by decide) (by decide) rfl) ?_
  first | refine aops_val (av_assign_sl rfl) ?_ | refine aops_val (av_assign rfl) ?_
  refine ac_seq ?_
  refine ac_region (by kernel_rfl) ?_
  first | refine aops_val (av_loadN (cs := [.slice _ _ _, .slice _ _ _, .slice _ _ _, .slice _ _ _, .slice _ _ _]) rfl Try.underlying62 rfl inf62.size t_cells) ?_ | refine aops_val (av_loadN (cs := [_, _, _, _, _]) rfl Try.underlying62 rfl inf62.size t_cells) ?_
  first | refine aops_val (av_move_sl rfl) ?_ | refine aops_val (av_move rfl) ?_
  first | refine aops_val (av_move_sl rfl) ?_ | refine aops_val (av_move rfl) ?_
  first | refine aops_make (am_buildSlice (r := [.slice _ _ _, .slice _ _ _]) Try.underlying63 inf22.size inf22.zero rfl (by decide) (by decide) (by decide) rfl) ?_ | refine aops_make (am_buildSlice (r := [_, _]) Try.underlying63 inf22.size inf22.zero rfl (by decide) (by decide) (by decide) rfl) ?_
  refine aops_val (av_build (pl := [(0, 1), (1, 1), (2, 1), (3, 1)]) (r := [.int .i64 _, .int .i64 _, .int .i64 _, .int .u64 _]) Try.underlying28 inf28.zero (by decide) rfl rfl) ?_
  first | refine aops_make (am_buildSlice (r := [.int .i64 _, .int .i64 _, .int .i64 _, .int .u64 _]) Try.underlying22 inf28.size inf28.zero rfl (by decide) (by decide) (by decide) rfl) ?_
  first | refine aops_make (am_buildSlice (r := [.slice _ _ _, .slice _ _ _]) Try.underlying63 inf22.size inf22.zero rfl (by decide) (by decide) (by decide) rfl) ?_ | refine aops_make (am_buildSlice (r := [_, _]) Try.underlying63 inf22.size inf22.zero rfl (by decide) (by decide) (by decide) rfl) ?_
  first | refine aops_val (av_build (pl := [(0, 1), (1, 1)]) (r := [.slice _ _ _, .slice _ _ _]) Try.underlying65 inf65.zero (by decide) rfl rfl) ?_ | refine aops_val (av_build (pl := [(0, 1), (1, 1)]) (r := [_, _]) Try.underlying65 inf65.zero (by decide) rfl rfl) ?_
  first | refine aops_op (aop_putN (vs := [.slice _ _ _, .slice _ _ _, .slice _ _ _, .slice _ _ _, .slice _ _ _]) rfl rfl inf62.size t_get t_room rfl rfl ?_) | refine aops_op (aop_putN (vs := [_, _, _, _, _]) rfl rfl inf62.size t_get t_room rfl rfl ?_)
  first | refine aops_op (aop_putN (vs := [.slice _ _ _, .slice _ _ _]) rfl rfl inf65.size t_get t_room rfl rfl ?_) | refine aops_op (aop_putN (vs := [_, _]) rfl rfl inf65.size t_get t_room rfl rfl ?_)
  refine ac_ret ?_
  refine ⟨_, aresult2 (ares_cell rfl (aload_agg (cs := [_, _, _, _, _]) Try.underlying62 rfl inf62.size t_cells)) (ares_cell rfl (aload_agg (cs := [_, _]) Try.underlying65 rfl inf65.size t_cells)), [_, _, _, _, _], [_, _], rfl, ⟨_, _, _, _, _, rfl, ?_, ?_, ?_, ?_, ?_⟩, ⟨_, _, rfl, ?_, ?_⟩, ?_⟩
  · exact sl_two (k := kStr) t_get (by simp) rfl rfl rfl
  · exact sl_two (k := kInt .i64) t_get (by simp) rfl rfl rfl
  · exact sl_two (k := kInt .i64) t_get (by simp) rfl rfl rfl
  · exact sl_two (k := kSl (kInt .i64)) t_get (by simp) ⟨_, rfl, Sl.nil _ _⟩ ⟨_, rfl, sl_one1 (k := kInt .i64) t_get (by simp) rfl rfl⟩ rfl
  · exact sl_two (k := kSl (kInt .i64)) t_get (by simp) ⟨_, rfl, Sl.nil _ _⟩ ⟨_, rfl, Sl.nil _ _⟩ rfl
  · exact sl_two (k := kSl kLink) t_get (by simp) ⟨_, rfl, sl_link2 t_get (by simp)⟩ ⟨_, rfl, sl_link2 t_get (by simp)⟩ rfl
  · exact sl_two (k := kSl kLink) t_get (by simp) ⟨_, rfl, Sl.nil _ _⟩ ⟨_, rfl, sl_link1 t_get (by simp)⟩ rfl
  · exact t_le
end Go.Proofs.Ytnkjikpmgeknbaa.Am
namespace Go.Proofs.Ytnkjikpmgeknbaa.Am
open Go Go.RowKit
set_option maxRecDepth 100000
set_option linter.unusedVariables false
set_option linter.unusedSimpArgs false

def twoR : Parts := ⟨[[⟨0, 0, 0, 1⟩], [⟨1, 1, 0, 1⟩]], [[], [⟨0, 1, 0, 1⟩]]⟩
theorem good_two : GoodP twoF twoP := by
  refine ⟨⟨rfl, rfl, rfl, rfl, fun i hi => ?_⟩, rfl, rfl, fun v hv => ?_⟩
  · have hi' : i < 2 := hi
    rcases (by omega : i = 0 ∨ i = 1) with rfl | rfl <;> (unfold OkF; decide)
  · have hv' : v < 2 := hv
    rcases (by omega : v = 0 ∨ v = 1) with rfl | rfl <;> (unfold OkP; rw [goodL_iff, goodL_iff]; unfold OkL; decide)
theorem small_two : Small twoF twoP := ⟨by decide, by decide, by decide, by decide, by decide, by decide, by decide⟩
theorem of_two : ofP twoF twoP = twoR := by
  have h := good_two
  obtain ⟨k1, k2, k3, k4⟩ := up_all h.gf twoF.order.reverse [] twoP rfl h.lens h.nb (fun v hv => by simp at hv)
  have e1 : upP twoF twoP = twoF.order.reverse.foldl (fun p v => upC twoF p v.toNat) twoP := k4
  rw [← e1] at k1 k2
  have e2 : downP twoF (upP twoF twoP) = twoF.order.foldl (fun p v => downC twoF p v.toNat) (upP twoF twoP) := down_fold _ _ (fun v hv => by have := h.gf.order_in hv; omega) k1 (h.nb.sub k2)
  unfold ofP
  rw [e2, e1]
  rfl
theorem of_twoR : ofP twoF twoR = twoR := by have := ofP_twice good_two; rwa [of_two] at this
theorem good_twoR : GoodP twoF twoR := by have := ofP_good good_two; rwa [of_two] at this
theorem small_twoR : Small twoF twoR := ⟨by decide, by decide, by decide, by decide, by decide, by decide, by decide⟩
theorem Of_good (f : Forest) (p : Parts) (cs ds : List Value) (H : Hp) (hp : kForest.rep H f cs) (hq : kParts.rep H p ds) (hsm : Small f p) (hg : GoodP f p) :
    ACalls Try.prog 35 #[.agg cs.toArray, .agg ds.toArray] H (fun r H' => ∃ (u v : Value), r = .tuple #[.agg #[u, v], .int .i64 0] ∧ Sl (kSl kLink) H' u (ofP f p).nodes ∧ Sl (kSl kLink) H' v (ofP f p).links ∧ H.le H') :=
  (Of_parts f p cs ds H hp hq hsm).mono fun r H' ⟨g, es, h1, h2, h3, h4⟩ => by
    obtain rfl : g = true := h1.2 hg
    obtain ⟨u, v, rfl, h5, h6⟩ := h3
    exact ⟨u, v, h2, h5, h6, h4⟩
theorem Of_bad (f : Forest) (p : Parts) (cs ds : List Value) (H : Hp) (hp : kForest.rep H f cs) (hq : kParts.rep H p ds) (hsm : Small f p) (hg : ¬ GoodP f p) :
    ACalls Try.prog 35 #[.agg cs.toArray, .agg ds.toArray] H (fun r H' => ∃ (u v : Value), r = .tuple #[.agg #[u, v], .int .i64 1] ∧ Sl (kSl kLink) H' u [] ∧ Sl (kSl kLink) H' v [] ∧ H.le H') :=
  (Of_parts f p cs ds H hp hq hsm).mono fun r H' ⟨g, es, h1, h2, h3, h4⟩ => by
    obtain rfl : g = false := by cases g with | false => rfl | true => exact absurd (h1.1 rfl) hg
    obtain ⟨u, v, rfl, h5, h6⟩ := h3
    exact ⟨u, v, h2, h5, h6, h4⟩
theorem Is_true (f : Forest) (p : Parts) (cs ds : List Value) (H : Hp) (hp : kForest.rep H f cs) (hq : kParts.rep H p ds) (hsm : Small f p) (hg : GoodP f p) (he : ofP f p = p) :
    ACalls Try.prog 39 #[.agg cs.toArray, .agg ds.toArray] H (fun r H' => r = .bool true ∧ H' = H) :=
  (Is_parts f p cs ds H hp hq hsm).mono fun r H' ⟨⟨g, h1, h2⟩, h3⟩ => by
    obtain rfl : g = true := h2.2 ⟨hg, by rw [he], by rw [he]⟩
    exact ⟨h1, h3⟩
theorem Is_false (f : Forest) (p : Parts) (cs ds : List Value) (H : Hp) (hp : kForest.rep H f cs) (hq : kParts.rep H p ds) (hsm : Small f p) (he : (ofP f p).nodes ≠ p.nodes) :
    ACalls Try.prog 39 #[.agg cs.toArray, .agg ds.toArray] H (fun r H' => r = .bool false ∧ H' = H) :=
  (Is_parts f p cs ds H hp hq hsm).mono fun r H' ⟨⟨g, h1, h2⟩, h3⟩ => by
    obtain rfl : g = false := by cases g with | false => rfl | true => exact absurd (h2.1 rfl).2.1 he
    exact ⟨h1, h3⟩
set_option maxHeartbeats 1000000 in
theorem lives28_ok (H : Hp) : ACalls Try.prog 37 #[] H (fun r H' => r = .bool true ∧ H.le H') := by
  refine acalls_of_code Try.func37 rfl rfl rfl (by simp) ?_
  refine ac_seq ?_
  refine ac_region (by kernel_rfl) ?_
  first | refine aops_val (av_assign_bool rfl) ?_ | refine aops_val (av_assign rfl) ?_
  refine ac_seq ?_
  refine ac_region (by kernel_rfl) ?_
  refine aops_op (aop_call (two_ok _) rfl Try.func99 rfl rfl rfl ?_)
  rintro v1 H1 ⟨cs1, ds1, rfl, hf1, hp1, hle1⟩; have hf10 := hf1; have hp10 := hp1; obtain ⟨a0, a1, a2, a3, a4, rfl, hs0, hs1, hs2, hs3, hs4⟩ := hf1; obtain ⟨A0, c0, rfl⟩ := hs0.shape; obtain ⟨A1, c1, rfl⟩ := hs1.shape; obtain ⟨A2, c2, rfl⟩ := hs2.shape; obtain ⟨A3, c3, rfl⟩ := hs3.shape; obtain ⟨A4, c4, rfl⟩ := hs4.shape; obtain ⟨u0, u1, rfl, hn0, hn1⟩ := hp1; obtain ⟨B0, d0, rfl⟩ := hn0.shape; obtain ⟨B1, d1, rfl⟩ := hn1.shape
  refine aops_val (av_move rfl) ?_
  refine aops_val (av_extract rfl rfl) ?_
  refine aops_val (av_extract rfl rfl) ?_
  refine aops_make (am_zero (l := [.slice none 0 0, .slice none 0 0, .slice none 0 0, .slice none 0 0, .slice none 0 0]) inf62.zero rfl (by decide)) ?_
  refine aops_make (am_zero (l := [.slice none 0 0, .slice none 0 0]) inf65.zero rfl (by decide)) ?_
  first | refine aops_op (aop_putN (vs := [.slice _ _ _, .slice _ _ _, .slice _ _ _, .slice _ _ _, .slice _ _ _]) rfl rfl inf62.size t_get t_room rfl rfl ?_) | refine aops_op (aop_putN (vs := [_, _, _, _, _]) rfl rfl inf62.size t_get t_room rfl rfl ?_)
  first | refine aops_op (aop_putN (vs := [.slice _ _ _, .slice _ _ _]) rfl rfl inf65.size t_get t_room rfl rfl ?_) | refine aops_op (aop_putN (vs := [_, _]) rfl rfl inf65.size t_get t_room rfl rfl ?_)
  refine ac_seq ?_
  refine ac_region (by kernel_rfl) ?_
  first | refine aops_val (av_loadN (cs := [.slice _ _ _, .slice _ _ _, .slice _ _ _, .slice _ _ _, .slice _ _ _]) rfl Try.underlying62 rfl inf62.size t_cells) ?_ | refine aops_val (av_loadN (cs := [_, _, _, _, _]) rfl Try.underlying62 rfl inf62.size t_cells) ?_
  first | refine aops_val (av_loadN (cs := [.slice _ _ _, .slice _ _ _]) rfl Try.underlying65 rfl inf65.size t_cells) ?_ | refine aops_val (av_loadN (cs := [_, _]) rfl Try.underlying65 rfl inf65.size t_cells) ?_
  refine aops_op (aop_call (Of_good twoF twoP _ _ _ (kForest.mono t_sees hf10) (kParts.mono t_sees hp10) small_two good_two) rfl Try.func35 rfl rfl rfl ?_)
  rintro v2 H2 ⟨w0, w1, rfl, hm0, hm1, hle2⟩; rw [of_two] at hm0 hm1; obtain ⟨C0, k0, rfl⟩ := hm0.shape; obtain ⟨C1, k1, rfl⟩ := hm1.shape; have hz2 := hle2.1; simp only [Hp.push_size, Hp.put_size] at hz2
  refine aops_val (av_move rfl) ?_
  refine aops_val (av_extract rfl rfl) ?_
  refine aops_val (av_extract rfl rfl) ?_
  refine aops_make (am_zero (l := [.slice none 0 0, .slice none 0 0]) inf65.zero rfl (by decide)) ?_
  first | refine aops_op (aop_putN (vs := [.slice _ _ _, .slice _ _ _]) rfl rfl inf65.size t_get t_room rfl rfl ?_) | refine aops_op (aop_putN (vs := [_, _]) rfl rfl inf65.size t_get t_room rfl rfl ?_)
  first | refine aops_val (av_assign_int rfl) ?_ | refine aops_val (av_assign rfl) ?_
  refine ac_seq ?_
  refine ac_region (by kernel_rfl) ?_
  first | refine aops_val (av_move_int rfl) ?_ | refine aops_val (av_move rfl) ?_
  refine aops_val (av_eq rfl rfl) ?_
  first | refine aops_val (av_move_bool rfl) ?_ | refine aops_val (av_move rfl) ?_
  refine aops_guard rfl rfl rfl ?_ ?_
  · intro hg1
    have hp1 := hg1; try simp only [decide_eq_true_eq, decide_eq_false_iff_not, Bool.not_eq_true', Bool.not_eq_false'] at hp1
    refine aops_wval (want_yes rfl rfl rfl hg1) (av_fieldOff (off := 0) rfl Try.underlying65 rfl inf63.size (by decide) rfl) ?_
    refine aops_wval (want_yes rfl rfl rfl hg1) (av_load1 rfl Try.underlying63 rfl t_cell) ?_
    refine aops_wval (want_yes rfl rfl rfl hg1) (av_len rfl Try.underlying63) ?_
    refine aops_wval (want_yes rfl rfl rfl hg1) (av_eq rfl rfl) ?_
    refine aops_val (av_pick_bool (congrArg Value.bool hg1) rfl) ?_
    first | refine aops_val (av_move_bool rfl) ?_ | refine aops_val (av_move rfl) ?_
    refine aops_guard rfl rfl rfl ?_ ?_
    · intro hg2
      have hp2 := hg2; try simp only [decide_eq_true_eq, decide_eq_false_iff_not, Bool.not_eq_true', Bool.not_eq_false'] at hp2
      refine aops_wval (want_yes rfl rfl rfl hg2) (av_fieldOff (off := 0) rfl Try.underlying65 rfl inf63.size (by decide) rfl) ?_
      refine aops_wval (want_yes rfl rfl rfl hg2) (av_load1 rfl Try.underlying63 rfl t_cell) ?_
      obtain ⟨b, o, ks, eB, hb, ⟨w3, rfl, hw3⟩, hcell3⟩ := hm0.elem_at (i := 0) (by decide)
      obtain ⟨b', o', ks', eB', hb', ⟨w4, rfl, hw4⟩, hcell4⟩ := hm0.elem_at (i := 1) (by decide)
      obtain ⟨rfl⟩ : C0 = some ⟨b, o, none⟩ := eB
      simp only [Option.some.injEq, Addr.mk.injEq, and_true] at eB'
      obtain ⟨rfl, rfl⟩ := eB'
      have hcell3' := hcell3.one
      have hcell4' := hcell4.one
      obtain ⟨C3, k3, rfl⟩ := hw3.shape
      obtain ⟨C4, k4, rfl⟩ := hw4.shape
      refine aops_wval (want_yes rfl rfl rfl hg2) (av_indexAddr rfl rfl Try.underlying63 inf22.size t_idx t_idx) ?_
      refine aops_wval (want_yes rfl rfl rfl hg2) (av_load1 rfl Try.underlying22 rfl t_cell) ?_
      refine aops_wval (want_yes rfl rfl rfl hg2) (av_len rfl Try.underlying22) ?_
      refine aops_wval (want_yes rfl rfl rfl hg2) (av_eq rfl rfl) ?_
      refine aops_val (av_pick_bool (congrArg Value.bool hg2) rfl) ?_
      first | refine aops_val (av_move_bool rfl) ?_ | refine aops_val (av_move rfl) ?_
      refine aops_guard rfl rfl rfl ?_ ?_
      · intro hg3
        have hp3 := hg3; try simp only [decide_eq_true_eq, decide_eq_false_iff_not, Bool.not_eq_true', Bool.not_eq_false'] at hp3
        refine aops_wval (want_yes rfl rfl rfl hg3) (av_fieldOff (off := 0) rfl Try.underlying65 rfl inf63.size (by decide) rfl) ?_
        refine aops_wval (want_yes rfl rfl rfl hg3) (av_load1 rfl Try.underlying63 rfl t_cell) ?_
        refine aops_wval (want_yes rfl rfl rfl hg3) (av_indexAddr rfl rfl Try.underlying63 inf22.size t_idx t_idx) ?_
        refine aops_wval (want_yes rfl rfl rfl hg3) (av_load1 rfl Try.underlying22 rfl t_cell) ?_
        refine aops_wval (want_yes rfl rfl rfl hg3) (av_len rfl Try.underlying22) ?_
        refine aops_wval (want_yes rfl rfl rfl hg3) (av_eq rfl rfl) ?_
        refine aops_val (av_pick_bool (congrArg Value.bool hg3) rfl) ?_
        first | refine aops_val (av_move_bool rfl) ?_ | refine aops_val (av_move rfl) ?_
        refine aops_guard rfl rfl rfl ?_ ?_
        · intro hg4
          have hp4 := hg4; try simp only [decide_eq_true_eq, decide_eq_false_iff_not, Bool.not_eq_true', Bool.not_eq_false'] at hp4
          first | refine aops_wval (want_yes rfl rfl rfl hg4) (av_loadN (cs := [.slice _ _ _, .slice _ _ _, .slice _ _ _, .slice _ _ _, .slice _ _ _]) rfl Try.underlying62 rfl inf62.size t_cells) ?_ | refine aops_wval (want_yes rfl rfl rfl hg4) (av_loadN (cs := [_, _, _, _, _]) rfl Try.underlying62 rfl inf62.size t_cells) ?_
          first | refine aops_wval (want_yes rfl rfl rfl hg4) (av_loadN (cs := [.slice _ _ _, .slice _ _ _]) rfl Try.underlying65 rfl inf65.size t_cells) ?_ | refine aops_wval (want_yes rfl rfl rfl hg4) (av_loadN (cs := [_, _]) rfl Try.underlying65 rfl inf65.size t_cells) ?_
          refine aops_want (want_yes rfl rfl rfl hg4) (aop_call (Is_false twoF twoP _ _ _ (kForest.mono t_sees hf10) (kParts.mono t_sees hp10) small_two (by rw [of_two]; decide)) rfl Try.func39 rfl rfl rfl ?_)
          rintro v5 H5 ⟨rfl, rfl⟩
          refine aops_wval (want_yes rfl rfl rfl hg4) (av_not rfl) ?_
          refine aops_val (av_pick_bool (congrArg Value.bool hg4) rfl) ?_
          first | refine aops_val (av_move_bool rfl) ?_ | refine aops_val (av_move rfl) ?_
          refine aops_guard rfl rfl rfl ?_ ?_
          · intro hg5
            have hp5 := hg5; try simp only [decide_eq_true_eq, decide_eq_false_iff_not, Bool.not_eq_true', Bool.not_eq_false'] at hp5
            first | refine aops_wval (want_yes rfl rfl rfl hg5) (av_loadN (cs := [.slice _ _ _, .slice _ _ _, .slice _ _ _, .slice _ _ _, .slice _ _ _]) rfl Try.underlying62 rfl inf62.size t_cells) ?_ | refine aops_wval (want_yes rfl rfl rfl hg5) (av_loadN (cs := [_, _, _, _, _]) rfl Try.underlying62 rfl inf62.size t_cells) ?_
            first | refine aops_wval (want_yes rfl rfl rfl hg5) (av_loadN (cs := [.slice _ _ _, .slice _ _ _]) rfl Try.underlying65 rfl inf65.size t_cells) ?_ | refine aops_wval (want_yes rfl rfl rfl hg5) (av_loadN (cs := [_, _]) rfl Try.underlying65 rfl inf65.size t_cells) ?_
            refine aops_want (want_yes rfl rfl rfl hg5) (aop_call (Is_true twoF twoR _ [_, _] _ (kForest.mono t_sees hf10) ⟨_, _, rfl, hm0.mono t_sees, hm1.mono t_sees⟩ small_twoR good_twoR of_twoR) rfl Try.func39 rfl rfl rfl ?_)
            rintro v6 H6 ⟨rfl, rfl⟩
            refine aops_val (av_pick_bool (congrArg Value.bool hg5) rfl) ?_
            first | refine aops_val (av_assign_bool rfl) ?_ | refine aops_val (av_assign rfl) ?_
            refine ac_ret ?_
            exact ⟨.bool true, aresult1 (ares_tmp rfl), rfl, Hp.le_put_new (Hp.le_push' (Hp.le_trans (Hp.le_put_new (Hp.le_put_new (Hp.le_push' (Hp.le_push' hle1 _) _) (by have := hle1.1; simp <;> omega) _) (by have := hle1.1; simp <;> omega) _) hle2) _) (by have := hle1.1; omega) _⟩
          · intro hg5
            exact absurd hg5 (by decide)
        · intro hg4
          exact absurd hg4 (by decide)
      · intro hg3
        exact absurd hg3 (by decide)
    · intro hg2
      exact absurd hg2 (by decide)
  · intro hg1
    exact absurd hg1 (by decide)
end Go.Proofs.Ytnkjikpmgeknbaa.Am
namespace Go.Proofs.Ytnkjikpmgeknbaa.Am
open Go Go.RowKit
set_option maxRecDepth 100000
set_option linter.unusedVariables false
set_option linter.unusedSimpArgs false

structure BigF (f : Forest) : Prop where
  l0 : f.vars.length ≤ 9223372036854775807
  l1 : f.order.length ≤ 9223372036854775807
  l2 : f.parent.length ≤ 9223372036854775807
  l3 : f.links.length ≤ 9223372036854775807
  l4 : f.loops.length ≤ 9223372036854775807
  s3 : ∀ l ∈ f.links, l.length ≤ 9223372036854775807
  s4 : ∀ l ∈ f.loops, l.length ≤ 9223372036854775807
structure BigP (p : Parts) : Prop where
  l0 : p.nodes.length ≤ 9223372036854775807
  l1 : p.links.length ≤ 9223372036854775807
  s0 : ∀ l ∈ p.nodes, l.length ≤ 9223372036854775807
  s1 : ∀ l ∈ p.links, l.length ≤ 9223372036854775807
theorem Forest_28 (f : Forest) (cs : List Value) (H : Hp) (hp : kForest.rep H f cs) (hb : BigF f) :
    ACalls Try.prog 33 #[.agg cs.toArray] H (fun r H' => H.le H' ∧ ∃ ds, r = .agg ds.toArray ∧ kForest.rep H' f.few ds) := by
  have hp0 := hp
  obtain ⟨v0, v1, v2, v3, v4, rfl, hs0, hs1, hs2, hs3, hs4⟩ := hp
  obtain ⟨A0, c0, rfl⟩ := hs0.shape
  obtain ⟨A1, c1, rfl⟩ := hs1.shape
  obtain ⟨A2, c2, rfl⟩ := hs2.shape
  obtain ⟨A3, c3, rfl⟩ := hs3.shape
  obtain ⟨A4, c4, rfl⟩ := hs4.shape
  refine acalls_of_code Try.func33 rfl rfl rfl (by simp) ?_
  refine ac_seq ?_
  refine ac_region (by kernel_rfl) ?_
  refine aops_make (am_box_agg rfl) ?_
  refine aops_make (am_zero (l := [.slice none 0 0, .slice none 0 0, .slice none 0 0, .slice none 0 0, .slice none 0 0]) inf62.zero rfl (by decide)) ?_
  refine ac_seq ?_
  refine ac_region (by kernel_rfl) ?_
  first | refine aops_val (av_loadN (cs := [.slice _ _ _, .slice _ _ _, .slice _ _ _, .slice _ _ _, .slice _ _ _]) rfl Try.underlying62 rfl inf62.size t_cells) ?_ | refine aops_val (av_loadN (cs := [_, _, _, _, _]) rfl Try.underlying62 rfl inf62.size t_cells) ?_
  refine aops_op (aop_call (Few_forest f _ _ (kForest.mono t_sees hp0) hb.l0 hb.l1 hb.l2 hb.l3 hb.l4 hb.s3 hb.s4) rfl Try.func94 rfl rfl rfl ?_)
  rintro v2 H2 ⟨hle2, ds, rfl, hds⟩; have hds0 := hds; obtain ⟨a0, a1, a2, a3, a4, rfl, ht0, ht1, ht2, ht3, ht4⟩ := hds; obtain ⟨B0, d0, rfl⟩ := ht0.shape; obtain ⟨B1, d1, rfl⟩ := ht1.shape; obtain ⟨B2, d2, rfl⟩ := ht2.shape; obtain ⟨B3, d3, rfl⟩ := ht3.shape; obtain ⟨B4, d4, rfl⟩ := ht4.shape; have hz2 := hle2.1; simp only [Hp.push_size] at hz2
  first | refine aops_op (aop_putN (vs := [.slice _ _ _, .slice _ _ _, .slice _ _ _, .slice _ _ _, .slice _ _ _]) rfl rfl inf62.size t_get t_room rfl rfl ?_) | refine aops_op (aop_putN (vs := [_, _, _, _, _]) rfl rfl inf62.size t_get t_room rfl rfl ?_)
  refine ac_ret ?_
  have k1 : H2.get (H.size + 1) = .own 0 [.slice none 0 0, .slice none 0 0, .slice none 0 0, .slice none 0 0, .slice none 0 0] := le_got hle2 (by simp) (by intro e; cases e) t_get
  exact ⟨_, aresult1 (ares_cell (by first | assumption | rfl) (aload_agg (cs := [_, _, _, _, _]) Try.underlying62 rfl inf62.size t_cells)), Hp.le_put_new (Hp.le_trans (Hp.le_push' (H.le_push _) _) hle2) (by simp <;> omega) _, [_, _, _, _, _], rfl, kForest.mono (Hp.sees_box _ k1) hds0⟩
theorem small_few (f : Forest) (p : Parts) : Small f.few p.few4 := by
  have h8 : ∀ {α : Type} (xs : List α), (xs.take 8).length ≤ 8 := fun xs => by rw [List.length_take]; omega
  refine ⟨?_, ?_, ?_, ?_, ?_, fun l hl => ?_, fun l hl => ?_⟩
  · show ((f.vars.take 8).map _).length ≤ _; rw [List.length_map]; have := h8 f.vars; omega
  · show (f.order.take 8).length ≤ _; have := h8 f.order; omega
  · show (f.parent.take 8).length ≤ _; have := h8 f.parent; omega
  · show (((p.nodes.take 8).map fewL).map _).length ≤ _; rw [List.length_map, List.length_map]; have := h8 p.nodes; omega
  · show ((p.links.take 8).map fewL).length ≤ _; rw [List.length_map]; have := h8 p.links; omega
  · obtain ⟨m, _, rfl⟩ := List.mem_map.1 hl
    rw [List.length_take]; omega
  · obtain ⟨m, _, rfl⟩ := List.mem_map.1 hl
    unfold fewL; rw [List.length_map, List.length_take]; omega
theorem Link.few_few (x : Link) : x.few.few = x.few := by
  unfold Link.few
  by_cases h : 1000000000 < x.cost
  · rw [if_pos h]; simp
  · rw [if_neg h, if_neg h]
theorem fewL_le (xs : List Link) : (fewL xs).length ≤ 25 := by unfold fewL; rw [List.length_map, List.length_take]; omega
theorem fewL_take (m : Nat) (xs : List Link) : fewL ((fewL xs).take m) = (fewL xs).take m := by
  have h : (fewL xs).map Link.few = fewL xs := by
    unfold fewL
    rw [List.map_map, show Link.few ∘ Link.few = Link.few from funext Link.few_few]
  show (((fewL xs).take m).take 25).map Link.few = _
  rw [List.take_of_length_le (by rw [List.length_take]; have := fewL_le xs; omega), List.map_take, h]
theorem fewL_idem (xs : List Link) : fewL (fewL xs) = fewL xs := by
  have := fewL_take (fewL xs).length xs
  rwa [List.take_length] at this
theorem few4_few4 (p : Parts) : p.few4.few4 = p.few4 := by
  unfold Parts.few4 Parts.few
  simp only [List.map_map, ← List.map_take, List.take_take, Nat.min_self]
  congr 1
  · refine List.map_congr_left fun l _ => ?_
    simp only [Function.comp]
    rw [fewL_take, List.take_take, Nat.min_self]
  · exact List.map_congr_left fun l _ => fewL_idem l
theorem cutS_idem (s : ByteArray) : cutS (cutS s 32) 32 = cutS s 32 := by
  unfold cutS
  by_cases h : 32 < s.size
  · rw [if_pos h, if_neg (by rw [ByteArray.size_extract]; omega)]
  · rw [if_neg h, if_neg h]
theorem ffew_ffew (f : Forest) : f.few.few = f.few := by
  unfold Forest.few
  simp only [← List.map_take, List.take_take, Nat.min_self, List.map_map]
  congr 1
  · exact List.map_congr_left fun s _ => cutS_idem s
  · exact List.map_congr_left fun l _ => by simp [List.take_take]
  · exact List.map_congr_left fun l _ => by simp [List.take_take]
theorem bigF_few (f : Forest) : BigF f.few := by
  have h := (small_few f ⟨[], []⟩)
  have h8 : ∀ {α : Type} (xs : List α), (xs.take 8).length ≤ 8 := fun xs => by rw [List.length_take]; omega
  refine ⟨by have := h.s0; omega, by have := h.s1; omega, by have := h.s2; omega, ?_, ?_, fun l hl => ?_, fun l hl => ?_⟩
  · show ((f.links.take 8).map _).length ≤ _; rw [List.length_map]; have := h8 f.links; omega
  · show ((f.loops.take 8).map _).length ≤ _; rw [List.length_map]; have := h8 f.loops; omega
  · obtain ⟨m, _, rfl⟩ := List.mem_map.1 hl; rw [List.length_take]; omega
  · obtain ⟨m, _, rfl⟩ := List.mem_map.1 hl; rw [List.length_take]; omega
theorem bigP_few (p : Parts) : BigP p.few4 := by
  have h := (small_few ⟨[], [], [], [], []⟩ p)
  exact ⟨by have := h.s3; omega, by have := h.s4; omega, fun l hl => by have := h.s5 l hl; omega, fun l hl => by have := h.s6 l hl; omega⟩
end Go.Proofs.Ytnkjikpmgeknbaa.Am
namespace Go.Proofs.Ytnkjikpmgeknbaa.Am
open Go Go.RowKit
set_option maxRecDepth 100000
set_option linter.unusedVariables false
set_option linter.unusedSimpArgs false

theorem Same_true (p q : Parts) (cs ds : List Value) (H : Hp) (hp : kParts.rep H p cs) (hq : kParts.rep H q ds) (hn : p.nodes.length ≤ 1000000) (hl : p.links.length ≤ 1000000) (h3 : ∀ l ∈ p.nodes, l.length ≤ 1000000) (h4 : ∀ l ∈ p.links, l.length ≤ 1000000) (he : p = q) :
    ACalls Try.prog 38 #[.agg cs.toArray, .agg ds.toArray] H (fun r H' => r = .bool true ∧ H' = H) :=
  (Same_parts p q cs ds H hp hq hn hl h3 h4).mono fun r H' ⟨⟨g, h1, h2⟩, h3⟩ => by
    obtain rfl : g = true := h2.2 ⟨by rw [he], by rw [he]⟩
    exact ⟨h1, h3⟩
theorem small_sub {f : Forest} {p q : Parts} (h : Small f p) (hl : Lens f.vars.length q) (hs : Sub q p) : Small f q :=
  ⟨h.s0, h.s1, h.s2, by rw [hl.1]; exact h.s0, by rw [hl.2]; exact h.s0, fun l hm => by
    obtain ⟨i, hi, rfl⟩ := List.getElem_of_mem hm
    have k1 := (hs i).1.length_le
    unfold nd at k1
    rw [getD_list hi] at k1
    exact Nat.le_trans k1 (getD_len h.s5 i), fun l hm => by
    obtain ⟨i, hi, rfl⟩ := List.getElem_of_mem hm
    have k1 := (hs i).2.length_le
    unfold lk at k1
    rw [getD_list hi] at k1
    exact Nat.le_trans k1 (getD_len h.s6 i)⟩
set_option maxHeartbeats 2000000 in
theorem ReduceTwice_ok (f : Forest) (p : Parts) (cs ds : List Value) (H : Hp) (hp : kForest.rep H f cs) (hq : kParts.rep H p ds) (hbf : BigF f) (hbp : BigP p) :
    ACalls Try.prog 5 #[.agg cs.toArray, .agg ds.toArray] H (fun r H' => r = .bool true ∧ H.le H') := by
  have hp0 := hp
  have hq0 := hq
  obtain ⟨v0, v1, v2, v3, v4, rfl, hs0, hs1, hs2, hs3, hs4⟩ := hp
  obtain ⟨A0, c0, rfl⟩ := hs0.shape
  obtain ⟨A1, c1, rfl⟩ := hs1.shape
  obtain ⟨A2, c2, rfl⟩ := hs2.shape
  obtain ⟨A3, c3, rfl⟩ := hs3.shape
  obtain ⟨A4, c4, rfl⟩ := hs4.shape
  obtain ⟨u0, u1, rfl, hn0, hn1⟩ := hq
  obtain ⟨B0, d0, rfl⟩ := hn0.shape
  obtain ⟨B1, d1, rfl⟩ := hn1.shape
  have hsm := small_few f p
  have hbq := bigP_few p
  have hpp := few4_few4 p
  obtain ⟨F, hF⟩ : ∃ F, F = f.few := ⟨_, rfl⟩
  obtain ⟨Q, hQ⟩ : ∃ Q, Q = p.few4 := ⟨_, rfl⟩
  rw [← hF, ← hQ] at hsm
  rw [← hQ] at hpp hbq
  refine acalls_of_code Try.func5 rfl rfl rfl (by simp) ?_
  refine ac_seq ?_
  refine ac_region (by kernel_rfl) ?_
  refine aops_make (am_box_agg rfl) ?_
  refine aops_make (am_box_agg rfl) ?_
  first | refine aops_val (av_assign_bool rfl) ?_ | refine aops_val (av_assign rfl) ?_
  refine ac_seq ?_
  refine ac_draw (by kernel_rfl) (reg_of (B := [0, 1, 0, 7, 15, 31]) (π := [0, 2, 1, 3, 4, 5]) (by kernel_rfl)) ?_
  first | refine adr_val rfl rfl (av_loadN (cs := [.slice _ _ _, .slice _ _ _, .slice _ _ _, .slice _ _ _, .slice _ _ _]) rfl Try.underlying62 rfl inf62.size t_cells) t_lt ?_ | refine adr_val rfl rfl (av_loadN (cs := [_, _, _, _, _]) rfl Try.underlying62 rfl inf62.size t_cells) t_lt ?_
  first | refine adr_val rfl rfl (av_loadN (cs := [.slice _ _ _, .slice _ _ _]) rfl Try.underlying65 rfl inf65.size t_cells) t_lt ?_ | refine adr_val rfl rfl (av_loadN (cs := [_, _]) rfl Try.underlying65 rfl inf65.size t_cells) t_lt ?_
  refine adr_op rfl rfl (aop_call (Forest_28 f _ _ (kForest.mono t_sees hp0) hbf) rfl Try.func33 rfl rfl rfl ?_)
  rintro v5 H5 ⟨hle5, es, rfl, hes⟩; rw [← hF] at hes; have hf5 := hes; obtain ⟨a0, a1, a2, a3, a4, rfl, ht0, ht1, ht2, ht3, ht4⟩ := hes; obtain ⟨C0, k0, rfl⟩ := ht0.shape; obtain ⟨C1, k1, rfl⟩ := ht1.shape; obtain ⟨C2, k2, rfl⟩ := ht2.shape; obtain ⟨C3, k3, rfl⟩ := ht3.shape; obtain ⟨C4, k4, rfl⟩ := ht4.shape; have hz5 := hle5.1; simp only [Hp.push_size] at hz5
  refine ⟨t_pend, ?_⟩
  refine adr_op rfl rfl (aop_call (Few4_parts p _ _ (kParts.mono t_sees hq0) hbp.l0 hbp.l1 hbp.s0 hbp.s1) rfl Try.func34 rfl rfl rfl ?_)
  rintro v6 H6 ⟨hle6, es, rfl, hes⟩; rw [← hQ] at hes; have hq6 := hes; obtain ⟨b0, b1, rfl, hm0, hm1⟩ := hes; obtain ⟨D0, m0, rfl⟩ := hm0.shape; obtain ⟨D1, m1, rfl⟩ := hm1.shape; have hz6 := hle6.1; have hf6 := kForest.mono hle6.sees hf5; have h60 : H6.get H.size = .own 0 [.slice A0 f.vars.length c0, .slice A1 f.order.length c1, .slice A2 f.parent.length c2, .slice A3 f.links.length c3, .slice A4 f.loops.length c4] := le_got (Hp.le_trans hle5 hle6) (by simp <;> omega) (by intro e; cases e) t_get; have h61 : H6.get (H.size + 1) = .own 0 [.slice B0 p.nodes.length d0, .slice B1 p.links.length d1] := le_got (Hp.le_trans hle5 hle6) (by simp <;> omega) (by intro e; cases e) t_get
  refine ⟨t_pend, ?_⟩
  first | refine adr_op rfl rfl (aop_putN (vs := [.slice _ _ _, .slice _ _ _, .slice _ _ _, .slice _ _ _, .slice _ _ _]) rfl rfl inf62.size t_get t_room rfl rfl ?_) | refine adr_op rfl rfl (aop_putN (vs := [_, _, _, _, _]) rfl rfl inf62.size t_get t_room rfl rfl ?_)
  refine ⟨t_pend, ?_⟩
  first | refine adr_op rfl rfl (aop_putN (vs := [.slice _ _ _, .slice _ _ _]) rfl rfl inf65.size t_get t_room rfl rfl ?_) | refine adr_op rfl rfl (aop_putN (vs := [_, _]) rfl rfl inf65.size t_get t_room rfl rfl ?_)
  refine ⟨t_pend, ?_⟩
  refine ac_seq ?_
  obtain ⟨HA, hHA⟩ : ∃ HA, HA = (H6.put H.size (.own 0 [.slice C0 F.vars.length k0, .slice C1 F.order.length k1, .slice C2 F.parent.length k2, .slice C3 F.links.length k3, .slice C4 F.loops.length k4])).put (H.size + 1) (.own 0 [.slice D0 Q.nodes.length m0, .slice D1 Q.links.length m1]) := ⟨_, rfl⟩
  have g5 : H6.sees (H6.put H.size (.own 0 [.slice C0 F.vars.length k0, .slice C1 F.order.length k1, .slice C2 F.parent.length k2, .slice C3 F.links.length k3, .slice C4 F.loops.length k4])) := Hp.sees_box _ h60
  have g6 : (H6.put H.size (.own 0 [.slice C0 F.vars.length k0, .slice C1 F.order.length k1, .slice C2 F.parent.length k2, .slice C3 F.links.length k3, .slice C4 F.loops.length k4])).sees HA := by rw [hHA]; exact Hp.sees_box _ (by rw [Hp.put_other _ _ (by omega)]; exact h61)
  have fA := kForest.mono (g5.trans g6) hf6
  have qA := kParts.mono (g5.trans g6) hq6
  have leA : H.le HA := by rw [hHA]; exact Hp.le_put_new (Hp.le_put_new (Hp.le_trans (Hp.le_trans (Hp.le_push' (H.le_push _) _) hle5) hle6) (by omega) _) (by omega) _
  have zA : H.size + 2 ≤ HA.size := by rw [hHA]; simp; omega
  have A0' : HA.get H.size = .own 0 [.slice C0 F.vars.length k0, .slice C1 F.order.length k1, .slice C2 F.parent.length k2, .slice C3 F.links.length k3, .slice C4 F.loops.length k4] := by rw [hHA, Hp.put_other _ _ (by omega)]; exact Hp.put_same _ _ _
  have A1' : HA.get (H.size + 1) = .own 0 [.slice D0 Q.nodes.length m0, .slice D1 Q.links.length m1] := by rw [hHA]; exact Hp.put_same _ _ _
  change ACode true _ _ _ _ _ ((H6.put H.size (.own 0 [.slice C0 F.vars.length k0, .slice C1 F.order.length k1, .slice C2 F.parent.length k2, .slice C3 F.links.length k3, .slice C4 F.loops.length k4])).put (H.size + 1) (.own 0 [.slice D0 Q.nodes.length m0, .slice D1 Q.links.length m1]))
  rw [← hHA]
  clear hHA g5 g6 h60 h61 hf6 hq6 hle5 hle6 hz5 hz6 hf5
  refine ac_region (by kernel_rfl) ?_
  first | refine aops_val (av_loadN (cs := [.slice _ _ _, .slice _ _ _]) rfl Try.underlying65 rfl inf65.size t_cells) ?_ | refine aops_val (av_loadN (cs := [_, _]) rfl Try.underlying65 rfl inf65.size t_cells) ?_
  refine aops_op (aop_call (Few4_parts Q _ _ qA hbq.l0 hbq.l1 hbq.s0 hbq.s1) rfl Try.func34 rfl rfl rfl ?_)
  rintro v7 H7 ⟨hle7, es, rfl, hes⟩; rw [hpp] at hes; have q7 := hes; obtain ⟨b2, b3, rfl, hm2, hm3⟩ := hes; obtain ⟨D2, m2, rfl⟩ := hm2.shape; obtain ⟨D3, m3, rfl⟩ := hm3.shape
  refine aops_make (am_zero (l := [.slice none 0 0, .slice none 0 0]) inf65.zero rfl (by decide)) ?_
  first | refine aops_op (aop_putN (vs := [.slice _ _ _, .slice _ _ _]) rfl rfl inf65.size t_get t_room rfl rfl ?_) | refine aops_op (aop_putN (vs := [_, _]) rfl rfl inf65.size t_get t_room rfl rfl ?_)
  refine ac_seq ?_
  obtain ⟨HB, hHB⟩ : ∃ HB, HB = (H7.push (.own 0 [.slice none 0 0, .slice none 0 0])).put H7.size (.own 0 [.slice D2 Q.nodes.length m2, .slice D3 Q.links.length m3]) := ⟨_, rfl⟩
  have le7 : H7.le HB := by rw [hHB]; exact Hp.le_put_new (H7.le_push _) (Nat.le_refl _) _
  have leAB := Hp.le_trans hle7 le7
  have leB := Hp.le_trans leA leAB
  have z7 := hle7.1
  have zB : HB.size = H7.size + 1 := by rw [hHB]; simp
  have fB := kForest.mono leAB.sees fA
  have qB := kParts.mono leAB.sees qA
  have mB := kParts.mono le7.sees q7
  have B0' := le_got leAB (by omega) (by intro e; cases e) A0'
  have B1' := le_got leAB (by omega) (by intro e; cases e) A1'
  have B5' : HB.get H7.size = .own 0 [.slice D2 Q.nodes.length m2, .slice D3 Q.links.length m3] := by rw [hHB]; exact Hp.put_same _ _ _
  change ACode true _ _ _ _ _ ((H7.push (.own 0 [.slice none 0 0, .slice none 0 0])).put H7.size (.own 0 [.slice D2 Q.nodes.length m2, .slice D3 Q.links.length m3]))
  rw [← hHB]
  clear hHB
  refine ac_region (by kernel_rfl) ?_
  first | refine aops_val (av_loadN (cs := [.slice _ _ _, .slice _ _ _, .slice _ _ _, .slice _ _ _, .slice _ _ _]) rfl Try.underlying62 rfl inf62.size t_cells) ?_ | refine aops_val (av_loadN (cs := [_, _, _, _, _]) rfl Try.underlying62 rfl inf62.size t_cells) ?_
  first | refine aops_val (av_loadN (cs := [.slice _ _ _, .slice _ _ _]) rfl Try.underlying65 rfl inf65.size t_cells) ?_ | refine aops_val (av_loadN (cs := [_, _]) rfl Try.underlying65 rfl inf65.size t_cells) ?_
  refine aops_op (aop_call (Of_parts F Q _ _ _ fB mB hsm) rfl Try.func35 rfl rfl rfl ?_)
  rintro v8 H8 ⟨g, es, hg, rfl, hes, hle8⟩; have x8 := hes; obtain ⟨b4, b5, rfl, hm4, hm5⟩ := hes; obtain ⟨D4, m4, rfl⟩ := hm4.shape; obtain ⟨D5, m5, rfl⟩ := hm5.shape
  refine aops_val (av_move rfl) ?_
  refine aops_val (av_extract rfl rfl) ?_
  refine aops_val (av_extract rfl rfl) ?_
  refine aops_make (am_zero (l := [.slice none 0 0, .slice none 0 0]) inf65.zero rfl (by decide)) ?_
  first | refine aops_op (aop_putN (vs := [.slice _ _ _, .slice _ _ _]) rfl rfl inf65.size t_get t_room rfl rfl ?_) | refine aops_op (aop_putN (vs := [_, _]) rfl rfl inf65.size t_get t_room rfl rfl ?_)
  first | refine aops_val (av_assign_int rfl) ?_ | refine aops_val (av_assign rfl) ?_
  refine ac_seq ?_
  refine ac_seq ?_
  obtain ⟨HC', hHC'⟩ : ∃ HC', HC' = (H8.push (.own 0 [.slice none 0 0, .slice none 0 0])).put H8.size (.own 0 [.slice D4 (if g = true then ofP F Q else noParts).nodes.length m4, .slice D5 (if g = true then ofP F Q else noParts).links.length m5]) := ⟨_, rfl⟩
  have le8 : H8.le HC' := by rw [hHC']; exact Hp.le_put_new (H8.le_push _) (Nat.le_refl _) _
  have leBC := Hp.le_trans hle8 le8
  have leC := Hp.le_trans leB leBC
  have z8 := hle8.1
  have zC : HC'.size = H8.size + 1 := by rw [hHC']; simp
  have fC := kForest.mono leBC.sees fB
  have qC := kParts.mono leBC.sees qB
  have mC := kParts.mono leBC.sees mB
  have xC := kParts.mono le8.sees x8
  have C0' := le_got leBC (by omega) (by intro e; cases e) B0'
  have C1' := le_got leBC (by omega) (by intro e; cases e) B1'
  have C5' := le_got leBC (by omega) (by intro e; cases e) B5'
  have C6' : HC'.get H8.size = .own 0 [.slice D4 (if g = true then ofP F Q else noParts).nodes.length m4, .slice D5 (if g = true then ofP F Q else noParts).links.length m5] := by rw [hHC']; exact Hp.put_same _ _ _
  change ACode true _ _ _ _ _ ((H8.push (.own 0 [.slice none 0 0, .slice none 0 0])).put H8.size (.own 0 [.slice D4 (if g = true then ofP F Q else noParts).nodes.length m4, .slice D5 (if g = true then ofP F Q else noParts).links.length m5]))
  rw [← hHC']
  clear hHC'
  refine ac_region (by kernel_rfl) ?_
  first | refine aops_val (av_loadN (cs := [.slice _ _ _, .slice _ _ _, .slice _ _ _, .slice _ _ _, .slice _ _ _]) rfl Try.underlying62 rfl inf62.size t_cells) ?_ | refine aops_val (av_loadN (cs := [_, _, _, _, _]) rfl Try.underlying62 rfl inf62.size t_cells) ?_
  first | refine aops_val (av_loadN (cs := [.slice _ _ _, .slice _ _ _]) rfl Try.underlying65 rfl inf65.size t_cells) ?_ | refine aops_val (av_loadN (cs := [_, _]) rfl Try.underlying65 rfl inf65.size t_cells) ?_
  refine aops_op (aop_call (GoodP_ref F Q _ _ _ fC qC hsm) rfl Try.func36 rfl rfl rfl ?_)
  rintro v9 HC' ⟨⟨g2, rfl, hg2⟩, rfl⟩
  refine aops_val (av_not rfl) ?_
  refine ac_split rfl rfl ?_ ?_
  · intro hc1
    obtain rfl : g2 = false := by simpa using hc1
    obtain rfl : g = false := by cases g with | false => rfl | true => exact absurd (hg2.2 (hg.1 rfl)) (by simp)
    refine ac_seq ?_
    refine ac_region (by kernel_rfl) ?_
    first | refine aops_val (av_move_int rfl) ?_ | refine aops_val (av_move rfl) ?_
    refine aops_val (av_eq rfl rfl) ?_
    first | refine aops_val (av_move_bool rfl) ?_ | refine aops_val (av_move rfl) ?_
    refine aops_guard rfl rfl rfl ?_ ?_
    · intro hg2
      have hp2 := hg2; try simp only [decide_eq_true_eq, decide_eq_false_iff_not, Bool.not_eq_true', Bool.not_eq_false'] at hp2
      refine aops_want (want_yes rfl rfl rfl hg2) (aop_call (lives28_ok _) rfl Try.func37 rfl rfl rfl ?_)
      rintro v H' ⟨rfl, hlv⟩
      refine aops_val (av_pick_bool (congrArg Value.bool hg2) rfl) ?_
      first | refine aops_val (av_assign_bool rfl) ?_ | refine aops_val (av_assign rfl) ?_
      refine ac_ret ?_
      exact ⟨.bool true, aresult1 (ares_tmp rfl), rfl, Hp.le_trans leC hlv⟩
    · intro hg2
      exact absurd hg2 (by decide)
  · intro hc1
    obtain rfl : g2 = true := by simpa using hc1
    have hG := hg2.1 rfl
    obtain rfl : g = true := hg.2 hG
    obtain ⟨k1, k2, k3, k4⟩ := ofP_all hG
    have hX := ofP_good hG
    have hsx := small_sub hsm k1 k2
    have hfix := ofP_twice hG
    simp only [if_true] at xC C6'
    obtain ⟨X, hXe⟩ : ∃ X, X = ofP F Q := ⟨_, rfl⟩
    rw [← hXe] at hX hsx hfix xC C6'
    refine ac_skip ?_
    refine ac_seq ?_
    refine ac_region (by kernel_rfl) ?_
    first | refine aops_val (av_loadN (cs := [.slice _ _ _, .slice _ _ _, .slice _ _ _, .slice _ _ _, .slice _ _ _]) rfl Try.underlying62 rfl inf62.size t_cells) ?_ | refine aops_val (av_loadN (cs := [_, _, _, _, _]) rfl Try.underlying62 rfl inf62.size t_cells) ?_
    first | refine aops_val (av_loadN (cs := [.slice _ _ _, .slice _ _ _]) rfl Try.underlying65 rfl inf65.size t_cells) ?_ | refine aops_val (av_loadN (cs := [_, _]) rfl Try.underlying65 rfl inf65.size t_cells) ?_
    refine aops_op (aop_call (Of_good F X _ _ _ fC xC hsx hX) rfl Try.func35 rfl rfl rfl ?_)
    rintro v10 H10 ⟨w0, w1, rfl, hm6, hm7, hle10⟩; rw [hfix] at hm6 hm7; obtain ⟨D6, m6, rfl⟩ := hm6.shape; obtain ⟨D7, m7, rfl⟩ := hm7.shape
    refine aops_val (av_move rfl) ?_
    refine aops_val (av_extract rfl rfl) ?_
    refine aops_val (av_extract rfl rfl) ?_
    refine aops_make (am_zero (l := [.slice none 0 0, .slice none 0 0]) inf65.zero rfl (by decide)) ?_
    first | refine aops_op (aop_putN (vs := [.slice _ _ _, .slice _ _ _]) rfl rfl inf65.size t_get t_room rfl rfl ?_) | refine aops_op (aop_putN (vs := [_, _]) rfl rfl inf65.size t_get t_room rfl rfl ?_)
    first | refine aops_val (av_assign_int rfl) ?_ | refine aops_val (av_assign rfl) ?_
    refine ac_seq ?_
    obtain ⟨HD, hHD⟩ : ∃ HD, HD = (H10.push (.own 0 [.slice none 0 0, .slice none 0 0])).put H10.size (.own 0 [.slice D6 X.nodes.length m6, .slice D7 X.links.length m7]) := ⟨_, rfl⟩
    have le10 : H10.le HD := by rw [hHD]; exact Hp.le_put_new (H10.le_push _) (Nat.le_refl _) _
    have leCD := Hp.le_trans hle10 le10
    have leD := Hp.le_trans leC leCD
    have z10 := hle10.1
    have fD := kForest.mono leCD.sees fC
    have qD := kParts.mono leCD.sees qC
    have mD := kParts.mono leCD.sees mC
    have xD := kParts.mono leCD.sees xC
    have yD : kParts.rep HD X [.slice D6 X.nodes.length m6, .slice D7 X.links.length m7] := ⟨_, _, rfl, hm6.mono le10.sees, hm7.mono le10.sees⟩
    have D0' := le_got leCD (by omega) (by intro e; cases e) C0'
    have D1' := le_got leCD (by omega) (by intro e; cases e) C1'
    have D5' := le_got leCD (by omega) (by intro e; cases e) C5'
    have D6' := le_got leCD (by omega) (by intro e; cases e) C6'
    have D8' : HD.get H10.size = .own 0 [.slice D6 X.nodes.length m6, .slice D7 X.links.length m7] := by rw [hHD]; exact Hp.put_same _ _ _
    change ACode true _ _ _ _ _ ((H10.push (.own 0 [.slice none 0 0, .slice none 0 0])).put H10.size (.own 0 [.slice D6 X.nodes.length m6, .slice D7 X.links.length m7]))
    rw [← hHD]
    clear hHD
    refine ac_region (by kernel_rfl) ?_
    first | refine aops_val (av_move_int rfl) ?_ | refine aops_val (av_move rfl) ?_
    refine aops_val (av_eq rfl rfl) ?_
    first | refine aops_val (av_move_bool rfl) ?_ | refine aops_val (av_move rfl) ?_
    refine aops_guard rfl rfl rfl ?_ ?_
    · intro hg3
      have hp3 := hg3; try simp only [decide_eq_true_eq, decide_eq_false_iff_not, Bool.not_eq_true', Bool.not_eq_false'] at hp3
      first | refine aops_wval (want_yes rfl rfl rfl hg3) (av_move_int rfl) ?_ | refine aops_wval (want_yes rfl rfl rfl hg3) (av_move rfl) ?_
      refine aops_wval (want_yes rfl rfl rfl hg3) (av_eq rfl rfl) ?_
      refine aops_val (av_pick_bool (congrArg Value.bool hg3) rfl) ?_
      first | refine aops_val (av_move_bool rfl) ?_ | refine aops_val (av_move rfl) ?_
      refine aops_guard rfl rfl rfl ?_ ?_
      · intro hg4
        have hp4 := hg4; try simp only [decide_eq_true_eq, decide_eq_false_iff_not, Bool.not_eq_true', Bool.not_eq_false'] at hp4
        first | refine aops_wval (want_yes rfl rfl rfl hg4) (av_loadN (cs := [.slice _ _ _, .slice _ _ _]) rfl Try.underlying65 rfl inf65.size t_cells) ?_ | refine aops_wval (want_yes rfl rfl rfl hg4) (av_loadN (cs := [_, _]) rfl Try.underlying65 rfl inf65.size t_cells) ?_
        first | refine aops_wval (want_yes rfl rfl rfl hg4) (av_loadN (cs := [.slice _ _ _, .slice _ _ _]) rfl Try.underlying65 rfl inf65.size t_cells) ?_ | refine aops_wval (want_yes rfl rfl rfl hg4) (av_loadN (cs := [_, _]) rfl Try.underlying65 rfl inf65.size t_cells) ?_
        refine aops_want (want_yes rfl rfl rfl hg4) (aop_call (Same_true X X _ _ _ xD yD hsx.s3 hsx.s4 hsx.s5 hsx.s6 rfl) rfl Try.func38 rfl rfl rfl ?_)
        rintro v11 HD ⟨rfl, rfl⟩
        refine aops_val (av_pick_bool (congrArg Value.bool hg4) rfl) ?_
        first | refine aops_val (av_move_bool rfl) ?_ | refine aops_val (av_move rfl) ?_
        refine aops_guard rfl rfl rfl ?_ ?_
        · intro hg5
          have hp5 := hg5; try simp only [decide_eq_true_eq, decide_eq_false_iff_not, Bool.not_eq_true', Bool.not_eq_false'] at hp5
          first | refine aops_wval (want_yes rfl rfl rfl hg5) (av_loadN (cs := [.slice _ _ _, .slice _ _ _, .slice _ _ _, .slice _ _ _, .slice _ _ _]) rfl Try.underlying62 rfl inf62.size t_cells) ?_ | refine aops_wval (want_yes rfl rfl rfl hg5) (av_loadN (cs := [_, _, _, _, _]) rfl Try.underlying62 rfl inf62.size t_cells) ?_
          first | refine aops_wval (want_yes rfl rfl rfl hg5) (av_loadN (cs := [.slice _ _ _, .slice _ _ _]) rfl Try.underlying65 rfl inf65.size t_cells) ?_ | refine aops_wval (want_yes rfl rfl rfl hg5) (av_loadN (cs := [_, _]) rfl Try.underlying65 rfl inf65.size t_cells) ?_
          refine aops_want (want_yes rfl rfl rfl hg5) (aop_call (Is_true F X _ _ _ fD xD hsx hX hfix) rfl Try.func39 rfl rfl rfl ?_)
          rintro v12 HD ⟨rfl, rfl⟩
          refine aops_val (av_pick_bool (congrArg Value.bool hg5) rfl) ?_
          first | refine aops_val (av_move_bool rfl) ?_ | refine aops_val (av_move rfl) ?_
          refine aops_guard rfl rfl rfl ?_ ?_
          · intro hg6
            have hp6 := hg6; try simp only [decide_eq_true_eq, decide_eq_false_iff_not, Bool.not_eq_true', Bool.not_eq_false'] at hp6
            first | refine aops_wval (want_yes rfl rfl rfl hg6) (av_loadN (cs := [.slice _ _ _, .slice _ _ _]) rfl Try.underlying65 rfl inf65.size t_cells) ?_ | refine aops_wval (want_yes rfl rfl rfl hg6) (av_loadN (cs := [_, _]) rfl Try.underlying65 rfl inf65.size t_cells) ?_
            first | refine aops_wval (want_yes rfl rfl rfl hg6) (av_loadN (cs := [.slice _ _ _, .slice _ _ _]) rfl Try.underlying65 rfl inf65.size t_cells) ?_ | refine aops_wval (want_yes rfl rfl rfl hg6) (av_loadN (cs := [_, _]) rfl Try.underlying65 rfl inf65.size t_cells) ?_
            refine aops_want (want_yes rfl rfl rfl hg6) (aop_call (Same_true Q Q _ _ _ mD qD hsm.s3 hsm.s4 hsm.s5 hsm.s6 rfl) rfl Try.func38 rfl rfl rfl ?_)
            rintro v13 HD ⟨rfl, rfl⟩
            refine aops_val (av_pick_bool (congrArg Value.bool hg6) rfl) ?_
            first | refine aops_val (av_move_bool rfl) ?_ | refine aops_val (av_move rfl) ?_
            refine aops_guard rfl rfl rfl ?_ ?_
            · intro hg7
              have hp7 := hg7; try simp only [decide_eq_true_eq, decide_eq_false_iff_not, Bool.not_eq_true', Bool.not_eq_false'] at hp7
              refine aops_want (want_yes rfl rfl rfl hg7) (aop_call (lives28_ok _) rfl Try.func37 rfl rfl rfl ?_)
              rintro v H' ⟨rfl, hlv⟩
              refine aops_val (av_pick_bool (congrArg Value.bool hg7) rfl) ?_
              first | refine aops_val (av_assign_bool rfl) ?_ | refine aops_val (av_assign rfl) ?_
              refine ac_ret ?_
              exact ⟨.bool true, aresult1 (ares_tmp rfl), rfl, Hp.le_trans leD hlv⟩
            · intro hg7
              exact absurd hg7 (by decide)
          · intro hg6
            exact absurd hg6 (by decide)
        · intro hg5
          exact absurd hg5 (by decide)
      · intro hg4
        exact absurd hg4 (by decide)
    · intro hg3
      exact absurd hg3 (by decide)
end Go.Proofs.Ytnkjikpmgeknbaa.Am
