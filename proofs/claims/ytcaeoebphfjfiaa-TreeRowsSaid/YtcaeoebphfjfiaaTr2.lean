/- Texts that the proof rests on, part 2: lemmas for every heap that is related to a world, no condition beyond each lemma's own. -/
import Derived.Test.YtcaeoebphfjfiaaTr1

/- Forests of a few variables. -/
namespace Go.Proofs.Ytcaeoebphfjfiaa.Am
open Go Go.RowKit
set_option maxRecDepth 100000
set_option linter.unusedVariables false
set_option linter.unusedSimpArgs false

theorem take_map_few {α β : Type} {i : Nat} {xs : List α} (g : α → β) (h : i ≤ xs.length) (h8 : i ≤ 8) (hx : ¬ (i : Int) < xs.length ∨ ¬ (i : Int) < 8) : (xs.take 8).map g = (xs.take i).map g := by
  rcases Nat.lt_or_ge i xs.length with h1 | h1
  · rw [show i = 8 by omega]
  · rw [List.take_of_length_le (by omega), List.take_of_length_le (by omega)]
set_option maxHeartbeats 2000000 in
theorem Few_forest (f : Forest) (cs : List Value) (H : Hp) (hp : kForest.rep H f cs) (hl0 : f.vars.length ≤ 9223372036854775807) (hl1 : f.order.length ≤ 9223372036854775807) (hl2 : f.parent.length ≤ 9223372036854775807) (hl3 : f.links.length ≤ 9223372036854775807) (hl4 : f.loops.length ≤ 9223372036854775807) (hnlinks : ∀ l ∈ f.links, l.length ≤ 9223372036854775807) (hnloops : ∀ l ∈ f.loops, l.length ≤ 9223372036854775807) :
    ACalls Try.prog 47 #[.agg cs.toArray] H (fun r H' => H.le H' ∧ ∃ ds, r = .agg ds.toArray ∧ kForest.rep H' f.few ds) := by
  obtain ⟨v0, v1, v2, v3, v4, rfl, hs0, hs1, hs2, hs3, hs4⟩ := hp
  obtain ⟨A0, c0, rfl⟩ := hs0.shape
  obtain ⟨A1, c1, rfl⟩ := hs1.shape
  obtain ⟨A2, c2, rfl⟩ := hs2.shape
  obtain ⟨A3, c3, rfl⟩ := hs3.shape
  obtain ⟨A4, c4, rfl⟩ := hs4.shape
  refine acalls_of_code Try.func47 rfl rfl rfl (by simp) ?_
  refine ac_seq ?_
  refine ac_region (by kernel_rfl) ?_
  refine aops_make (am_box_agg rfl) ?_
  refine aops_make (am_zero (l := [.slice none 0 0, .slice none 0 0, .slice none 0 0, .slice none 0 0, .slice none 0 0]) inf26.zero rfl (by decide)) ?_
  refine ac_seq ?_
  refine ac_draw (by kernel_rfl) (reg_of (B := [0, 1, 3, 0, 8, 31, 63, 0, 255]) (π := [0, 1, 3, 4, 7, 2, 5, 6, 8]) (by kernel_rfl)) ?_
  refine adr_val rfl rfl (av_fieldOff (off := 1) rfl Try.underlying26 rfl inf23.size (by decide) rfl) t_lt ?_
  refine adr_val rfl rfl (av_load1 rfl Try.underlying23 rfl t_cell) t_lt ?_
  refine adr_val rfl rfl (av_fieldOff (off := 2) rfl Try.underlying26 rfl inf23.size (by decide) rfl) t_lt ?_
  refine adr_val rfl rfl (av_load1 rfl Try.underlying23 rfl t_cell) t_lt ?_
  refine adr_make rfl rfl (am_zero (l := [.slice none 0 0, .slice none 0 0, .slice none 0 0, .slice none 0 0, .slice none 0 0]) inf26.zero rfl (by decide)) ?_
  refine adr_op rfl rfl (aop_call (Few_ints f.order _ 8 _ (hs1.mono (Hp.le_push' (Hp.le_push' (H.le_push _) _) _).sees) hl1 (by omega) (by omega)) rfl Try.func10 rfl rfl rfl ?_)
  rintro w1 H1 ⟨hle1, hr1⟩; rw [show (8 : Int).toNat = 8 from rfl] at hr1; obtain ⟨O, co, rfl⟩ := hr1.shape; have js := hle1.1; simp only [Hp.push_size] at js; have j0 : H1.get H.size = .own 0 [.slice A0 f.vars.length c0, .slice A1 f.order.length c1, .slice A2 f.parent.length c2, .slice A3 f.links.length c3, .slice A4 f.loops.length c4] := le_got hle1 (by simp only [Hp.push_size]; omega) (by intro e; cases e) t_get; have j1 : H1.get (H.size + 1) = .own 0 [.slice none 0 0, .slice none 0 0, .slice none 0 0, .slice none 0 0, .slice none 0 0] := le_got hle1 (by simp only [Hp.push_size]; omega) (by intro e; cases e) t_get; have j2 : H1.get (H.size + 2) = .own 0 [.slice none 0 0, .slice none 0 0, .slice none 0 0, .slice none 0 0, .slice none 0 0] := le_got hle1 (by simp only [Hp.push_size]; omega) (by intro e; cases e) t_get
  refine ⟨t_pend, ?_⟩
  refine adr_op rfl rfl (aop_call (Few_ints f.parent _ 8 _ (hs2.mono ((Hp.le_push' (Hp.le_push' (H.le_push _) _) _).sees.trans hle1.sees)) hl2 (by omega) (by omega)) rfl Try.func10 rfl rfl rfl ?_)
  rintro w2 H2 ⟨hle2, hr2⟩; rw [show (8 : Int).toNat = 8 from rfl] at hr2; obtain ⟨Q, cq, rfl⟩ := hr2.shape; have ks := hle2.1; have k0 := le_got hle2 (by omega) (by intro e; cases e) j0; have k1 := le_got hle2 (by omega) (by intro e; cases e) j1; have k2 := le_got hle2 (by omega) (by intro e; cases e) j2
  refine ⟨t_pend, ?_⟩
  first | refine adr_val rfl rfl (av_build (pl := [(0, 1), (1, 1), (2, 1), (3, 1), (4, 1)]) (r := [.slice _ _ _, .slice _ _ _, .slice _ _ _, .slice _ _ _, .slice _ _ _]) Try.underlying26 inf26.zero (by decide) rfl rfl) t_lt ?_ | refine adr_val rfl rfl (av_build (pl := [(0, 1), (1, 1), (2, 1), (3, 1), (4, 1)]) (r := [_, _, _, _, _]) Try.underlying26 inf26.zero (by decide) rfl rfl) t_lt ?_
  first | refine adr_op rfl rfl (aop_putN (vs := [.slice _ _ _, .slice _ _ _, .slice _ _ _, .slice _ _ _, .slice _ _ _]) rfl rfl inf26.size t_get t_room rfl rfl ?_) | refine adr_op rfl rfl (aop_putN (vs := [_, _, _, _, _]) rfl rfl inf26.size t_get t_room rfl rfl ?_)
  refine ⟨t_pend, ?_⟩
  refine ac_seq ?_
  refine ac_seq ?_
  have hle02 := Hp.le_trans hle1 hle2
  have hs02 := hle02.1
  simp only [Hp.push_size] at hs02
  have hleH2 : H.le H2 := Hp.le_trans (Hp.le_push' (Hp.le_push' (H.le_push _) _) _) hle02
  obtain ⟨b3, hb3⟩ : ∃ b3, b3 = H.size + 2 := ⟨_, rfl⟩
  have h3s : H.size + 1 < b3 := by omega
  refine ac_region (by kernel_rfl) ?_
  first | refine aops_val (av_assign_int rfl) ?_ | refine aops_val (av_assign rfl) ?_
  refine ac_block ?_
  refine ac_loop (fun n t H' => ∃ (i : Nat) (G : Hp) (B : Option Addr) (c5 : Nat), i ≤ f.vars.length ∧ i ≤ 8 ∧ n = f.vars.length - i ∧ H.le G ∧ OwnP kStr G H' (.slice B i c5) ((f.vars.take i).map (fun s => cutS s 32)) ∧ G.get H.size = .own 0 [.slice A0 f.vars.length c0, .slice A1 f.order.length c1, .slice A2 f.parent.length c2, .slice A3 f.links.length c3, .slice A4 f.loops.length c4] ∧ G.get (H.size + 1) = .own 0 [.slice none 0 0, .slice none 0 0, .slice none 0 0, .slice none 0 0, .slice none 0 0] ∧ G.get b3 = .own 0 [.slice B i c5, .slice O (f.order.take 8).length co, .slice Q (f.parent.take 8).length cq, .slice none 0 0, .slice none 0 0] ∧ b3 < G.size ∧ Sl (kInt .i64) G (.slice O (f.order.take 8).length co) (f.order.take 8) ∧ Sl (kInt .i64) G (.slice Q (f.parent.take 8).length cq) (f.parent.take 8) ∧ t 1 = .pointer (some ⟨H.size, 0, none⟩) ∧ t 2 = .pointer (some ⟨H.size + 1, 0, none⟩) ∧ t 3 = .pointer (some ⟨b3, 0, none⟩) ∧ t 4 = .int .i64 i) (f.vars.length) (⟨0, H2.put b3 (.own 0 [.slice none 0 0, .slice O (f.order.take 8).length co, .slice Q (f.parent.take 8).length cq, .slice none 0 0, .slice none 0 0]), _, _, by omega, by omega, rfl, Hp.le_put_new hleH2 (by omega) _, by rw [hb3]; exact OwnP.nil _ _, by rw [Hp.put_other _ _ (by omega)]; exact k0, by rw [Hp.put_other _ _ (by omega)]; exact k1, Hp.put_same _ _ _, by simp; omega, (hr1.mono hle2.sees).mono (Hp.sees_box _ (by rw [hb3]; exact k2)), hr2.mono (Hp.sees_box _ (by rw [hb3]; exact k2)), rfl, rfl, by rw [hb3]; rfl, rfl⟩) ?_
  rintro n t H1 ⟨i, G, B, c5, hi, hi8, rfl, hle, hown, kb0, kb1, kb2, hgs, so, sp, e1, e2, e3, e4⟩
  have hz := hown.size
  have hleH1 := Hp.le_trans hle hown.le
  have hh0 := le_got hown.le (by omega) (by intro e; cases e) kb0
  have hh1 := le_got hown.le (by omega) (by intro e; cases e) kb1
  have hh2 := le_got hown.le hgs (by intro e; cases e) kb2
  have hlen : ((f.vars.take i).map (fun s => cutS s 32)).length = i := by rw [List.length_map, List.length_take]; omega
  refine ac_seq ?_
  refine ac_seq ?_
  refine ac_region (by kernel_rfl) ?_
  first | refine aops_val (av_move_int (by first | assumption | rfl)) ?_ | refine aops_val (av_move (by first | assumption | rfl)) ?_
  refine aops_val (av_fieldOff (off := 0) (by first | assumption | rfl) Try.underlying26 (by first | assumption | rfl) inf22.size (by decide) (by first | assumption | rfl)) ?_
  refine aops_val (av_load1 rfl Try.underlying22 rfl t_cell) ?_
  refine aops_val (av_len rfl Try.underlying22) ?_
  refine aops_val (av_lt rfl rfl) ?_
  first | refine aops_val (av_move_bool rfl) ?_ | refine aops_val (av_move rfl) ?_
  refine aops_guard rfl rfl rfl ?_ ?_
  · intro hg1
    have hp1 := hg1; try simp only [decide_eq_true_eq, decide_eq_false_iff_not, Bool.not_eq_true', Bool.not_eq_false'] at hp1
    first | refine aops_wval (want_yes rfl rfl rfl hg1) (av_move_int (by first | assumption | rfl)) ?_ | refine aops_wval (want_yes rfl rfl rfl hg1) (av_move (by first | assumption | rfl)) ?_
    refine aops_wval (want_yes rfl rfl rfl hg1) (av_lt rfl rfl) ?_
    refine aops_val (av_pick_bool (congrArg Value.bool hg1) rfl) ?_
    refine ac_split rfl rfl ?_ ?_
    · intro hc2
      (try simp only [decide_eq_true_eq, decide_eq_false_iff_not, Bool.not_eq_true', Bool.not_eq_false'] at hc2)
      refine ac_skip ?_
      refine ac_seq ?_
      refine ac_block ?_
      have hix : i < f.vars.length := by omega
      obtain ⟨b, o, rfl, _, hb4, hcut, hx4⟩ := hs0.place (by omega)
      obtain ⟨cs, hr0, hcell0⟩ := hx4 i _ (List.getElem?_eq_getElem hix)
      have hcs : cs = [.string f.vars[i]] := hr0
      subst hcs
      have hcell1 := (hleH1.cells hb4 hcell0).one
      have hdd := Blk.cut_ne hcut
      have hS4 : ∀ x ∈ [b], x < H.size ∧ H.get x ≠ .dead := fun x hx => by simp at hx; subst hx; exact ⟨hb4, hdd⟩
      have hbH : b < H1.size := by omega
      refine ac_draw (by kernel_rfl) (reg_of (B := [0, 1, 0, 4, 0, 28, 60, 124, 252, 511, 1023, 2047]) (π := [0, 1, 2, 3, 4, 5, 6, 7, 8, 9, 10, 11]) (by kernel_rfl)) ?_
      refine adr_val rfl rfl (av_fieldOff (off := 0) (by first | assumption | rfl) Try.underlying26 (by first | assumption | rfl) inf22.size (by decide) (by first | assumption | rfl)) t_lt ?_
      refine adr_val rfl rfl (av_load1 rfl Try.underlying22 rfl t_cell) t_lt ?_
      refine adr_val rfl rfl (av_fieldOff (off := 0) (by first | assumption | rfl) Try.underlying26 (by first | assumption | rfl) inf22.size (by decide) (by first | assumption | rfl)) t_lt ?_
      refine adr_val rfl rfl (av_load1 rfl Try.underlying22 rfl t_cell) t_lt ?_
      first | refine adr_val rfl rfl (av_move_int (by first | assumption | rfl)) t_lt ?_ | refine adr_val rfl rfl (av_move (by first | assumption | rfl)) t_lt ?_
      refine adr_val rfl rfl (av_indexAddr rfl rfl Try.underlying22 inf9.size t_idx t_idx) t_lt ?_
      refine adr_val rfl rfl (av_load1 rfl Try.underlying9 rfl t_cell) t_lt ?_
      refine adr_op rfl rfl (aop_call (Cut_str f.vars[i] 32 _) rfl Try.func75 rfl rfl rfl ?_)
      rintro v5 H1 ⟨rfl, rfl⟩
      refine ⟨t_pend, ?_⟩
      first | refine adr_make rfl rfl (am_buildSlice (r := [.string _]) Try.underlying22 inf9.size inf9.zero rfl (by decide) (by decide) (by decide) rfl) ?_
      have hX := trivial
      have hown5 := hown
      have hle5 := Hp.le_refl G
      have hle5' := Hp.le_refl H1
      have hg52 := le_got hle5 hgs (by intro e; cases e) kb2
      have hg50 := le_got hle5 (by omega) (by intro e; cases e) kb0
      have hg51 := le_got hle5 (by omega) (by intro e; cases e) kb1
      have hgs5 : b3 < G.size := Nat.lt_of_lt_of_le hgs hle5.1
      refine adr_op rfl rfl (OwnP.append (ys := [cutS f.vars[i] 32]) (hown5.push _) Try.underlying22 inf9 rfl rfl rfl (sl_one (k := kStr) rfl rfl hown5.size rfl) (by rw [hlen]; simp only [List.length_singleton]; omega) (by rw [hlen]; simp only [List.length_singleton]; omega) ?_)
      rintro v6 G6 H6 hle6 hown6
      have hsame := OwnP.sameS (hown5.push _) hle6 hown6 (H0 := H) (Hp.le_push' (Hp.le_trans hle hle5) _) hS4
      have hsameO := OwnP.sameO (hown5.push _) hle6 hown6
      have hs6 := hle6.1
      simp only [Hp.push_size] at hs6
      have hg62 := le_got hle6 (by simp; omega) (by intro e; cases e) ((Hp.push_old _ _ hgs5).trans hg52)
      have hg60 := le_got hle6 (by simp; omega) (by intro e; cases e) ((Hp.push_old _ _ (by omega)).trans hg50)
      have hg61 := le_got hle6 (by simp; omega) (by intro e; cases e) ((Hp.push_old _ _ (by omega)).trans hg51)
      have hg62H := le_got hown6.le (by omega) (by intro e; cases e) hg62
      obtain ⟨B', c', e6⟩ := hown6.shape
      rw [List.length_append, hlen, List.length_singleton] at e6
      subst e6
      refine ⟨t_pend, ?_⟩
      refine adr_val rfl rfl (av_fieldOff (off := 0) (by first | assumption | rfl) Try.underlying26 (by first | assumption | rfl) inf22.size (by decide) (by first | assumption | rfl)) t_lt ?_
      first | refine adr_op rfl rfl (aop_put1 rfl rfl rfl inf22.size t_get t_room rfl ?_)
      refine ⟨t_pend, ?_⟩
      refine ac_region (by kernel_rfl) ?_
      first | refine aops_val (av_move_int (by first | assumption | rfl)) ?_ | refine aops_val (av_move (by first | assumption | rfl)) ?_
      first | refine aops_val (av_add64 rfl rfl t_fits) ?_ | refine aops_val (av_add rfl rfl) ?_
      first | refine aops_val (av_assign_int rfl) ?_ | refine aops_val (av_assign rfl) ?_
      rw [show ((f.vars.take i).map (fun s => cutS s 32)) ++ [cutS f.vars[i] 32] = ((f.vars.take (i + 1)).map (fun s => cutS s 32)) by rw [← take_next hix, List.map_append]; rfl] at hown6
      have hleHG6 := Hp.le_trans (Hp.le_push' (Hp.le_trans hle hle5) _) hle6
      have hse := ((hle5.sees.push _).trans hle6.sees).trans (Hp.sees_box (cs' := [.slice B' (i + 1) c', .slice O (f.order.take 8).length co, .slice Q (f.parent.take 8).length cq, .slice none 0 0, .slice none 0 0]) _ hg62)
      exact ⟨f.vars.length - (i + 1), by omega, i + 1, G6.put b3 (.own 0 [.slice B' (i + 1) c', .slice O (f.order.take 8).length co, .slice Q (f.parent.take 8).length cq, .slice none 0 0, .slice none 0 0]), B', c', by omega, by omega, rfl, Hp.le_put_new hleHG6 (by omega) _, hown6.box_put hg62 _, by rw [Hp.put_other _ _ (by omega)]; exact hg60, by rw [Hp.put_other _ _ (by omega)]; exact hg61, Hp.put_same _ _ _, by simp; omega, so.mono hse, sp.mono hse, e1, e2, e3, rfl⟩
    · intro hc2
      (try simp only [decide_eq_true_eq, decide_eq_false_iff_not, Bool.not_eq_true', Bool.not_eq_false'] at hc2)
      refine ac_exit ?_
      refine ac_seq ?_
      refine ac_seq ?_
      have hfv : f.few.vars = (f.vars.take i).map (fun s => cutS s 32) := take_map_few _ hi hi8 (by first | exact .inl (by omega) | exact .inr (by omega))
      have sv := hown.sl
      rw [← hfv] at sv
      have so := so.mono hown.le.sees
      have sp := sp.mono hown.le.sees
      generalize hB2 : B = BV at sv hh2
      generalize hc2 : c5 = cV at sv hh2
      generalize hn2 : i = nV at sv hh2
      refine ac_region (by kernel_rfl) ?_
      first | refine aops_val (av_assign_int rfl) ?_ | refine aops_val (av_assign rfl) ?_
      refine ac_block ?_
      refine ac_loop (fun n t H' => ∃ (i : Nat) (G : Hp) (B : Option Addr) (c5 : Nat), i ≤ f.links.length ∧ i ≤ 8 ∧ n = f.links.length - i ∧ H.le G ∧ OwnP (kSl (kInt .i64)) G H' (.slice B i c5) ((f.links.take i).map (fun l => l.take 4)) ∧ G.get H.size = .own 0 [.slice A0 f.vars.length c0, .slice A1 f.order.length c1, .slice A2 f.parent.length c2, .slice A3 f.links.length c3, .slice A4 f.loops.length c4] ∧ G.get (H.size + 1) = .own 0 [.slice none 0 0, .slice none 0 0, .slice none 0 0, .slice none 0 0, .slice none 0 0] ∧ G.get b3 = .own 0 [.slice BV nV cV, .slice O (f.order.take 8).length co, .slice Q (f.parent.take 8).length cq, .slice B i c5, .slice none 0 0] ∧ b3 < G.size ∧ Sl (kInt .i64) G (.slice O (f.order.take 8).length co) (f.order.take 8) ∧ Sl (kInt .i64) G (.slice Q (f.parent.take 8).length cq) (f.parent.take 8) ∧ Sl kStr G (.slice BV nV cV) f.few.vars ∧ t 1 = .pointer (some ⟨H.size, 0, none⟩) ∧ t 2 = .pointer (some ⟨H.size + 1, 0, none⟩) ∧ t 3 = .pointer (some ⟨b3, 0, none⟩) ∧ t 5 = .int .i64 i) (f.links.length) (⟨0, H1, _, _, by omega, by omega, rfl, hleH1, OwnP.nil _ _, hh0, hh1, hh2, by omega, so, sp, sv, e1, e2, e3, rfl⟩) ?_
      rintro n t H1 ⟨i, G, B, c5, hi, hi8, rfl, hle, hown, kb0, kb1, kb2, hgs, so, sp, sv, e1, e2, e3, e4⟩
      have hz := hown.size
      have hleH1 := Hp.le_trans hle hown.le
      have hh0 := le_got hown.le (by omega) (by intro e; cases e) kb0
      have hh1 := le_got hown.le (by omega) (by intro e; cases e) kb1
      have hh2 := le_got hown.le hgs (by intro e; cases e) kb2
      have hlen : ((f.links.take i).map (fun l => l.take 4)).length = i := by rw [List.length_map, List.length_take]; omega
      refine ac_seq ?_
      refine ac_seq ?_
      refine ac_region (by kernel_rfl) ?_
      first | refine aops_val (av_move_int (by first | assumption | rfl)) ?_ | refine aops_val (av_move (by first | assumption | rfl)) ?_
      refine aops_val (av_fieldOff (off := 3) (by first | assumption | rfl) Try.underlying26 (by first | assumption | rfl) inf24.size (by decide) (by first | assumption | rfl)) ?_
      refine aops_val (av_load1 rfl Try.underlying24 rfl t_cell) ?_
      refine aops_val (av_len rfl Try.underlying24) ?_
      refine aops_val (av_lt rfl rfl) ?_
      first | refine aops_val (av_move_bool rfl) ?_ | refine aops_val (av_move rfl) ?_
      refine aops_guard rfl rfl rfl ?_ ?_
      · intro hg3
        have hp3 := hg3; try simp only [decide_eq_true_eq, decide_eq_false_iff_not, Bool.not_eq_true', Bool.not_eq_false'] at hp3
        first | refine aops_wval (want_yes rfl rfl rfl hg3) (av_move_int (by first | assumption | rfl)) ?_ | refine aops_wval (want_yes rfl rfl rfl hg3) (av_move (by first | assumption | rfl)) ?_
        refine aops_wval (want_yes rfl rfl rfl hg3) (av_lt rfl rfl) ?_
        refine aops_val (av_pick_bool (congrArg Value.bool hg3) rfl) ?_
        refine ac_split rfl rfl ?_ ?_
        · intro hc4
          (try simp only [decide_eq_true_eq, decide_eq_false_iff_not, Bool.not_eq_true', Bool.not_eq_false'] at hc4)
          refine ac_skip ?_
          refine ac_seq ?_
          refine ac_block ?_
          have hix : i < f.links.length := by omega
          obtain ⟨b, o, rfl, _, hb4, hcut, hx4⟩ := hs3.place (by omega)
          obtain ⟨cs, hr0, hcell0⟩ := hx4 i _ (List.getElem?_eq_getElem hix)
          obtain ⟨u, rfl, hu⟩ := hr0
          obtain ⟨A6, c6, rfl⟩ := hu.shape
          have hcell1 := (hleH1.cells hb4 hcell0).one
          have hdd := Blk.cut_ne hcut
          have hS4 : ∀ x ∈ [b], x < H.size ∧ H.get x ≠ .dead := fun x hx => by simp at hx; subst hx; exact ⟨hb4, hdd⟩
          have hbH : b < H1.size := by omega
          refine ac_draw (by kernel_rfl) (reg_of (B := [0, 1, 0, 4, 0, 28, 60, 124, 252, 511, 1023, 2047]) (π := [0, 1, 2, 3, 4, 5, 6, 7, 8, 9, 10, 11]) (by kernel_rfl)) ?_
          refine adr_val rfl rfl (av_fieldOff (off := 3) (by first | assumption | rfl) Try.underlying26 (by first | assumption | rfl) inf24.size (by decide) (by first | assumption | rfl)) t_lt ?_
          refine adr_val rfl rfl (av_load1 rfl Try.underlying24 rfl t_cell) t_lt ?_
          refine adr_val rfl rfl (av_fieldOff (off := 3) (by first | assumption | rfl) Try.underlying26 (by first | assumption | rfl) inf24.size (by decide) (by first | assumption | rfl)) t_lt ?_
          refine adr_val rfl rfl (av_load1 rfl Try.underlying24 rfl t_cell) t_lt ?_
          first | refine adr_val rfl rfl (av_move_int (by first | assumption | rfl)) t_lt ?_ | refine adr_val rfl rfl (av_move (by first | assumption | rfl)) t_lt ?_
          refine adr_val rfl rfl (av_indexAddr rfl rfl Try.underlying24 inf23.size t_idx t_idx) t_lt ?_
          refine adr_val rfl rfl (av_load1 rfl Try.underlying23 rfl t_cell) t_lt ?_
          refine adr_op rfl rfl (aop_call (hown.calls (Few_ints f.links[i] _ 4 _ (hu.mono hle.sees) (hnlinks _ (List.getElem_mem hix)) (by omega) (by omega)) (fun r G' h => h.1)) rfl Try.func10 rfl rfl rfl ?_)
          rintro v5 H5 ⟨G5, ⟨hle5, hs5⟩, hown5, hleH5⟩; rw [show (4 : Int).toNat = 4 from rfl] at hs5; have hz5 := hleH5.1; have hsame : ∀ x ∈ [b], H5.get x = H1.get x := (fun x hx => hleH5.2 x (by simp at hx; omega) (by rw [hleH1.2 x (hS4 x hx).1 (hS4 x hx).2]; exact (hS4 x hx).2)); obtain ⟨A5, c50, rfl⟩ := hs5.shape
          refine ⟨t_pend, ?_⟩
          first | refine adr_make rfl rfl (am_buildSlice (r := [.slice _ _ _]) Try.underlying24 inf23.size inf23.zero rfl (by decide) (by decide) (by decide) rfl) ?_ | refine adr_make rfl rfl (am_buildSlice (r := [_]) Try.underlying24 inf23.size inf23.zero rfl (by decide) (by decide) (by decide) rfl) ?_
          have hX := trivial
          have hg52 := le_got hle5 hgs (by intro e; cases e) kb2
          have hg50 := le_got hle5 (by omega) (by intro e; cases e) kb0
          have hg51 := le_got hle5 (by omega) (by intro e; cases e) kb1
          have hgs5 : b3 < G5.size := Nat.lt_of_lt_of_le hgs hle5.1
          refine adr_op rfl rfl (OwnP.append (ys := [f.links[i].take 4]) (hown5.push _) Try.underlying24 inf23 rfl rfl rfl (sl_one (k := (kSl (kInt .i64))) ⟨_, rfl, hs5⟩ rfl hown5.size rfl) (by rw [hlen]; simp only [List.length_singleton]; omega) (by rw [hlen]; simp only [List.length_singleton]; omega) ?_)
          rintro v6 G6 H6 hle6 hown6
          have hsame := OwnP.sameS (hown5.push _) hle6 hown6 (H0 := H) (Hp.le_push' (Hp.le_trans hle hle5) _) hS4
          have hsameO := OwnP.sameO (hown5.push _) hle6 hown6
          have hs6 := hle6.1
          simp only [Hp.push_size] at hs6
          have hg62 := le_got hle6 (by simp; omega) (by intro e; cases e) ((Hp.push_old _ _ hgs5).trans hg52)
          have hg60 := le_got hle6 (by simp; omega) (by intro e; cases e) ((Hp.push_old _ _ (by omega)).trans hg50)
          have hg61 := le_got hle6 (by simp; omega) (by intro e; cases e) ((Hp.push_old _ _ (by omega)).trans hg51)
          have hg62H := le_got hown6.le (by omega) (by intro e; cases e) hg62
          obtain ⟨B', c', e6⟩ := hown6.shape
          rw [List.length_append, hlen, List.length_singleton] at e6
          subst e6
          refine ⟨t_pend, ?_⟩
          refine adr_val rfl rfl (av_fieldOff (off := 3) (by first | assumption | rfl) Try.underlying26 (by first | assumption | rfl) inf24.size (by decide) (by first | assumption | rfl)) t_lt ?_
          first | refine adr_op rfl rfl (aop_put1 rfl rfl rfl inf24.size t_get t_room rfl ?_)
          refine ⟨t_pend, ?_⟩
          refine ac_region (by kernel_rfl) ?_
          first | refine aops_val (av_move_int (by first | assumption | rfl)) ?_ | refine aops_val (av_move (by first | assumption | rfl)) ?_
          first | refine aops_val (av_add64 rfl rfl t_fits) ?_ | refine aops_val (av_add rfl rfl) ?_
          first | refine aops_val (av_assign_int rfl) ?_ | refine aops_val (av_assign rfl) ?_
          rw [show ((f.links.take i).map (fun l => l.take 4)) ++ [f.links[i].take 4] = ((f.links.take (i + 1)).map (fun l => l.take 4)) by rw [← take_next hix, List.map_append]; rfl] at hown6
          have hleHG6 := Hp.le_trans (Hp.le_push' (Hp.le_trans hle hle5) _) hle6
          have hse := ((hle5.sees.push _).trans hle6.sees).trans (Hp.sees_box (cs' := [.slice BV nV cV, .slice O (f.order.take 8).length co, .slice Q (f.parent.take 8).length cq, .slice B' (i + 1) c', .slice none 0 0]) _ hg62)
          exact ⟨f.links.length - (i + 1), by omega, i + 1, G6.put b3 (.own 0 [.slice BV nV cV, .slice O (f.order.take 8).length co, .slice Q (f.parent.take 8).length cq, .slice B' (i + 1) c', .slice none 0 0]), B', c', by omega, by omega, rfl, Hp.le_put_new hleHG6 (by omega) _, hown6.box_put hg62 _, by rw [Hp.put_other _ _ (by omega)]; exact hg60, by rw [Hp.put_other _ _ (by omega)]; exact hg61, Hp.put_same _ _ _, by simp; omega, so.mono hse, sp.mono hse, sv.mono hse, e1, e2, e3, rfl⟩
        · intro hc4
          (try simp only [decide_eq_true_eq, decide_eq_false_iff_not, Bool.not_eq_true', Bool.not_eq_false'] at hc4)
          refine ac_exit ?_
          refine ac_seq ?_
          refine ac_seq ?_
          have hfl : f.few.links = (f.links.take i).map (fun l => l.take 4) := take_map_few _ hi hi8 (by first | exact .inl (by omega) | exact .inr (by omega))
          have sl := hown.sl
          rw [← hfl] at sl
          have so := so.mono hown.le.sees
          have sp := sp.mono hown.le.sees
          have sv := sv.mono hown.le.sees
          generalize hB3 : B = BL at sl hh2
          generalize hc3 : c5 = cL at sl hh2
          generalize hn3 : i = nL at sl hh2
          refine ac_region (by kernel_rfl) ?_
          first | refine aops_val (av_assign_int rfl) ?_ | refine aops_val (av_assign rfl) ?_
          refine ac_block ?_
          refine ac_loop (fun n t H' => ∃ (i : Nat) (G : Hp) (B : Option Addr) (c5 : Nat), i ≤ f.loops.length ∧ i ≤ 8 ∧ n = f.loops.length - i ∧ H.le G ∧ OwnP (kSl (kInt .i64)) G H' (.slice B i c5) ((f.loops.take i).map (fun l => l.take 4)) ∧ G.get H.size = .own 0 [.slice A0 f.vars.length c0, .slice A1 f.order.length c1, .slice A2 f.parent.length c2, .slice A3 f.links.length c3, .slice A4 f.loops.length c4] ∧ G.get (H.size + 1) = .own 0 [.slice none 0 0, .slice none 0 0, .slice none 0 0, .slice none 0 0, .slice none 0 0] ∧ G.get b3 = .own 0 [.slice BV nV cV, .slice O (f.order.take 8).length co, .slice Q (f.parent.take 8).length cq, .slice BL nL cL, .slice B i c5] ∧ b3 < G.size ∧ Sl (kInt .i64) G (.slice O (f.order.take 8).length co) (f.order.take 8) ∧ Sl (kInt .i64) G (.slice Q (f.parent.take 8).length cq) (f.parent.take 8) ∧ Sl kStr G (.slice BV nV cV) f.few.vars ∧ Sl (kSl (kInt .i64)) G (.slice BL nL cL) f.few.links ∧ t 1 = .pointer (some ⟨H.size, 0, none⟩) ∧ t 2 = .pointer (some ⟨H.size + 1, 0, none⟩) ∧ t 3 = .pointer (some ⟨b3, 0, none⟩) ∧ t 6 = .int .i64 i) (f.loops.length) (⟨0, H1, _, _, by omega, by omega, rfl, hleH1, OwnP.nil _ _, hh0, hh1, hh2, by omega, so, sp, sv, sl, e1, e2, e3, rfl⟩) ?_
          rintro n t H1 ⟨i, G, B, c5, hi, hi8, rfl, hle, hown, kb0, kb1, kb2, hgs, so, sp, sv, sl, e1, e2, e3, e4⟩
          have hz := hown.size
          have hleH1 := Hp.le_trans hle hown.le
          have hh0 := le_got hown.le (by omega) (by intro e; cases e) kb0
          have hh1 := le_got hown.le (by omega) (by intro e; cases e) kb1
          have hh2 := le_got hown.le hgs (by intro e; cases e) kb2
          have hlen : ((f.loops.take i).map (fun l => l.take 4)).length = i := by rw [List.length_map, List.length_take]; omega
          refine ac_seq ?_
          refine ac_seq ?_
          refine ac_region (by kernel_rfl) ?_
          first | refine aops_val (av_move_int (by first | assumption | rfl)) ?_ | refine aops_val (av_move (by first | assumption | rfl)) ?_
          refine aops_val (av_fieldOff (off := 4) (by first | assumption | rfl) Try.underlying26 (by first | assumption | rfl) inf24.size (by decide) (by first | assumption | rfl)) ?_
          refine aops_val (av_load1 rfl Try.underlying24 rfl t_cell) ?_
          refine aops_val (av_len rfl Try.underlying24) ?_
          refine aops_val (av_lt rfl rfl) ?_
          first | refine aops_val (av_move_bool rfl) ?_ | refine aops_val (av_move rfl) ?_
          refine aops_guard rfl rfl rfl ?_ ?_
          · intro hg5
            have hp5 := hg5; try simp only [decide_eq_true_eq, decide_eq_false_iff_not, Bool.not_eq_true', Bool.not_eq_false'] at hp5
            first | refine aops_wval (want_yes rfl rfl rfl hg5) (av_move_int (by first | assumption | rfl)) ?_ | refine aops_wval (want_yes rfl rfl rfl hg5) (av_move (by first | assumption | rfl)) ?_
            refine aops_wval (want_yes rfl rfl rfl hg5) (av_lt rfl rfl) ?_
            refine aops_val (av_pick_bool (congrArg Value.bool hg5) rfl) ?_
            refine ac_split rfl rfl ?_ ?_
            · intro hc6
              (try simp only [decide_eq_true_eq, decide_eq_false_iff_not, Bool.not_eq_true', Bool.not_eq_false'] at hc6)
              refine ac_skip ?_
              refine ac_seq ?_
              refine ac_block ?_
              have hix : i < f.loops.length := by omega
              obtain ⟨b, o, rfl, _, hb4, hcut, hx4⟩ := hs4.place (by omega)
              obtain ⟨cs, hr0, hcell0⟩ := hx4 i _ (List.getElem?_eq_getElem hix)
              obtain ⟨u, rfl, hu⟩ := hr0
              obtain ⟨A6, c6, rfl⟩ := hu.shape
              have hcell1 := (hleH1.cells hb4 hcell0).one
              have hdd := Blk.cut_ne hcut
              have hS4 : ∀ x ∈ [b], x < H.size ∧ H.get x ≠ .dead := fun x hx => by simp at hx; subst hx; exact ⟨hb4, hdd⟩
              have hbH : b < H1.size := by omega
              refine ac_draw (by kernel_rfl) (reg_of (B := [0, 1, 0, 4, 0, 28, 60, 124, 252, 511, 1023, 2047]) (π := [0, 1, 2, 3, 4, 5, 6, 7, 8, 9, 10, 11]) (by kernel_rfl)) ?_
              refine adr_val rfl rfl (av_fieldOff (off := 4) (by first | assumption | rfl) Try.underlying26 (by first | assumption | rfl) inf24.size (by decide) (by first | assumption | rfl)) t_lt ?_
              refine adr_val rfl rfl (av_load1 rfl Try.underlying24 rfl t_cell) t_lt ?_
              refine adr_val rfl rfl (av_fieldOff (off := 4) (by first | assumption | rfl) Try.underlying26 (by first | assumption | rfl) inf24.size (by decide) (by first | assumption | rfl)) t_lt ?_
              refine adr_val rfl rfl (av_load1 rfl Try.underlying24 rfl t_cell) t_lt ?_
              first | refine adr_val rfl rfl (av_move_int (by first | assumption | rfl)) t_lt ?_ | refine adr_val rfl rfl (av_move (by first | assumption | rfl)) t_lt ?_
              refine adr_val rfl rfl (av_indexAddr rfl rfl Try.underlying24 inf23.size t_idx t_idx) t_lt ?_
              refine adr_val rfl rfl (av_load1 rfl Try.underlying23 rfl t_cell) t_lt ?_
              refine adr_op rfl rfl (aop_call (hown.calls (Few_ints f.loops[i] _ 4 _ (hu.mono hle.sees) (hnloops _ (List.getElem_mem hix)) (by omega) (by omega)) (fun r G' h => h.1)) rfl Try.func10 rfl rfl rfl ?_)
              rintro v5 H5 ⟨G5, ⟨hle5, hs5⟩, hown5, hleH5⟩; rw [show (4 : Int).toNat = 4 from rfl] at hs5; have hz5 := hleH5.1; have hsame : ∀ x ∈ [b], H5.get x = H1.get x := (fun x hx => hleH5.2 x (by simp at hx; omega) (by rw [hleH1.2 x (hS4 x hx).1 (hS4 x hx).2]; exact (hS4 x hx).2)); obtain ⟨A5, c50, rfl⟩ := hs5.shape
              refine ⟨t_pend, ?_⟩
              first | refine adr_make rfl rfl (am_buildSlice (r := [.slice _ _ _]) Try.underlying24 inf23.size inf23.zero rfl (by decide) (by decide) (by decide) rfl) ?_ | refine adr_make rfl rfl (am_buildSlice (r := [_]) Try.underlying24 inf23.size inf23.zero rfl (by decide) (by decide) (by decide) rfl) ?_
              have hX := trivial
              have hg52 := le_got hle5 hgs (by intro e; cases e) kb2
              have hg50 := le_got hle5 (by omega) (by intro e; cases e) kb0
              have hg51 := le_got hle5 (by omega) (by intro e; cases e) kb1
              have hgs5 : b3 < G5.size := Nat.lt_of_lt_of_le hgs hle5.1
              refine adr_op rfl rfl (OwnP.append (ys := [f.loops[i].take 4]) (hown5.push _) Try.underlying24 inf23 rfl rfl rfl (sl_one (k := (kSl (kInt .i64))) ⟨_, rfl, hs5⟩ rfl hown5.size rfl) (by rw [hlen]; simp only [List.length_singleton]; omega) (by rw [hlen]; simp only [List.length_singleton]; omega) ?_)
              rintro v6 G6 H6 hle6 hown6
              have hsame := OwnP.sameS (hown5.push _) hle6 hown6 (H0 := H) (Hp.le_push' (Hp.le_trans hle hle5) _) hS4
              have hsameO := OwnP.sameO (hown5.push _) hle6 hown6
              have hs6 := hle6.1
              simp only [Hp.push_size] at hs6
              have hg62 := le_got hle6 (by simp; omega) (by intro e; cases e) ((Hp.push_old _ _ hgs5).trans hg52)
              have hg60 := le_got hle6 (by simp; omega) (by intro e; cases e) ((Hp.push_old _ _ (by omega)).trans hg50)
              have hg61 := le_got hle6 (by simp; omega) (by intro e; cases e) ((Hp.push_old _ _ (by omega)).trans hg51)
              have hg62H := le_got hown6.le (by omega) (by intro e; cases e) hg62
              obtain ⟨B', c', e6⟩ := hown6.shape
              rw [List.length_append, hlen, List.length_singleton] at e6
              subst e6
              refine ⟨t_pend, ?_⟩
              refine adr_val rfl rfl (av_fieldOff (off := 4) (by first | assumption | rfl) Try.underlying26 (by first | assumption | rfl) inf24.size (by decide) (by first | assumption | rfl)) t_lt ?_
              first | refine adr_op rfl rfl (aop_put1 rfl rfl rfl inf24.size t_get t_room rfl ?_)
              refine ⟨t_pend, ?_⟩
              refine ac_region (by kernel_rfl) ?_
              first | refine aops_val (av_move_int (by first | assumption | rfl)) ?_ | refine aops_val (av_move (by first | assumption | rfl)) ?_
              first | refine aops_val (av_add64 rfl rfl t_fits) ?_ | refine aops_val (av_add rfl rfl) ?_
              first | refine aops_val (av_assign_int rfl) ?_ | refine aops_val (av_assign rfl) ?_
              rw [show ((f.loops.take i).map (fun l => l.take 4)) ++ [f.loops[i].take 4] = ((f.loops.take (i + 1)).map (fun l => l.take 4)) by rw [← take_next hix, List.map_append]; rfl] at hown6
              have hleHG6 := Hp.le_trans (Hp.le_push' (Hp.le_trans hle hle5) _) hle6
              have hse := ((hle5.sees.push _).trans hle6.sees).trans (Hp.sees_box (cs' := [.slice BV nV cV, .slice O (f.order.take 8).length co, .slice Q (f.parent.take 8).length cq, .slice BL nL cL, .slice B' (i + 1) c']) _ hg62)
              exact ⟨f.loops.length - (i + 1), by omega, i + 1, G6.put b3 (.own 0 [.slice BV nV cV, .slice O (f.order.take 8).length co, .slice Q (f.parent.take 8).length cq, .slice BL nL cL, .slice B' (i + 1) c']), B', c', by omega, by omega, rfl, Hp.le_put_new hleHG6 (by omega) _, hown6.box_put hg62 _, by rw [Hp.put_other _ _ (by omega)]; exact hg60, by rw [Hp.put_other _ _ (by omega)]; exact hg61, Hp.put_same _ _ _, by simp; omega, so.mono hse, sp.mono hse, sv.mono hse, sl.mono hse, e1, e2, e3, rfl⟩
            · intro hc6
              (try simp only [decide_eq_true_eq, decide_eq_false_iff_not, Bool.not_eq_true', Bool.not_eq_false'] at hc6)
              refine ac_exit ?_
              refine ac_seq ?_
              refine ac_region (by kernel_rfl) ?_
              first | refine aops_val (av_loadN (cs := [.slice _ _ _, .slice _ _ _, .slice _ _ _, .slice _ _ _, .slice _ _ _]) (by first | assumption | rfl) Try.underlying26 (by first | assumption | rfl) inf26.size t_cells) ?_ | refine aops_val (av_loadN (cs := [_, _, _, _, _]) (by first | assumption | rfl) Try.underlying26 (by first | assumption | rfl) inf26.size t_cells) ?_
              first | refine aops_op (aop_putN (vs := [.slice _ _ _, .slice _ _ _, .slice _ _ _, .slice _ _ _, .slice _ _ _]) (by first | assumption | rfl) (by first | assumption | rfl) inf26.size t_get t_room (by first | assumption | rfl) (by first | assumption | rfl) ?_) | refine aops_op (aop_putN (vs := [_, _, _, _, _]) (by first | assumption | rfl) (by first | assumption | rfl) inf26.size t_get t_room (by first | assumption | rfl) (by first | assumption | rfl) ?_)
              refine ac_ret ?_
              have hfo : f.few.loops = (f.loops.take i).map (fun l => l.take 4) := take_map_few _ hi hi8 (by first | exact .inl (by omega) | exact .inr (by omega))
              have so5 := hown.sl
              rw [← hfo] at so5
              have hse := hown.le.sees
              have hbx : H1.sees (H1.put (H.size + 1) (.own 0 [.slice BV nV cV, .slice O (f.order.take 8).length co, .slice Q (f.parent.take 8).length cq, .slice BL nL cL, .slice B i c5])) := Hp.sees_box _ hh1
              exact ⟨.agg #[.slice BV nV cV, .slice O (f.order.take 8).length co, .slice Q (f.parent.take 8).length cq, .slice BL nL cL, .slice B i c5], aresult1 (ares_cell (by first | assumption | rfl) (aload_agg (cs := [.slice BV nV cV, .slice O (f.order.take 8).length co, .slice Q (f.parent.take 8).length cq, .slice BL nL cL, .slice B i c5]) Try.underlying26 rfl inf26.size t_cells)), Hp.le_put_new hleH1 (by omega) _, [.slice BV nV cV, .slice O (f.order.take 8).length co, .slice Q (f.parent.take 8).length cq, .slice BL nL cL, .slice B i c5], rfl, _, _, _, _, _, rfl, (sv.mono hse).mono hbx, (so.mono hse).mono hbx, (sp.mono hse).mono hbx, (sl.mono hse).mono hbx, so5.mono hbx⟩
          · intro hg5
            have hp5 := hg5; try simp only [decide_eq_true_eq, decide_eq_false_iff_not, Bool.not_eq_true', Bool.not_eq_false'] at hp5
            refine aops_skip (want_no rfl rfl rfl hg5 rfl) ?_
            refine aops_skip (want_no rfl rfl rfl hg5 rfl) ?_
            refine aops_val (av_pick_bool (congrArg Value.bool hg5) (by first | assumption | rfl)) ?_
            refine ac_cond_false rfl rfl ?_
            refine ac_exit ?_
            refine ac_seq ?_
            refine ac_region (by kernel_rfl) ?_
            first | refine aops_val (av_loadN (cs := [.slice _ _ _, .slice _ _ _, .slice _ _ _, .slice _ _ _, .slice _ _ _]) (by first | assumption | rfl) Try.underlying26 (by first | assumption | rfl) inf26.size t_cells) ?_ | refine aops_val (av_loadN (cs := [_, _, _, _, _]) (by first | assumption | rfl) Try.underlying26 (by first | assumption | rfl) inf26.size t_cells) ?_
            first | refine aops_op (aop_putN (vs := [.slice _ _ _, .slice _ _ _, .slice _ _ _, .slice _ _ _, .slice _ _ _]) (by first | assumption | rfl) (by first | assumption | rfl) inf26.size t_get t_room (by first | assumption | rfl) (by first | assumption | rfl) ?_) | refine aops_op (aop_putN (vs := [_, _, _, _, _]) (by first | assumption | rfl) (by first | assumption | rfl) inf26.size t_get t_room (by first | assumption | rfl) (by first | assumption | rfl) ?_)
            refine ac_ret ?_
            have hfo : f.few.loops = (f.loops.take i).map (fun l => l.take 4) := take_map_few _ hi hi8 (by first | exact .inl (by omega) | exact .inr (by omega))
            have so5 := hown.sl
            rw [← hfo] at so5
            have hse := hown.le.sees
            have hbx : H1.sees (H1.put (H.size + 1) (.own 0 [.slice BV nV cV, .slice O (f.order.take 8).length co, .slice Q (f.parent.take 8).length cq, .slice BL nL cL, .slice B i c5])) := Hp.sees_box _ hh1
            exact ⟨.agg #[.slice BV nV cV, .slice O (f.order.take 8).length co, .slice Q (f.parent.take 8).length cq, .slice BL nL cL, .slice B i c5], aresult1 (ares_cell (by first | assumption | rfl) (aload_agg (cs := [.slice BV nV cV, .slice O (f.order.take 8).length co, .slice Q (f.parent.take 8).length cq, .slice BL nL cL, .slice B i c5]) Try.underlying26 rfl inf26.size t_cells)), Hp.le_put_new hleH1 (by omega) _, [.slice BV nV cV, .slice O (f.order.take 8).length co, .slice Q (f.parent.take 8).length cq, .slice BL nL cL, .slice B i c5], rfl, _, _, _, _, _, rfl, (sv.mono hse).mono hbx, (so.mono hse).mono hbx, (sp.mono hse).mono hbx, (sl.mono hse).mono hbx, so5.mono hbx⟩
      · intro hg3
        have hp3 := hg3; try simp only [decide_eq_true_eq, decide_eq_false_iff_not, Bool.not_eq_true', Bool.not_eq_false'] at hp3
        refine aops_skip (want_no rfl rfl rfl hg3 rfl) ?_
        refine aops_skip (want_no rfl rfl rfl hg3 rfl) ?_
        refine aops_val (av_pick_bool (congrArg Value.bool hg3) (by first | assumption | rfl)) ?_
        refine ac_cond_false rfl rfl ?_
        refine ac_exit ?_
        refine ac_seq ?_
        refine ac_seq ?_
        have hfl : f.few.links = (f.links.take i).map (fun l => l.take 4) := take_map_few _ hi hi8 (by first | exact .inl (by omega) | exact .inr (by omega))
        have sl := hown.sl
        rw [← hfl] at sl
        have so := so.mono hown.le.sees
        have sp := sp.mono hown.le.sees
        have sv := sv.mono hown.le.sees
        generalize hB3 : B = BL at sl hh2
        generalize hc3 : c5 = cL at sl hh2
        generalize hn3 : i = nL at sl hh2
        refine ac_region (by kernel_rfl) ?_
        first | refine aops_val (av_assign_int rfl) ?_ | refine aops_val (av_assign rfl) ?_
        refine ac_block ?_
        refine ac_loop (fun n t H' => ∃ (i : Nat) (G : Hp) (B : Option Addr) (c5 : Nat), i ≤ f.loops.length ∧ i ≤ 8 ∧ n = f.loops.length - i ∧ H.le G ∧ OwnP (kSl (kInt .i64)) G H' (.slice B i c5) ((f.loops.take i).map (fun l => l.take 4)) ∧ G.get H.size = .own 0 [.slice A0 f.vars.length c0, .slice A1 f.order.length c1, .slice A2 f.parent.length c2, .slice A3 f.links.length c3, .slice A4 f.loops.length c4] ∧ G.get (H.size + 1) = .own 0 [.slice none 0 0, .slice none 0 0, .slice none 0 0, .slice none 0 0, .slice none 0 0] ∧ G.get b3 = .own 0 [.slice BV nV cV, .slice O (f.order.take 8).length co, .slice Q (f.parent.take 8).length cq, .slice BL nL cL, .slice B i c5] ∧ b3 < G.size ∧ Sl (kInt .i64) G (.slice O (f.order.take 8).length co) (f.order.take 8) ∧ Sl (kInt .i64) G (.slice Q (f.parent.take 8).length cq) (f.parent.take 8) ∧ Sl kStr G (.slice BV nV cV) f.few.vars ∧ Sl (kSl (kInt .i64)) G (.slice BL nL cL) f.few.links ∧ t 1 = .pointer (some ⟨H.size, 0, none⟩) ∧ t 2 = .pointer (some ⟨H.size + 1, 0, none⟩) ∧ t 3 = .pointer (some ⟨b3, 0, none⟩) ∧ t 6 = .int .i64 i) (f.loops.length) (⟨0, H1, _, _, by omega, by omega, rfl, hleH1, OwnP.nil _ _, hh0, hh1, hh2, by omega, so, sp, sv, sl, e1, e2, e3, rfl⟩) ?_
        rintro n t H1 ⟨i, G, B, c5, hi, hi8, rfl, hle, hown, kb0, kb1, kb2, hgs, so, sp, sv, sl, e1, e2, e3, e4⟩
        have hz := hown.size
        have hleH1 := Hp.le_trans hle hown.le
        have hh0 := le_got hown.le (by omega) (by intro e; cases e) kb0
        have hh1 := le_got hown.le (by omega) (by intro e; cases e) kb1
        have hh2 := le_got hown.le hgs (by intro e; cases e) kb2
        have hlen : ((f.loops.take i).map (fun l => l.take 4)).length = i := by rw [List.length_map, List.length_take]; omega
        refine ac_seq ?_
        refine ac_seq ?_
        refine ac_region (by kernel_rfl) ?_
        first | refine aops_val (av_move_int (by first | assumption | rfl)) ?_ | refine aops_val (av_move (by first | assumption | rfl)) ?_
        refine aops_val (av_fieldOff (off := 4) (by first | assumption | rfl) Try.underlying26 (by first | assumption | rfl) inf24.size (by decide) (by first | assumption | rfl)) ?_
        refine aops_val (av_load1 rfl Try.underlying24 rfl t_cell) ?_
        refine aops_val (av_len rfl Try.underlying24) ?_
        refine aops_val (av_lt rfl rfl) ?_
        first | refine aops_val (av_move_bool rfl) ?_ | refine aops_val (av_move rfl) ?_
        refine aops_guard rfl rfl rfl ?_ ?_
        · intro hg9
          have hp9 := hg9; try simp only [decide_eq_true_eq, decide_eq_false_iff_not, Bool.not_eq_true', Bool.not_eq_false'] at hp9
          first | refine aops_wval (want_yes rfl rfl rfl hg9) (av_move_int (by first | assumption | rfl)) ?_ | refine aops_wval (want_yes rfl rfl rfl hg9) (av_move (by first | assumption | rfl)) ?_
          refine aops_wval (want_yes rfl rfl rfl hg9) (av_lt rfl rfl) ?_
          refine aops_val (av_pick_bool (congrArg Value.bool hg9) rfl) ?_
          refine ac_split rfl rfl ?_ ?_
          · intro hc10
            (try simp only [decide_eq_true_eq, decide_eq_false_iff_not, Bool.not_eq_true', Bool.not_eq_false'] at hc10)
            refine ac_skip ?_
            refine ac_seq ?_
            refine ac_block ?_
            have hix : i < f.loops.length := by omega
            obtain ⟨b, o, rfl, _, hb4, hcut, hx4⟩ := hs4.place (by omega)
            obtain ⟨cs, hr0, hcell0⟩ := hx4 i _ (List.getElem?_eq_getElem hix)
            obtain ⟨u, rfl, hu⟩ := hr0
            obtain ⟨A6, c6, rfl⟩ := hu.shape
            have hcell1 := (hleH1.cells hb4 hcell0).one
            have hdd := Blk.cut_ne hcut
            have hS4 : ∀ x ∈ [b], x < H.size ∧ H.get x ≠ .dead := fun x hx => by simp at hx; subst hx; exact ⟨hb4, hdd⟩
            have hbH : b < H1.size := by omega
            refine ac_draw (by kernel_rfl) (reg_of (B := [0, 1, 0, 4, 0, 28, 60, 124, 252, 511, 1023, 2047]) (π := [0, 1, 2, 3, 4, 5, 6, 7, 8, 9, 10, 11]) (by kernel_rfl)) ?_
            refine adr_val rfl rfl (av_fieldOff (off := 4) (by first | assumption | rfl) Try.underlying26 (by first | assumption | rfl) inf24.size (by decide) (by first | assumption | rfl)) t_lt ?_
            refine adr_val rfl rfl (av_load1 rfl Try.underlying24 rfl t_cell) t_lt ?_
            refine adr_val rfl rfl (av_fieldOff (off := 4) (by first | assumption | rfl) Try.underlying26 (by first | assumption | rfl) inf24.size (by decide) (by first | assumption | rfl)) t_lt ?_
            refine adr_val rfl rfl (av_load1 rfl Try.underlying24 rfl t_cell) t_lt ?_
            first | refine adr_val rfl rfl (av_move_int (by first | assumption | rfl)) t_lt ?_ | refine adr_val rfl rfl (av_move (by first | assumption | rfl)) t_lt ?_
            refine adr_val rfl rfl (av_indexAddr rfl rfl Try.underlying24 inf23.size t_idx t_idx) t_lt ?_
            refine adr_val rfl rfl (av_load1 rfl Try.underlying23 rfl t_cell) t_lt ?_
            refine adr_op rfl rfl (aop_call (hown.calls (Few_ints f.loops[i] _ 4 _ (hu.mono hle.sees) (hnloops _ (List.getElem_mem hix)) (by omega) (by omega)) (fun r G' h => h.1)) rfl Try.func10 rfl rfl rfl ?_)
            rintro v5 H5 ⟨G5, ⟨hle5, hs5⟩, hown5, hleH5⟩; rw [show (4 : Int).toNat = 4 from rfl] at hs5; have hz5 := hleH5.1; have hsame : ∀ x ∈ [b], H5.get x = H1.get x := (fun x hx => hleH5.2 x (by simp at hx; omega) (by rw [hleH1.2 x (hS4 x hx).1 (hS4 x hx).2]; exact (hS4 x hx).2)); obtain ⟨A5, c50, rfl⟩ := hs5.shape
            refine ⟨t_pend, ?_⟩
            first | refine adr_make rfl rfl (am_buildSlice (r := [.slice _ _ _]) Try.underlying24 inf23.size inf23.zero rfl (by decide) (by decide) (by decide) rfl) ?_ | refine adr_make rfl rfl (am_buildSlice (r := [_]) Try.underlying24 inf23.size inf23.zero rfl (by decide) (by decide) (by decide) rfl) ?_
            have hX := trivial
            have hg52 := le_got hle5 hgs (by intro e; cases e) kb2
            have hg50 := le_got hle5 (by omega) (by intro e; cases e) kb0
            have hg51 := le_got hle5 (by omega) (by intro e; cases e) kb1
            have hgs5 : b3 < G5.size := Nat.lt_of_lt_of_le hgs hle5.1
            refine adr_op rfl rfl (OwnP.append (ys := [f.loops[i].take 4]) (hown5.push _) Try.underlying24 inf23 rfl rfl rfl (sl_one (k := (kSl (kInt .i64))) ⟨_, rfl, hs5⟩ rfl hown5.size rfl) (by rw [hlen]; simp only [List.length_singleton]; omega) (by rw [hlen]; simp only [List.length_singleton]; omega) ?_)
            rintro v6 G6 H6 hle6 hown6
            have hsame := OwnP.sameS (hown5.push _) hle6 hown6 (H0 := H) (Hp.le_push' (Hp.le_trans hle hle5) _) hS4
            have hsameO := OwnP.sameO (hown5.push _) hle6 hown6
            have hs6 := hle6.1
            simp only [Hp.push_size] at hs6
            have hg62 := le_got hle6 (by simp; omega) (by intro e; cases e) ((Hp.push_old _ _ hgs5).trans hg52)
            have hg60 := le_got hle6 (by simp; omega) (by intro e; cases e) ((Hp.push_old _ _ (by omega)).trans hg50)
            have hg61 := le_got hle6 (by simp; omega) (by intro e; cases e) ((Hp.push_old _ _ (by omega)).trans hg51)
            have hg62H := le_got hown6.le (by omega) (by intro e; cases e) hg62
            obtain ⟨B', c', e6⟩ := hown6.shape
            rw [List.length_append, hlen, List.length_singleton] at e6
            subst e6
            refine ⟨t_pend, ?_⟩
            refine adr_val rfl rfl (av_fieldOff (off := 4) (by first | assumption | rfl) Try.underlying26 (by first | assumption | rfl) inf24.size (by decide) (by first | assumption | rfl)) t_lt ?_
            first | refine adr_op rfl rfl (aop_put1 rfl rfl rfl inf24.size t_get t_room rfl ?_)
            refine ⟨t_pend, ?_⟩
            refine ac_region (by kernel_rfl) ?_
            first | refine aops_val (av_move_int (by first | assumption | rfl)) ?_ | refine aops_val (av_move (by first | assumption | rfl)) ?_
            first | refine aops_val (av_add64 rfl rfl t_fits) ?_ | refine aops_val (av_add rfl rfl) ?_
            first | refine aops_val (av_assign_int rfl) ?_ | refine aops_val (av_assign rfl) ?_
            rw [show ((f.loops.take i).map (fun l => l.take 4)) ++ [f.loops[i].take 4] = ((f.loops.take (i + 1)).map (fun l => l.take 4)) by rw [← take_next hix, List.map_append]; rfl] at hown6
            have hleHG6 := Hp.le_trans (Hp.le_push' (Hp.le_trans hle hle5) _) hle6
            have hse := ((hle5.sees.push _).trans hle6.sees).trans (Hp.sees_box (cs' := [.slice BV nV cV, .slice O (f.order.take 8).length co, .slice Q (f.parent.take 8).length cq, .slice BL nL cL, .slice B' (i + 1) c']) _ hg62)
            exact ⟨f.loops.length - (i + 1), by omega, i + 1, G6.put b3 (.own 0 [.slice BV nV cV, .slice O (f.order.take 8).length co, .slice Q (f.parent.take 8).length cq, .slice BL nL cL, .slice B' (i + 1) c']), B', c', by omega, by omega, rfl, Hp.le_put_new hleHG6 (by omega) _, hown6.box_put hg62 _, by rw [Hp.put_other _ _ (by omega)]; exact hg60, by rw [Hp.put_other _ _ (by omega)]; exact hg61, Hp.put_same _ _ _, by simp; omega, so.mono hse, sp.mono hse, sv.mono hse, sl.mono hse, e1, e2, e3, rfl⟩
          · intro hc10
            (try simp only [decide_eq_true_eq, decide_eq_false_iff_not, Bool.not_eq_true', Bool.not_eq_false'] at hc10)
            refine ac_exit ?_
            refine ac_seq ?_
            refine ac_region (by kernel_rfl) ?_
            first | refine aops_val (av_loadN (cs := [.slice _ _ _, .slice _ _ _, .slice _ _ _, .slice _ _ _, .slice _ _ _]) (by first | assumption | rfl) Try.underlying26 (by first | assumption | rfl) inf26.size t_cells) ?_ | refine aops_val (av_loadN (cs := [_, _, _, _, _]) (by first | assumption | rfl) Try.underlying26 (by first | assumption | rfl) inf26.size t_cells) ?_
            first | refine aops_op (aop_putN (vs := [.slice _ _ _, .slice _ _ _, .slice _ _ _, .slice _ _ _, .slice _ _ _]) (by first | assumption | rfl) (by first | assumption | rfl) inf26.size t_get t_room (by first | assumption | rfl) (by first | assumption | rfl) ?_) | refine aops_op (aop_putN (vs := [_, _, _, _, _]) (by first | assumption | rfl) (by first | assumption | rfl) inf26.size t_get t_room (by first | assumption | rfl) (by first | assumption | rfl) ?_)
            refine ac_ret ?_
            have hfo : f.few.loops = (f.loops.take i).map (fun l => l.take 4) := take_map_few _ hi hi8 (by first | exact .inl (by omega) | exact .inr (by omega))
            have so5 := hown.sl
            rw [← hfo] at so5
            have hse := hown.le.sees
            have hbx : H1.sees (H1.put (H.size + 1) (.own 0 [.slice BV nV cV, .slice O (f.order.take 8).length co, .slice Q (f.parent.take 8).length cq, .slice BL nL cL, .slice B i c5])) := Hp.sees_box _ hh1
            exact ⟨.agg #[.slice BV nV cV, .slice O (f.order.take 8).length co, .slice Q (f.parent.take 8).length cq, .slice BL nL cL, .slice B i c5], aresult1 (ares_cell (by first | assumption | rfl) (aload_agg (cs := [.slice BV nV cV, .slice O (f.order.take 8).length co, .slice Q (f.parent.take 8).length cq, .slice BL nL cL, .slice B i c5]) Try.underlying26 rfl inf26.size t_cells)), Hp.le_put_new hleH1 (by omega) _, [.slice BV nV cV, .slice O (f.order.take 8).length co, .slice Q (f.parent.take 8).length cq, .slice BL nL cL, .slice B i c5], rfl, _, _, _, _, _, rfl, (sv.mono hse).mono hbx, (so.mono hse).mono hbx, (sp.mono hse).mono hbx, (sl.mono hse).mono hbx, so5.mono hbx⟩
        · intro hg9
          have hp9 := hg9; try simp only [decide_eq_true_eq, decide_eq_false_iff_not, Bool.not_eq_true', Bool.not_eq_false'] at hp9
          refine aops_skip (want_no rfl rfl rfl hg9 rfl) ?_
          refine aops_skip (want_no rfl rfl rfl hg9 rfl) ?_
          refine aops_val (av_pick_bool (congrArg Value.bool hg9) (by first | assumption | rfl)) ?_
          refine ac_cond_false rfl rfl ?_
          refine ac_exit ?_
          refine ac_seq ?_
          refine ac_region (by kernel_rfl) ?_
          first | refine aops_val (av_loadN (cs := [.slice _ _ _, .slice _ _ _, .slice _ _ _, .slice _ _ _, .slice _ _ _]) (by first | assumption | rfl) Try.underlying26 (by first | assumption | rfl) inf26.size t_cells) ?_ | refine aops_val (av_loadN (cs := [_, _, _, _, _]) (by first | assumption | rfl) Try.underlying26 (by first | assumption | rfl) inf26.size t_cells) ?_
          first | refine aops_op (aop_putN (vs := [.slice _ _ _, .slice _ _ _, .slice _ _ _, .slice _ _ _, .slice _ _ _]) (by first | assumption | rfl) (by first | assumption | rfl) inf26.size t_get t_room (by first | assumption | rfl) (by first | assumption | rfl) ?_) | refine aops_op (aop_putN (vs := [_, _, _, _, _]) (by first | assumption | rfl) (by first | assumption | rfl) inf26.size t_get t_room (by first | assumption | rfl) (by first | assumption | rfl) ?_)
          refine ac_ret ?_
          have hfo : f.few.loops = (f.loops.take i).map (fun l => l.take 4) := take_map_few _ hi hi8 (by first | exact .inl (by omega) | exact .inr (by omega))
          have so5 := hown.sl
          rw [← hfo] at so5
          have hse := hown.le.sees
          have hbx : H1.sees (H1.put (H.size + 1) (.own 0 [.slice BV nV cV, .slice O (f.order.take 8).length co, .slice Q (f.parent.take 8).length cq, .slice BL nL cL, .slice B i c5])) := Hp.sees_box _ hh1
          exact ⟨.agg #[.slice BV nV cV, .slice O (f.order.take 8).length co, .slice Q (f.parent.take 8).length cq, .slice BL nL cL, .slice B i c5], aresult1 (ares_cell (by first | assumption | rfl) (aload_agg (cs := [.slice BV nV cV, .slice O (f.order.take 8).length co, .slice Q (f.parent.take 8).length cq, .slice BL nL cL, .slice B i c5]) Try.underlying26 rfl inf26.size t_cells)), Hp.le_put_new hleH1 (by omega) _, [.slice BV nV cV, .slice O (f.order.take 8).length co, .slice Q (f.parent.take 8).length cq, .slice BL nL cL, .slice B i c5], rfl, _, _, _, _, _, rfl, (sv.mono hse).mono hbx, (so.mono hse).mono hbx, (sp.mono hse).mono hbx, (sl.mono hse).mono hbx, so5.mono hbx⟩
  · intro hg1
    have hp1 := hg1; try simp only [decide_eq_true_eq, decide_eq_false_iff_not, Bool.not_eq_true', Bool.not_eq_false'] at hp1
    refine aops_skip (want_no rfl rfl rfl hg1 rfl) ?_
    refine aops_skip (want_no rfl rfl rfl hg1 rfl) ?_
    refine aops_val (av_pick_bool (congrArg Value.bool hg1) (by first | assumption | rfl)) ?_
    refine ac_cond_false rfl rfl ?_
    refine ac_exit ?_
    refine ac_seq ?_
    refine ac_seq ?_
    have hfv : f.few.vars = (f.vars.take i).map (fun s => cutS s 32) := take_map_few _ hi hi8 (by first | exact .inl (by omega) | exact .inr (by omega))
    have sv := hown.sl
    rw [← hfv] at sv
    have so := so.mono hown.le.sees
    have sp := sp.mono hown.le.sees
    generalize hB2 : B = BV at sv hh2
    generalize hc2 : c5 = cV at sv hh2
    generalize hn2 : i = nV at sv hh2
    refine ac_region (by kernel_rfl) ?_
    first | refine aops_val (av_assign_int rfl) ?_ | refine aops_val (av_assign rfl) ?_
    refine ac_block ?_
    refine ac_loop (fun n t H' => ∃ (i : Nat) (G : Hp) (B : Option Addr) (c5 : Nat), i ≤ f.links.length ∧ i ≤ 8 ∧ n = f.links.length - i ∧ H.le G ∧ OwnP (kSl (kInt .i64)) G H' (.slice B i c5) ((f.links.take i).map (fun l => l.take 4)) ∧ G.get H.size = .own 0 [.slice A0 f.vars.length c0, .slice A1 f.order.length c1, .slice A2 f.parent.length c2, .slice A3 f.links.length c3, .slice A4 f.loops.length c4] ∧ G.get (H.size + 1) = .own 0 [.slice none 0 0, .slice none 0 0, .slice none 0 0, .slice none 0 0, .slice none 0 0] ∧ G.get b3 = .own 0 [.slice BV nV cV, .slice O (f.order.take 8).length co, .slice Q (f.parent.take 8).length cq, .slice B i c5, .slice none 0 0] ∧ b3 < G.size ∧ Sl (kInt .i64) G (.slice O (f.order.take 8).length co) (f.order.take 8) ∧ Sl (kInt .i64) G (.slice Q (f.parent.take 8).length cq) (f.parent.take 8) ∧ Sl kStr G (.slice BV nV cV) f.few.vars ∧ t 1 = .pointer (some ⟨H.size, 0, none⟩) ∧ t 2 = .pointer (some ⟨H.size + 1, 0, none⟩) ∧ t 3 = .pointer (some ⟨b3, 0, none⟩) ∧ t 5 = .int .i64 i) (f.links.length) (⟨0, H1, _, _, by omega, by omega, rfl, hleH1, OwnP.nil _ _, hh0, hh1, hh2, by omega, so, sp, sv, e1, e2, e3, rfl⟩) ?_
    rintro n t H1 ⟨i, G, B, c5, hi, hi8, rfl, hle, hown, kb0, kb1, kb2, hgs, so, sp, sv, e1, e2, e3, e4⟩
    have hz := hown.size
    have hleH1 := Hp.le_trans hle hown.le
    have hh0 := le_got hown.le (by omega) (by intro e; cases e) kb0
    have hh1 := le_got hown.le (by omega) (by intro e; cases e) kb1
    have hh2 := le_got hown.le hgs (by intro e; cases e) kb2
    have hlen : ((f.links.take i).map (fun l => l.take 4)).length = i := by rw [List.length_map, List.length_take]; omega
    refine ac_seq ?_
    refine ac_seq ?_
    refine ac_region (by kernel_rfl) ?_
    first | refine aops_val (av_move_int (by first | assumption | rfl)) ?_ | refine aops_val (av_move (by first | assumption | rfl)) ?_
    refine aops_val (av_fieldOff (off := 3) (by first | assumption | rfl) Try.underlying26 (by first | assumption | rfl) inf24.size (by decide) (by first | assumption | rfl)) ?_
    refine aops_val (av_load1 rfl Try.underlying24 rfl t_cell) ?_
    refine aops_val (av_len rfl Try.underlying24) ?_
    refine aops_val (av_lt rfl rfl) ?_
    first | refine aops_val (av_move_bool rfl) ?_ | refine aops_val (av_move rfl) ?_
    refine aops_guard rfl rfl rfl ?_ ?_
    · intro hg13
      have hp13 := hg13; try simp only [decide_eq_true_eq, decide_eq_false_iff_not, Bool.not_eq_true', Bool.not_eq_false'] at hp13
      first | refine aops_wval (want_yes rfl rfl rfl hg13) (av_move_int (by first | assumption | rfl)) ?_ | refine aops_wval (want_yes rfl rfl rfl hg13) (av_move (by first | assumption | rfl)) ?_
      refine aops_wval (want_yes rfl rfl rfl hg13) (av_lt rfl rfl) ?_
      refine aops_val (av_pick_bool (congrArg Value.bool hg13) rfl) ?_
      refine ac_split rfl rfl ?_ ?_
      · intro hc14
        (try simp only [decide_eq_true_eq, decide_eq_false_iff_not, Bool.not_eq_true', Bool.not_eq_false'] at hc14)
        refine ac_skip ?_
        refine ac_seq ?_
        refine ac_block ?_
        have hix : i < f.links.length := by omega
        obtain ⟨b, o, rfl, _, hb4, hcut, hx4⟩ := hs3.place (by omega)
        obtain ⟨cs, hr0, hcell0⟩ := hx4 i _ (List.getElem?_eq_getElem hix)
        obtain ⟨u, rfl, hu⟩ := hr0
        obtain ⟨A6, c6, rfl⟩ := hu.shape
        have hcell1 := (hleH1.cells hb4 hcell0).one
        have hdd := Blk.cut_ne hcut
        have hS4 : ∀ x ∈ [b], x < H.size ∧ H.get x ≠ .dead := fun x hx => by simp at hx; subst hx; exact ⟨hb4, hdd⟩
        have hbH : b < H1.size := by omega
        refine ac_draw (by kernel_rfl) (reg_of (B := [0, 1, 0, 4, 0, 28, 60, 124, 252, 511, 1023, 2047]) (π := [0, 1, 2, 3, 4, 5, 6, 7, 8, 9, 10, 11]) (by kernel_rfl)) ?_
        refine adr_val rfl rfl (av_fieldOff (off := 3) (by first | assumption | rfl) Try.underlying26 (by first | assumption | rfl) inf24.size (by decide) (by first | assumption | rfl)) t_lt ?_
        refine adr_val rfl rfl (av_load1 rfl Try.underlying24 rfl t_cell) t_lt ?_
        refine adr_val rfl rfl (av_fieldOff (off := 3) (by first | assumption | rfl) Try.underlying26 (by first | assumption | rfl) inf24.size (by decide) (by first | assumption | rfl)) t_lt ?_
        refine adr_val rfl rfl (av_load1 rfl Try.underlying24 rfl t_cell) t_lt ?_
        first | refine adr_val rfl rfl (av_move_int (by first | assumption | rfl)) t_lt ?_ | refine adr_val rfl rfl (av_move (by first | assumption | rfl)) t_lt ?_
        refine adr_val rfl rfl (av_indexAddr rfl rfl Try.underlying24 inf23.size t_idx t_idx) t_lt ?_
        refine adr_val rfl rfl (av_load1 rfl Try.underlying23 rfl t_cell) t_lt ?_
        refine adr_op rfl rfl (aop_call (hown.calls (Few_ints f.links[i] _ 4 _ (hu.mono hle.sees) (hnlinks _ (List.getElem_mem hix)) (by omega) (by omega)) (fun r G' h => h.1)) rfl Try.func10 rfl rfl rfl ?_)
        rintro v5 H5 ⟨G5, ⟨hle5, hs5⟩, hown5, hleH5⟩; rw [show (4 : Int).toNat = 4 from rfl] at hs5; have hz5 := hleH5.1; have hsame : ∀ x ∈ [b], H5.get x = H1.get x := (fun x hx => hleH5.2 x (by simp at hx; omega) (by rw [hleH1.2 x (hS4 x hx).1 (hS4 x hx).2]; exact (hS4 x hx).2)); obtain ⟨A5, c50, rfl⟩ := hs5.shape
        refine ⟨t_pend, ?_⟩
        first | refine adr_make rfl rfl (am_buildSlice (r := [.slice _ _ _]) Try.underlying24 inf23.size inf23.zero rfl (by decide) (by decide) (by decide) rfl) ?_ | refine adr_make rfl rfl (am_buildSlice (r := [_]) Try.underlying24 inf23.size inf23.zero rfl (by decide) (by decide) (by decide) rfl) ?_
        have hX := trivial
        have hg52 := le_got hle5 hgs (by intro e; cases e) kb2
        have hg50 := le_got hle5 (by omega) (by intro e; cases e) kb0
        have hg51 := le_got hle5 (by omega) (by intro e; cases e) kb1
        have hgs5 : b3 < G5.size := Nat.lt_of_lt_of_le hgs hle5.1
        refine adr_op rfl rfl (OwnP.append (ys := [f.links[i].take 4]) (hown5.push _) Try.underlying24 inf23 rfl rfl rfl (sl_one (k := (kSl (kInt .i64))) ⟨_, rfl, hs5⟩ rfl hown5.size rfl) (by rw [hlen]; simp only [List.length_singleton]; omega) (by rw [hlen]; simp only [List.length_singleton]; omega) ?_)
        rintro v6 G6 H6 hle6 hown6
        have hsame := OwnP.sameS (hown5.push _) hle6 hown6 (H0 := H) (Hp.le_push' (Hp.le_trans hle hle5) _) hS4
        have hsameO := OwnP.sameO (hown5.push _) hle6 hown6
        have hs6 := hle6.1
        simp only [Hp.push_size] at hs6
        have hg62 := le_got hle6 (by simp; omega) (by intro e; cases e) ((Hp.push_old _ _ hgs5).trans hg52)
        have hg60 := le_got hle6 (by simp; omega) (by intro e; cases e) ((Hp.push_old _ _ (by omega)).trans hg50)
        have hg61 := le_got hle6 (by simp; omega) (by intro e; cases e) ((Hp.push_old _ _ (by omega)).trans hg51)
        have hg62H := le_got hown6.le (by omega) (by intro e; cases e) hg62
        obtain ⟨B', c', e6⟩ := hown6.shape
        rw [List.length_append, hlen, List.length_singleton] at e6
        subst e6
        refine ⟨t_pend, ?_⟩
        refine adr_val rfl rfl (av_fieldOff (off := 3) (by first | assumption | rfl) Try.underlying26 (by first | assumption | rfl) inf24.size (by decide) (by first | assumption | rfl)) t_lt ?_
        first | refine adr_op rfl rfl (aop_put1 rfl rfl rfl inf24.size t_get t_room rfl ?_)
        refine ⟨t_pend, ?_⟩
        refine ac_region (by kernel_rfl) ?_
        first | refine aops_val (av_move_int (by first | assumption | rfl)) ?_ | refine aops_val (av_move (by first | assumption | rfl)) ?_
        first | refine aops_val (av_add64 rfl rfl t_fits) ?_ | refine aops_val (av_add rfl rfl) ?_
        first | refine aops_val (av_assign_int rfl) ?_ | refine aops_val (av_assign rfl) ?_
        rw [show ((f.links.take i).map (fun l => l.take 4)) ++ [f.links[i].take 4] = ((f.links.take (i + 1)).map (fun l => l.take 4)) by rw [← take_next hix, List.map_append]; rfl] at hown6
        have hleHG6 := Hp.le_trans (Hp.le_push' (Hp.le_trans hle hle5) _) hle6
        have hse := ((hle5.sees.push _).trans hle6.sees).trans (Hp.sees_box (cs' := [.slice BV nV cV, .slice O (f.order.take 8).length co, .slice Q (f.parent.take 8).length cq, .slice B' (i + 1) c', .slice none 0 0]) _ hg62)
        exact ⟨f.links.length - (i + 1), by omega, i + 1, G6.put b3 (.own 0 [.slice BV nV cV, .slice O (f.order.take 8).length co, .slice Q (f.parent.take 8).length cq, .slice B' (i + 1) c', .slice none 0 0]), B', c', by omega, by omega, rfl, Hp.le_put_new hleHG6 (by omega) _, hown6.box_put hg62 _, by rw [Hp.put_other _ _ (by omega)]; exact hg60, by rw [Hp.put_other _ _ (by omega)]; exact hg61, Hp.put_same _ _ _, by simp; omega, so.mono hse, sp.mono hse, sv.mono hse, e1, e2, e3, rfl⟩
      · intro hc14
        (try simp only [decide_eq_true_eq, decide_eq_false_iff_not, Bool.not_eq_true', Bool.not_eq_false'] at hc14)
        refine ac_exit ?_
        refine ac_seq ?_
        refine ac_seq ?_
        have hfl : f.few.links = (f.links.take i).map (fun l => l.take 4) := take_map_few _ hi hi8 (by first | exact .inl (by omega) | exact .inr (by omega))
        have sl := hown.sl
        rw [← hfl] at sl
        have so := so.mono hown.le.sees
        have sp := sp.mono hown.le.sees
        have sv := sv.mono hown.le.sees
        generalize hB3 : B = BL at sl hh2
        generalize hc3 : c5 = cL at sl hh2
        generalize hn3 : i = nL at sl hh2
        refine ac_region (by kernel_rfl) ?_
        first | refine aops_val (av_assign_int rfl) ?_ | refine aops_val (av_assign rfl) ?_
        refine ac_block ?_
        refine ac_loop (fun n t H' => ∃ (i : Nat) (G : Hp) (B : Option Addr) (c5 : Nat), i ≤ f.loops.length ∧ i ≤ 8 ∧ n = f.loops.length - i ∧ H.le G ∧ OwnP (kSl (kInt .i64)) G H' (.slice B i c5) ((f.loops.take i).map (fun l => l.take 4)) ∧ G.get H.size = .own 0 [.slice A0 f.vars.length c0, .slice A1 f.order.length c1, .slice A2 f.parent.length c2, .slice A3 f.links.length c3, .slice A4 f.loops.length c4] ∧ G.get (H.size + 1) = .own 0 [.slice none 0 0, .slice none 0 0, .slice none 0 0, .slice none 0 0, .slice none 0 0] ∧ G.get b3 = .own 0 [.slice BV nV cV, .slice O (f.order.take 8).length co, .slice Q (f.parent.take 8).length cq, .slice BL nL cL, .slice B i c5] ∧ b3 < G.size ∧ Sl (kInt .i64) G (.slice O (f.order.take 8).length co) (f.order.take 8) ∧ Sl (kInt .i64) G (.slice Q (f.parent.take 8).length cq) (f.parent.take 8) ∧ Sl kStr G (.slice BV nV cV) f.few.vars ∧ Sl (kSl (kInt .i64)) G (.slice BL nL cL) f.few.links ∧ t 1 = .pointer (some ⟨H.size, 0, none⟩) ∧ t 2 = .pointer (some ⟨H.size + 1, 0, none⟩) ∧ t 3 = .pointer (some ⟨b3, 0, none⟩) ∧ t 6 = .int .i64 i) (f.loops.length) (⟨0, H1, _, _, by omega, by omega, rfl, hleH1, OwnP.nil _ _, hh0, hh1, hh2, by omega, so, sp, sv, sl, e1, e2, e3, rfl⟩) ?_
        rintro n t H1 ⟨i, G, B, c5, hi, hi8, rfl, hle, hown, kb0, kb1, kb2, hgs, so, sp, sv, sl, e1, e2, e3, e4⟩
        have hz := hown.size
        have hleH1 := Hp.le_trans hle hown.le
        have hh0 := le_got hown.le (by omega) (by intro e; cases e) kb0
        have hh1 := le_got hown.le (by omega) (by intro e; cases e) kb1
        have hh2 := le_got hown.le hgs (by intro e; cases e) kb2
        have hlen : ((f.loops.take i).map (fun l => l.take 4)).length = i := by rw [List.length_map, List.length_take]; omega
        refine ac_seq ?_
        refine ac_seq ?_
        refine ac_region (by kernel_rfl) ?_
        first | refine aops_val (av_move_int (by first | assumption | rfl)) ?_ | refine aops_val (av_move (by first | assumption | rfl)) ?_
        refine aops_val (av_fieldOff (off := 4) (by first | assumption | rfl) Try.underlying26 (by first | assumption | rfl) inf24.size (by decide) (by first | assumption | rfl)) ?_
        refine aops_val (av_load1 rfl Try.underlying24 rfl t_cell) ?_
        refine aops_val (av_len rfl Try.underlying24) ?_
        refine aops_val (av_lt rfl rfl) ?_
        first | refine aops_val (av_move_bool rfl) ?_ | refine aops_val (av_move rfl) ?_
        refine aops_guard rfl rfl rfl ?_ ?_
        · intro hg15
          have hp15 := hg15; try simp only [decide_eq_true_eq, decide_eq_false_iff_not, Bool.not_eq_true', Bool.not_eq_false'] at hp15
          first | refine aops_wval (want_yes rfl rfl rfl hg15) (av_move_int (by first | assumption | rfl)) ?_ | refine aops_wval (want_yes rfl rfl rfl hg15) (av_move (by first | assumption | rfl)) ?_
          refine aops_wval (want_yes rfl rfl rfl hg15) (av_lt rfl rfl) ?_
          refine aops_val (av_pick_bool (congrArg Value.bool hg15) rfl) ?_
          refine ac_split rfl rfl ?_ ?_
          · intro hc16
            (try simp only [decide_eq_true_eq, decide_eq_false_iff_not, Bool.not_eq_true', Bool.not_eq_false'] at hc16)
            refine ac_skip ?_
            refine ac_seq ?_
            refine ac_block ?_
            have hix : i < f.loops.length := by omega
            obtain ⟨b, o, rfl, _, hb4, hcut, hx4⟩ := hs4.place (by omega)
            obtain ⟨cs, hr0, hcell0⟩ := hx4 i _ (List.getElem?_eq_getElem hix)
            obtain ⟨u, rfl, hu⟩ := hr0
            obtain ⟨A6, c6, rfl⟩ := hu.shape
            have hcell1 := (hleH1.cells hb4 hcell0).one
            have hdd := Blk.cut_ne hcut
            have hS4 : ∀ x ∈ [b], x < H.size ∧ H.get x ≠ .dead := fun x hx => by simp at hx; subst hx; exact ⟨hb4, hdd⟩
            have hbH : b < H1.size := by omega
            refine ac_draw (by kernel_rfl) (reg_of (B := [0, 1, 0, 4, 0, 28, 60, 124, 252, 511, 1023, 2047]) (π := [0, 1, 2, 3, 4, 5, 6, 7, 8, 9, 10, 11]) (by kernel_rfl)) ?_
            refine adr_val rfl rfl (av_fieldOff (off := 4) (by first | assumption | rfl) Try.underlying26 (by first | assumption | rfl) inf24.size (by decide) (by first | assumption | rfl)) t_lt ?_
            refine adr_val rfl rfl (av_load1 rfl Try.underlying24 rfl t_cell) t_lt ?_
            refine adr_val rfl rfl (av_fieldOff (off := 4) (by first | assumption | rfl) Try.underlying26 (by first | assumption | rfl) inf24.size (by decide) (by first | assumption | rfl)) t_lt ?_
            refine adr_val rfl rfl (av_load1 rfl Try.underlying24 rfl t_cell) t_lt ?_
            first | refine adr_val rfl rfl (av_move_int (by first | assumption | rfl)) t_lt ?_ | refine adr_val rfl rfl (av_move (by first | assumption | rfl)) t_lt ?_
            refine adr_val rfl rfl (av_indexAddr rfl rfl Try.underlying24 inf23.size t_idx t_idx) t_lt ?_
            refine adr_val rfl rfl (av_load1 rfl Try.underlying23 rfl t_cell) t_lt ?_
            refine adr_op rfl rfl (aop_call (hown.calls (Few_ints f.loops[i] _ 4 _ (hu.mono hle.sees) (hnloops _ (List.getElem_mem hix)) (by omega) (by omega)) (fun r G' h => h.1)) rfl Try.func10 rfl rfl rfl ?_)
            rintro v5 H5 ⟨G5, ⟨hle5, hs5⟩, hown5, hleH5⟩; rw [show (4 : Int).toNat = 4 from rfl] at hs5; have hz5 := hleH5.1; have hsame : ∀ x ∈ [b], H5.get x = H1.get x := (fun x hx => hleH5.2 x (by simp at hx; omega) (by rw [hleH1.2 x (hS4 x hx).1 (hS4 x hx).2]; exact (hS4 x hx).2)); obtain ⟨A5, c50, rfl⟩ := hs5.shape
            refine ⟨t_pend, ?_⟩
            first | refine adr_make rfl rfl (am_buildSlice (r := [.slice _ _ _]) Try.underlying24 inf23.size inf23.zero rfl (by decide) (by decide) (by decide) rfl) ?_ | refine adr_make rfl rfl (am_buildSlice (r := [_]) Try.underlying24 inf23.size inf23.zero rfl (by decide) (by decide) (by decide) rfl) ?_
            have hX := trivial
            have hg52 := le_got hle5 hgs (by intro e; cases e) kb2
            have hg50 := le_got hle5 (by omega) (by intro e; cases e) kb0
            have hg51 := le_got hle5 (by omega) (by intro e; cases e) kb1
            have hgs5 : b3 < G5.size := Nat.lt_of_lt_of_le hgs hle5.1
            refine adr_op rfl rfl (OwnP.append (ys := [f.loops[i].take 4]) (hown5.push _) Try.underlying24 inf23 rfl rfl rfl (sl_one (k := (kSl (kInt .i64))) ⟨_, rfl, hs5⟩ rfl hown5.size rfl) (by rw [hlen]; simp only [List.length_singleton]; omega) (by rw [hlen]; simp only [List.length_singleton]; omega) ?_)
            rintro v6 G6 H6 hle6 hown6
            have hsame := OwnP.sameS (hown5.push _) hle6 hown6 (H0 := H) (Hp.le_push' (Hp.le_trans hle hle5) _) hS4
            have hsameO := OwnP.sameO (hown5.push _) hle6 hown6
            have hs6 := hle6.1
            simp only [Hp.push_size] at hs6
            have hg62 := le_got hle6 (by simp; omega) (by intro e; cases e) ((Hp.push_old _ _ hgs5).trans hg52)
            have hg60 := le_got hle6 (by simp; omega) (by intro e; cases e) ((Hp.push_old _ _ (by omega)).trans hg50)
            have hg61 := le_got hle6 (by simp; omega) (by intro e; cases e) ((Hp.push_old _ _ (by omega)).trans hg51)
            have hg62H := le_got hown6.le (by omega) (by intro e; cases e) hg62
            obtain ⟨B', c', e6⟩ := hown6.shape
            rw [List.length_append, hlen, List.length_singleton] at e6
            subst e6
            refine ⟨t_pend, ?_⟩
            refine adr_val rfl rfl (av_fieldOff (off := 4) (by first | assumption | rfl) Try.underlying26 (by first | assumption | rfl) inf24.size (by decide) (by first | assumption | rfl)) t_lt ?_
            first | refine adr_op rfl rfl (aop_put1 rfl rfl rfl inf24.size t_get t_room rfl ?_)
            refine ⟨t_pend, ?_⟩
            refine ac_region (by kernel_rfl) ?_
            first | refine aops_val (av_move_int (by first | assumption | rfl)) ?_ | refine aops_val (av_move (by first | assumption | rfl)) ?_
            first | refine aops_val (av_add64 rfl rfl t_fits) ?_ | refine aops_val (av_add rfl rfl) ?_
            first | refine aops_val (av_assign_int rfl) ?_ | refine aops_val (av_assign rfl) ?_
            rw [show ((f.loops.take i).map (fun l => l.take 4)) ++ [f.loops[i].take 4] = ((f.loops.take (i + 1)).map (fun l => l.take 4)) by rw [← take_next hix, List.map_append]; rfl] at hown6
            have hleHG6 := Hp.le_trans (Hp.le_push' (Hp.le_trans hle hle5) _) hle6
            have hse := ((hle5.sees.push _).trans hle6.sees).trans (Hp.sees_box (cs' := [.slice BV nV cV, .slice O (f.order.take 8).length co, .slice Q (f.parent.take 8).length cq, .slice BL nL cL, .slice B' (i + 1) c']) _ hg62)
            exact ⟨f.loops.length - (i + 1), by omega, i + 1, G6.put b3 (.own 0 [.slice BV nV cV, .slice O (f.order.take 8).length co, .slice Q (f.parent.take 8).length cq, .slice BL nL cL, .slice B' (i + 1) c']), B', c', by omega, by omega, rfl, Hp.le_put_new hleHG6 (by omega) _, hown6.box_put hg62 _, by rw [Hp.put_other _ _ (by omega)]; exact hg60, by rw [Hp.put_other _ _ (by omega)]; exact hg61, Hp.put_same _ _ _, by simp; omega, so.mono hse, sp.mono hse, sv.mono hse, sl.mono hse, e1, e2, e3, rfl⟩
          · intro hc16
            (try simp only [decide_eq_true_eq, decide_eq_false_iff_not, Bool.not_eq_true', Bool.not_eq_false'] at hc16)
            refine ac_exit ?_
            refine ac_seq ?_
            refine ac_region (by kernel_rfl) ?_
            first | refine aops_val (av_loadN (cs := [.slice _ _ _, .slice _ _ _, .slice _ _ _, .slice _ _ _, .slice _ _ _]) (by first | assumption | rfl) Try.underlying26 (by first | assumption | rfl) inf26.size t_cells) ?_ | refine aops_val (av_loadN (cs := [_, _, _, _, _]) (by first | assumption | rfl) Try.underlying26 (by first | assumption | rfl) inf26.size t_cells) ?_
            first | refine aops_op (aop_putN (vs := [.slice _ _ _, .slice _ _ _, .slice _ _ _, .slice _ _ _, .slice _ _ _]) (by first | assumption | rfl) (by first | assumption | rfl) inf26.size t_get t_room (by first | assumption | rfl) (by first | assumption | rfl) ?_) | refine aops_op (aop_putN (vs := [_, _, _, _, _]) (by first | assumption | rfl) (by first | assumption | rfl) inf26.size t_get t_room (by first | assumption | rfl) (by first | assumption | rfl) ?_)
            refine ac_ret ?_
            have hfo : f.few.loops = (f.loops.take i).map (fun l => l.take 4) := take_map_few _ hi hi8 (by first | exact .inl (by omega) | exact .inr (by omega))
            have so5 := hown.sl
            rw [← hfo] at so5
            have hse := hown.le.sees
            have hbx : H1.sees (H1.put (H.size + 1) (.own 0 [.slice BV nV cV, .slice O (f.order.take 8).length co, .slice Q (f.parent.take 8).length cq, .slice BL nL cL, .slice B i c5])) := Hp.sees_box _ hh1
            exact ⟨.agg #[.slice BV nV cV, .slice O (f.order.take 8).length co, .slice Q (f.parent.take 8).length cq, .slice BL nL cL, .slice B i c5], aresult1 (ares_cell (by first | assumption | rfl) (aload_agg (cs := [.slice BV nV cV, .slice O (f.order.take 8).length co, .slice Q (f.parent.take 8).length cq, .slice BL nL cL, .slice B i c5]) Try.underlying26 rfl inf26.size t_cells)), Hp.le_put_new hleH1 (by omega) _, [.slice BV nV cV, .slice O (f.order.take 8).length co, .slice Q (f.parent.take 8).length cq, .slice BL nL cL, .slice B i c5], rfl, _, _, _, _, _, rfl, (sv.mono hse).mono hbx, (so.mono hse).mono hbx, (sp.mono hse).mono hbx, (sl.mono hse).mono hbx, so5.mono hbx⟩
        · intro hg15
          have hp15 := hg15; try simp only [decide_eq_true_eq, decide_eq_false_iff_not, Bool.not_eq_true', Bool.not_eq_false'] at hp15
          refine aops_skip (want_no rfl rfl rfl hg15 rfl) ?_
          refine aops_skip (want_no rfl rfl rfl hg15 rfl) ?_
          refine aops_val (av_pick_bool (congrArg Value.bool hg15) (by first | assumption | rfl)) ?_
          refine ac_cond_false rfl rfl ?_
          refine ac_exit ?_
          refine ac_seq ?_
          refine ac_region (by kernel_rfl) ?_
          first | refine aops_val (av_loadN (cs := [.slice _ _ _, .slice _ _ _, .slice _ _ _, .slice _ _ _, .slice _ _ _]) (by first | assumption | rfl) Try.underlying26 (by first | assumption | rfl) inf26.size t_cells) ?_ | refine aops_val (av_loadN (cs := [_, _, _, _, _]) (by first | assumption | rfl) Try.underlying26 (by first | assumption | rfl) inf26.size t_cells) ?_
          first | refine aops_op (aop_putN (vs := [.slice _ _ _, .slice _ _ _, .slice _ _ _, .slice _ _ _, .slice _ _ _]) (by first | assumption | rfl) (by first | assumption | rfl) inf26.size t_get t_room (by first | assumption | rfl) (by first | assumption | rfl) ?_) | refine aops_op (aop_putN (vs := [_, _, _, _, _]) (by first | assumption | rfl) (by first | assumption | rfl) inf26.size t_get t_room (by first | assumption | rfl) (by first | assumption | rfl) ?_)
          refine ac_ret ?_
          have hfo : f.few.loops = (f.loops.take i).map (fun l => l.take 4) := take_map_few _ hi hi8 (by first | exact .inl (by omega) | exact .inr (by omega))
          have so5 := hown.sl
          rw [← hfo] at so5
          have hse := hown.le.sees
          have hbx : H1.sees (H1.put (H.size + 1) (.own 0 [.slice BV nV cV, .slice O (f.order.take 8).length co, .slice Q (f.parent.take 8).length cq, .slice BL nL cL, .slice B i c5])) := Hp.sees_box _ hh1
          exact ⟨.agg #[.slice BV nV cV, .slice O (f.order.take 8).length co, .slice Q (f.parent.take 8).length cq, .slice BL nL cL, .slice B i c5], aresult1 (ares_cell (by first | assumption | rfl) (aload_agg (cs := [.slice BV nV cV, .slice O (f.order.take 8).length co, .slice Q (f.parent.take 8).length cq, .slice BL nL cL, .slice B i c5]) Try.underlying26 rfl inf26.size t_cells)), Hp.le_put_new hleH1 (by omega) _, [.slice BV nV cV, .slice O (f.order.take 8).length co, .slice Q (f.parent.take 8).length cq, .slice BL nL cL, .slice B i c5], rfl, _, _, _, _, _, rfl, (sv.mono hse).mono hbx, (so.mono hse).mono hbx, (sp.mono hse).mono hbx, (sl.mono hse).mono hbx, so5.mono hbx⟩
    · intro hg13
      have hp13 := hg13; try simp only [decide_eq_true_eq, decide_eq_false_iff_not, Bool.not_eq_true', Bool.not_eq_false'] at hp13
      refine aops_skip (want_no rfl rfl rfl hg13 rfl) ?_
      refine aops_skip (want_no rfl rfl rfl hg13 rfl) ?_
      refine aops_val (av_pick_bool (congrArg Value.bool hg13) (by first | assumption | rfl)) ?_
      refine ac_cond_false rfl rfl ?_
      refine ac_exit ?_
      refine ac_seq ?_
      refine ac_seq ?_
      have hfl : f.few.links = (f.links.take i).map (fun l => l.take 4) := take_map_few _ hi hi8 (by first | exact .inl (by omega) | exact .inr (by omega))
      have sl := hown.sl
      rw [← hfl] at sl
      have so := so.mono hown.le.sees
      have sp := sp.mono hown.le.sees
      have sv := sv.mono hown.le.sees
      generalize hB3 : B = BL at sl hh2
      generalize hc3 : c5 = cL at sl hh2
      generalize hn3 : i = nL at sl hh2
      refine ac_region (by kernel_rfl) ?_
      first | refine aops_val (av_assign_int rfl) ?_ | refine aops_val (av_assign rfl) ?_
      refine ac_block ?_
      refine ac_loop (fun n t H' => ∃ (i : Nat) (G : Hp) (B : Option Addr) (c5 : Nat), i ≤ f.loops.length ∧ i ≤ 8 ∧ n = f.loops.length - i ∧ H.le G ∧ OwnP (kSl (kInt .i64)) G H' (.slice B i c5) ((f.loops.take i).map (fun l => l.take 4)) ∧ G.get H.size = .own 0 [.slice A0 f.vars.length c0, .slice A1 f.order.length c1, .slice A2 f.parent.length c2, .slice A3 f.links.length c3, .slice A4 f.loops.length c4] ∧ G.get (H.size + 1) = .own 0 [.slice none 0 0, .slice none 0 0, .slice none 0 0, .slice none 0 0, .slice none 0 0] ∧ G.get b3 = .own 0 [.slice BV nV cV, .slice O (f.order.take 8).length co, .slice Q (f.parent.take 8).length cq, .slice BL nL cL, .slice B i c5] ∧ b3 < G.size ∧ Sl (kInt .i64) G (.slice O (f.order.take 8).length co) (f.order.take 8) ∧ Sl (kInt .i64) G (.slice Q (f.parent.take 8).length cq) (f.parent.take 8) ∧ Sl kStr G (.slice BV nV cV) f.few.vars ∧ Sl (kSl (kInt .i64)) G (.slice BL nL cL) f.few.links ∧ t 1 = .pointer (some ⟨H.size, 0, none⟩) ∧ t 2 = .pointer (some ⟨H.size + 1, 0, none⟩) ∧ t 3 = .pointer (some ⟨b3, 0, none⟩) ∧ t 6 = .int .i64 i) (f.loops.length) (⟨0, H1, _, _, by omega, by omega, rfl, hleH1, OwnP.nil _ _, hh0, hh1, hh2, by omega, so, sp, sv, sl, e1, e2, e3, rfl⟩) ?_
      rintro n t H1 ⟨i, G, B, c5, hi, hi8, rfl, hle, hown, kb0, kb1, kb2, hgs, so, sp, sv, sl, e1, e2, e3, e4⟩
      have hz := hown.size
      have hleH1 := Hp.le_trans hle hown.le
      have hh0 := le_got hown.le (by omega) (by intro e; cases e) kb0
      have hh1 := le_got hown.le (by omega) (by intro e; cases e) kb1
      have hh2 := le_got hown.le hgs (by intro e; cases e) kb2
      have hlen : ((f.loops.take i).map (fun l => l.take 4)).length = i := by rw [List.length_map, List.length_take]; omega
      refine ac_seq ?_
      refine ac_seq ?_
      refine ac_region (by kernel_rfl) ?_
      first | refine aops_val (av_move_int (by first | assumption | rfl)) ?_ | refine aops_val (av_move (by first | assumption | rfl)) ?_
      refine aops_val (av_fieldOff (off := 4) (by first | assumption | rfl) Try.underlying26 (by first | assumption | rfl) inf24.size (by decide) (by first | assumption | rfl)) ?_
      refine aops_val (av_load1 rfl Try.underlying24 rfl t_cell) ?_
      refine aops_val (av_len rfl Try.underlying24) ?_
      refine aops_val (av_lt rfl rfl) ?_
      first | refine aops_val (av_move_bool rfl) ?_ | refine aops_val (av_move rfl) ?_
      refine aops_guard rfl rfl rfl ?_ ?_
      · intro hg19
        have hp19 := hg19; try simp only [decide_eq_true_eq, decide_eq_false_iff_not, Bool.not_eq_true', Bool.not_eq_false'] at hp19
        first | refine aops_wval (want_yes rfl rfl rfl hg19) (av_move_int (by first | assumption | rfl)) ?_ | refine aops_wval (want_yes rfl rfl rfl hg19) (av_move (by first | assumption | rfl)) ?_
        refine aops_wval (want_yes rfl rfl rfl hg19) (av_lt rfl rfl) ?_
        refine aops_val (av_pick_bool (congrArg Value.bool hg19) rfl) ?_
        refine ac_split rfl rfl ?_ ?_
        · intro hc20
          (try simp only [decide_eq_true_eq, decide_eq_false_iff_not, Bool.not_eq_true', Bool.not_eq_false'] at hc20)
          refine ac_skip ?_
          refine ac_seq ?_
          refine ac_block ?_
          have hix : i < f.loops.length := by omega
          obtain ⟨b, o, rfl, _, hb4, hcut, hx4⟩ := hs4.place (by omega)
          obtain ⟨cs, hr0, hcell0⟩ := hx4 i _ (List.getElem?_eq_getElem hix)
          obtain ⟨u, rfl, hu⟩ := hr0
          obtain ⟨A6, c6, rfl⟩ := hu.shape
          have hcell1 := (hleH1.cells hb4 hcell0).one
          have hdd := Blk.cut_ne hcut
          have hS4 : ∀ x ∈ [b], x < H.size ∧ H.get x ≠ .dead := fun x hx => by simp at hx; subst hx; exact ⟨hb4, hdd⟩
          have hbH : b < H1.size := by omega
          refine ac_draw (by kernel_rfl) (reg_of (B := [0, 1, 0, 4, 0, 28, 60, 124, 252, 511, 1023, 2047]) (π := [0, 1, 2, 3, 4, 5, 6, 7, 8, 9, 10, 11]) (by kernel_rfl)) ?_
          refine adr_val rfl rfl (av_fieldOff (off := 4) (by first | assumption | rfl) Try.underlying26 (by first | assumption | rfl) inf24.size (by decide) (by first | assumption | rfl)) t_lt ?_
          refine adr_val rfl rfl (av_load1 rfl Try.underlying24 rfl t_cell) t_lt ?_
          refine adr_val rfl rfl (av_fieldOff (off := 4) (by first | assumption | rfl) Try.underlying26 (by first | assumption | rfl) inf24.size (by decide) (by first | assumption | rfl)) t_lt ?_
          refine adr_val rfl rfl (av_load1 rfl Try.underlying24 rfl t_cell) t_lt ?_
          first | refine adr_val rfl rfl (av_move_int (by first | assumption | rfl)) t_lt ?_ | refine adr_val rfl rfl (av_move (by first | assumption | rfl)) t_lt ?_
          refine adr_val rfl rfl (av_indexAddr rfl rfl Try.underlying24 inf23.size t_idx t_idx) t_lt ?_
          refine adr_val rfl rfl (av_load1 rfl Try.underlying23 rfl t_cell) t_lt ?_
          refine adr_op rfl rfl (aop_call (hown.calls (Few_ints f.loops[i] _ 4 _ (hu.mono hle.sees) (hnloops _ (List.getElem_mem hix)) (by omega) (by omega)) (fun r G' h => h.1)) rfl Try.func10 rfl rfl rfl ?_)
          rintro v5 H5 ⟨G5, ⟨hle5, hs5⟩, hown5, hleH5⟩; rw [show (4 : Int).toNat = 4 from rfl] at hs5; have hz5 := hleH5.1; have hsame : ∀ x ∈ [b], H5.get x = H1.get x := (fun x hx => hleH5.2 x (by simp at hx; omega) (by rw [hleH1.2 x (hS4 x hx).1 (hS4 x hx).2]; exact (hS4 x hx).2)); obtain ⟨A5, c50, rfl⟩ := hs5.shape
          refine ⟨t_pend, ?_⟩
          first | refine adr_make rfl rfl (am_buildSlice (r := [.slice _ _ _]) Try.underlying24 inf23.size inf23.zero rfl (by decide) (by decide) (by decide) rfl) ?_ | refine adr_make rfl rfl (am_buildSlice (r := [_]) Try.underlying24 inf23.size inf23.zero rfl (by decide) (by decide) (by decide) rfl) ?_
          have hX := trivial
          have hg52 := le_got hle5 hgs (by intro e; cases e) kb2
          have hg50 := le_got hle5 (by omega) (by intro e; cases e) kb0
          have hg51 := le_got hle5 (by omega) (by intro e; cases e) kb1
          have hgs5 : b3 < G5.size := Nat.lt_of_lt_of_le hgs hle5.1
          refine adr_op rfl rfl (OwnP.append (ys := [f.loops[i].take 4]) (hown5.push _) Try.underlying24 inf23 rfl rfl rfl (sl_one (k := (kSl (kInt .i64))) ⟨_, rfl, hs5⟩ rfl hown5.size rfl) (by rw [hlen]; simp only [List.length_singleton]; omega) (by rw [hlen]; simp only [List.length_singleton]; omega) ?_)
          rintro v6 G6 H6 hle6 hown6
          have hsame := OwnP.sameS (hown5.push _) hle6 hown6 (H0 := H) (Hp.le_push' (Hp.le_trans hle hle5) _) hS4
          have hsameO := OwnP.sameO (hown5.push _) hle6 hown6
          have hs6 := hle6.1
          simp only [Hp.push_size] at hs6
          have hg62 := le_got hle6 (by simp; omega) (by intro e; cases e) ((Hp.push_old _ _ hgs5).trans hg52)
          have hg60 := le_got hle6 (by simp; omega) (by intro e; cases e) ((Hp.push_old _ _ (by omega)).trans hg50)
          have hg61 := le_got hle6 (by simp; omega) (by intro e; cases e) ((Hp.push_old _ _ (by omega)).trans hg51)
          have hg62H := le_got hown6.le (by omega) (by intro e; cases e) hg62
          obtain ⟨B', c', e6⟩ := hown6.shape
          rw [List.length_append, hlen, List.length_singleton] at e6
          subst e6
          refine ⟨t_pend, ?_⟩
          refine adr_val rfl rfl (av_fieldOff (off := 4) (by first | assumption | rfl) Try.underlying26 (by first | assumption | rfl) inf24.size (by decide) (by first | assumption | rfl)) t_lt ?_
          first | refine adr_op rfl rfl (aop_put1 rfl rfl rfl inf24.size t_get t_room rfl ?_)
          refine ⟨t_pend, ?_⟩
          refine ac_region (by kernel_rfl) ?_
          first | refine aops_val (av_move_int (by first | assumption | rfl)) ?_ | refine aops_val (av_move (by first | assumption | rfl)) ?_
          first | refine aops_val (av_add64 rfl rfl t_fits) ?_ | refine aops_val (av_add rfl rfl) ?_
          first | refine aops_val (av_assign_int rfl) ?_ | refine aops_val (av_assign rfl) ?_
          rw [show ((f.loops.take i).map (fun l => l.take 4)) ++ [f.loops[i].take 4] = ((f.loops.take (i + 1)).map (fun l => l.take 4)) by rw [← take_next hix, List.map_append]; rfl] at hown6
          have hleHG6 := Hp.le_trans (Hp.le_push' (Hp.le_trans hle hle5) _) hle6
          have hse := ((hle5.sees.push _).trans hle6.sees).trans (Hp.sees_box (cs' := [.slice BV nV cV, .slice O (f.order.take 8).length co, .slice Q (f.parent.take 8).length cq, .slice BL nL cL, .slice B' (i + 1) c']) _ hg62)
          exact ⟨f.loops.length - (i + 1), by omega, i + 1, G6.put b3 (.own 0 [.slice BV nV cV, .slice O (f.order.take 8).length co, .slice Q (f.parent.take 8).length cq, .slice BL nL cL, .slice B' (i + 1) c']), B', c', by omega, by omega, rfl, Hp.le_put_new hleHG6 (by omega) _, hown6.box_put hg62 _, by rw [Hp.put_other _ _ (by omega)]; exact hg60, by rw [Hp.put_other _ _ (by omega)]; exact hg61, Hp.put_same _ _ _, by simp; omega, so.mono hse, sp.mono hse, sv.mono hse, sl.mono hse, e1, e2, e3, rfl⟩
        · intro hc20
          (try simp only [decide_eq_true_eq, decide_eq_false_iff_not, Bool.not_eq_true', Bool.not_eq_false'] at hc20)
          refine ac_exit ?_
          refine ac_seq ?_
          refine ac_region (by kernel_rfl) ?_
          first | refine aops_val (av_loadN (cs := [.slice _ _ _, .slice _ _ _, .slice _ _ _, .slice _ _ _, .slice _ _ _]) (by first | assumption | rfl) Try.underlying26 (by first | assumption | rfl) inf26.size t_cells) ?_ | refine aops_val (av_loadN (cs := [_, _, _, _, _]) (by first | assumption | rfl) Try.underlying26 (by first | assumption | rfl) inf26.size t_cells) ?_
          first | refine aops_op (aop_putN (vs := [.slice _ _ _, .slice _ _ _, .slice _ _ _, .slice _ _ _, .slice _ _ _]) (by first | assumption | rfl) (by first | assumption | rfl) inf26.size t_get t_room (by first | assumption | rfl) (by first | assumption | rfl) ?_) | refine aops_op (aop_putN (vs := [_, _, _, _, _]) (by first | assumption | rfl) (by first | assumption | rfl) inf26.size t_get t_room (by first | assumption | rfl) (by first | assumption | rfl) ?_)
          refine ac_ret ?_
          have hfo : f.few.loops = (f.loops.take i).map (fun l => l.take 4) := take_map_few _ hi hi8 (by first | exact .inl (by omega) | exact .inr (by omega))
          have so5 := hown.sl
          rw [← hfo] at so5
          have hse := hown.le.sees
          have hbx : H1.sees (H1.put (H.size + 1) (.own 0 [.slice BV nV cV, .slice O (f.order.take 8).length co, .slice Q (f.parent.take 8).length cq, .slice BL nL cL, .slice B i c5])) := Hp.sees_box _ hh1
          exact ⟨.agg #[.slice BV nV cV, .slice O (f.order.take 8).length co, .slice Q (f.parent.take 8).length cq, .slice BL nL cL, .slice B i c5], aresult1 (ares_cell (by first | assumption | rfl) (aload_agg (cs := [.slice BV nV cV, .slice O (f.order.take 8).length co, .slice Q (f.parent.take 8).length cq, .slice BL nL cL, .slice B i c5]) Try.underlying26 rfl inf26.size t_cells)), Hp.le_put_new hleH1 (by omega) _, [.slice BV nV cV, .slice O (f.order.take 8).length co, .slice Q (f.parent.take 8).length cq, .slice BL nL cL, .slice B i c5], rfl, _, _, _, _, _, rfl, (sv.mono hse).mono hbx, (so.mono hse).mono hbx, (sp.mono hse).mono hbx, (sl.mono hse).mono hbx, so5.mono hbx⟩
      · intro hg19
        have hp19 := hg19; try simp only [decide_eq_true_eq, decide_eq_false_iff_not, Bool.not_eq_true', Bool.not_eq_false'] at hp19
        refine aops_skip (want_no rfl rfl rfl hg19 rfl) ?_
        refine aops_skip (want_no rfl rfl rfl hg19 rfl) ?_
        refine aops_val (av_pick_bool (congrArg Value.bool hg19) (by first | assumption | rfl)) ?_
        refine ac_cond_false rfl rfl ?_
        refine ac_exit ?_
        refine ac_seq ?_
        refine ac_region (by kernel_rfl) ?_
        first | refine aops_val (av_loadN (cs := [.slice _ _ _, .slice _ _ _, .slice _ _ _, .slice _ _ _, .slice _ _ _]) (by first | assumption | rfl) Try.underlying26 (by first | assumption | rfl) inf26.size t_cells) ?_ | refine aops_val (av_loadN (cs := [_, _, _, _, _]) (by first | assumption | rfl) Try.underlying26 (by first | assumption | rfl) inf26.size t_cells) ?_
        first | refine aops_op (aop_putN (vs := [.slice _ _ _, .slice _ _ _, .slice _ _ _, .slice _ _ _, .slice _ _ _]) (by first | assumption | rfl) (by first | assumption | rfl) inf26.size t_get t_room (by first | assumption | rfl) (by first | assumption | rfl) ?_) | refine aops_op (aop_putN (vs := [_, _, _, _, _]) (by first | assumption | rfl) (by first | assumption | rfl) inf26.size t_get t_room (by first | assumption | rfl) (by first | assumption | rfl) ?_)
        refine ac_ret ?_
        have hfo : f.few.loops = (f.loops.take i).map (fun l => l.take 4) := take_map_few _ hi hi8 (by first | exact .inl (by omega) | exact .inr (by omega))
        have so5 := hown.sl
        rw [← hfo] at so5
        have hse := hown.le.sees
        have hbx : H1.sees (H1.put (H.size + 1) (.own 0 [.slice BV nV cV, .slice O (f.order.take 8).length co, .slice Q (f.parent.take 8).length cq, .slice BL nL cL, .slice B i c5])) := Hp.sees_box _ hh1
        exact ⟨.agg #[.slice BV nV cV, .slice O (f.order.take 8).length co, .slice Q (f.parent.take 8).length cq, .slice BL nL cL, .slice B i c5], aresult1 (ares_cell (by first | assumption | rfl) (aload_agg (cs := [.slice BV nV cV, .slice O (f.order.take 8).length co, .slice Q (f.parent.take 8).length cq, .slice BL nL cL, .slice B i c5]) Try.underlying26 rfl inf26.size t_cells)), Hp.le_put_new hleH1 (by omega) _, [.slice BV nV cV, .slice O (f.order.take 8).length co, .slice Q (f.parent.take 8).length cq, .slice BL nL cL, .slice B i c5], rfl, _, _, _, _, _, rfl, (sv.mono hse).mono hbx, (so.mono hse).mono hbx, (sp.mono hse).mono hbx, (sl.mono hse).mono hbx, so5.mono hbx⟩
end Go.Proofs.Ytcaeoebphfjfiaa.Am


/- Good forests. -/
namespace Go.Proofs.Ytcaeoebphfjfiaa.Am
open Go Go.RowKit
set_option maxRecDepth 100000
set_option linter.unusedVariables false
set_option linter.unusedSimpArgs false

theorem has_raw (xs : List Int) (v : Value) (m : Int) (H : Hp) (hs : Sl (kInt .i64) H v xs) (hl : xs.length ≤ 9223372036854775807) :
    ACalls Try.prog 80 #[v, .int .i64 m] H (fun r _ => r = .bool (decide (m ∈ xs))) := by
  obtain ⟨A, c, rfl⟩ := hs.shape
  refine acalls_of_code Try.func80 rfl rfl rfl (by simp) ?_
  refine ac_seq ?_
  refine ac_region (by kernel_rfl) ?_
  first | refine aops_val (av_assign_bool rfl) ?_ | refine aops_val (av_assign rfl) ?_
  refine ac_seq ?_
  refine ac_seq ?_
  refine ac_region (by kernel_rfl) ?_
  first | refine aops_val (av_assign_int rfl) ?_ | refine aops_val (av_assign rfl) ?_
  refine ac_block ?_
  refine ac_loop (fun n t H' => ∃ i : Nat, i ≤ xs.length ∧ n = xs.length - i ∧ H' = H ∧ m ∉ xs.take i ∧ t 0 = .slice A xs.length c ∧ t 1 = .int .i64 m ∧ t 5 = .int .i64 i) (xs.length) (⟨0, by omega, rfl, rfl, by simp, rfl, rfl, rfl⟩) ?_
  rintro n t _ ⟨i, hi, rfl, rfl, hno, e0, e1, e5⟩
  refine ac_seq ?_
  refine ac_seq ?_
  refine ac_region (by kernel_rfl) ?_
  first | refine aops_val (av_move_int (by first | assumption | rfl)) ?_ | refine aops_val (av_move (by first | assumption | rfl)) ?_
  first | refine aops_val (av_move_sl (by first | assumption | rfl)) ?_ | refine aops_val (av_move (by first | assumption | rfl)) ?_
  refine aops_val (av_len rfl Try.underlying23) ?_
  refine aops_val (av_lt rfl rfl) ?_
  refine ac_split rfl rfl ?_ ?_
  · intro hc1
    (try simp only [decide_eq_true_eq, decide_eq_false_iff_not, Bool.not_eq_true', Bool.not_eq_false'] at hc1)
    refine ac_skip ?_
    refine ac_seq ?_
    refine ac_block ?_
    refine ac_seq ?_
    refine ac_region (by kernel_rfl) ?_
    first | refine aops_val (av_move_sl (by first | assumption | rfl)) ?_ | refine aops_val (av_move (by first | assumption | rfl)) ?_
    first | refine aops_val (av_move_int (by first | assumption | rfl)) ?_ | refine aops_val (av_move (by first | assumption | rfl)) ?_
    have hix : i < xs.length := by omega
    obtain ⟨b, o, rfl, hb, hcell1⟩ := hs.int_at (i := (i : Int)) (by omega) (by omega)
    have hgi : xs.getD (i : Int).toNat 0 = xs[i] := by rw [Int.toNat_natCast]; exact getD_at hix
    refine aops_val (av_indexAddr rfl rfl Try.underlying23 inf3.size t_idx t_idx) ?_
    refine aops_val (av_load1 rfl Try.underlying3 rfl t_cell) ?_
    first | refine aops_val (av_move_int (by first | assumption | rfl)) ?_ | refine aops_val (av_move (by first | assumption | rfl)) ?_
    refine aops_val (av_eq rfl rfl) ?_
    refine ac_split rfl rfl ?_ ?_
    · intro hc2
      (try simp only [decide_eq_true_eq, decide_eq_false_iff_not, Bool.not_eq_true', Bool.not_eq_false'] at hc2)
      refine ac_seq ?_
      refine ac_region (by kernel_rfl) ?_
      first | refine aops_val (av_assign_bool rfl) ?_ | refine aops_val (av_assign rfl) ?_
      refine ac_ret ?_
      refine ⟨.bool true, aresult1 (ares_tmp rfl), ?_⟩
      have e : xs.getD (i : Int).toNat 0 = m := by simp_all
      rw [decide_eq_true]; rw [← e, hgi]; exact List.getElem_mem _
    · intro hc2
      have hne : xs[i] ≠ m := by rw [← hgi]; simpa using hc2
      refine ac_skip ?_
      refine ac_region (by kernel_rfl) ?_
      first | refine aops_val (av_move_int (by first | assumption | rfl)) ?_ | refine aops_val (av_move (by first | assumption | rfl)) ?_
      first | refine aops_val (av_add64 rfl rfl t_fits) ?_ | refine aops_val (av_add rfl rfl) ?_
      first | refine aops_val (av_assign_int rfl) ?_ | refine aops_val (av_assign rfl) ?_
      exact ⟨xs.length - (i + 1), by omega, i + 1, by omega, rfl, rfl, by rw [← take_next hix]; simp only [List.mem_append, List.mem_singleton, not_or]; exact ⟨hno, fun e => hne e.symm⟩, e0, e1, rfl⟩
  · intro hc1
    (try simp only [decide_eq_true_eq, decide_eq_false_iff_not, Bool.not_eq_true', Bool.not_eq_false'] at hc1)
    refine ac_exit ?_
    refine ac_seq ?_
    refine ac_region (by kernel_rfl) ?_
    first | refine aops_val (av_assign_bool rfl) ?_ | refine aops_val (av_assign rfl) ?_
    refine ac_ret ?_
    refine ⟨.bool false, aresult1 (ares_tmp rfl), ?_⟩
    rw [List.take_of_length_le (by omega)] at hno
    rw [decide_eq_false hno]
theorem has_ints (xs : List Int) (v : Value) (m : Int) (H : Hp) (hs : Sl (kInt .i64) H v xs) (hl : xs.length ≤ 9223372036854775807) :
    ACalls Try.prog 80 #[v, .int .i64 m] H (fun r H' => r = .bool (decide (m ∈ xs)) ∧ H' = H) :=
  ACalls.pure (fun v h => by rw [h]; rfl) (has_raw xs v m H.ro (hs.mono H.sees_ro) hl)
/-- What is asked of a forest's i-th variable. -/
def OkF (f : Forest) (i : Nat) : Prop := 0 ≤ f.order.getD i 0 ∧ f.order.getD i 0 < f.vars.length ∧ f.order.getD i 0 ∉ f.order.take i ∧ (f.parent.getD (f.order.getD i 0).toNat 0 = -1 ∨ f.parent.getD (f.order.getD i 0).toNat 0 ∈ f.order.take i)
structure GoodF (f : Forest) : Prop where
  l1 : f.order.length = f.vars.length
  l2 : f.parent.length = f.vars.length
  l3 : f.links.length = f.vars.length
  l4 : f.loops.length = f.vars.length
  ok : ∀ i, i < f.vars.length → OkF f i
theorem GoodF_ref_raw (f : Forest) (cs : List Value) (H : Hp) (hp : kForest.rep H f cs) (hl0 : f.vars.length ≤ 1000000) (hl1 : f.order.length ≤ 1000000) (hl2 : f.parent.length ≤ 1000000) :
    ACalls Try.prog 54 #[.agg cs.toArray] H (fun r _ => ∃ g, r = .bool g ∧ (g = true ↔ GoodF f)) := by
  obtain ⟨v0, v1, v2, v3, v4, rfl, hs0, hs1, hs2, hs3, hs4⟩ := hp
  obtain ⟨A0, c0, rfl⟩ := hs0.shape
  obtain ⟨A1, c1, rfl⟩ := hs1.shape
  obtain ⟨A2, c2, rfl⟩ := hs2.shape
  obtain ⟨A3, c3, rfl⟩ := hs3.shape
  obtain ⟨A4, c4, rfl⟩ := hs4.shape
  refine acalls_of_code Try.func54 rfl rfl rfl (by simp) ?_
  refine ac_seq ?_
  refine ac_region (by kernel_rfl) ?_
  refine aops_make (am_box_agg rfl) ?_
  first | refine aops_val (av_assign_bool rfl) ?_ | refine aops_val (av_assign rfl) ?_
  refine ac_seq ?_
  refine ac_region (by kernel_rfl) ?_
  refine aops_val (av_fieldOff (off := 0) rfl Try.underlying26 rfl inf22.size (by decide) rfl) ?_
  refine aops_val (av_load1 rfl Try.underlying22 rfl t_cell) ?_
  refine aops_val (av_len rfl Try.underlying22) ?_
  first | refine aops_val (av_assign_int rfl) ?_ | refine aops_val (av_assign rfl) ?_
  refine ac_seq ?_
  refine ac_seq ?_
  refine ac_region (by kernel_rfl) ?_
  refine aops_val (av_fieldOff (off := 1) rfl Try.underlying26 rfl inf23.size (by decide) rfl) ?_
  refine aops_val (av_load1 rfl Try.underlying23 rfl t_cell) ?_
  refine aops_val (av_len rfl Try.underlying23) ?_
  first | refine aops_val (av_move_int rfl) ?_ | refine aops_val (av_move rfl) ?_
  refine aops_val (av_ne rfl rfl) ?_
  first | refine aops_val (av_move_bool rfl) ?_ | refine aops_val (av_move rfl) ?_
  refine aops_guard rfl rfl rfl ?_ ?_
  · intro hg1
    have hp1 := hg1; try simp only [decide_eq_true_eq, decide_eq_false_iff_not, Bool.not_eq_true', Bool.not_eq_false'] at hp1
    refine aops_skip (want_no rfl rfl rfl hg1 rfl) ?_
    refine aops_skip (want_no rfl rfl rfl hg1 rfl) ?_
    refine aops_skip (want_no rfl rfl rfl hg1 rfl) ?_
    refine aops_skip (want_no rfl rfl rfl hg1 rfl) ?_
    refine aops_skip (want_no rfl rfl rfl hg1 rfl) ?_
    refine aops_val (av_pick_bool (congrArg Value.bool hg1) rfl) ?_
    first | refine aops_val (av_move_bool rfl) ?_ | refine aops_val (av_move rfl) ?_
    refine aops_skip (want_no rfl rfl rfl rfl rfl) ?_
    refine aops_skip (want_no rfl rfl rfl rfl rfl) ?_
    refine aops_skip (want_no rfl rfl rfl rfl rfl) ?_
    refine aops_skip (want_no rfl rfl rfl rfl rfl) ?_
    refine aops_skip (want_no rfl rfl rfl rfl rfl) ?_
    refine aops_val (av_pick_bool (congrArg Value.bool rfl) rfl) ?_
    first | refine aops_val (av_move_bool rfl) ?_ | refine aops_val (av_move rfl) ?_
    refine aops_skip (want_no rfl rfl rfl rfl rfl) ?_
    refine aops_skip (want_no rfl rfl rfl rfl rfl) ?_
    refine aops_skip (want_no rfl rfl rfl rfl rfl) ?_
    refine aops_skip (want_no rfl rfl rfl rfl rfl) ?_
    refine aops_skip (want_no rfl rfl rfl rfl rfl) ?_
    refine aops_val (av_pick_bool (congrArg Value.bool rfl) rfl) ?_
    refine ac_cond_true rfl rfl ?_
    refine ac_seq ?_
    refine ac_region (by kernel_rfl) ?_
    first | refine aops_val (av_assign_bool rfl) ?_ | refine aops_val (av_assign rfl) ?_
    refine ac_ret ?_
    refine ⟨.bool false, aresult1 (ares_tmp rfl), false, rfl, fun h => (by cases h), fun hG => ?_⟩
    exfalso
    have q1 := hG.l1; have q2 := hG.l2; have q3 := hG.l3; have q4 := hG.l4
    first | omega | simp_all
  · intro hg1
    have hp1 := hg1; try simp only [decide_eq_true_eq, decide_eq_false_iff_not, Bool.not_eq_true', Bool.not_eq_false'] at hp1
    refine aops_wval (want_yes rfl rfl rfl hg1) (av_fieldOff (off := 2) rfl Try.underlying26 rfl inf23.size (by decide) rfl) ?_
    refine aops_wval (want_yes rfl rfl rfl hg1) (av_load1 rfl Try.underlying23 rfl t_cell) ?_
    refine aops_wval (want_yes rfl rfl rfl hg1) (av_len rfl Try.underlying23) ?_
    first | refine aops_wval (want_yes rfl rfl rfl hg1) (av_move_int rfl) ?_ | refine aops_wval (want_yes rfl rfl rfl hg1) (av_move rfl) ?_
    refine aops_wval (want_yes rfl rfl rfl hg1) (av_ne rfl rfl) ?_
    refine aops_val (av_pick_bool (congrArg Value.bool hg1) rfl) ?_
    first | refine aops_val (av_move_bool rfl) ?_ | refine aops_val (av_move rfl) ?_
    refine aops_guard rfl rfl rfl ?_ ?_
    · intro hg3
      have hp3 := hg3; try simp only [decide_eq_true_eq, decide_eq_false_iff_not, Bool.not_eq_true', Bool.not_eq_false'] at hp3
      refine aops_skip (want_no rfl rfl rfl hg3 rfl) ?_
      refine aops_skip (want_no rfl rfl rfl hg3 rfl) ?_
      refine aops_skip (want_no rfl rfl rfl hg3 rfl) ?_
      refine aops_skip (want_no rfl rfl rfl hg3 rfl) ?_
      refine aops_skip (want_no rfl rfl rfl hg3 rfl) ?_
      refine aops_val (av_pick_bool (congrArg Value.bool hg3) rfl) ?_
      first | refine aops_val (av_move_bool rfl) ?_ | refine aops_val (av_move rfl) ?_
      refine aops_skip (want_no rfl rfl rfl rfl rfl) ?_
      refine aops_skip (want_no rfl rfl rfl rfl rfl) ?_
      refine aops_skip (want_no rfl rfl rfl rfl rfl) ?_
      refine aops_skip (want_no rfl rfl rfl rfl rfl) ?_
      refine aops_skip (want_no rfl rfl rfl rfl rfl) ?_
      refine aops_val (av_pick_bool (congrArg Value.bool rfl) rfl) ?_
      refine ac_cond_true rfl rfl ?_
      refine ac_seq ?_
      refine ac_region (by kernel_rfl) ?_
      first | refine aops_val (av_assign_bool rfl) ?_ | refine aops_val (av_assign rfl) ?_
      refine ac_ret ?_
      refine ⟨.bool false, aresult1 (ares_tmp rfl), false, rfl, fun h => (by cases h), fun hG => ?_⟩
      exfalso
      have q1 := hG.l1; have q2 := hG.l2; have q3 := hG.l3; have q4 := hG.l4
      first | omega | simp_all
    · intro hg3
      have hp3 := hg3; try simp only [decide_eq_true_eq, decide_eq_false_iff_not, Bool.not_eq_true', Bool.not_eq_false'] at hp3
      refine aops_wval (want_yes rfl rfl rfl hg3) (av_fieldOff (off := 3) rfl Try.underlying26 rfl inf24.size (by decide) rfl) ?_
      refine aops_wval (want_yes rfl rfl rfl hg3) (av_load1 rfl Try.underlying24 rfl t_cell) ?_
      refine aops_wval (want_yes rfl rfl rfl hg3) (av_len rfl Try.underlying24) ?_
      first | refine aops_wval (want_yes rfl rfl rfl hg3) (av_move_int rfl) ?_ | refine aops_wval (want_yes rfl rfl rfl hg3) (av_move rfl) ?_
      refine aops_wval (want_yes rfl rfl rfl hg3) (av_ne rfl rfl) ?_
      refine aops_val (av_pick_bool (congrArg Value.bool hg3) rfl) ?_
      first | refine aops_val (av_move_bool rfl) ?_ | refine aops_val (av_move rfl) ?_
      refine aops_guard rfl rfl rfl ?_ ?_
      · intro hg5
        have hp5 := hg5; try simp only [decide_eq_true_eq, decide_eq_false_iff_not, Bool.not_eq_true', Bool.not_eq_false'] at hp5
        refine aops_skip (want_no rfl rfl rfl hg5 rfl) ?_
        refine aops_skip (want_no rfl rfl rfl hg5 rfl) ?_
        refine aops_skip (want_no rfl rfl rfl hg5 rfl) ?_
        refine aops_skip (want_no rfl rfl rfl hg5 rfl) ?_
        refine aops_skip (want_no rfl rfl rfl hg5 rfl) ?_
        refine aops_val (av_pick_bool (congrArg Value.bool hg5) rfl) ?_
        refine ac_cond_true rfl rfl ?_
        refine ac_seq ?_
        refine ac_region (by kernel_rfl) ?_
        first | refine aops_val (av_assign_bool rfl) ?_ | refine aops_val (av_assign rfl) ?_
        refine ac_ret ?_
        refine ⟨.bool false, aresult1 (ares_tmp rfl), false, rfl, fun h => (by cases h), fun hG => ?_⟩
        exfalso
        have q1 := hG.l1; have q2 := hG.l2; have q3 := hG.l3; have q4 := hG.l4
        first | omega | simp_all
      · intro hg5
        have hp5 := hg5; try simp only [decide_eq_true_eq, decide_eq_false_iff_not, Bool.not_eq_true', Bool.not_eq_false'] at hp5
        refine aops_wval (want_yes rfl rfl rfl hg5) (av_fieldOff (off := 4) rfl Try.underlying26 rfl inf24.size (by decide) rfl) ?_
        refine aops_wval (want_yes rfl rfl rfl hg5) (av_load1 rfl Try.underlying24 rfl t_cell) ?_
        refine aops_wval (want_yes rfl rfl rfl hg5) (av_len rfl Try.underlying24) ?_
        first | refine aops_wval (want_yes rfl rfl rfl hg5) (av_move_int rfl) ?_ | refine aops_wval (want_yes rfl rfl rfl hg5) (av_move rfl) ?_
        refine aops_wval (want_yes rfl rfl rfl hg5) (av_ne rfl rfl) ?_
        refine aops_val (av_pick_bool (congrArg Value.bool hg5) rfl) ?_
        refine ac_split rfl rfl ?_ ?_
        · intro hc7
          (try simp only [decide_eq_true_eq, decide_eq_false_iff_not, Bool.not_eq_true', Bool.not_eq_false'] at hc7)
          refine ac_seq ?_
          refine ac_region (by kernel_rfl) ?_
          first | refine aops_val (av_assign_bool rfl) ?_ | refine aops_val (av_assign rfl) ?_
          refine ac_ret ?_
          refine ⟨.bool false, aresult1 (ares_tmp rfl), false, rfl, fun h => (by cases h), fun hG => ?_⟩
          exfalso
          have q1 := hG.l1; have q2 := hG.l2; have q3 := hG.l3; have q4 := hG.l4
          first | omega | simp_all
        · intro hc7
          have hlens : f.order.length = f.vars.length ∧ f.parent.length = f.vars.length ∧ f.links.length = f.vars.length ∧ f.loops.length = f.vars.length := by
            have hc7' := of_decide_eq_false hc7
            refine ⟨?_, ?_, ?_, ?_⟩ <;> omega
          refine ac_skip ?_
          refine ac_seq ?_
          refine ac_seq ?_
          refine ac_region (by kernel_rfl) ?_
          first | refine aops_val (av_assign_int rfl) ?_ | refine aops_val (av_assign rfl) ?_
          refine ac_block ?_
          refine ac_loop (fun n t H' => ∃ i : Nat, i ≤ f.vars.length ∧ n = f.vars.length - i ∧ H' = H.push (.own 0 [.slice A0 f.vars.length c0, .slice A1 f.order.length c1, .slice A2 f.parent.length c2, .slice A3 f.links.length c3, .slice A4 f.loops.length c4]) ∧ (∀ j, j < i → OkF f j) ∧ t 1 = .pointer (some ⟨H.size, 0, none⟩) ∧ t 3 = .int .i64 f.vars.length ∧ t 4 = .int .i64 i) (f.vars.length) (⟨0, by omega, rfl, rfl, fun j h => by omega, rfl, rfl, rfl⟩) ?_
          rintro n t _ ⟨i, hi, rfl, rfl, hok, e1, e3, e4⟩
          refine ac_seq ?_
          refine ac_seq ?_
          refine ac_region (by kernel_rfl) ?_
          first | refine aops_val (av_move_int (by first | assumption | rfl)) ?_ | refine aops_val (av_move (by first | assumption | rfl)) ?_
          first | refine aops_val (av_move_int (by first | assumption | rfl)) ?_ | refine aops_val (av_move (by first | assumption | rfl)) ?_
          refine aops_val (av_lt rfl rfl) ?_
          refine ac_split rfl rfl ?_ ?_
          · intro hc8
            (try simp only [decide_eq_true_eq, decide_eq_false_iff_not, Bool.not_eq_true', Bool.not_eq_false'] at hc8)
            refine ac_skip ?_
            refine ac_seq ?_
            refine ac_block ?_
            refine ac_seq ?_
            have hix : i < f.vars.length := by omega
            have hix1 : i < f.order.length := by omega
            have hs1' := hs1.mono (H.le_push (.own 0 [.slice A0 f.vars.length c0, .slice A1 f.order.length c1, .slice A2 f.parent.length c2, .slice A3 f.links.length c3, .slice A4 f.loops.length c4])).sees
            have hs2' := hs2.mono (H.le_push (.own 0 [.slice A0 f.vars.length c0, .slice A1 f.order.length c1, .slice A2 f.parent.length c2, .slice A3 f.links.length c3, .slice A4 f.loops.length c4])).sees
            obtain ⟨A9, c9, S9, hsl9, hS9, hop9⟩ := hs1'.takes (i := i) (by omega)
            obtain ⟨b, o, rfl, hb, hcell1⟩ := hs1'.int_at (i := (i : Int)) (by omega) (by omega)
            obtain ⟨m, hm⟩ : ∃ m, m = f.order.getD (i : Int).toNat 0 := ⟨_, rfl⟩
            rw [← hm] at hcell1
            have hmi : f.order.getD i 0 = m := by rw [hm, Int.toNat_natCast]
            refine ac_region (by kernel_rfl) ?_
            refine aops_val (av_fieldOff (off := 1) (by first | assumption | rfl) Try.underlying26 (by first | assumption | rfl) inf23.size (by decide) (by first | assumption | rfl)) ?_
            refine aops_val (av_load1 rfl Try.underlying23 rfl t_cell) ?_
            first | refine aops_val (av_move_int (by first | assumption | rfl)) ?_ | refine aops_val (av_move (by first | assumption | rfl)) ?_
            refine aops_val (av_indexAddr rfl rfl Try.underlying23 inf3.size t_idx t_idx) ?_
            refine aops_val (av_load1 rfl Try.underlying3 rfl t_cell) ?_
            first | refine aops_val (av_assign_int rfl) ?_ | refine aops_val (av_assign rfl) ?_
            refine ac_seq ?_
            refine ac_seq ?_
            refine ac_region (by kernel_rfl) ?_
            first | refine aops_val (av_move_int rfl) ?_ | refine aops_val (av_move rfl) ?_
            refine aops_val (av_lt rfl rfl) ?_
            first | refine aops_val (av_move_bool rfl) ?_ | refine aops_val (av_move rfl) ?_
            refine aops_guard rfl rfl rfl ?_ ?_
            · intro hg9
              have hp9 := hg9; try simp only [decide_eq_true_eq, decide_eq_false_iff_not, Bool.not_eq_true', Bool.not_eq_false'] at hp9
              refine aops_skip (want_no rfl rfl rfl hg9 rfl) ?_
              refine aops_skip (want_no rfl rfl rfl hg9 rfl) ?_
              refine aops_skip (want_no rfl rfl rfl hg9 rfl) ?_
              refine aops_val (av_pick_bool (congrArg Value.bool hg9) (by first | assumption | rfl)) ?_
              first | refine aops_val (av_move_bool rfl) ?_ | refine aops_val (av_move rfl) ?_
              refine aops_skip (want_no rfl rfl rfl rfl rfl) ?_
              refine aops_skip (want_no rfl rfl rfl rfl rfl) ?_
              refine aops_skip (want_no rfl rfl rfl rfl rfl) ?_
              refine aops_skip (want_no rfl rfl rfl rfl rfl) ?_
              refine aops_skip (want_no rfl rfl rfl rfl rfl) ?_
              refine aops_skip (want_no rfl rfl rfl rfl rfl) ?_
              refine aops_val (av_pick_bool (congrArg Value.bool (by first | assumption | rfl)) (by first | assumption | rfl)) ?_
              refine ac_cond_true rfl rfl ?_
              refine ac_seq ?_
              refine ac_region (by kernel_rfl) ?_
              first | refine aops_val (av_assign_bool rfl) ?_ | refine aops_val (av_assign rfl) ?_
              refine ac_ret ?_
              refine ⟨.bool false, aresult1 (ares_tmp rfl), false, rfl, fun h => (by cases h), fun hG => ?_⟩
              obtain ⟨q1, q2, q3, q4⟩ := hG.ok i hix
              rw [hmi] at q1 q2 q3 q4
              exfalso
              first | omega | simp_all
            · intro hg9
              have hp9 := hg9; try simp only [decide_eq_true_eq, decide_eq_false_iff_not, Bool.not_eq_true', Bool.not_eq_false'] at hp9
              first | refine aops_wval (want_yes rfl rfl rfl hg9) (av_move_int rfl) ?_ | refine aops_wval (want_yes rfl rfl rfl hg9) (av_move rfl) ?_
              first | refine aops_wval (want_yes rfl rfl rfl hg9) (av_move_int (by first | assumption | rfl)) ?_ | refine aops_wval (want_yes rfl rfl rfl hg9) (av_move (by first | assumption | rfl)) ?_
              refine aops_wval (want_yes rfl rfl rfl hg9) (av_ge rfl rfl) ?_
              refine aops_val (av_pick_bool (congrArg Value.bool hg9) rfl) ?_
              first | refine aops_val (av_move_bool rfl) ?_ | refine aops_val (av_move rfl) ?_
              refine aops_guard rfl rfl rfl ?_ ?_
              · intro hg11
                have hp11 := hg11; try simp only [decide_eq_true_eq, decide_eq_false_iff_not, Bool.not_eq_true', Bool.not_eq_false'] at hp11
                refine aops_skip (want_no rfl rfl rfl hg11 rfl) ?_
                refine aops_skip (want_no rfl rfl rfl hg11 rfl) ?_
                refine aops_skip (want_no rfl rfl rfl hg11 rfl) ?_
                refine aops_skip (want_no rfl rfl rfl hg11 rfl) ?_
                refine aops_skip (want_no rfl rfl rfl hg11 rfl) ?_
                refine aops_skip (want_no rfl rfl rfl hg11 rfl) ?_
                refine aops_val (av_pick_bool (congrArg Value.bool hg11) (by first | assumption | rfl)) ?_
                refine ac_cond_true rfl rfl ?_
                refine ac_seq ?_
                refine ac_region (by kernel_rfl) ?_
                first | refine aops_val (av_assign_bool rfl) ?_ | refine aops_val (av_assign rfl) ?_
                refine ac_ret ?_
                refine ⟨.bool false, aresult1 (ares_tmp rfl), false, rfl, fun h => (by cases h), fun hG => ?_⟩
                obtain ⟨q1, q2, q3, q4⟩ := hG.ok i hix
                rw [hmi] at q1 q2 q3 q4
                exfalso
                first | omega | simp_all
              · intro hg11
                have hp11 := hg11; try simp only [decide_eq_true_eq, decide_eq_false_iff_not, Bool.not_eq_true', Bool.not_eq_false'] at hp11
                refine aops_wval (want_yes rfl rfl rfl hg11) (av_fieldOff (off := 1) (by first | assumption | rfl) Try.underlying26 (by first | assumption | rfl) inf23.size (by decide) (by first | assumption | rfl)) ?_
                refine aops_wval (want_yes rfl rfl rfl hg11) (av_load1 rfl Try.underlying23 rfl t_cell) ?_
                first | refine aops_wval (want_yes rfl rfl rfl hg11) (av_move_int (by first | assumption | rfl)) ?_ | refine aops_wval (want_yes rfl rfl rfl hg11) (av_move (by first | assumption | rfl)) ?_
                refine aops_wval (want_yes rfl rfl rfl hg11) (hop9 _ _ _ _ _ _ _ _ _ _ _ _ _ (Hp.le_refl _) (by first | rfl | assumption) Try.underlying23 inf3.size (by first | rfl | assumption)) ?_
                first | refine aops_wval (want_yes rfl rfl rfl hg11) (av_move_int rfl) ?_ | refine aops_wval (want_yes rfl rfl rfl hg11) (av_move rfl) ?_
                refine aops_want (want_yes rfl rfl rfl hg11) (aop_call (has_ints _ _ m _ hsl9 (by rw [List.length_take]; omega)) rfl Try.func80 rfl rfl rfl ?_)
                rintro v H ⟨rfl, rfl⟩
                refine aops_val (av_pick_bool (congrArg Value.bool hg11) rfl) ?_
                refine ac_split rfl rfl ?_ ?_
                · intro hc13
                  (try simp only [decide_eq_true_eq, decide_eq_false_iff_not, Bool.not_eq_true', Bool.not_eq_false'] at hc13)
                  refine ac_seq ?_
                  refine ac_region (by kernel_rfl) ?_
                  first | refine aops_val (av_assign_bool rfl) ?_ | refine aops_val (av_assign rfl) ?_
                  refine ac_ret ?_
                  refine ⟨.bool false, aresult1 (ares_tmp rfl), false, rfl, fun h => (by cases h), fun hG => ?_⟩
                  obtain ⟨q1, q2, q3, q4⟩ := hG.ok i hix
                  rw [hmi] at q1 q2 q3 q4
                  exfalso
                  first | omega | simp_all
                · intro hc13
                  (try simp only [decide_eq_true_eq, decide_eq_false_iff_not, Bool.not_eq_true', Bool.not_eq_false'] at hc13)
                  refine ac_skip ?_
                  refine ac_seq ?_
                  have hm0 : 0 ≤ m ∧ m < f.vars.length := by first | omega | (constructor <;> simp_all; done) | (simp_all; omega)
                  have hmn : m ∉ f.order.take i := by simp_all
                  obtain ⟨b2, o2, rfl, hb2, hcell2⟩ := hs2'.int_at (i := m) (by omega) (by omega)
                  have hb2' : b2 < H.size + 1 := hb2
                  obtain ⟨q, hq⟩ : ∃ q, q = f.parent.getD m.toNat 0 := ⟨_, rfl⟩
                  rw [← hq] at hcell2
                  refine ac_draw (by kernel_rfl) (reg_of (B := [0, 1, 0, 7, 15, 31, 63, 127, 255, 127, 1023, 127, 2175, 127, 14463, 30847, 65535, 131071, 262143]) (π := [0, 1, 2, 3, 4, 5, 6, 7, 8, 9, 10, 11, 12, 13, 14, 15, 16, 17, 18]) (by kernel_rfl)) ?_
                  refine adr_val rfl rfl (av_fieldOff (off := 2) (by first | assumption | rfl) Try.underlying26 (by first | assumption | rfl) inf23.size (by decide) (by first | assumption | rfl)) t_lt ?_
                  refine adr_val rfl rfl (av_load1 rfl Try.underlying23 rfl t_cell) t_lt ?_
                  first | refine adr_val rfl rfl (av_move_int rfl) t_lt ?_ | refine adr_val rfl rfl (av_move rfl) t_lt ?_
                  refine adr_val rfl rfl (av_indexAddr rfl rfl Try.underlying23 inf3.size t_idx t_idx) t_lt ?_
                  refine adr_val rfl rfl (av_load1 rfl Try.underlying3 rfl t_cell) t_lt ?_
                  refine adr_val rfl rfl (av_ne rfl rfl) t_lt ?_
                  first | refine adr_val rfl rfl (av_move_bool rfl) t_lt ?_ | refine adr_val rfl rfl (av_move rfl) t_lt ?_
                  refine adr_guard rfl rfl rfl rfl ?_ ?_
                  · intro hg14
                    have hp14 := hg14; try simp only [decide_eq_true_eq, decide_eq_false_iff_not, Bool.not_eq_true', Bool.not_eq_false'] at hp14
                    refine adr_wval rfl (want_yes rfl rfl rfl hg14) rfl (av_fieldOff (off := 1) (by first | assumption | rfl) Try.underlying26 (by first | assumption | rfl) inf23.size (by decide) (by first | assumption | rfl)) t_lt ?_
                    refine adr_wval rfl (want_yes rfl rfl rfl hg14) rfl (av_load1 rfl Try.underlying23 rfl t_cell) t_lt ?_
                    first | refine adr_wval rfl (want_yes rfl rfl rfl hg14) rfl (av_move_int (by first | assumption | rfl)) t_lt ?_ | refine adr_wval rfl (want_yes rfl rfl rfl hg14) rfl (av_move (by first | assumption | rfl)) t_lt ?_
                    refine adr_wval rfl (want_yes rfl rfl rfl hg14) rfl (hop9 _ _ _ _ _ _ _ _ _ _ _ _ _ (Hp.le_refl _) (by first | rfl | assumption) Try.underlying23 inf3.size (by first | rfl | assumption)) (fun b hb => (hS9 b hb).1) ?_
                    refine adr_wval rfl (want_yes rfl rfl rfl hg14) rfl (av_fieldOff (off := 2) (by first | assumption | rfl) Try.underlying26 (by first | assumption | rfl) inf23.size (by decide) (by first | assumption | rfl)) t_lt ?_
                    refine adr_wval rfl (want_yes rfl rfl rfl hg14) rfl (av_load1 rfl Try.underlying23 rfl t_cell) t_lt ?_
                    first | refine adr_wval rfl (want_yes rfl rfl rfl hg14) rfl (av_move_int rfl) t_lt ?_ | refine adr_wval rfl (want_yes rfl rfl rfl hg14) rfl (av_move rfl) t_lt ?_
                    refine adr_wval rfl (want_yes rfl rfl rfl hg14) rfl (av_indexAddr rfl rfl Try.underlying23 inf3.size t_idx t_idx) t_lt ?_
                    refine adr_wval rfl (want_yes rfl rfl rfl hg14) rfl (av_load1 rfl Try.underlying3 rfl t_cell) t_lt ?_
                    refine adr_wop rfl (want_yes rfl rfl rfl hg14) rfl (aop_call (has_ints _ _ q _ hsl9 (by rw [List.length_take]; omega)) rfl Try.func80 rfl rfl rfl ?_)
                    rintro v H ⟨rfl, rfl⟩
                    refine ⟨t_pend, ?_⟩
                    refine adr_wval rfl (want_yes rfl rfl rfl hg14) rfl (av_not rfl) t_lt ?_
                    refine adr_val rfl rfl (av_pick_bool (congrArg Value.bool hg14) rfl) t_lt ?_
                    refine ac_split rfl rfl ?_ ?_
                    · intro hc15
                      (try simp only [decide_eq_true_eq, decide_eq_false_iff_not, Bool.not_eq_true', Bool.not_eq_false'] at hc15)
                      refine ac_seq ?_
                      refine ac_region (by kernel_rfl) ?_
                      first | refine aops_val (av_assign_bool rfl) ?_ | refine aops_val (av_assign rfl) ?_
                      refine ac_ret ?_
                      refine ⟨.bool false, aresult1 (ares_tmp rfl), false, rfl, fun h => (by cases h), fun hG => ?_⟩
                      obtain ⟨q1, q2, q3, q4⟩ := hG.ok i hix
                      rw [hmi, ← hq] at q4
                      exfalso
                      simp_all
                    · intro hc15
                      (try simp only [decide_eq_true_eq, decide_eq_false_iff_not, Bool.not_eq_true', Bool.not_eq_false'] at hc15)
                      refine ac_skip ?_
                      refine ac_region (by kernel_rfl) ?_
                      first | refine aops_val (av_move_int (by first | assumption | rfl)) ?_ | refine aops_val (av_move (by first | assumption | rfl)) ?_
                      first | refine aops_val (av_add64 rfl rfl t_fits) ?_ | refine aops_val (av_add rfl rfl) ?_
                      first | refine aops_val (av_assign_int rfl) ?_ | refine aops_val (av_assign rfl) ?_
                      refine ⟨f.vars.length - (i + 1), by omega, i + 1, by omega, rfl, rfl, fun j h => ?_, e1, e3, rfl⟩
                      rcases Nat.lt_or_ge j i with h1 | h1
                      · exact hok j h1
                      · obtain rfl : j = i := by omega
                        exact ⟨by rw [hmi]; exact hm0.1, by rw [hmi]; exact hm0.2, by rw [hmi]; exact hmn, by rw [hmi, ← hq]; simp_all⟩
                  · intro hg14
                    have hp14 := hg14; try simp only [decide_eq_true_eq, decide_eq_false_iff_not, Bool.not_eq_true', Bool.not_eq_false'] at hp14
                    refine adr_skip rfl (want_no rfl rfl rfl hg14 rfl) ?_
                    refine adr_skip rfl (want_no rfl rfl rfl hg14 rfl) ?_
                    refine adr_skip rfl (want_no rfl rfl rfl hg14 rfl) ?_
                    refine adr_skip rfl (want_no rfl rfl rfl hg14 rfl) ?_
                    refine adr_skip rfl (want_no rfl rfl rfl hg14 rfl) ?_
                    refine adr_skip rfl (want_no rfl rfl rfl hg14 rfl) ?_
                    refine adr_skip rfl (want_no rfl rfl rfl hg14 rfl) ?_
                    refine adr_skip rfl (want_no rfl rfl rfl hg14 rfl) ?_
                    refine adr_skip rfl (want_no rfl rfl rfl hg14 rfl) ?_
                    refine adr_skip rfl (want_no rfl rfl rfl hg14 rfl) ?_
                    refine adr_skip rfl (want_no rfl rfl rfl hg14 rfl) ?_
                    refine adr_val rfl rfl (av_pick_bool (congrArg Value.bool hg14) (by first | assumption | rfl)) t_lt ?_
                    refine ac_cond_false rfl rfl ?_
                    refine ac_skip ?_
                    refine ac_region (by kernel_rfl) ?_
                    first | refine aops_val (av_move_int (by first | assumption | rfl)) ?_ | refine aops_val (av_move (by first | assumption | rfl)) ?_
                    first | refine aops_val (av_add64 rfl rfl t_fits) ?_ | refine aops_val (av_add rfl rfl) ?_
                    first | refine aops_val (av_assign_int rfl) ?_ | refine aops_val (av_assign rfl) ?_
                    refine ⟨f.vars.length - (i + 1), by omega, i + 1, by omega, rfl, rfl, fun j h => ?_, e1, e3, rfl⟩
                    rcases Nat.lt_or_ge j i with h1 | h1
                    · exact hok j h1
                    · obtain rfl : j = i := by omega
                      exact ⟨by rw [hmi]; exact hm0.1, by rw [hmi]; exact hm0.2, by rw [hmi]; exact hmn, by rw [hmi, ← hq]; simp_all⟩
          · intro hc8
            (try simp only [decide_eq_true_eq, decide_eq_false_iff_not, Bool.not_eq_true', Bool.not_eq_false'] at hc8)
            refine ac_exit ?_
            refine ac_seq ?_
            refine ac_region (by kernel_rfl) ?_
            first | refine aops_val (av_assign_bool rfl) ?_ | refine aops_val (av_assign rfl) ?_
            refine ac_ret ?_
            exact ⟨.bool true, aresult1 (ares_tmp rfl), true, rfl, fun _ => ⟨hlens.1, hlens.2.1, hlens.2.2.1, hlens.2.2.2, fun j h => hok j (by omega)⟩, fun _ => rfl⟩
theorem GoodF_ref (f : Forest) (cs : List Value) (H : Hp) (hp : kForest.rep H f cs) (hl0 : f.vars.length ≤ 1000000) (hl1 : f.order.length ≤ 1000000) (hl2 : f.parent.length ≤ 1000000) :
    ACalls Try.prog 54 #[.agg cs.toArray] H (fun r H' => (∃ g, r = .bool g ∧ (g = true ↔ GoodF f)) ∧ H' = H) :=
  ACalls.pure (fun v ⟨g, h, _⟩ => by rw [h]; rfl) (GoodF_ref_raw f cs H.ro (kForest.mono H.sees_ro hp) hl0 hl1 hl2)
end Go.Proofs.Ytcaeoebphfjfiaa.Am


/- Good forests, as the program judges them. -/
namespace Go.Proofs.Ytcaeoebphfjfiaa.Am
open Go Go.RowKit
set_option maxRecDepth 100000
set_option linter.unusedVariables false
set_option linter.unusedSimpArgs false

/-- Which numbers were seen. -/
def Seen (n : Nat) (l : List Int) (seen : List Bool) : Prop := seen.length = n ∧ ∀ v, v < n → seen[v]? = some (decide ((v : Int) ∈ l))
theorem Seen.at {n : Nat} {l : List Int} {seen : List Bool} (h : Seen n l seen) {m : Int} (h0 : 0 ≤ m) (h1 : m < n) : seen[m.toNat]? = some (decide (m ∈ l)) := by
  have := h.2 m.toNat (by omega)
  rwa [show ((m.toNat : Nat) : Int) = m by omega] at this
theorem Seen.set {n : Nat} {l : List Int} {seen : List Bool} (h : Seen n l seen) {m : Int} (h0 : 0 ≤ m) (h1 : m < n) : Seen n (l ++ [m]) (seen.set m.toNat true) := by
  refine ⟨by rw [List.length_set]; exact h.1, fun v hv => ?_⟩
  have hl := h.1
  rw [List.getElem?_set]
  by_cases e : m.toNat = v
  · rw [if_pos e, if_pos (by omega)]
    congr 1
    symm
    rw [decide_eq_true]
    simp; right; omega
  · rw [if_neg e, h.2 v hv]
    congr 1
    have : (v : Int) ≠ m := by omega
    simp [this]
set_option maxHeartbeats 1000000 in
theorem GoodF_for_raw (f : Forest) (cs : List Value) (H : Hp) (hp : kForest.rep H f cs) (hl0 : f.vars.length ≤ 1000000) (hl1 : f.order.length ≤ 1000000) (hl2 : f.parent.length ≤ 1000000) :
    ACalls Try.prog 97 #[.agg cs.toArray] H (fun r _ => ∃ g, r = .bool g ∧ (g = true ↔ GoodF f)) := by
  obtain ⟨v0, v1, v2, v3, v4, rfl, hs0, hs1, hs2, hs3, hs4⟩ := hp
  obtain ⟨A0, c0, rfl⟩ := hs0.shape
  obtain ⟨A1, c1, rfl⟩ := hs1.shape
  obtain ⟨A2, c2, rfl⟩ := hs2.shape
  obtain ⟨A3, c3, rfl⟩ := hs3.shape
  obtain ⟨A4, c4, rfl⟩ := hs4.shape
  refine acalls_of_code Try.func97 rfl rfl rfl (by simp) ?_
  refine ac_seq ?_
  refine ac_region (by kernel_rfl) ?_
  refine aops_make (am_box_agg rfl) ?_
  first | refine aops_val (av_assign_bool rfl) ?_ | refine aops_val (av_assign rfl) ?_
  refine ac_seq ?_
  refine ac_region (by kernel_rfl) ?_
  refine aops_val (av_fieldOff (off := 0) rfl Try.underlying26 rfl inf22.size (by decide) rfl) ?_
  refine aops_val (av_load1 rfl Try.underlying22 rfl t_cell) ?_
  refine aops_val (av_len rfl Try.underlying22) ?_
  first | refine aops_val (av_assign_int rfl) ?_ | refine aops_val (av_assign rfl) ?_
  refine ac_seq ?_
  refine ac_seq ?_
  refine ac_region (by kernel_rfl) ?_
  refine aops_val (av_fieldOff (off := 1) rfl Try.underlying26 rfl inf23.size (by decide) rfl) ?_
  refine aops_val (av_load1 rfl Try.underlying23 rfl t_cell) ?_
  refine aops_val (av_len rfl Try.underlying23) ?_
  first | refine aops_val (av_move_int rfl) ?_ | refine aops_val (av_move rfl) ?_
  refine aops_val (av_ne rfl rfl) ?_
  first | refine aops_val (av_move_bool rfl) ?_ | refine aops_val (av_move rfl) ?_
  refine aops_guard rfl rfl rfl ?_ ?_
  · intro hg1
    have hp1 := hg1; try simp only [decide_eq_true_eq, decide_eq_false_iff_not, Bool.not_eq_true', Bool.not_eq_false'] at hp1
    refine aops_skip (want_no rfl rfl rfl hg1 rfl) ?_
    refine aops_skip (want_no rfl rfl rfl hg1 rfl) ?_
    refine aops_skip (want_no rfl rfl rfl hg1 rfl) ?_
    refine aops_skip (want_no rfl rfl rfl hg1 rfl) ?_
    refine aops_skip (want_no rfl rfl rfl hg1 rfl) ?_
    refine aops_val (av_pick_bool (congrArg Value.bool hg1) rfl) ?_
    first | refine aops_val (av_move_bool rfl) ?_ | refine aops_val (av_move rfl) ?_
    refine aops_skip (want_no rfl rfl rfl rfl rfl) ?_
    refine aops_skip (want_no rfl rfl rfl rfl rfl) ?_
    refine aops_skip (want_no rfl rfl rfl rfl rfl) ?_
    refine aops_skip (want_no rfl rfl rfl rfl rfl) ?_
    refine aops_skip (want_no rfl rfl rfl rfl rfl) ?_
    refine aops_val (av_pick_bool (congrArg Value.bool rfl) rfl) ?_
    first | refine aops_val (av_move_bool rfl) ?_ | refine aops_val (av_move rfl) ?_
    refine aops_skip (want_no rfl rfl rfl rfl rfl) ?_
    refine aops_skip (want_no rfl rfl rfl rfl rfl) ?_
    refine aops_skip (want_no rfl rfl rfl rfl rfl) ?_
    refine aops_skip (want_no rfl rfl rfl rfl rfl) ?_
    refine aops_skip (want_no rfl rfl rfl rfl rfl) ?_
    refine aops_val (av_pick_bool (congrArg Value.bool rfl) rfl) ?_
    refine ac_cond_true rfl rfl ?_
    refine ac_seq ?_
    refine ac_region (by kernel_rfl) ?_
    first | refine aops_val (av_assign_bool rfl) ?_ | refine aops_val (av_assign rfl) ?_
    refine ac_ret ?_
    refine ⟨.bool false, aresult1 (ares_tmp rfl), false, rfl, fun h => (by cases h), fun hG => ?_⟩
    exfalso
    have q1 := hG.l1; have q2 := hG.l2; have q3 := hG.l3; have q4 := hG.l4
    first | omega | simp_all
  · intro hg1
    have hp1 := hg1; try simp only [decide_eq_true_eq, decide_eq_false_iff_not, Bool.not_eq_true', Bool.not_eq_false'] at hp1
    refine aops_wval (want_yes rfl rfl rfl hg1) (av_fieldOff (off := 2) rfl Try.underlying26 rfl inf23.size (by decide) rfl) ?_
    refine aops_wval (want_yes rfl rfl rfl hg1) (av_load1 rfl Try.underlying23 rfl t_cell) ?_
    refine aops_wval (want_yes rfl rfl rfl hg1) (av_len rfl Try.underlying23) ?_
    first | refine aops_wval (want_yes rfl rfl rfl hg1) (av_move_int rfl) ?_ | refine aops_wval (want_yes rfl rfl rfl hg1) (av_move rfl) ?_
    refine aops_wval (want_yes rfl rfl rfl hg1) (av_ne rfl rfl) ?_
    refine aops_val (av_pick_bool (congrArg Value.bool hg1) rfl) ?_
    first | refine aops_val (av_move_bool rfl) ?_ | refine aops_val (av_move rfl) ?_
    refine aops_guard rfl rfl rfl ?_ ?_
    · intro hg3
      have hp3 := hg3; try simp only [decide_eq_true_eq, decide_eq_false_iff_not, Bool.not_eq_true', Bool.not_eq_false'] at hp3
      refine aops_skip (want_no rfl rfl rfl hg3 rfl) ?_
      refine aops_skip (want_no rfl rfl rfl hg3 rfl) ?_
      refine aops_skip (want_no rfl rfl rfl hg3 rfl) ?_
      refine aops_skip (want_no rfl rfl rfl hg3 rfl) ?_
      refine aops_skip (want_no rfl rfl rfl hg3 rfl) ?_
      refine aops_val (av_pick_bool (congrArg Value.bool hg3) rfl) ?_
      first | refine aops_val (av_move_bool rfl) ?_ | refine aops_val (av_move rfl) ?_
      refine aops_skip (want_no rfl rfl rfl rfl rfl) ?_
      refine aops_skip (want_no rfl rfl rfl rfl rfl) ?_
      refine aops_skip (want_no rfl rfl rfl rfl rfl) ?_
      refine aops_skip (want_no rfl rfl rfl rfl rfl) ?_
      refine aops_skip (want_no rfl rfl rfl rfl rfl) ?_
      refine aops_val (av_pick_bool (congrArg Value.bool rfl) rfl) ?_
      refine ac_cond_true rfl rfl ?_
      refine ac_seq ?_
      refine ac_region (by kernel_rfl) ?_
      first | refine aops_val (av_assign_bool rfl) ?_ | refine aops_val (av_assign rfl) ?_
      refine ac_ret ?_
      refine ⟨.bool false, aresult1 (ares_tmp rfl), false, rfl, fun h => (by cases h), fun hG => ?_⟩
      exfalso
      have q1 := hG.l1; have q2 := hG.l2; have q3 := hG.l3; have q4 := hG.l4
      first | omega | simp_all
    · intro hg3
      have hp3 := hg3; try simp only [decide_eq_true_eq, decide_eq_false_iff_not, Bool.not_eq_true', Bool.not_eq_false'] at hp3
      refine aops_wval (want_yes rfl rfl rfl hg3) (av_fieldOff (off := 3) rfl Try.underlying26 rfl inf24.size (by decide) rfl) ?_
      refine aops_wval (want_yes rfl rfl rfl hg3) (av_load1 rfl Try.underlying24 rfl t_cell) ?_
      refine aops_wval (want_yes rfl rfl rfl hg3) (av_len rfl Try.underlying24) ?_
      first | refine aops_wval (want_yes rfl rfl rfl hg3) (av_move_int rfl) ?_ | refine aops_wval (want_yes rfl rfl rfl hg3) (av_move rfl) ?_
      refine aops_wval (want_yes rfl rfl rfl hg3) (av_ne rfl rfl) ?_
      refine aops_val (av_pick_bool (congrArg Value.bool hg3) rfl) ?_
      first | refine aops_val (av_move_bool rfl) ?_ | refine aops_val (av_move rfl) ?_
      refine aops_guard rfl rfl rfl ?_ ?_
      · intro hg5
        have hp5 := hg5; try simp only [decide_eq_true_eq, decide_eq_false_iff_not, Bool.not_eq_true', Bool.not_eq_false'] at hp5
        refine aops_skip (want_no rfl rfl rfl hg5 rfl) ?_
        refine aops_skip (want_no rfl rfl rfl hg5 rfl) ?_
        refine aops_skip (want_no rfl rfl rfl hg5 rfl) ?_
        refine aops_skip (want_no rfl rfl rfl hg5 rfl) ?_
        refine aops_skip (want_no rfl rfl rfl hg5 rfl) ?_
        refine aops_val (av_pick_bool (congrArg Value.bool hg5) rfl) ?_
        refine ac_cond_true rfl rfl ?_
        refine ac_seq ?_
        refine ac_region (by kernel_rfl) ?_
        first | refine aops_val (av_assign_bool rfl) ?_ | refine aops_val (av_assign rfl) ?_
        refine ac_ret ?_
        refine ⟨.bool false, aresult1 (ares_tmp rfl), false, rfl, fun h => (by cases h), fun hG => ?_⟩
        exfalso
        have q1 := hG.l1; have q2 := hG.l2; have q3 := hG.l3; have q4 := hG.l4
        first | omega | simp_all
      · intro hg5
        have hp5 := hg5; try simp only [decide_eq_true_eq, decide_eq_false_iff_not, Bool.not_eq_true', Bool.not_eq_false'] at hp5
        refine aops_wval (want_yes rfl rfl rfl hg5) (av_fieldOff (off := 4) rfl Try.underlying26 rfl inf24.size (by decide) rfl) ?_
        refine aops_wval (want_yes rfl rfl rfl hg5) (av_load1 rfl Try.underlying24 rfl t_cell) ?_
        refine aops_wval (want_yes rfl rfl rfl hg5) (av_len rfl Try.underlying24) ?_
        first | refine aops_wval (want_yes rfl rfl rfl hg5) (av_move_int rfl) ?_ | refine aops_wval (want_yes rfl rfl rfl hg5) (av_move rfl) ?_
        refine aops_wval (want_yes rfl rfl rfl hg5) (av_ne rfl rfl) ?_
        refine aops_val (av_pick_bool (congrArg Value.bool hg5) rfl) ?_
        refine ac_split rfl rfl ?_ ?_
        · intro hc7
          (try simp only [decide_eq_true_eq, decide_eq_false_iff_not, Bool.not_eq_true', Bool.not_eq_false'] at hc7)
          refine ac_seq ?_
          refine ac_region (by kernel_rfl) ?_
          first | refine aops_val (av_assign_bool rfl) ?_ | refine aops_val (av_assign rfl) ?_
          refine ac_ret ?_
          refine ⟨.bool false, aresult1 (ares_tmp rfl), false, rfl, fun h => (by cases h), fun hG => ?_⟩
          exfalso
          have q1 := hG.l1; have q2 := hG.l2; have q3 := hG.l3; have q4 := hG.l4
          first | omega | simp_all
        · intro hc7
          have hlens : f.order.length = f.vars.length ∧ f.parent.length = f.vars.length ∧ f.links.length = f.vars.length ∧ f.loops.length = f.vars.length := by
            have hc7' := of_decide_eq_false hc7
            refine ⟨?_, ?_, ?_, ?_⟩ <;> omega
          refine ac_skip ?_
          refine ac_seq ?_
          refine ac_region (by kernel_rfl) ?_
          first | refine aops_val (av_move_int rfl) ?_ | refine aops_val (av_move rfl) ?_
          refine aops_make (am_makeSlice Try.underlying134 inf4 rfl (by decide) (by decide) rfl rfl (by omega) (by omega) (by omega)) ?_
          first | refine aops_val (av_assign_sl rfl) ?_ | refine aops_val (av_assign rfl) ?_
          refine ac_seq ?_
          refine ac_seq ?_
          refine ac_region (by kernel_rfl) ?_
          refine aops_val (av_fieldOff (off := 1) rfl Try.underlying26 rfl inf23.size (by decide) rfl) ?_
          refine aops_val (av_load1 rfl Try.underlying23 rfl t_cell) ?_
          refine aops_val (av_len rfl Try.underlying23) ?_
          first | refine aops_val (av_move_int rfl) ?_ | refine aops_val (av_move rfl) ?_
          refine ac_block ?_
          refine ac_loop (fun n t H' => ∃ (i : Nat) (seen : List Bool), i ≤ f.order.length ∧ n = f.order.length - i ∧ Seen f.vars.length (f.order.take i) seen ∧ H' = (H.push (.own 0 [.slice A0 f.vars.length c0, .slice A1 f.order.length c1, .slice A2 f.parent.length c2, .slice A3 f.links.length c3, .slice A4 f.loops.length c4])).push (.own 1 (seen.map Value.bool)) ∧ (∀ j, j < i → OkF f j) ∧ t 1 = .pointer (some ⟨H.size, 0, none⟩) ∧ t 3 = .int .i64 f.vars.length ∧ t 4 = .slice (some ⟨H.size + 1, 0, none⟩) f.vars.length f.vars.length ∧ t 40 = .slice A1 f.order.length c1 ∧ t 41 = .int .i64 f.order.length ∧ t 42 = .int .i64 i) (f.order.length) (⟨0, List.replicate f.vars.length false, by omega, rfl, ⟨by simp, fun v hv => by simp [hv]⟩, by congr 2; simp [Value.cells, List.flatten_replicate_singleton], fun j h => by omega, rfl, rfl, rfl, rfl, rfl, rfl⟩) ?_
          rintro n t _ ⟨i, seen, hi, rfl, hseen, rfl, hok, e1, e3, e4, e40, e41, e42⟩
          have hsl := hseen.1
          have hg0 : ((H.push (.own 0 [.slice A0 f.vars.length c0, .slice A1 f.order.length c1, .slice A2 f.parent.length c2, .slice A3 f.links.length c3, .slice A4 f.loops.length c4])).push (.own 1 (seen.map Value.bool))).get H.size = .own 0 [.slice A0 f.vars.length c0, .slice A1 f.order.length c1, .slice A2 f.parent.length c2, .slice A3 f.links.length c3, .slice A4 f.loops.length c4] := t_get
          have kg1 : ((H.push (.own 0 [.slice A0 f.vars.length c0, .slice A1 f.order.length c1, .slice A2 f.parent.length c2, .slice A3 f.links.length c3, .slice A4 f.loops.length c4])).push (.own 1 (seen.map Value.bool))).get (H.size + 1) = .own 1 (seen.map Value.bool) := Hp.push_new _ _
          have hleS := Hp.le_push' (H.le_push (.own 0 [.slice A0 f.vars.length c0, .slice A1 f.order.length c1, .slice A2 f.parent.length c2, .slice A3 f.links.length c3, .slice A4 f.loops.length c4])) (.own 1 (seen.map Value.bool))
          refine ac_seq ?_
          refine ac_region (by kernel_rfl) ?_
          refine aops_val (av_lt (by first | assumption | rfl) (by first | assumption | rfl)) ?_
          refine ac_seq ?_
          refine ac_split rfl rfl ?_ ?_
          · intro hc8
            (try simp only [decide_eq_true_eq, decide_eq_false_iff_not, Bool.not_eq_true', Bool.not_eq_false'] at hc8)
            refine ac_skip ?_
            refine ac_seq ?_
            refine ac_block ?_
            refine ac_seq ?_
            have hix : i < f.vars.length := by omega
            have hix1 : i < f.order.length := by omega
            have hs1' := hs1.mono hleS.sees
            have hs2' := hs2.mono hleS.sees
            obtain ⟨b, o, rfl, hb, hcell1⟩ := hs1'.int_at (i := (i : Int)) (by omega) (by omega)
            obtain ⟨m, hm⟩ : ∃ m, m = f.order.getD (i : Int).toNat 0 := ⟨_, rfl⟩
            rw [← hm] at hcell1
            have hmi : f.order.getD i 0 = m := by rw [hm, Int.toNat_natCast]
            refine ac_region (by kernel_rfl) ?_
            refine aops_val (av_indexAddr (by first | assumption | rfl) (by first | assumption | rfl) Try.underlying23 inf3.size t_idx t_idx) ?_
            refine aops_val (av_load1 rfl Try.underlying3 rfl t_cell) ?_
            first | refine aops_val (av_assign_int rfl) ?_ | refine aops_val (av_assign rfl) ?_
            refine ac_seq ?_
            refine ac_seq ?_
            refine ac_region (by kernel_rfl) ?_
            first | refine aops_val (av_move_int rfl) ?_ | refine aops_val (av_move rfl) ?_
            refine aops_val (av_lt rfl rfl) ?_
            first | refine aops_val (av_move_bool rfl) ?_ | refine aops_val (av_move rfl) ?_
            refine aops_guard rfl rfl rfl ?_ ?_
            · intro hg9
              have hp9 := hg9; try simp only [decide_eq_true_eq, decide_eq_false_iff_not, Bool.not_eq_true', Bool.not_eq_false'] at hp9
              refine aops_skip (want_no rfl rfl rfl hg9 rfl) ?_
              refine aops_skip (want_no rfl rfl rfl hg9 rfl) ?_
              refine aops_skip (want_no rfl rfl rfl hg9 rfl) ?_
              refine aops_val (av_pick_bool (congrArg Value.bool hg9) (by first | assumption | rfl)) ?_
              first | refine aops_val (av_move_bool rfl) ?_ | refine aops_val (av_move rfl) ?_
              refine aops_skip (want_no rfl rfl rfl rfl rfl) ?_
              refine aops_skip (want_no rfl rfl rfl rfl rfl) ?_
              refine aops_skip (want_no rfl rfl rfl rfl rfl) ?_
              refine aops_skip (want_no rfl rfl rfl rfl rfl) ?_
              refine aops_val (av_pick_bool (congrArg Value.bool (by first | assumption | rfl)) (by first | assumption | rfl)) ?_
              refine ac_cond_true rfl rfl ?_
              refine ac_seq ?_
              refine ac_region (by kernel_rfl) ?_
              first | refine aops_val (av_assign_bool rfl) ?_ | refine aops_val (av_assign rfl) ?_
              refine ac_ret ?_
              refine ⟨.bool false, aresult1 (ares_tmp rfl), false, rfl, fun h => (by cases h), fun hG => ?_⟩
              obtain ⟨q1, q2, q3, q4⟩ := hG.ok i hix
              rw [hmi] at q1 q2 q3 q4
              exfalso
              first | omega | exact q3 hmt
            · intro hg9
              have hp9 := hg9; try simp only [decide_eq_true_eq, decide_eq_false_iff_not, Bool.not_eq_true', Bool.not_eq_false'] at hp9
              first | refine aops_wval (want_yes rfl rfl rfl hg9) (av_move_int rfl) ?_ | refine aops_wval (want_yes rfl rfl rfl hg9) (av_move rfl) ?_
              first | refine aops_wval (want_yes rfl rfl rfl hg9) (av_move_int (by first | assumption | rfl)) ?_ | refine aops_wval (want_yes rfl rfl rfl hg9) (av_move (by first | assumption | rfl)) ?_
              refine aops_wval (want_yes rfl rfl rfl hg9) (av_ge rfl rfl) ?_
              refine aops_val (av_pick_bool (congrArg Value.bool hg9) rfl) ?_
              first | refine aops_val (av_move_bool rfl) ?_ | refine aops_val (av_move rfl) ?_
              refine aops_guard rfl rfl rfl ?_ ?_
              · intro hg11
                have hp11 := hg11; try simp only [decide_eq_true_eq, decide_eq_false_iff_not, Bool.not_eq_true', Bool.not_eq_false'] at hp11
                refine aops_skip (want_no rfl rfl rfl hg11 rfl) ?_
                refine aops_skip (want_no rfl rfl rfl hg11 rfl) ?_
                refine aops_skip (want_no rfl rfl rfl hg11 rfl) ?_
                refine aops_skip (want_no rfl rfl rfl hg11 rfl) ?_
                refine aops_val (av_pick_bool (congrArg Value.bool hg11) (by first | assumption | rfl)) ?_
                refine ac_cond_true rfl rfl ?_
                refine ac_seq ?_
                refine ac_region (by kernel_rfl) ?_
                first | refine aops_val (av_assign_bool rfl) ?_ | refine aops_val (av_assign rfl) ?_
                refine ac_ret ?_
                refine ⟨.bool false, aresult1 (ares_tmp rfl), false, rfl, fun h => (by cases h), fun hG => ?_⟩
                obtain ⟨q1, q2, q3, q4⟩ := hG.ok i hix
                rw [hmi] at q1 q2 q3 q4
                exfalso
                first | omega | exact q3 hmt
              · intro hg11
                have hp11 := hg11; try simp only [decide_eq_true_eq, decide_eq_false_iff_not, Bool.not_eq_true', Bool.not_eq_false'] at hp11
                first | refine aops_wval (want_yes rfl rfl rfl hg11) (av_move_sl (by first | assumption | rfl)) ?_ | refine aops_wval (want_yes rfl rfl rfl hg11) (av_move (by first | assumption | rfl)) ?_
                first | refine aops_wval (want_yes rfl rfl rfl hg11) (av_move_int rfl) ?_ | refine aops_wval (want_yes rfl rfl rfl hg11) (av_move rfl) ?_
                have hm1 : 0 ≤ m ∧ m < f.vars.length := by omega
                have hcell3 : Hp.cell? _ (H.size + 1) (0 + m.toNat * 1) = some (.bool (decide (m ∈ f.order.take i))) := (cell_own kg1).trans (by
                  rw [Nat.zero_add, Nat.mul_one, List.getElem?_map, hseen.at hm1.1 hm1.2]; rfl)
                refine aops_wval (want_yes rfl rfl rfl hg11) (av_indexAddr rfl rfl Try.underlying134 inf4.size t_idx t_idx) ?_
                refine aops_wval (want_yes rfl rfl rfl hg11) (av_load1 rfl Try.underlying4 rfl t_cell) ?_
                refine aops_val (av_pick_bool (congrArg Value.bool hg11) rfl) ?_
                refine ac_split rfl rfl ?_ ?_
                · intro hc13
                  have hmt : m ∈ f.order.take i := by simpa using hc13
                  refine ac_seq ?_
                  refine ac_region (by kernel_rfl) ?_
                  first | refine aops_val (av_assign_bool rfl) ?_ | refine aops_val (av_assign rfl) ?_
                  refine ac_ret ?_
                  refine ⟨.bool false, aresult1 (ares_tmp rfl), false, rfl, fun h => (by cases h), fun hG => ?_⟩
                  obtain ⟨q1, q2, q3, q4⟩ := hG.ok i hix
                  rw [hmi] at q1 q2 q3 q4
                  exfalso
                  first | omega | exact q3 hmt
                · intro hc13
                  have hmn : m ∉ f.order.take i := by simpa using hc13
                  refine ac_skip ?_
                  refine ac_seq ?_
                  have hm0 : 0 ≤ m ∧ m < f.vars.length := by omega
                  obtain ⟨b2, o2, rfl, hb2, hcell2⟩ := hs2'.int_at (i := m) (by omega) (by omega)
                  obtain ⟨q, hq⟩ : ∃ q, q = f.parent.getD m.toNat 0 := ⟨_, rfl⟩
                  rw [← hq] at hcell2
                  refine ac_region (by kernel_rfl) ?_
                  refine aops_val (av_fieldOff (off := 2) (by first | assumption | rfl) Try.underlying26 (by first | assumption | rfl) inf23.size (by decide) (by first | assumption | rfl)) ?_
                  refine aops_val (av_load1 rfl Try.underlying23 rfl t_cell) ?_
                  first | refine aops_val (av_move_int rfl) ?_ | refine aops_val (av_move rfl) ?_
                  refine aops_val (av_indexAddr rfl rfl Try.underlying23 inf3.size t_idx t_idx) ?_
                  refine aops_val (av_load1 rfl Try.underlying3 rfl t_cell) ?_
                  first | refine aops_val (av_assign_int rfl) ?_ | refine aops_val (av_assign rfl) ?_
                  refine ac_seq ?_
                  refine ac_seq ?_
                  refine ac_region (by kernel_rfl) ?_
                  first | refine aops_val (av_move_int rfl) ?_ | refine aops_val (av_move rfl) ?_
                  refine aops_val (av_lt rfl rfl) ?_
                  first | refine aops_val (av_move_bool rfl) ?_ | refine aops_val (av_move rfl) ?_
                  refine aops_guard rfl rfl rfl ?_ ?_
                  · intro hg14
                    have hp14 := hg14; try simp only [decide_eq_true_eq, decide_eq_false_iff_not, Bool.not_eq_true', Bool.not_eq_false'] at hp14
                    refine aops_skip (want_no rfl rfl rfl hg14 rfl) ?_
                    refine aops_skip (want_no rfl rfl rfl hg14 rfl) ?_
                    refine aops_skip (want_no rfl rfl rfl hg14 rfl) ?_
                    refine aops_val (av_pick_bool (congrArg Value.bool hg14) (by first | assumption | rfl)) ?_
                    first | refine aops_val (av_move_bool rfl) ?_ | refine aops_val (av_move rfl) ?_
                    refine aops_skip (want_no rfl rfl rfl rfl rfl) ?_
                    refine aops_skip (want_no rfl rfl rfl rfl rfl) ?_
                    refine aops_skip (want_no rfl rfl rfl rfl rfl) ?_
                    refine aops_skip (want_gone rfl rfl rfl) ?_
                    refine aops_skip (want_gone rfl rfl rfl) ?_
                    refine aops_skip (want_gone rfl rfl rfl) ?_
                    refine aops_skip (want_gone rfl rfl rfl) ?_
                    refine aops_skip (want_gone rfl rfl rfl) ?_
                    refine aops_skip (want_no rfl rfl rfl rfl rfl) ?_
                    refine aops_val (av_pick_bool (congrArg Value.bool (by first | assumption | rfl)) (by first | assumption | rfl)) ?_
                    refine ac_cond_true rfl rfl ?_
                    refine ac_seq ?_
                    refine ac_region (by kernel_rfl) ?_
                    first | refine aops_val (av_assign_bool rfl) ?_ | refine aops_val (av_assign rfl) ?_
                    refine ac_ret ?_
                    refine ⟨.bool false, aresult1 (ares_tmp rfl), false, rfl, fun h => (by cases h), fun hG => ?_⟩
                    obtain ⟨q1, q2, q3, q4⟩ := hG.ok i hix
                    rw [hmi, ← hq] at q4
                    have hpre : ∀ x ∈ f.order.take i, 0 ≤ x ∧ x < f.vars.length := fun x hx => by
                      obtain ⟨j, hj, rfl⟩ := List.getElem_of_mem hx
                      rw [List.length_take] at hj
                      have hj2 := hok j (by omega)
                      rw [List.getElem_take]
                      have e : f.order.getD j 0 = f.order[j] := getD_at (by omega)
                      rw [← e]
                      exact ⟨hj2.1, hj2.2.1⟩
                    exfalso
                    rcases q4 with q4 | q4
                    · omega
                    · first | exact hqt q4 | (have := hpre q q4; omega)
                  · intro hg14
                    have hp14 := hg14; try simp only [decide_eq_true_eq, decide_eq_false_iff_not, Bool.not_eq_true', Bool.not_eq_false'] at hp14
                    first | refine aops_wval (want_yes rfl rfl rfl hg14) (av_move_int rfl) ?_ | refine aops_wval (want_yes rfl rfl rfl hg14) (av_move rfl) ?_
                    first | refine aops_wval (want_yes rfl rfl rfl hg14) (av_move_int (by first | assumption | rfl)) ?_ | refine aops_wval (want_yes rfl rfl rfl hg14) (av_move (by first | assumption | rfl)) ?_
                    refine aops_wval (want_yes rfl rfl rfl hg14) (av_ge rfl rfl) ?_
                    refine aops_val (av_pick_bool (congrArg Value.bool hg14) rfl) ?_
                    first | refine aops_val (av_move_bool rfl) ?_ | refine aops_val (av_move rfl) ?_
                    refine aops_guard rfl rfl rfl ?_ ?_
                    · intro hg16
                      have hp16 := hg16; try simp only [decide_eq_true_eq, decide_eq_false_iff_not, Bool.not_eq_true', Bool.not_eq_false'] at hp16
                      refine aops_skip (want_no rfl rfl rfl hg16 rfl) ?_
                      refine aops_skip (want_no rfl rfl rfl hg16 rfl) ?_
                      refine aops_skip (want_no rfl rfl rfl hg16 rfl) ?_
                      refine aops_skip (want_gone rfl rfl rfl) ?_
                      refine aops_skip (want_gone rfl rfl rfl) ?_
                      refine aops_skip (want_gone rfl rfl rfl) ?_
                      refine aops_skip (want_gone rfl rfl rfl) ?_
                      refine aops_skip (want_gone rfl rfl rfl) ?_
                      refine aops_skip (want_no rfl rfl rfl hg16 rfl) ?_
                      refine aops_val (av_pick_bool (congrArg Value.bool hg16) (by first | assumption | rfl)) ?_
                      refine ac_cond_true rfl rfl ?_
                      refine ac_seq ?_
                      refine ac_region (by kernel_rfl) ?_
                      first | refine aops_val (av_assign_bool rfl) ?_ | refine aops_val (av_assign rfl) ?_
                      refine ac_ret ?_
                      refine ⟨.bool false, aresult1 (ares_tmp rfl), false, rfl, fun h => (by cases h), fun hG => ?_⟩
                      obtain ⟨q1, q2, q3, q4⟩ := hG.ok i hix
                      rw [hmi, ← hq] at q4
                      have hpre : ∀ x ∈ f.order.take i, 0 ≤ x ∧ x < f.vars.length := fun x hx => by
                        obtain ⟨j, hj, rfl⟩ := List.getElem_of_mem hx
                        rw [List.length_take] at hj
                        have hj2 := hok j (by omega)
                        rw [List.getElem_take]
                        have e : f.order.getD j 0 = f.order[j] := getD_at (by omega)
                        rw [← e]
                        exact ⟨hj2.1, hj2.2.1⟩
                      exfalso
                      rcases q4 with q4 | q4
                      · omega
                      · first | exact hqt q4 | (have := hpre q q4; omega)
                    · intro hg16
                      have hp16 := hg16; try simp only [decide_eq_true_eq, decide_eq_false_iff_not, Bool.not_eq_true', Bool.not_eq_false'] at hp16
                      first | refine aops_wval (want_yes rfl rfl rfl hg16) (av_move_int rfl) ?_ | refine aops_wval (want_yes rfl rfl rfl hg16) (av_move rfl) ?_
                      refine aops_wval (want_yes rfl rfl rfl hg16) (av_ge rfl rfl) ?_
                      first | refine aops_wval (want_yes rfl rfl rfl hg16) (av_move_bool rfl) ?_ | refine aops_wval (want_yes rfl rfl rfl hg16) (av_move rfl) ?_
                      refine aops_guard rfl rfl rfl ?_ ?_
                      · intro hg18
                        have hp18 := hg18; try simp only [decide_eq_true_eq, decide_eq_false_iff_not, Bool.not_eq_true', Bool.not_eq_false'] at hp18
                        first | refine aops_wval (want_yes rfl rfl rfl hg18) (av_move_sl (by first | assumption | rfl)) ?_ | refine aops_wval (want_yes rfl rfl rfl hg18) (av_move (by first | assumption | rfl)) ?_
                        first | refine aops_wval (want_yes rfl rfl rfl hg18) (av_move_int rfl) ?_ | refine aops_wval (want_yes rfl rfl rfl hg18) (av_move rfl) ?_
                        have hq1 : 0 ≤ q ∧ q < f.vars.length := by omega
                        have hcell4 : Hp.cell? _ (H.size + 1) (0 + q.toNat * 1) = some (.bool (decide (q ∈ f.order.take i))) := (cell_own kg1).trans (by
                          rw [Nat.zero_add, Nat.mul_one, List.getElem?_map, hseen.at hq1.1 hq1.2]; rfl)
                        refine aops_wval (want_yes rfl rfl rfl hg18) (av_indexAddr rfl rfl Try.underlying134 inf4.size t_idx t_idx) ?_
                        refine aops_wval (want_yes rfl rfl rfl hg18) (av_load1 rfl Try.underlying4 rfl t_cell) ?_
                        refine aops_wval (want_yes rfl rfl rfl hg18) (av_not rfl) ?_
                        refine aops_wval (want_yes rfl rfl rfl hg16) (av_pick_bool (congrArg Value.bool hg18) rfl) ?_
                        refine aops_val (av_pick_bool (congrArg Value.bool hg16) rfl) ?_
                        refine ac_split rfl rfl ?_ ?_
                        · intro hc19
                          have hqt : q ∉ f.order.take i := by simpa using hc19
                          refine ac_seq ?_
                          refine ac_region (by kernel_rfl) ?_
                          first | refine aops_val (av_assign_bool rfl) ?_ | refine aops_val (av_assign rfl) ?_
                          refine ac_ret ?_
                          refine ⟨.bool false, aresult1 (ares_tmp rfl), false, rfl, fun h => (by cases h), fun hG => ?_⟩
                          obtain ⟨q1, q2, q3, q4⟩ := hG.ok i hix
                          rw [hmi, ← hq] at q4
                          have hpre : ∀ x ∈ f.order.take i, 0 ≤ x ∧ x < f.vars.length := fun x hx => by
                            obtain ⟨j, hj, rfl⟩ := List.getElem_of_mem hx
                            rw [List.length_take] at hj
                            have hj2 := hok j (by omega)
                            rw [List.getElem_take]
                            have e : f.order.getD j 0 = f.order[j] := getD_at (by omega)
                            rw [← e]
                            exact ⟨hj2.1, hj2.2.1⟩
                          exfalso
                          rcases q4 with q4 | q4
                          · omega
                          · first | exact hqt q4 | (have := hpre q q4; omega)
                        · intro hc19
                          have hqm : q ∈ f.order.take i := by simpa using hc19
                          refine ac_skip ?_
                          refine ac_region (by kernel_rfl) ?_
                          first | refine aops_val (av_move_sl (by first | assumption | rfl)) ?_ | refine aops_val (av_move (by first | assumption | rfl)) ?_
                          first | refine aops_val (av_move_int rfl) ?_ | refine aops_val (av_move rfl) ?_
                          refine aops_val (av_indexAddr rfl rfl Try.underlying134 inf4.size t_idx t_idx) ?_
                          first | refine aops_op (aop_put1 rfl rfl rfl inf4.size t_get t_room rfl ?_)
                          refine ac_region (by kernel_rfl) ?_
                          first | refine aops_val (av_add64 (by first | assumption | rfl) (by first | assumption | rfl) t_fits) ?_ | refine aops_val (av_add (by first | assumption | rfl) (by first | assumption | rfl)) ?_
                          first | refine aops_val (av_move_int rfl) ?_ | refine aops_val (av_move rfl) ?_
                          have hq4 : q = -1 ∨ q ∈ f.order.take i := by first | exact .inr hqm | exact .inl (by omega)
                          refine ⟨f.order.length - (i + 1), by omega, i + 1, seen.set m.toNat true, by omega, rfl, ?_, ?_, fun j h => ?_, e1, e3, e4, e40, e41, rfl⟩
                          · have := hseen.set hm0.1 hm0.2
                            rwa [show f.order.take i ++ [m] = f.order.take (i + 1) by rw [← take_next hix1, ← hmi, getD_at hix1]] at this
                          · exact (Hp.push_put (H.push (.own 0 _)) _ _).trans (by rw [List.map_set, Nat.zero_add, Nat.mul_one]; rfl)
                          · rcases Nat.lt_or_ge j i with h1 | h1
                            · exact hok j h1
                            · obtain rfl : j = i := by omega
                              exact ⟨by rw [hmi]; exact hm0.1, by rw [hmi]; exact hm0.2, by rw [hmi]; exact hmn, by rw [hmi, ← hq]; exact hq4⟩
                      · intro hg18
                        have hp18 := hg18; try simp only [decide_eq_true_eq, decide_eq_false_iff_not, Bool.not_eq_true', Bool.not_eq_false'] at hp18
                        refine aops_skip (want_no rfl rfl rfl hg18 rfl) ?_
                        refine aops_skip (want_no rfl rfl rfl hg18 rfl) ?_
                        refine aops_skip (want_no rfl rfl rfl hg18 rfl) ?_
                        refine aops_skip (want_no rfl rfl rfl hg18 rfl) ?_
                        refine aops_skip (want_no rfl rfl rfl hg18 rfl) ?_
                        refine aops_wval (want_yes rfl rfl rfl hg16) (av_pick_bool (congrArg Value.bool hg18) (by first | assumption | rfl)) ?_
                        refine aops_val (av_pick_bool (congrArg Value.bool hg16) rfl) ?_
                        refine ac_cond_false rfl rfl ?_
                        refine ac_skip ?_
                        refine ac_region (by kernel_rfl) ?_
                        first | refine aops_val (av_move_sl (by first | assumption | rfl)) ?_ | refine aops_val (av_move (by first | assumption | rfl)) ?_
                        first | refine aops_val (av_move_int rfl) ?_ | refine aops_val (av_move rfl) ?_
                        refine aops_val (av_indexAddr rfl rfl Try.underlying134 inf4.size t_idx t_idx) ?_
                        first | refine aops_op (aop_put1 rfl rfl rfl inf4.size t_get t_room rfl ?_)
                        refine ac_region (by kernel_rfl) ?_
                        first | refine aops_val (av_add64 (by first | assumption | rfl) (by first | assumption | rfl) t_fits) ?_ | refine aops_val (av_add (by first | assumption | rfl) (by first | assumption | rfl)) ?_
                        first | refine aops_val (av_move_int rfl) ?_ | refine aops_val (av_move rfl) ?_
                        have hq4 : q = -1 ∨ q ∈ f.order.take i := by first | exact .inr hqm | exact .inl (by omega)
                        refine ⟨f.order.length - (i + 1), by omega, i + 1, seen.set m.toNat true, by omega, rfl, ?_, ?_, fun j h => ?_, e1, e3, e4, e40, e41, rfl⟩
                        · have := hseen.set hm0.1 hm0.2
                          rwa [show f.order.take i ++ [m] = f.order.take (i + 1) by rw [← take_next hix1, ← hmi, getD_at hix1]] at this
                        · exact (Hp.push_put (H.push (.own 0 _)) _ _).trans (by rw [List.map_set, Nat.zero_add, Nat.mul_one]; rfl)
                        · rcases Nat.lt_or_ge j i with h1 | h1
                          · exact hok j h1
                          · obtain rfl : j = i := by omega
                            exact ⟨by rw [hmi]; exact hm0.1, by rw [hmi]; exact hm0.2, by rw [hmi]; exact hmn, by rw [hmi, ← hq]; exact hq4⟩
          · intro hc8
            (try simp only [decide_eq_true_eq, decide_eq_false_iff_not, Bool.not_eq_true', Bool.not_eq_false'] at hc8)
            refine ac_exit ?_
            refine ac_seq ?_
            refine ac_region (by kernel_rfl) ?_
            first | refine aops_val (av_assign_bool rfl) ?_ | refine aops_val (av_assign rfl) ?_
            refine ac_ret ?_
            exact ⟨.bool true, aresult1 (ares_tmp rfl), true, rfl, fun _ => ⟨hlens.1, hlens.2.1, hlens.2.2.1, hlens.2.2.2, fun j h => hok j (by omega)⟩, fun _ => rfl⟩
theorem GoodF_for (f : Forest) (cs : List Value) (H : Hp) (hp : kForest.rep H f cs) (hl0 : f.vars.length ≤ 1000000) (hl1 : f.order.length ≤ 1000000) (hl2 : f.parent.length ≤ 1000000) :
    ACalls Try.prog 97 #[.agg cs.toArray] H (fun r H' => (∃ g, r = .bool g ∧ (g = true ↔ GoodF f)) ∧ H' = H) :=
  ACalls.pure (fun v ⟨g, h, _⟩ => by rw [h]; rfl) (GoodF_for_raw f cs H.ro (kForest.mono H.sees_ro hp) hl0 hl1 hl2)
theorem GoodF_For (f : Forest) (cs : List Value) (H : Hp) (hp : kForest.rep H f cs) (hl0 : f.vars.length ≤ 1000000) (hl1 : f.order.length ≤ 1000000) (hl2 : f.parent.length ≤ 1000000) :
    ACalls Try.prog 90 #[.agg cs.toArray] H (fun r H' => (∃ g, r = .bool g ∧ (g = true ↔ GoodF f)) ∧ H' = H) := by
  refine ACalls.pure (R := fun r => ∃ g, r = .bool g ∧ (g = true ↔ GoodF f)) (fun v ⟨g, h, _⟩ => by rw [h]; rfl) ?_
  have hp' := kForest.mono H.sees_ro hp
  have hp0 := hp'
  obtain ⟨v0, v1, v2, v3, v4, rfl, hs0, hs1, hs2, hs3, hs4⟩ := hp'
  obtain ⟨A0, c0, rfl⟩ := hs0.shape
  obtain ⟨A1, c1, rfl⟩ := hs1.shape
  obtain ⟨A2, c2, rfl⟩ := hs2.shape
  obtain ⟨A3, c3, rfl⟩ := hs3.shape
  obtain ⟨A4, c4, rfl⟩ := hs4.shape
  refine acalls_of_code Try.func90 rfl rfl rfl (by simp) ?_
  refine ac_seq ?_
  refine ac_region (by kernel_rfl) ?_
  refine aops_make (am_box_agg rfl) ?_
  first | refine aops_val (av_assign_bool rfl) ?_ | refine aops_val (av_assign rfl) ?_
  refine ac_seq ?_
  refine ac_region (by kernel_rfl) ?_
  first | refine aops_val (av_loadN (cs := [.slice _ _ _, .slice _ _ _, .slice _ _ _, .slice _ _ _, .slice _ _ _]) rfl Try.underlying26 rfl inf26.size t_cells) ?_ | refine aops_val (av_loadN (cs := [_, _, _, _, _]) rfl Try.underlying26 rfl inf26.size t_cells) ?_
  refine aops_op (aop_call (GoodF_for f _ _ (kForest.mono (Hp.le_push _ _).sees hp0) hl0 hl1 hl2) rfl Try.func97 rfl rfl rfl ?_)
  rintro v2 H2 ⟨⟨g, rfl, hg⟩, rfl⟩
  first | refine aops_val (av_assign_bool rfl) ?_ | refine aops_val (av_assign rfl) ?_
  refine ac_ret ?_
  exact ⟨.bool g, aresult1 (ares_tmp rfl), g, rfl, hg⟩
end Go.Proofs.Ytcaeoebphfjfiaa.Am
