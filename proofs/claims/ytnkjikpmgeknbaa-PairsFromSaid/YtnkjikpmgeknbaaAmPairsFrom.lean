/- The statement PairsFrom, as the abstract machine runs it. -/
import Derived.Test.YtnkjikpmgeknbaaAmPairsFromL
namespace Go.Proofs.Ytnkjikpmgeknbaa.Am
open Go Go.RowKit
set_option maxRecDepth 100000
set_option linter.unusedVariables false
set_option linter.unusedSimpArgs false

/-- An own row of links, where another block becomes something else. -/
theorem OwnP.links_put {G H : Hp} {v : Value} {xs : List Link} (h : OwnP kLink G H v xs) {b1 : Nat} (hl : G.get b1 ≠ .dead) (x : Blk) : OwnP kLink (G.put b1 x) (H.put b1 x) v xs := by
  rcases h with ⟨rfl, rfl, rfl⟩ | ⟨b, cs, c, rfl, hb, hd, rfl, hc, he⟩
  · exact .inl ⟨rfl, rfl, rfl⟩
  · have hne : b ≠ b1 := fun e => hl (e ▸ hd)
    exact .inr ⟨b, cs, c, rfl, hb, by rw [Hp.put_other _ _ hne]; exact hd, (Hp.put_comm _ hne _ _), hc, ⟨he.1, fun i y hy => he.2 i y hy⟩⟩
theorem OwnP.of_lit {α : Type} (k : Kd α) {H : Hp} {b c : Nat} {cs : List Value} (hb : b < H.size) (hg : H.get b = .own k.sz cs) : OwnP k (H.put b .dead) H (.slice (some ⟨b, 0, none⟩) 0 c) [] :=
  .inr ⟨b, cs, c, rfl, hb, Hp.put_same _ _ _, by rw [Hp.put_put, Hp.put_self _ hg], .inr (Nat.zero_le _), Els.nil _ _ _⟩
set_option maxHeartbeats 4000000 in
theorem PairsFrom_ok (l0 : List Link) (v : Value) (a : Int) (H : Hp) (hs0 : Sl kLink H v l0) (hl0 : l0.length ≤ 9223372036854775807) :
    ACalls Try.prog 3 #[v, .int .i64 a] H (fun r H' => r = .bool true ∧ H.le H') := by
  obtain ⟨A0, c0, rfl⟩ := hs0.shape
  obtain ⟨L, hL⟩ : ∃ L, L = fewL l0 := ⟨_, rfl⟩
  have hLl := fewL_len l0
  have hLL := fewL_fewL l0
  rw [← hL] at hLl hLL
  refine acalls_of_code Try.func3 rfl rfl rfl (by simp) ?_
  refine ac_seq ?_
  refine ac_region (by kernel_rfl) ?_
  first | refine aops_val (av_assign_bool rfl) ?_ | refine aops_val (av_assign rfl) ?_
  refine ac_seq ?_
  refine ac_region (by kernel_rfl) ?_
  first | refine aops_val (av_move_sl rfl) ?_ | refine aops_val (av_move rfl) ?_
  refine aops_op (aop_call (Few_links l0 _ _ hs0 hl0) rfl Try.func14 rfl rfl rfl ?_)
  rintro v1 H1 ⟨G1, hle1, hown1⟩; rw [← hL] at hown1; have hs := hown1.sl; have hleH1 := Hp.le_trans hle1 hown1.le; obtain ⟨A, c, rfl⟩ := hs.shape; clear hown1
  first | refine aops_val (av_assign_sl rfl) ?_ | refine aops_val (av_assign rfl) ?_
  refine ac_seq ?_
  refine ac_seq ?_
  refine ac_region (by kernel_rfl) ?_
  first | refine aops_val (av_move_sl rfl) ?_ | refine aops_val (av_move rfl) ?_
  refine aops_op (aop_call (Good_links L _ _ hs (by omega)) rfl Try.func15 rfl rfl rfl ?_)
  rintro v2 H1 ⟨⟨g, rfl, hg⟩, rfl⟩
  refine aops_val (av_not rfl) ?_
  refine ac_split rfl rfl ?_ ?_
  · intro hc1
    have hgf : g = false := by simpa using hc1
    refine ac_seq ?_
    refine ac_region (by kernel_rfl) ?_
    refine aops_op (aop_call (lives22_ok _) rfl Try.func16 rfl rfl rfl ?_)
    rintro v H' ⟨rfl, hlv⟩
    first | refine aops_val (av_assign_bool rfl) ?_ | refine aops_val (av_assign rfl) ?_
    refine ac_ret ?_
    exact ⟨.bool true, aresult1 (ares_tmp rfl), rfl, Hp.le_trans hleH1 hlv⟩
  · intro hc1
    have hgt : GoodL L := hg.1 (by simpa using hc1)
    have hrise := goodL_rise hgt
    have hflat := ends_flat hrise
    refine ac_skip ?_
    refine ac_seq ?_
    refine ac_region (by kernel_rfl) ?_
    first | refine aops_make (am_buildSlice (r := []) Try.underlying22 inf28.size inf28.zero rfl (by decide) (by decide) (by decide) rfl) ?_
    first | refine aops_make (am_buildSlice (r := []) Try.underlying22 inf28.size inf28.zero rfl (by decide) (by decide) (by decide) rfl) ?_
    first | refine aops_val (av_assign_sl rfl) ?_ | refine aops_val (av_assign rfl) ?_
    first | refine aops_val (av_assign_sl rfl) ?_ | refine aops_val (av_assign rfl) ?_
    refine ac_seq ?_
    refine ac_seq ?_
    refine ac_region (by kernel_rfl) ?_
    first | refine aops_val (av_assign_int rfl) ?_ | refine aops_val (av_assign rfl) ?_
    refine ac_block ?_
    refine ac_loop (fun n t H' => ∃ (i : Nat) (G : Hp) (B : Option Addr) (c5 : Nat), i ≤ L.length ∧ n = L.length - i ∧ H1.le G ∧ G.get (H1.size + 1) = .own 4 [] ∧ H1.size + 1 < G.size ∧ OwnP kLink G H' (.slice B ((L.take i).filter fun x => decide (x.a = a)).length c5) ((L.take i).filter fun x => decide (x.a = a)) ∧ t 0 = .slice A L.length c ∧ t 1 = .int .i64 a ∧ t 5 = .slice B ((L.take i).filter fun x => decide (x.a = a)).length c5 ∧ t 6 = .slice (some ⟨H1.size + 1, 0, none⟩) 0 0 ∧ t 7 = .int .i64 i) (L.length) (⟨0, (H1.push .dead).push (.own 4 []), _, _, by omega, rfl, Hp.le_push' (H1.le_push _) _, by (repeat (first | assumption | exact Hp.push_new _ _ | exact Hp.put_same _ _ _ | refine (Hp.push_old _ _ (by (first | assumption | (simp; done) | (simp; omega) | omega))).trans ?_ | refine (Hp.put_other _ _ (by (first | assumption | omega | (simp; done) | (simp; omega)))).trans ?_ | refine le_got (by assumption) (by (first | assumption | (simp; done) | (simp; omega) | omega)) (by intro e; cases e) ?_)), by simp, (OwnP.lit kLink H1).push (.own 4 []), rfl, rfl, rfl, rfl, rfl⟩) ?_
    rintro n t H2 ⟨i, G, B, c5, hi, rfl, hle, hgb, hgs, hown, e0, e1, e5, e6, e7⟩
    have hz := hown.size
    have hlen : ((L.take i).filter fun x => decide (x.a = a)).length ≤ i := Nat.le_trans (List.length_filter_le _ _) (by rw [List.length_take]; omega)
    refine ac_seq ?_
    refine ac_seq ?_
    refine ac_region (by kernel_rfl) ?_
    first | refine aops_val (av_move_int (by first | assumption | rfl)) ?_ | refine aops_val (av_move (by first | assumption | rfl)) ?_
    first | refine aops_val (av_move_sl (by first | assumption | rfl)) ?_ | refine aops_val (av_move (by first | assumption | rfl)) ?_
    refine aops_val (av_len rfl Try.underlying22) ?_
    refine aops_val (av_lt rfl rfl) ?_
    refine ac_split rfl rfl ?_ ?_
    · intro hc2
      (try simp only [decide_eq_true_eq, decide_eq_false_iff_not, Bool.not_eq_true', Bool.not_eq_false'] at hc2)
      refine ac_skip ?_
      refine ac_seq ?_
      refine ac_block ?_
      refine ac_seq ?_
      have hix : i < L.length := by omega
      obtain ⟨b, o, rfl, hb, hcell0⟩ := (hs.mono hle.sees).link_at hix
      have hcells := hown.le.cells hb hcell0
      have hcell1 := hcells 0 _ rfl
      have hstep : L.take (i + 1) = L.take i ++ [L[i]] := (take_next hix).symm
      refine ac_region (by kernel_rfl) ?_
      first | refine aops_val (av_move_sl (by first | assumption | rfl)) ?_ | refine aops_val (av_move (by first | assumption | rfl)) ?_
      first | refine aops_val (av_move_int (by first | assumption | rfl)) ?_ | refine aops_val (av_move (by first | assumption | rfl)) ?_
      refine aops_val (av_indexAddr rfl rfl Try.underlying22 inf28.size (by (first | assumption | omega | (simp only [Int.toNat_natCast] at *; omega))) (by (first | assumption | omega | (simp only [Int.toNat_natCast] at *; omega)))) ?_
      refine aops_val (av_fieldOff (off := 0) rfl Try.underlying28 rfl inf3.size (by decide) rfl) ?_
      refine aops_val (av_load1 rfl Try.underlying3 rfl (by (first | assumption | exact (cell_own (by (repeat (first | assumption | exact Hp.push_new _ _ | exact Hp.put_same _ _ _ | refine (Hp.push_old _ _ (by (first | assumption | (simp; done) | (simp; omega) | omega))).trans ?_ | refine (Hp.put_other _ _ (by (first | assumption | omega | (simp; done) | (simp; omega)))).trans ?_ | refine le_got (by assumption) (by (first | assumption | (simp; done) | (simp; omega) | omega)) (by intro e; cases e) ?_)))).trans rfl | exact Hp.cell_le (by assumption) (by (repeat (first | assumption | exact Hp.le_refl _ | refine Hp.le_put_new ?_ (by first | (first | assumption | (simp; done) | (simp; omega) | omega) | exact (show Hp.le _ _ by assumption).1) _ | refine Hp.le_push' ?_ _ | refine Hp.le_trans ?_ (by assumption)))) (by (first | assumption | (simp; done) | (simp; omega) | omega))))) ?_
      first | refine aops_val (av_move_int (by first | assumption | rfl)) ?_ | refine aops_val (av_move (by first | assumption | rfl)) ?_
      refine aops_val (av_eq rfl rfl) ?_
      refine ac_split rfl rfl ?_ ?_
      · intro hc3
        have hxa : L[i].a = a := by simpa using hc3
        have hf1 : ((L.take (i + 1)).filter fun x => decide (x.a = a)) = ((L.take i).filter fun x => decide (x.a = a)) ++ [L[i]] := by rw [hstep, List.filter_append]; congr 1; simp [hxa]
        refine ac_region (by kernel_rfl) ?_
        first | refine aops_val (av_move_sl (by first | assumption | rfl)) ?_ | refine aops_val (av_move (by first | assumption | rfl)) ?_
        first | refine aops_val (av_move_sl (by first | assumption | rfl)) ?_ | refine aops_val (av_move (by first | assumption | rfl)) ?_
        first | refine aops_val (av_move_int (by first | assumption | rfl)) ?_ | refine aops_val (av_move (by first | assumption | rfl)) ?_
        refine aops_val (av_indexAddr rfl rfl Try.underlying22 inf28.size (by (first | assumption | omega | (simp only [Int.toNat_natCast] at *; omega))) (by (first | assumption | omega | (simp only [Int.toNat_natCast] at *; omega)))) ?_
        refine aops_val (av_loadN (cs := [.int .i64 _, .int .i64 _, .int .i64 _, .int .u64 _]) rfl Try.underlying28 rfl inf28.size (by (first | assumption | exact cells_get (by (repeat (first | assumption | exact Hp.push_new _ _ | exact Hp.put_same _ _ _ | refine (Hp.push_old _ _ (by (first | assumption | (simp; done) | (simp; omega) | omega))).trans ?_ | refine (Hp.put_other _ _ (by (first | assumption | omega | (simp; done) | (simp; omega)))).trans ?_ | refine le_got (by assumption) (by (first | assumption | (simp; done) | (simp; omega) | omega)) (by intro e; cases e) ?_))) rfl | exact Cells.le (by assumption) (by (repeat (first | assumption | exact Hp.le_refl _ | refine Hp.le_put_new ?_ (by first | (first | assumption | (simp; done) | (simp; omega) | omega) | exact (show Hp.le _ _ by assumption).1) _ | refine Hp.le_push' ?_ _ | refine Hp.le_trans ?_ (by assumption)))) (by (first | assumption | (simp; done) | (simp; omega) | omega))))) ?_
        first | refine aops_make (am_buildSlice (r := [.int .i64 _, .int .i64 _, .int .i64 _, .int .u64 _]) Try.underlying22 inf28.size inf28.zero rfl (by decide) (by decide) (by decide) rfl) ?_
        refine aops_op (OwnP.append (ys := [L[i]]) (hown.push (.own 4 [.int .i64 L[i].a, .int .i64 L[i].b, .int .i64 L[i].cost, .int .u64 L[i].n])) Try.underlying22 inf28 rfl rfl rfl (sl_one (k := kLink) rfl rfl hown.size rfl) (by simp only [List.length_singleton]; omega) (by simp only [List.length_singleton]; omega) ?_)
        rintro v6 G6 H6 hle6 hown6
        rw [← hf1] at hown6
        obtain ⟨B', c', e6'⟩ := hown6.shape
        subst e6'
        have hs6 := hle6.1
        simp only [Hp.push_size] at hs6
        have hgb6 : G6.get (H1.size + 1) = .own 4 [] := le_got hle6 (by simp; omega) (by intro e; cases e) (by rw [Hp.push_old _ _ hgs]; exact hgb)
        first | refine aops_val (av_assign_sl rfl) ?_ | refine aops_val (av_assign rfl) ?_
        refine ac_region (by kernel_rfl) ?_
        first | refine aops_val (av_move_int (by first | assumption | rfl)) ?_ | refine aops_val (av_move (by first | assumption | rfl)) ?_
        first | refine aops_val (av_add64 rfl rfl (by (first | assumption | omega | (simp; omega)))) ?_ | refine aops_val (av_add rfl rfl) ?_
        first | refine aops_val (av_assign_int rfl) ?_ | refine aops_val (av_assign rfl) ?_
        first
        | exact ⟨L.length - (i + 1), by omega, i + 1, G6, B', c', by omega, rfl, Hp.le_trans (Hp.le_push' hle _) hle6, hgb6, by omega, hown6, e0, e1, rfl, e6, rfl⟩
        | exact ⟨L.length - (i + 1), by omega, i + 1, G, B, c5, by omega, rfl, hle, hgb, hgs, by rw [hf2]; exact hown, e0, e1, by rw [hf2]; exact e5, e6, rfl⟩
      · intro hc3
        have hxa : L[i].a ≠ a := by simpa using hc3
        have hf2 : ((L.take (i + 1)).filter fun x => decide (x.a = a)) = ((L.take i).filter fun x => decide (x.a = a)) := by rw [hstep, List.filter_append]; simp [hxa]
        refine ac_skip ?_
        refine ac_region (by kernel_rfl) ?_
        first | refine aops_val (av_move_int (by first | assumption | rfl)) ?_ | refine aops_val (av_move (by first | assumption | rfl)) ?_
        first | refine aops_val (av_add64 rfl rfl (by (first | assumption | omega | (simp; omega)))) ?_ | refine aops_val (av_add rfl rfl) ?_
        first | refine aops_val (av_assign_int rfl) ?_ | refine aops_val (av_assign rfl) ?_
        first
        | exact ⟨L.length - (i + 1), by omega, i + 1, G6, B', c', by omega, rfl, Hp.le_trans (Hp.le_push' hle _) hle6, hgb6, by omega, hown6, e0, e1, rfl, e6, rfl⟩
        | exact ⟨L.length - (i + 1), by omega, i + 1, G, B, c5, by omega, rfl, hle, hgb, hgs, by rw [hf2]; exact hown, e0, e1, by rw [hf2]; exact e5, e6, rfl⟩
    · intro hc2
      (try simp only [decide_eq_true_eq, decide_eq_false_iff_not, Bool.not_eq_true', Bool.not_eq_false'] at hc2)
      refine ac_exit ?_
      refine ac_seq ?_
      have hi2 : L.take i = L := List.take_of_length_le (by omega)
      rw [hi2] at hown e5
      have hleH2 : H1.le H2 := Hp.le_trans hle hown.le
      have hgb2 : H2.get (H1.size + 1) = .own 4 [] := le_got hown.le hgs (by intro e; cases e) hgb
      have hwant0 := (hown.links_put (b1 := H1.size + 1) (by rw [hgb]; intro e; cases e) .dead).sl
      have hall0 : OwnP kLink (H2.put (H1.size + 1) .dead) H2 (.slice (some ⟨H1.size + 1, 0, none⟩) 0 0) [] := OwnP.of_lit kLink (by omega) hgb2
      have hleK : H1.le (H2.put (H1.size + 1) .dead) := Hp.le_put_new hleH2 (by omega) _
      refine ac_region (by kernel_rfl) ?_
      first | refine aops_val (av_move_sl (by first | assumption | rfl)) ?_ | refine aops_val (av_move (by first | assumption | rfl)) ?_
      refine aops_op (aop_call (hall0.calls (Few_links L _ _ (hs.mono hleK.sees) (by omega)) (fun r G' ⟨G2, a, b⟩ => Hp.le_trans a b.le)) rfl Try.func14 rfl rfl rfl ?_)
      rintro v3 H3 ⟨K3, ⟨K30, hle3, hown3⟩, hall3, hleH3⟩; rw [hLL] at hown3; have hs3 := hown3.sl; have hleK3 := Hp.le_trans hle3 hown3.le
      refine aops_op (aop_call (hall3.calls (Ends_links L _ false _ hs3 (by omega)) (fun r G' ⟨G2, a, b⟩ => Hp.le_trans a b.le)) rfl Try.func17 rfl rfl rfl ?_)
      rintro v4 H4 ⟨K4, ⟨K40, hle4, hown4⟩, hall4, hleH4⟩; have hends := hown4.sl; have hleK4 := Hp.le_trans hle4 hown4.le; have hleK04 := Hp.le_trans hleK3 hleK4
      first | refine aops_val (av_assign_sl rfl) ?_ | refine aops_val (av_assign rfl) ?_
      refine ac_seq ?_
      refine ac_seq ?_
      obtain ⟨AE, cE, rfl⟩ := hends.shape
      have hEl : (endsL L false).length ≤ 25 := by
        have h1 : (endsL L false).length ≤ ((L.map fun x => if false then x.b else x.a).mergeSort fun x y => decide (x ≤ y)).length := by
          unfold endsL Lib.compact Lib.compactUpTo
          rw [List.length_map]
          exact Nat.le_trans (List.length_filter_le _ _) (by simp)
        rw [List.length_mergeSort, List.length_map] at h1
        omega
      refine ac_region (by kernel_rfl) ?_
      first | refine aops_val (av_assign_int rfl) ?_ | refine aops_val (av_assign rfl) ?_
      refine ac_block ?_
      refine ac_loop (fun n t H' => ∃ (i : Nat) (K : Hp) (C : Option Addr) (c6 : Nat) (out : List Link), i ≤ (endsL L false).length ∧ n = (endsL L false).length - i ∧ K4.le K ∧ out = ((endsL L false).take i).flatMap (fun e => L.filter fun x => decide (x.a = e)) ∧ out.length ≤ 25 * i ∧ OwnP kLink K H' (.slice C out.length c6) out ∧ t 0 = .slice A L.length c ∧ t 1 = .int .i64 a ∧ t 5 = .slice B (L.filter fun x => decide (x.a = a)).length c5 ∧ t 6 = .slice C out.length c6 ∧ t 8 = .slice AE (endsL L false).length cE ∧ t 9 = .int .i64 i) ((endsL L false).length) (⟨0, K4, _, _, [], by omega, rfl, Hp.le_refl _, rfl, by simp, hall4, e0, e1, e5, by first | exact e6 | rfl, rfl, rfl⟩) ?_
      rintro n t H5 ⟨j, K5, C, c6, out, hj, rfl, hle5, hout, hol, hall5, e0, e1, e5, e6, e8, e9⟩
      have hz5 := hall5.size
      refine ac_seq ?_
      refine ac_seq ?_
      refine ac_region (by kernel_rfl) ?_
      first | refine aops_val (av_move_int (by first | assumption | rfl)) ?_ | refine aops_val (av_move (by first | assumption | rfl)) ?_
      first | refine aops_val (av_move_sl (by first | assumption | rfl)) ?_ | refine aops_val (av_move (by first | assumption | rfl)) ?_
      refine aops_val (av_len rfl Try.underlying29) ?_
      refine aops_val (av_lt rfl rfl) ?_
      refine ac_split rfl rfl ?_ ?_
      · intro hc4
        (try simp only [decide_eq_true_eq, decide_eq_false_iff_not, Bool.not_eq_true', Bool.not_eq_false'] at hc4)
        refine ac_skip ?_
        refine ac_seq ?_
        refine ac_block ?_
        have hjx : j < (endsL L false).length := by omega
        obtain ⟨b, o, rfl, _, hb4, hcut, _⟩ := hends.place (by omega)
        obtain ⟨b2, o2, e2, hb, hcell0⟩ := (hends.mono hle5.sees).int_at (i := (j : Int)) (by omega) (by omega)
        simp only [Option.some.injEq, Addr.mk.injEq, and_true] at e2
        obtain ⟨rfl, rfl⟩ := e2
        have hcell1 := hall5.le.cell1 hb hcell0
        have hbH : b < H5.size := by have := hall5.le.1; omega
        have hdead4 : K4.get b ≠ .dead := Blk.cut_ne hcut
        have hS4 : ∀ x ∈ [b], x < K4.size ∧ K4.get x ≠ .dead := fun x hx => by simp at hx; subst hx; exact ⟨hb4, hdead4⟩
        have hdead5 : H5.get b ≠ .dead := by rw [(Hp.le_trans hle5 hall5.le).2 b hb4 hdead4]; exact hdead4
        have hleK15 := Hp.le_trans hleK (Hp.le_trans hleK04 hle5)
        refine ac_draw (by kernel_rfl) (reg_of (B := [0, 0, 2, 0, 0, 24, 56, 126, 255, 511]) (π := [0, 1, 3, 4, 5, 6, 2, 7, 8, 9]) (by kernel_rfl)) ?_
        first | refine adr_val rfl rfl (av_move_sl (by first | assumption | rfl)) (by (simp only [List.not_mem_nil, List.mem_singleton, false_implies, forall_eq, implies_true, Hp.put_size, Hp.push_size]; try omega)) ?_ | refine adr_val rfl rfl (av_move (by first | assumption | rfl)) (by (simp only [List.not_mem_nil, List.mem_singleton, false_implies, forall_eq, implies_true, Hp.put_size, Hp.push_size]; try omega)) ?_
        first | refine adr_val rfl rfl (av_move_sl (by first | assumption | rfl)) (by (simp only [List.not_mem_nil, List.mem_singleton, false_implies, forall_eq, implies_true, Hp.put_size, Hp.push_size]; try omega)) ?_ | refine adr_val rfl rfl (av_move (by first | assumption | rfl)) (by (simp only [List.not_mem_nil, List.mem_singleton, false_implies, forall_eq, implies_true, Hp.put_size, Hp.push_size]; try omega)) ?_
        first | refine adr_val rfl rfl (av_move_sl (by first | assumption | rfl)) (by (simp only [List.not_mem_nil, List.mem_singleton, false_implies, forall_eq, implies_true, Hp.put_size, Hp.push_size]; try omega)) ?_ | refine adr_val rfl rfl (av_move (by first | assumption | rfl)) (by (simp only [List.not_mem_nil, List.mem_singleton, false_implies, forall_eq, implies_true, Hp.put_size, Hp.push_size]; try omega)) ?_
        first | refine adr_val rfl rfl (av_move_int (by first | assumption | rfl)) (by (simp only [List.not_mem_nil, List.mem_singleton, false_implies, forall_eq, implies_true, Hp.put_size, Hp.push_size]; try omega)) ?_ | refine adr_val rfl rfl (av_move (by first | assumption | rfl)) (by (simp only [List.not_mem_nil, List.mem_singleton, false_implies, forall_eq, implies_true, Hp.put_size, Hp.push_size]; try omega)) ?_
        refine adr_val rfl rfl (av_indexAddr rfl rfl Try.underlying29 inf3.size (by (first | assumption | omega | (simp only [Int.toNat_natCast] at *; omega))) (by (first | assumption | omega | (simp only [Int.toNat_natCast] at *; omega)))) (by (simp only [List.not_mem_nil, List.mem_singleton, false_implies, forall_eq, implies_true, Hp.put_size, Hp.push_size]; try omega)) ?_
        refine adr_val rfl rfl (av_load1 rfl Try.underlying3 rfl (by (first | assumption | exact (cell_own (by (repeat (first | assumption | exact Hp.push_new _ _ | exact Hp.put_same _ _ _ | refine (Hp.push_old _ _ (by (first | assumption | (simp; done) | (simp; omega) | omega))).trans ?_ | refine (Hp.put_other _ _ (by (first | assumption | omega | (simp; done) | (simp; omega)))).trans ?_ | refine le_got (by assumption) (by (first | assumption | (simp; done) | (simp; omega) | omega)) (by intro e; cases e) ?_)))).trans rfl | exact Hp.cell_le (by assumption) (by (repeat (first | assumption | exact Hp.le_refl _ | refine Hp.le_put_new ?_ (by first | (first | assumption | (simp; done) | (simp; omega) | omega) | exact (show Hp.le _ _ by assumption).1) _ | refine Hp.le_push' ?_ _ | refine Hp.le_trans ?_ (by assumption)))) (by (first | assumption | (simp; done) | (simp; omega) | omega))))) (by (simp only [List.not_mem_nil, List.mem_singleton, false_implies, forall_eq, implies_true, Hp.put_size, Hp.push_size]; try omega)) ?_
        refine adr_op rfl rfl (aop_call (hall5.calls (Few_links L _ _ (hs.mono hleK15.sees) (by omega)) (fun r G' ⟨G2, a, b⟩ => Hp.le_trans a b.le)) rfl Try.func14 rfl rfl rfl ?_)
        rintro v7 H7 ⟨K7, ⟨K70, hle7, hown7⟩, hall7, hleH7⟩; rw [hLL] at hown7; have hs7 := hown7.sl; have hleK7 := Hp.le_trans hle7 hown7.le; have hsame : ∀ x ∈ [b], H7.get x = H5.get x := (fun x hx => by simp at hx; subst hx; exact hleH7.2 _ hbH hdead5)
        refine ⟨by (first | exact fun _ _ _ _ _ => rfl | (repeat (first | exact List.forall_mem_nil _ | refine List.forall_mem_cons.2 ⟨?_, ?_⟩ | (intro hb b hbm; first | (dsimp only at hb; exact absurd hb (by decide)) | (exact absurd hbm (List.not_mem_nil)) | (simp only [List.mem_singleton] at hbm; subst hbm; (first | rfl | exact Hp.put_other _ _ (by (first | assumption | omega | (simp; done) | (simp; omega))) | exact Hp.le.same (by assumption) (by (first | assumption | (simp; done) | (simp; omega) | omega)) (by (repeat (first | assumption | exact Hp.push_new _ _ | exact Hp.put_same _ _ _ | refine (Hp.push_old _ _ (by (first | assumption | (simp; done) | (simp; omega) | omega))).trans ?_ | refine (Hp.put_other _ _ (by (first | assumption | omega | (simp; done) | (simp; omega)))).trans ?_ | refine le_got (by assumption) (by (first | assumption | (simp; done) | (simp; omega) | omega)) (by intro e; cases e) ?_))) | exact hsameO _ _ _ (by (first | assumption | (simp; done) | (simp; omega) | omega)) (by (repeat (first | assumption | exact Hp.push_new _ _ | exact Hp.put_same _ _ _ | refine (Hp.push_old _ _ (by (first | assumption | (simp; done) | (simp; omega) | omega))).trans ?_ | refine (Hp.put_other _ _ (by (first | assumption | omega | (simp; done) | (simp; omega)))).trans ?_ | refine le_got (by assumption) (by (first | assumption | (simp; done) | (simp; omega) | omega)) (by intro e; cases e) ?_))))) | exact hsame _ hbm | exact hsame2 _ hbm)))), ?_⟩
        refine adr_op rfl rfl (aop_call (hall7.calls (From_links L _ _ _ hs7 (by omega) hrise) (fun r G' ⟨G2, a, b⟩ => Hp.le_trans a b.le)) rfl Try.func18 rfl rfl rfl ?_)
        rintro v8 H8 ⟨K8, ⟨K80, hle8, hown8⟩, hall8, hleH8⟩; have hs8 := hown8.sl; have hleK8 := Hp.le_trans hle8 hown8.le; have hsame : ∀ x ∈ [b], H8.get x = H7.get x := (fun x hx => by simp at hx; subst hx; exact hleH8.2 _ (Nat.lt_of_lt_of_le hbH hleH7.1) (by rw [hleH7.2 _ hbH hdead5]; exact hdead5))
        refine ⟨by (first | exact fun _ _ _ _ _ => rfl | (repeat (first | exact List.forall_mem_nil _ | refine List.forall_mem_cons.2 ⟨?_, ?_⟩ | (intro hb b hbm; first | (dsimp only at hb; exact absurd hb (by decide)) | (exact absurd hbm (List.not_mem_nil)) | (simp only [List.mem_singleton] at hbm; subst hbm; (first | rfl | exact Hp.put_other _ _ (by (first | assumption | omega | (simp; done) | (simp; omega))) | exact Hp.le.same (by assumption) (by (first | assumption | (simp; done) | (simp; omega) | omega)) (by (repeat (first | assumption | exact Hp.push_new _ _ | exact Hp.put_same _ _ _ | refine (Hp.push_old _ _ (by (first | assumption | (simp; done) | (simp; omega) | omega))).trans ?_ | refine (Hp.put_other _ _ (by (first | assumption | omega | (simp; done) | (simp; omega)))).trans ?_ | refine le_got (by assumption) (by (first | assumption | (simp; done) | (simp; omega) | omega)) (by intro e; cases e) ?_))) | exact hsameO _ _ _ (by (first | assumption | (simp; done) | (simp; omega) | omega)) (by (repeat (first | assumption | exact Hp.push_new _ _ | exact Hp.put_same _ _ _ | refine (Hp.push_old _ _ (by (first | assumption | (simp; done) | (simp; omega) | omega))).trans ?_ | refine (Hp.put_other _ _ (by (first | assumption | omega | (simp; done) | (simp; omega)))).trans ?_ | refine le_got (by assumption) (by (first | assumption | (simp; done) | (simp; omega) | omega)) (by intro e; cases e) ?_))))) | exact hsame _ hbm | exact hsame2 _ hbm)))), ?_⟩
        have hle48 := Hp.le_trans hle5 (Hp.le_trans hleK7 hleK8)
        have hfl : (L.filter fun x => decide (x.a = (endsL L false).getD (j : Int).toNat 0)).length ≤ 25 := Nat.le_trans (List.length_filter_le _ _) (by omega)
        refine adr_op rfl rfl (OwnP.append (ys := L.filter fun x => decide (x.a = (endsL L false).getD (j : Int).toNat 0)) hall8 Try.underlying22 inf28 rfl rfl rfl hs8 (by omega) (by omega) ?_)
        rintro v9 K9 H9 hle9 hall9
        have hsame := OwnP.sameS hall8 hle9 hall9 (H0 := K4) hle48 hS4
        have hout2 : ((endsL L false).take (j + 1)).flatMap (fun e => L.filter fun x => decide (x.a = e)) = out ++ L.filter fun x => decide (x.a = (endsL L false).getD (j : Int).toNat 0) := by
          rw [← take_next hjx, List.flatMap_append, ← hout, Int.toNat_natCast, getD_at hjx]; simp
        rw [← hout2] at hall9
        have hol2 : (((endsL L false).take (j + 1)).flatMap (fun e => L.filter fun x => decide (x.a = e))).length ≤ 25 * (j + 1) := by rw [hout2, List.length_append]; omega
        obtain ⟨C', c9, e9'⟩ := hall9.shape
        subst e9'
        refine ⟨by (first | exact fun _ _ _ _ _ => rfl | (repeat (first | exact List.forall_mem_nil _ | refine List.forall_mem_cons.2 ⟨?_, ?_⟩ | (intro hb b hbm; first | (dsimp only at hb; exact absurd hb (by decide)) | (exact absurd hbm (List.not_mem_nil)) | (simp only [List.mem_singleton] at hbm; subst hbm; (first | rfl | exact Hp.put_other _ _ (by (first | assumption | omega | (simp; done) | (simp; omega))) | exact Hp.le.same (by assumption) (by (first | assumption | (simp; done) | (simp; omega) | omega)) (by (repeat (first | assumption | exact Hp.push_new _ _ | exact Hp.put_same _ _ _ | refine (Hp.push_old _ _ (by (first | assumption | (simp; done) | (simp; omega) | omega))).trans ?_ | refine (Hp.put_other _ _ (by (first | assumption | omega | (simp; done) | (simp; omega)))).trans ?_ | refine le_got (by assumption) (by (first | assumption | (simp; done) | (simp; omega) | omega)) (by intro e; cases e) ?_))) | exact hsameO _ _ _ (by (first | assumption | (simp; done) | (simp; omega) | omega)) (by (repeat (first | assumption | exact Hp.push_new _ _ | exact Hp.put_same _ _ _ | refine (Hp.push_old _ _ (by (first | assumption | (simp; done) | (simp; omega) | omega))).trans ?_ | refine (Hp.put_other _ _ (by (first | assumption | omega | (simp; done) | (simp; omega)))).trans ?_ | refine le_got (by assumption) (by (first | assumption | (simp; done) | (simp; omega) | omega)) (by intro e; cases e) ?_))))) | exact hsame _ hbm | exact hsame2 _ hbm)))), ?_⟩
        first | refine adr_val rfl rfl (av_assign_sl rfl) (by (simp only [List.not_mem_nil, List.mem_singleton, false_implies, forall_eq, implies_true, Hp.put_size, Hp.push_size]; try omega)) ?_ | refine adr_val rfl rfl (av_assign rfl) (by (simp only [List.not_mem_nil, List.mem_singleton, false_implies, forall_eq, implies_true, Hp.put_size, Hp.push_size]; try omega)) ?_
        refine ac_region (by kernel_rfl) ?_
        first | refine aops_val (av_move_int (by first | assumption | rfl)) ?_ | refine aops_val (av_move (by first | assumption | rfl)) ?_
        first | refine aops_val (av_add64 rfl rfl (by (first | assumption | omega | (simp; omega)))) ?_ | refine aops_val (av_add rfl rfl) ?_
        first | refine aops_val (av_assign_int rfl) ?_ | refine aops_val (av_assign rfl) ?_
        exact ⟨(endsL L false).length - (j + 1), by omega, j + 1, K9, C', c9, _, by omega, rfl, Hp.le_trans hle48 hle9, rfl, hol2, hall9, e0, e1, e5, rfl, e8, rfl⟩
      · intro hc4
        (try simp only [decide_eq_true_eq, decide_eq_false_iff_not, Bool.not_eq_true', Bool.not_eq_false'] at hc4)
        refine ac_exit ?_
        refine ac_seq ?_
        have hout3 : out = L := by rw [hout, List.take_of_length_le (by omega)]; exact hflat
        rw [hout3] at hall5 e6
        have hleK15 := Hp.le_trans hleK (Hp.le_trans hleK04 hle5)
        have hwantK := hwant0.mono (Hp.le_trans hleK04 hle5).sees
        refine ac_region (by kernel_rfl) ?_
        first | refine aops_val (av_move_sl (by first | assumption | rfl)) ?_ | refine aops_val (av_move (by first | assumption | rfl)) ?_
        refine aops_op (aop_call (hall5.calls (Few_links L _ _ (hs.mono hleK15.sees) (by omega)) (fun r G' ⟨G2, a, b⟩ => Hp.le_trans a b.le)) rfl Try.func14 rfl rfl rfl ?_)
        rintro v10 H10 ⟨K10, ⟨K100, hle10, hown10⟩, hall10, hleH10⟩; rw [hLL] at hown10; have hs10 := hown10.sl; have hleK10 := Hp.le_trans hle10 hown10.le
        first | refine aops_val (av_move_int (by first | assumption | rfl)) ?_ | refine aops_val (av_move (by first | assumption | rfl)) ?_
        refine aops_op (aop_call (hall10.calls (From_links L _ a _ hs10 (by omega) hrise) (fun r G' ⟨G2, a, b⟩ => Hp.le_trans a b.le)) rfl Try.func18 rfl rfl rfl ?_)
        rintro v11 H11 ⟨K11, ⟨K110, hle11, hown11⟩, hall11, hleH11⟩; have hs11 := hown11.sl; have hleK11 := Hp.le_trans hle11 hown11.le
        first | refine aops_val (av_move_sl (by first | assumption | rfl)) ?_ | refine aops_val (av_move (by first | assumption | rfl)) ?_
        refine aops_op (aop_call (Same_links _ _ _ _ _ (hs11.mono hall11.le.sees) ((hwantK.mono (Hp.le_trans hleK10 hleK11).sees).mono hall11.le.sees) (Nat.le_trans (List.length_filter_le _ _) (by omega))) rfl Try.func19 rfl rfl rfl ?_)
        rintro v12 H12 ⟨rfl, rfl⟩
        first | refine aops_val (av_move_bool rfl) ?_ | refine aops_val (av_move rfl) ?_
        refine aops_guard rfl rfl rfl ?_ ?_
        · intro hg5
          have hp5 := hg5; try simp only [decide_eq_true_eq, decide_eq_false_iff_not, Bool.not_eq_true', Bool.not_eq_false'] at hp5
          first | refine aops_wval (want_yes rfl rfl rfl hg5) (av_move_sl (by first | assumption | rfl)) ?_ | refine aops_wval (want_yes rfl rfl rfl hg5) (av_move (by first | assumption | rfl)) ?_
          first | refine aops_wval (want_yes rfl rfl rfl hg5) (av_move_sl (by first | assumption | rfl)) ?_ | refine aops_wval (want_yes rfl rfl rfl hg5) (av_move (by first | assumption | rfl)) ?_
          refine aops_want (want_yes rfl rfl rfl hg5) (aop_call (Same_links _ _ _ _ _ hall11.sl (((hs.mono hleK15.sees).mono (Hp.le_trans hleK10 hleK11).sees).mono hall11.le.sees) (by omega)) rfl Try.func19 rfl rfl rfl ?_)
          rintro v13 H13 ⟨rfl, rfl⟩
          refine aops_val (av_pick_bool (congrArg Value.bool hg5) rfl) ?_
          first | refine aops_val (av_move_bool rfl) ?_ | refine aops_val (av_move rfl) ?_
          refine aops_guard rfl rfl rfl ?_ ?_
          · intro hg6
            have hp6 := hg6; try simp only [decide_eq_true_eq, decide_eq_false_iff_not, Bool.not_eq_true', Bool.not_eq_false'] at hp6
            refine aops_want (want_yes rfl rfl rfl hg6) (aop_call (lives22_ok _) rfl Try.func16 rfl rfl rfl ?_)
            rintro v H' ⟨rfl, hlv⟩
            refine aops_val (av_pick_bool (congrArg Value.bool hg6) rfl) ?_
            first | refine aops_val (av_assign_bool rfl) ?_ | refine aops_val (av_assign rfl) ?_
            refine ac_ret ?_
            exact ⟨.bool true, aresult1 (ares_tmp rfl), rfl, Hp.le_trans (Hp.le_trans hleH1 (Hp.le_trans (Hp.le_trans hleK15 (Hp.le_trans hleK10 hleK11)) hall11.le)) hlv⟩
          · intro hg6
            exact absurd hg6 (by simp)
        · intro hg5
          exact absurd hg5 (by simp)
end Go.Proofs.Ytnkjikpmgeknbaa.Am
