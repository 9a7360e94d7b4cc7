/- Lists of links: cut, judged, compared. -/
import Derived.Test.YtnkjikpmgeknbaaAmLink
namespace Go.Proofs.Ytnkjikpmgeknbaa.Am
open Go Go.RowKit
set_option maxRecDepth 100000
set_option linter.unusedVariables false
set_option linter.unusedSimpArgs false

def Link.few (x : Link) : Link := if 1000000000 < x.cost then ⟨x.a, x.b, 1000000000, x.n⟩ else x
def fewL (xs : List Link) : List Link := (xs.take 25).map Link.few
theorem Few_links (xs : List Link) (v : Value) (H : Hp) (hs : Sl kLink H v xs) (hl : xs.length ≤ 9223372036854775807) :
    ACalls Try.prog 14 #[v] H (fun r H' => ∃ G', H.le G' ∧ OwnP kLink G' H' r (fewL xs)) := by
  obtain ⟨A, c, rfl⟩ := hs.shape
  refine acalls_of_code Try.func14 rfl rfl rfl (by simp) ?_
  refine ac_seq ?_
  refine ac_region (by kernel_rfl) ?_
  first | refine aops_val (av_assign_sl rfl) ?_ | refine aops_val (av_assign rfl) ?_
  refine ac_seq ?_
  refine ac_region (by kernel_rfl) ?_
  first | refine aops_make (am_buildSlice (r := []) Try.underlying22 inf28.size inf28.zero rfl (by decide) (by decide) (by decide) rfl) ?_
  first | refine aops_val (av_assign_sl rfl) ?_ | refine aops_val (av_assign rfl) ?_
  refine ac_seq ?_
  refine ac_seq ?_
  refine ac_region (by kernel_rfl) ?_
  first | refine aops_val (av_assign_int rfl) ?_ | refine aops_val (av_assign rfl) ?_
  refine ac_block ?_
  refine ac_loop (fun n t H' => ∃ (i : Nat) (G : Hp) (B : Option Addr) (c5 : Nat), i ≤ xs.length ∧ i ≤ 25 ∧ n = xs.length - i ∧ H.le G ∧ OwnP kLink G H' (.slice B i c5) ((xs.take i).map Link.few) ∧ t 0 = .slice A xs.length c ∧ t 3 = .slice B i c5 ∧ t 4 = .int .i64 i) (xs.length) (⟨0, H.push .dead, _, _, by omega, by omega, rfl, H.le_push _, OwnP.lit kLink H, rfl, rfl, rfl⟩) ?_
  rintro n t H1 ⟨i, G, B, c5, hi, hi25, rfl, hle, hown, e0, e3, e4⟩
  have hz := hown.size
  refine ac_seq ?_
  refine ac_seq ?_
  refine ac_region (by kernel_rfl) ?_
  first | refine aops_val (av_move_int (by first | assumption | rfl)) ?_ | refine aops_val (av_move (by first | assumption | rfl)) ?_
  first | refine aops_val (av_move_sl (by first | assumption | rfl)) ?_ | refine aops_val (av_move (by first | assumption | rfl)) ?_
  refine aops_val (av_len rfl Try.underlying22) ?_
  refine aops_val (av_lt rfl rfl) ?_
  first | refine aops_val (av_move_bool rfl) ?_ | refine aops_val (av_move rfl) ?_
  refine aops_guard rfl rfl rfl ?_ ?_
  · intro hg1
    have hp1 := hg1; try simp only [decide_eq_true_eq, decide_eq_false_iff_not, Bool.not_eq_true', Bool.not_eq_false'] at hp1
    first | refine aops_wval (want_yes rfl rfl rfl hg1) (av_move_int (by first | assumption | rfl)) ?_ | refine aops_wval (want_yes rfl rfl rfl hg1) (av_move (by first | assumption | rfl)) ?_
    refine aops_wval (want_yes rfl rfl rfl hg1) (av_lt rfl rfl) ?_
    refine aops_val (av_pick_bool (congrArg Value.bool hg1) rfl) ?_
    refine ac_split rfl rfl ?_ ?_
    · intro hc2
      (try simp only [decide_eq_true_eq, decide_eq_false_iff_not, Bool.not_eq_true', Bool.not_eq_false'] at hc2)
      refine ac_skip ?_
      refine ac_seq ?_
      refine ac_block ?_
      refine ac_seq ?_
      refine ac_region (by kernel_rfl) ?_
      first | refine aops_val (av_move_sl (by first | assumption | rfl)) ?_ | refine aops_val (av_move (by first | assumption | rfl)) ?_
      first | refine aops_val (av_move_int (by first | assumption | rfl)) ?_ | refine aops_val (av_move (by first | assumption | rfl)) ?_
      have hix : i < xs.length := by omega
      obtain ⟨b, o, rfl, hb, hcell0⟩ := (hs.mono hle.sees).link_at hix
      have hcells := hown.le.cells hb hcell0
      refine aops_val (av_indexAddr rfl rfl Try.underlying22 inf28.size (by (first | assumption | omega | (simp only [Int.toNat_natCast] at *; omega))) (by (first | assumption | omega | (simp only [Int.toNat_natCast] at *; omega)))) ?_
      refine aops_val (av_loadN (cs := [.int .i64 _, .int .i64 _, .int .i64 _, .int .u64 _]) rfl Try.underlying28 rfl inf28.size (by (first | assumption | exact cells_get (by (repeat (first | assumption | exact Hp.push_new _ _ | exact Hp.put_same _ _ _ | refine (Hp.push_old _ _ (by (first | assumption | (simp; done) | (simp; omega) | omega))).trans ?_ | refine (Hp.put_other _ _ (by (first | assumption | omega | (simp; done) | (simp; omega)))).trans ?_ | refine le_got (by assumption) (by (first | assumption | (simp; done) | (simp; omega) | omega)) (by intro e; cases e) ?_))) rfl | exact Cells.le (by assumption) (by (repeat (first | assumption | exact Hp.le_refl _ | refine Hp.le_put_new ?_ (by first | (first | assumption | (simp; done) | (simp; omega) | omega) | exact (show Hp.le _ _ by assumption).1) _ | refine Hp.le_push' ?_ _ | refine Hp.le_trans ?_ (by assumption)))) (by (first | assumption | (simp; done) | (simp; omega) | omega))))) ?_
      refine aops_make (am_zero (l := [.int .i64 0, .int .i64 0, .int .i64 0, .int .u64 0]) inf28.zero rfl (by decide)) ?_
      first | refine aops_op (aop_putN (vs := [.int .i64 _, .int .i64 _, .int .i64 _, .int .u64 _]) rfl rfl inf28.size (by (repeat (first | assumption | exact Hp.push_new _ _ | exact Hp.put_same _ _ _ | refine (Hp.push_old _ _ (by (first | assumption | (simp; done) | (simp; omega) | omega))).trans ?_ | refine (Hp.put_other _ _ (by (first | assumption | omega | (simp; done) | (simp; omega)))).trans ?_ | refine le_got (by assumption) (by (first | assumption | (simp; done) | (simp; omega) | omega)) (by intro e; cases e) ?_))) (by (first | (simp; done) | (simp; omega) | omega | (rw [setR_length (by first | (simp; done) | (simp; omega) | omega)]; first | (simp; done) | (simp; omega) | omega) | (rw [List.length_set, setR_length (by first | (simp; done) | (simp; omega) | omega)]; first | (simp; done) | (simp; omega) | omega) | (rw [List.length_set, List.length_set, setR_length (by first | (simp; done) | (simp; omega) | omega)]; first | (simp; done) | (simp; omega) | omega))) rfl rfl ?_)
      refine ac_seq ?_
      refine ac_seq ?_
      refine ac_region (by kernel_rfl) ?_
      refine aops_val (av_fieldOff (off := 2) rfl Try.underlying28 rfl inf3.size (by decide) rfl) ?_
      refine aops_val (av_load1 rfl Try.underlying3 rfl (by (first | assumption | exact (cell_own (by (repeat (first | assumption | exact Hp.push_new _ _ | exact Hp.put_same _ _ _ | refine (Hp.push_old _ _ (by (first | assumption | (simp; done) | (simp; omega) | omega))).trans ?_ | refine (Hp.put_other _ _ (by (first | assumption | omega | (simp; done) | (simp; omega)))).trans ?_ | refine le_got (by assumption) (by (first | assumption | (simp; done) | (simp; omega) | omega)) (by intro e; cases e) ?_)))).trans rfl | exact Hp.cell_le (by assumption) (by (repeat (first | assumption | exact Hp.le_refl _ | refine Hp.le_put_new ?_ (by first | (first | assumption | (simp; done) | (simp; omega) | omega) | exact (show Hp.le _ _ by assumption).1) _ | refine Hp.le_push' ?_ _ | refine Hp.le_trans ?_ (by assumption)))) (by (first | assumption | (simp; done) | (simp; omega) | omega))))) ?_
      refine aops_val (av_gt rfl rfl) ?_
      refine ac_split rfl rfl ?_ ?_
      · intro hc3
        have hx5 : xs[i].few = ⟨xs[i].a, xs[i].b, 1000000000, xs[i].n⟩ := if_pos (by simpa using hc3)
        have hgb : ((G.push (.own 0 [.int .i64 0, .int .i64 0, .int .i64 0, .int .u64 0])).put H1.size (.own 0 [.int .i64 xs[i].a, .int .i64 xs[i].b, .int .i64 xs[i].cost, .int .u64 xs[i].n])).get H1.size = .own 0 [.int .i64 xs[i].a, .int .i64 xs[i].b, .int .i64 xs[i].cost, .int .u64 xs[i].n] := Hp.put_same _ _ _
        have hownE := (hown.boxed [.int .i64 0, .int .i64 0, .int .i64 0, .int .u64 0] [.int .i64 xs[i].a, .int .i64 xs[i].b, .int .i64 xs[i].cost, .int .u64 xs[i].n]).put (b1 := H1.size) (by rw [hgb]; intro e; cases e) (.own 0 [.int .i64 xs[i].a, .int .i64 xs[i].b, .int .i64 1000000000, .int .u64 xs[i].n]) (Hp.sees_box _ hgb)
        have hleE := Hp.le_put_new (b := H1.size) (Hp.le_put_new (b := H1.size) (Hp.le_push' hle (.own 0 [.int .i64 0, .int .i64 0, .int .i64 0, .int .u64 0])) (by rw [hz]; exact hle.1) (.own 0 [.int .i64 xs[i].a, .int .i64 xs[i].b, .int .i64 xs[i].cost, .int .u64 xs[i].n])) (by rw [hz]; exact hle.1) (.own 0 [.int .i64 xs[i].a, .int .i64 xs[i].b, .int .i64 1000000000, .int .u64 xs[i].n])
        refine ac_region (by kernel_rfl) ?_
        refine aops_val (av_fieldOff (off := 2) rfl Try.underlying28 rfl inf3.size (by decide) rfl) ?_
        first | refine aops_op (aop_put1 rfl rfl rfl inf3.size (by (repeat (first | assumption | exact Hp.push_new _ _ | exact Hp.put_same _ _ _ | refine (Hp.push_old _ _ (by (first | assumption | (simp; done) | (simp; omega) | omega))).trans ?_ | refine (Hp.put_other _ _ (by (first | assumption | omega | (simp; done) | (simp; omega)))).trans ?_ | refine le_got (by assumption) (by (first | assumption | (simp; done) | (simp; omega) | omega)) (by intro e; cases e) ?_))) (by (first | (simp; done) | (simp; omega) | omega | (rw [setR_length (by first | (simp; done) | (simp; omega) | omega)]; first | (simp; done) | (simp; omega) | omega) | (rw [List.length_set, setR_length (by first | (simp; done) | (simp; omega) | omega)]; first | (simp; done) | (simp; omega) | omega) | (rw [List.length_set, List.length_set, setR_length (by first | (simp; done) | (simp; omega) | omega)]; first | (simp; done) | (simp; omega) | omega))) rfl ?_)
        refine ac_region (by kernel_rfl) ?_
        first | refine aops_val (av_move_sl (by first | assumption | rfl)) ?_ | refine aops_val (av_move (by first | assumption | rfl)) ?_
        refine aops_val (av_loadN (cs := [.int .i64 _, .int .i64 _, .int .i64 _, .int .u64 _]) rfl Try.underlying28 rfl inf28.size (by (first | assumption | exact cells_get (by (repeat (first | assumption | exact Hp.push_new _ _ | exact Hp.put_same _ _ _ | refine (Hp.push_old _ _ (by (first | assumption | (simp; done) | (simp; omega) | omega))).trans ?_ | refine (Hp.put_other _ _ (by (first | assumption | omega | (simp; done) | (simp; omega)))).trans ?_ | refine le_got (by assumption) (by (first | assumption | (simp; done) | (simp; omega) | omega)) (by intro e; cases e) ?_))) rfl | exact Cells.le (by assumption) (by (repeat (first | assumption | exact Hp.le_refl _ | refine Hp.le_put_new ?_ (by first | (first | assumption | (simp; done) | (simp; omega) | omega) | exact (show Hp.le _ _ by assumption).1) _ | refine Hp.le_push' ?_ _ | refine Hp.le_trans ?_ (by assumption)))) (by (first | assumption | (simp; done) | (simp; omega) | omega))))) ?_
        first | refine aops_make (am_buildSlice (r := [.int .i64 _, .int .i64 _, .int .i64 _, .int .u64 _]) Try.underlying22 inf28.size inf28.zero rfl (by decide) (by decide) (by decide) rfl) ?_
        have hlen : ((xs.take i).map Link.few).length = i := by rw [List.length_map, List.length_take]; omega
        refine aops_op (OwnP.append (ys := [xs[i].few]) (hownE.push _) Try.underlying22 inf28 rfl rfl rfl (sl_one (k := kLink) (by rw [hx5]; rfl) rfl hownE.size rfl) (by rw [hlen]; simp; omega) (by rw [hlen]; simp; omega) ?_)
        rintro v6 G6 H6 hle6 hown6
        obtain ⟨B', c', e6⟩ := hown6.shape
        rw [List.length_append, hlen, List.length_singleton] at e6
        subst e6
        first | refine aops_val (av_assign_sl rfl) ?_ | refine aops_val (av_assign rfl) ?_
        refine ac_region (by kernel_rfl) ?_
        first | refine aops_val (av_move_int (by first | assumption | rfl)) ?_ | refine aops_val (av_move (by first | assumption | rfl)) ?_
        first | refine aops_val (av_add64 rfl rfl (by (first | assumption | omega | (simp; omega)))) ?_ | refine aops_val (av_add rfl rfl) ?_
        first | refine aops_val (av_assign_int rfl) ?_ | refine aops_val (av_assign rfl) ?_
        rw [← List.map_singleton, ← List.map_append, take_next hix] at hown6
        exact ⟨xs.length - (i + 1), by omega, i + 1, G6, B', c', by omega, by omega, rfl, Hp.le_trans (Hp.le_push' hleE _) hle6, hown6, e0, rfl, rfl⟩
      · intro hc3
        have hx5 : xs[i].few = ⟨xs[i].a, xs[i].b, xs[i].cost, xs[i].n⟩ := if_neg (by simpa using hc3)
        have hownE := hown.boxed [.int .i64 0, .int .i64 0, .int .i64 0, .int .u64 0] [.int .i64 xs[i].a, .int .i64 xs[i].b, .int .i64 xs[i].cost, .int .u64 xs[i].n]
        have hleE := Hp.le_put_new (b := H1.size) (Hp.le_push' hle (.own 0 [.int .i64 0, .int .i64 0, .int .i64 0, .int .u64 0])) (by rw [hz]; exact hle.1) (.own 0 [.int .i64 xs[i].a, .int .i64 xs[i].b, .int .i64 xs[i].cost, .int .u64 xs[i].n])
        refine ac_skip ?_
        refine ac_region (by kernel_rfl) ?_
        first | refine aops_val (av_move_sl (by first | assumption | rfl)) ?_ | refine aops_val (av_move (by first | assumption | rfl)) ?_
        refine aops_val (av_loadN (cs := [.int .i64 _, .int .i64 _, .int .i64 _, .int .u64 _]) rfl Try.underlying28 rfl inf28.size (by (first | assumption | exact cells_get (by (repeat (first | assumption | exact Hp.push_new _ _ | exact Hp.put_same _ _ _ | refine (Hp.push_old _ _ (by (first | assumption | (simp; done) | (simp; omega) | omega))).trans ?_ | refine (Hp.put_other _ _ (by (first | assumption | omega | (simp; done) | (simp; omega)))).trans ?_ | refine le_got (by assumption) (by (first | assumption | (simp; done) | (simp; omega) | omega)) (by intro e; cases e) ?_))) rfl | exact Cells.le (by assumption) (by (repeat (first | assumption | exact Hp.le_refl _ | refine Hp.le_put_new ?_ (by first | (first | assumption | (simp; done) | (simp; omega) | omega) | exact (show Hp.le _ _ by assumption).1) _ | refine Hp.le_push' ?_ _ | refine Hp.le_trans ?_ (by assumption)))) (by (first | assumption | (simp; done) | (simp; omega) | omega))))) ?_
        first | refine aops_make (am_buildSlice (r := [.int .i64 _, .int .i64 _, .int .i64 _, .int .u64 _]) Try.underlying22 inf28.size inf28.zero rfl (by decide) (by decide) (by decide) rfl) ?_
        have hlen : ((xs.take i).map Link.few).length = i := by rw [List.length_map, List.length_take]; omega
        refine aops_op (OwnP.append (ys := [xs[i].few]) (hownE.push _) Try.underlying22 inf28 rfl rfl rfl (sl_one (k := kLink) (by rw [hx5]; rfl) rfl hownE.size rfl) (by rw [hlen]; simp; omega) (by rw [hlen]; simp; omega) ?_)
        rintro v6 G6 H6 hle6 hown6
        obtain ⟨B', c', e6⟩ := hown6.shape
        rw [List.length_append, hlen, List.length_singleton] at e6
        subst e6
        first | refine aops_val (av_assign_sl rfl) ?_ | refine aops_val (av_assign rfl) ?_
        refine ac_region (by kernel_rfl) ?_
        first | refine aops_val (av_move_int (by first | assumption | rfl)) ?_ | refine aops_val (av_move (by first | assumption | rfl)) ?_
        first | refine aops_val (av_add64 rfl rfl (by (first | assumption | omega | (simp; omega)))) ?_ | refine aops_val (av_add rfl rfl) ?_
        first | refine aops_val (av_assign_int rfl) ?_ | refine aops_val (av_assign rfl) ?_
        rw [← List.map_singleton, ← List.map_append, take_next hix] at hown6
        exact ⟨xs.length - (i + 1), by omega, i + 1, G6, B', c', by omega, by omega, rfl, Hp.le_trans (Hp.le_push' hleE _) hle6, hown6, e0, rfl, rfl⟩
    · intro hc2
      (try simp only [decide_eq_true_eq, decide_eq_false_iff_not, Bool.not_eq_true', Bool.not_eq_false'] at hc2)
      refine ac_exit ?_
      refine ac_seq ?_
      refine ac_region (by kernel_rfl) ?_
      first | refine aops_val (av_move_sl (by first | assumption | rfl)) ?_ | refine aops_val (av_move (by first | assumption | rfl)) ?_
      first | refine aops_val (av_assign_sl rfl) ?_ | refine aops_val (av_assign rfl) ?_
      refine ac_ret ?_
      refine ⟨.slice B i c5, aresult1 (ares_tmp rfl), G, hle, ?_⟩
      have : fewL xs = (xs.take i).map Link.few := by
        unfold fewL
        rcases Nat.lt_or_ge i xs.length with h | h
        · rw [show i = 25 by first | omega | (simp_all; done) | (simp_all; omega)]
        · rw [List.take_of_length_le (by omega), List.take_of_length_le (by omega)]
      rw [this]; exact hown
  · intro hg1
    have hp1 := hg1; try simp only [decide_eq_true_eq, decide_eq_false_iff_not, Bool.not_eq_true', Bool.not_eq_false'] at hp1
    refine aops_skip (want_no rfl rfl rfl hg1 rfl) ?_
    refine aops_skip (want_no rfl rfl rfl hg1 rfl) ?_
    refine aops_val (av_pick_bool (congrArg Value.bool hg1) (by first | assumption | rfl)) ?_
    refine ac_cond_false rfl rfl ?_
    refine ac_exit ?_
    refine ac_seq ?_
    refine ac_region (by kernel_rfl) ?_
    first | refine aops_val (av_move_sl (by first | assumption | rfl)) ?_ | refine aops_val (av_move (by first | assumption | rfl)) ?_
    first | refine aops_val (av_assign_sl rfl) ?_ | refine aops_val (av_assign rfl) ?_
    refine ac_ret ?_
    refine ⟨.slice B i c5, aresult1 (ares_tmp rfl), G, hle, ?_⟩
    have : fewL xs = (xs.take i).map Link.few := by
      unfold fewL
      rcases Nat.lt_or_ge i xs.length with h | h
      · rw [show i = 25 by first | omega | (simp_all; done) | (simp_all; omega)]
      · rw [List.take_of_length_le (by omega), List.take_of_length_le (by omega)]
    rw [this]; exact hown
def OkL (x : Link) : Prop := 0 ≤ x.a ∧ x.a ≤ 9999 ∧ 0 ≤ x.b ∧ x.b ≤ 9999 ∧ 0 ≤ x.cost ∧ 1 ≤ x.n ∧ x.n ≤ 4611686018427387904
def GoodL (xs : List Link) : Prop := ∀ (i : Nat) (h : i < xs.length), OkL xs[i] ∧ (0 < i → lessL (xs[i - 1]'(by omega)) xs[i] = true)
theorem Good_raw (xs : List Link) (v : Value) (H : Hp) (hs : Sl kLink H v xs) (hl : xs.length ≤ 9223372036854775807) :
    ACalls Try.prog 15 #[v] H (fun r _ => ∃ g, r = .bool g ∧ (g = true ↔ GoodL xs)) := by
  obtain ⟨A, c, rfl⟩ := hs.shape
  refine acalls_of_code Try.func15 rfl rfl rfl (by simp) ?_
  refine ac_seq ?_
  refine ac_region (by kernel_rfl) ?_
  first | refine aops_val (av_assign_bool rfl) ?_ | refine aops_val (av_assign rfl) ?_
  refine ac_seq ?_
  refine ac_seq ?_
  refine ac_region (by kernel_rfl) ?_
  first | refine aops_val (av_assign_int rfl) ?_ | refine aops_val (av_assign rfl) ?_
  refine ac_block ?_
  refine ac_loop (fun n t H' => ∃ (i : Nat), i ≤ xs.length ∧ n = xs.length - i ∧ H.le H' ∧ (∀ (j : Nat) (h : j < xs.length), j < i → OkL xs[j] ∧ (0 < j → lessL (xs[j - 1]'(by omega)) xs[j] = true)) ∧ t 0 = .slice A xs.length c ∧ t 3 = .int .i64 i) (xs.length) (⟨0, by omega, rfl, Hp.le_refl _, fun j h h0 => by omega, rfl, rfl⟩) ?_
  rintro n t H1 ⟨i, hi, rfl, hle, hok, e0, e3⟩
  refine ac_seq ?_
  refine ac_seq ?_
  refine ac_region (by kernel_rfl) ?_
  first | refine aops_val (av_move_int (by first | assumption | rfl)) ?_ | refine aops_val (av_move (by first | assumption | rfl)) ?_
  first | refine aops_val (av_move_sl (by first | assumption | rfl)) ?_ | refine aops_val (av_move (by first | assumption | rfl)) ?_
  refine aops_val (av_len rfl Try.underlying22) ?_
  refine aops_val (av_lt rfl rfl) ?_
  refine ac_split rfl rfl ?_ ?_
  · intro hc1
    (try simp only [decide_eq_true_eq, decide_eq_false_iff_not, Bool.not_eq_true', Bool.not_eq_false'] at hc1)
    refine ac_skip ?_
    refine ac_seq ?_
    refine ac_block ?_
    refine ac_seq ?_
    refine ac_region (by kernel_rfl) ?_
    first | refine aops_val (av_move_sl (by first | assumption | rfl)) ?_ | refine aops_val (av_move (by first | assumption | rfl)) ?_
    first | refine aops_val (av_move_int (by first | assumption | rfl)) ?_ | refine aops_val (av_move (by first | assumption | rfl)) ?_
    have hix : i < xs.length := by omega
    obtain ⟨b, o, rfl, hb, hcell0⟩ := (hs.mono hle.sees).link_at hix
    have hbl : b < H1.size := hb
    refine aops_val (av_indexAddr rfl rfl Try.underlying22 inf28.size (by (first | assumption | omega | (simp only [Int.toNat_natCast] at *; omega))) (by (first | assumption | omega | (simp only [Int.toNat_natCast] at *; omega)))) ?_
    refine aops_val (av_loadN (cs := [.int .i64 _, .int .i64 _, .int .i64 _, .int .u64 _]) rfl Try.underlying28 rfl inf28.size (by (first | assumption | exact cells_get (by (repeat (first | assumption | exact Hp.push_new _ _ | exact Hp.put_same _ _ _ | refine (Hp.push_old _ _ (by (first | assumption | (simp; done) | (simp; omega) | omega))).trans ?_ | refine (Hp.put_other _ _ (by (first | assumption | omega | (simp; done) | (simp; omega)))).trans ?_ | refine le_got (by assumption) (by (first | assumption | (simp; done) | (simp; omega) | omega)) (by intro e; cases e) ?_))) rfl | exact Cells.le (by assumption) (by (repeat (first | assumption | exact Hp.le_refl _ | refine Hp.le_put_new ?_ (by first | (first | assumption | (simp; done) | (simp; omega) | omega) | exact (show Hp.le _ _ by assumption).1) _ | refine Hp.le_push' ?_ _ | refine Hp.le_trans ?_ (by assumption)))) (by (first | assumption | (simp; done) | (simp; omega) | omega))))) ?_
    refine aops_make (am_zero (l := [.int .i64 0, .int .i64 0, .int .i64 0, .int .u64 0]) inf28.zero rfl (by decide)) ?_
    first | refine aops_op (aop_putN (vs := [.int .i64 _, .int .i64 _, .int .i64 _, .int .u64 _]) rfl rfl inf28.size (by (repeat (first | assumption | exact Hp.push_new _ _ | exact Hp.put_same _ _ _ | refine (Hp.push_old _ _ (by (first | assumption | (simp; done) | (simp; omega) | omega))).trans ?_ | refine (Hp.put_other _ _ (by (first | assumption | omega | (simp; done) | (simp; omega)))).trans ?_ | refine le_got (by assumption) (by (first | assumption | (simp; done) | (simp; omega) | omega)) (by intro e; cases e) ?_))) (by (first | (simp; done) | (simp; omega) | omega | (rw [setR_length (by first | (simp; done) | (simp; omega) | omega)]; first | (simp; done) | (simp; omega) | omega) | (rw [List.length_set, setR_length (by first | (simp; done) | (simp; omega) | omega)]; first | (simp; done) | (simp; omega) | omega) | (rw [List.length_set, List.length_set, setR_length (by first | (simp; done) | (simp; omega) | omega)]; first | (simp; done) | (simp; omega) | omega))) rfl rfl ?_)
    refine ac_seq ?_
    refine ac_seq ?_
    refine ac_region (by kernel_rfl) ?_
    refine aops_val (av_fieldOff (off := 0) rfl Try.underlying28 rfl inf3.size (by decide) rfl) ?_
    refine aops_val (av_load1 rfl Try.underlying3 rfl (by (first | assumption | exact (cell_own (by (repeat (first | assumption | exact Hp.push_new _ _ | exact Hp.put_same _ _ _ | refine (Hp.push_old _ _ (by (first | assumption | (simp; done) | (simp; omega) | omega))).trans ?_ | refine (Hp.put_other _ _ (by (first | assumption | omega | (simp; done) | (simp; omega)))).trans ?_ | refine le_got (by assumption) (by (first | assumption | (simp; done) | (simp; omega) | omega)) (by intro e; cases e) ?_)))).trans rfl | exact Hp.cell_le (by assumption) (by (repeat (first | assumption | exact Hp.le_refl _ | refine Hp.le_put_new ?_ (by first | (first | assumption | (simp; done) | (simp; omega) | omega) | exact (show Hp.le _ _ by assumption).1) _ | refine Hp.le_push' ?_ _ | refine Hp.le_trans ?_ (by assumption)))) (by (first | assumption | (simp; done) | (simp; omega) | omega))))) ?_
    refine aops_val (av_lt rfl rfl) ?_
    first | refine aops_val (av_move_bool rfl) ?_ | refine aops_val (av_move rfl) ?_
    refine aops_guard rfl rfl rfl ?_ ?_
    · intro hg2
      have hp2 := hg2; try simp only [decide_eq_true_eq, decide_eq_false_iff_not, Bool.not_eq_true', Bool.not_eq_false'] at hp2
      refine aops_skip (want_no rfl rfl rfl hg2 rfl) ?_
      refine aops_skip (want_no rfl rfl rfl hg2 rfl) ?_
      refine aops_skip (want_no rfl rfl rfl hg2 rfl) ?_
      refine aops_val (av_pick_bool (congrArg Value.bool hg2) (by first | assumption | rfl)) ?_
      first | refine aops_val (av_move_bool rfl) ?_ | refine aops_val (av_move rfl) ?_
      refine aops_skip (want_no rfl rfl rfl rfl rfl) ?_
      refine aops_skip (want_no rfl rfl rfl rfl rfl) ?_
      refine aops_skip (want_no rfl rfl rfl rfl rfl) ?_
      refine aops_val (av_pick_bool (congrArg Value.bool (by first | assumption | rfl)) (by first | assumption | rfl)) ?_
      first | refine aops_val (av_move_bool rfl) ?_ | refine aops_val (av_move rfl) ?_
      refine aops_skip (want_no rfl rfl rfl rfl rfl) ?_
      refine aops_skip (want_no rfl rfl rfl rfl rfl) ?_
      refine aops_skip (want_no rfl rfl rfl rfl rfl) ?_
      refine aops_val (av_pick_bool (congrArg Value.bool (by first | assumption | rfl)) (by first | assumption | rfl)) ?_
      first | refine aops_val (av_move_bool rfl) ?_ | refine aops_val (av_move rfl) ?_
      refine aops_skip (want_no rfl rfl rfl rfl rfl) ?_
      refine aops_skip (want_no rfl rfl rfl rfl rfl) ?_
      refine aops_skip (want_no rfl rfl rfl rfl rfl) ?_
      refine aops_val (av_pick_bool (congrArg Value.bool (by first | assumption | rfl)) (by first | assumption | rfl)) ?_
      first | refine aops_val (av_move_bool rfl) ?_ | refine aops_val (av_move rfl) ?_
      refine aops_skip (want_no rfl rfl rfl rfl rfl) ?_
      refine aops_skip (want_no rfl rfl rfl rfl rfl) ?_
      refine aops_skip (want_no rfl rfl rfl rfl rfl) ?_
      refine aops_val (av_pick_bool (congrArg Value.bool (by first | assumption | rfl)) (by first | assumption | rfl)) ?_
      first | refine aops_val (av_move_bool rfl) ?_ | refine aops_val (av_move rfl) ?_
      refine aops_skip (want_no rfl rfl rfl rfl rfl) ?_
      refine aops_skip (want_no rfl rfl rfl rfl rfl) ?_
      refine aops_skip (want_no rfl rfl rfl rfl rfl) ?_
      refine aops_val (av_pick_bool (congrArg Value.bool (by first | assumption | rfl)) (by first | assumption | rfl)) ?_
      refine ac_cond_true rfl rfl ?_
      refine ac_seq ?_
      refine ac_region (by kernel_rfl) ?_
      first | refine aops_val (av_assign_bool rfl) ?_ | refine aops_val (av_assign rfl) ?_
      refine ac_ret ?_
      refine ⟨.bool false, aresult1 (ares_tmp rfl), false, rfl, fun h => (by cases h), fun hG => ?_⟩
      obtain ⟨⟨g1, g2, g3, g4, g5, g6, g7⟩, _⟩ := hG i hix
      exfalso; omega
    · intro hg2
      have hp2 := hg2; try simp only [decide_eq_true_eq, decide_eq_false_iff_not, Bool.not_eq_true', Bool.not_eq_false'] at hp2
      refine aops_wval (want_yes rfl rfl rfl hg2) (av_fieldOff (off := 0) rfl Try.underlying28 rfl inf3.size (by decide) rfl) ?_
      refine aops_wval (want_yes rfl rfl rfl hg2) (av_load1 rfl Try.underlying3 rfl (by (first | assumption | exact (cell_own (by (repeat (first | assumption | exact Hp.push_new _ _ | exact Hp.put_same _ _ _ | refine (Hp.push_old _ _ (by (first | assumption | (simp; done) | (simp; omega) | omega))).trans ?_ | refine (Hp.put_other _ _ (by (first | assumption | omega | (simp; done) | (simp; omega)))).trans ?_ | refine le_got (by assumption) (by (first | assumption | (simp; done) | (simp; omega) | omega)) (by intro e; cases e) ?_)))).trans rfl | exact Hp.cell_le (by assumption) (by (repeat (first | assumption | exact Hp.le_refl _ | refine Hp.le_put_new ?_ (by first | (first | assumption | (simp; done) | (simp; omega) | omega) | exact (show Hp.le _ _ by assumption).1) _ | refine Hp.le_push' ?_ _ | refine Hp.le_trans ?_ (by assumption)))) (by (first | assumption | (simp; done) | (simp; omega) | omega))))) ?_
      refine aops_wval (want_yes rfl rfl rfl hg2) (av_gt rfl rfl) ?_
      refine aops_val (av_pick_bool (congrArg Value.bool hg2) rfl) ?_
      first | refine aops_val (av_move_bool rfl) ?_ | refine aops_val (av_move rfl) ?_
      refine aops_guard rfl rfl rfl ?_ ?_
      · intro hg4
        have hp4 := hg4; try simp only [decide_eq_true_eq, decide_eq_false_iff_not, Bool.not_eq_true', Bool.not_eq_false'] at hp4
        refine aops_skip (want_no rfl rfl rfl hg4 rfl) ?_
        refine aops_skip (want_no rfl rfl rfl hg4 rfl) ?_
        refine aops_skip (want_no rfl rfl rfl hg4 rfl) ?_
        refine aops_val (av_pick_bool (congrArg Value.bool hg4) (by first | assumption | rfl)) ?_
        first | refine aops_val (av_move_bool rfl) ?_ | refine aops_val (av_move rfl) ?_
        refine aops_skip (want_no rfl rfl rfl rfl rfl) ?_
        refine aops_skip (want_no rfl rfl rfl rfl rfl) ?_
        refine aops_skip (want_no rfl rfl rfl rfl rfl) ?_
        refine aops_val (av_pick_bool (congrArg Value.bool (by first | assumption | rfl)) (by first | assumption | rfl)) ?_
        first | refine aops_val (av_move_bool rfl) ?_ | refine aops_val (av_move rfl) ?_
        refine aops_skip (want_no rfl rfl rfl rfl rfl) ?_
        refine aops_skip (want_no rfl rfl rfl rfl rfl) ?_
        refine aops_skip (want_no rfl rfl rfl rfl rfl) ?_
        refine aops_val (av_pick_bool (congrArg Value.bool (by first | assumption | rfl)) (by first | assumption | rfl)) ?_
        first | refine aops_val (av_move_bool rfl) ?_ | refine aops_val (av_move rfl) ?_
        refine aops_skip (want_no rfl rfl rfl rfl rfl) ?_
        refine aops_skip (want_no rfl rfl rfl rfl rfl) ?_
        refine aops_skip (want_no rfl rfl rfl rfl rfl) ?_
        refine aops_val (av_pick_bool (congrArg Value.bool (by first | assumption | rfl)) (by first | assumption | rfl)) ?_
        first | refine aops_val (av_move_bool rfl) ?_ | refine aops_val (av_move rfl) ?_
        refine aops_skip (want_no rfl rfl rfl rfl rfl) ?_
        refine aops_skip (want_no rfl rfl rfl rfl rfl) ?_
        refine aops_skip (want_no rfl rfl rfl rfl rfl) ?_
        refine aops_val (av_pick_bool (congrArg Value.bool (by first | assumption | rfl)) (by first | assumption | rfl)) ?_
        refine ac_cond_true rfl rfl ?_
        refine ac_seq ?_
        refine ac_region (by kernel_rfl) ?_
        first | refine aops_val (av_assign_bool rfl) ?_ | refine aops_val (av_assign rfl) ?_
        refine ac_ret ?_
        refine ⟨.bool false, aresult1 (ares_tmp rfl), false, rfl, fun h => (by cases h), fun hG => ?_⟩
        obtain ⟨⟨g1, g2, g3, g4, g5, g6, g7⟩, _⟩ := hG i hix
        exfalso; omega
      · intro hg4
        have hp4 := hg4; try simp only [decide_eq_true_eq, decide_eq_false_iff_not, Bool.not_eq_true', Bool.not_eq_false'] at hp4
        refine aops_wval (want_yes rfl rfl rfl hg4) (av_fieldOff (off := 1) rfl Try.underlying28 rfl inf3.size (by decide) rfl) ?_
        refine aops_wval (want_yes rfl rfl rfl hg4) (av_load1 rfl Try.underlying3 rfl (by (first | assumption | exact (cell_own (by (repeat (first | assumption | exact Hp.push_new _ _ | exact Hp.put_same _ _ _ | refine (Hp.push_old _ _ (by (first | assumption | (simp; done) | (simp; omega) | omega))).trans ?_ | refine (Hp.put_other _ _ (by (first | assumption | omega | (simp; done) | (simp; omega)))).trans ?_ | refine le_got (by assumption) (by (first | assumption | (simp; done) | (simp; omega) | omega)) (by intro e; cases e) ?_)))).trans rfl | exact Hp.cell_le (by assumption) (by (repeat (first | assumption | exact Hp.le_refl _ | refine Hp.le_put_new ?_ (by first | (first | assumption | (simp; done) | (simp; omega) | omega) | exact (show Hp.le _ _ by assumption).1) _ | refine Hp.le_push' ?_ _ | refine Hp.le_trans ?_ (by assumption)))) (by (first | assumption | (simp; done) | (simp; omega) | omega))))) ?_
        refine aops_wval (want_yes rfl rfl rfl hg4) (av_lt rfl rfl) ?_
        refine aops_val (av_pick_bool (congrArg Value.bool hg4) rfl) ?_
        first | refine aops_val (av_move_bool rfl) ?_ | refine aops_val (av_move rfl) ?_
        refine aops_guard rfl rfl rfl ?_ ?_
        · intro hg6
          have hp6 := hg6; try simp only [decide_eq_true_eq, decide_eq_false_iff_not, Bool.not_eq_true', Bool.not_eq_false'] at hp6
          refine aops_skip (want_no rfl rfl rfl hg6 rfl) ?_
          refine aops_skip (want_no rfl rfl rfl hg6 rfl) ?_
          refine aops_skip (want_no rfl rfl rfl hg6 rfl) ?_
          refine aops_val (av_pick_bool (congrArg Value.bool hg6) (by first | assumption | rfl)) ?_
          first | refine aops_val (av_move_bool rfl) ?_ | refine aops_val (av_move rfl) ?_
          refine aops_skip (want_no rfl rfl rfl rfl rfl) ?_
          refine aops_skip (want_no rfl rfl rfl rfl rfl) ?_
          refine aops_skip (want_no rfl rfl rfl rfl rfl) ?_
          refine aops_val (av_pick_bool (congrArg Value.bool (by first | assumption | rfl)) (by first | assumption | rfl)) ?_
          first | refine aops_val (av_move_bool rfl) ?_ | refine aops_val (av_move rfl) ?_
          refine aops_skip (want_no rfl rfl rfl rfl rfl) ?_
          refine aops_skip (want_no rfl rfl rfl rfl rfl) ?_
          refine aops_skip (want_no rfl rfl rfl rfl rfl) ?_
          refine aops_val (av_pick_bool (congrArg Value.bool (by first | assumption | rfl)) (by first | assumption | rfl)) ?_
          first | refine aops_val (av_move_bool rfl) ?_ | refine aops_val (av_move rfl) ?_
          refine aops_skip (want_no rfl rfl rfl rfl rfl) ?_
          refine aops_skip (want_no rfl rfl rfl rfl rfl) ?_
          refine aops_skip (want_no rfl rfl rfl rfl rfl) ?_
          refine aops_val (av_pick_bool (congrArg Value.bool (by first | assumption | rfl)) (by first | assumption | rfl)) ?_
          refine ac_cond_true rfl rfl ?_
          refine ac_seq ?_
          refine ac_region (by kernel_rfl) ?_
          first | refine aops_val (av_assign_bool rfl) ?_ | refine aops_val (av_assign rfl) ?_
          refine ac_ret ?_
          refine ⟨.bool false, aresult1 (ares_tmp rfl), false, rfl, fun h => (by cases h), fun hG => ?_⟩
          obtain ⟨⟨g1, g2, g3, g4, g5, g6, g7⟩, _⟩ := hG i hix
          exfalso; omega
        · intro hg6
          have hp6 := hg6; try simp only [decide_eq_true_eq, decide_eq_false_iff_not, Bool.not_eq_true', Bool.not_eq_false'] at hp6
          refine aops_wval (want_yes rfl rfl rfl hg6) (av_fieldOff (off := 1) rfl Try.underlying28 rfl inf3.size (by decide) rfl) ?_
          refine aops_wval (want_yes rfl rfl rfl hg6) (av_load1 rfl Try.underlying3 rfl (by (first | assumption | exact (cell_own (by (repeat (first | assumption | exact Hp.push_new _ _ | exact Hp.put_same _ _ _ | refine (Hp.push_old _ _ (by (first | assumption | (simp; done) | (simp; omega) | omega))).trans ?_ | refine (Hp.put_other _ _ (by (first | assumption | omega | (simp; done) | (simp; omega)))).trans ?_ | refine le_got (by assumption) (by (first | assumption | (simp; done) | (simp; omega) | omega)) (by intro e; cases e) ?_)))).trans rfl | exact Hp.cell_le (by assumption) (by (repeat (first | assumption | exact Hp.le_refl _ | refine Hp.le_put_new ?_ (by first | (first | assumption | (simp; done) | (simp; omega) | omega) | exact (show Hp.le _ _ by assumption).1) _ | refine Hp.le_push' ?_ _ | refine Hp.le_trans ?_ (by assumption)))) (by (first | assumption | (simp; done) | (simp; omega) | omega))))) ?_
          refine aops_wval (want_yes rfl rfl rfl hg6) (av_gt rfl rfl) ?_
          refine aops_val (av_pick_bool (congrArg Value.bool hg6) rfl) ?_
          first | refine aops_val (av_move_bool rfl) ?_ | refine aops_val (av_move rfl) ?_
          refine aops_guard rfl rfl rfl ?_ ?_
          · intro hg8
            have hp8 := hg8; try simp only [decide_eq_true_eq, decide_eq_false_iff_not, Bool.not_eq_true', Bool.not_eq_false'] at hp8
            refine aops_skip (want_no rfl rfl rfl hg8 rfl) ?_
            refine aops_skip (want_no rfl rfl rfl hg8 rfl) ?_
            refine aops_skip (want_no rfl rfl rfl hg8 rfl) ?_
            refine aops_val (av_pick_bool (congrArg Value.bool hg8) (by first | assumption | rfl)) ?_
            first | refine aops_val (av_move_bool rfl) ?_ | refine aops_val (av_move rfl) ?_
            refine aops_skip (want_no rfl rfl rfl rfl rfl) ?_
            refine aops_skip (want_no rfl rfl rfl rfl rfl) ?_
            refine aops_skip (want_no rfl rfl rfl rfl rfl) ?_
            refine aops_val (av_pick_bool (congrArg Value.bool (by first | assumption | rfl)) (by first | assumption | rfl)) ?_
            first | refine aops_val (av_move_bool rfl) ?_ | refine aops_val (av_move rfl) ?_
            refine aops_skip (want_no rfl rfl rfl rfl rfl) ?_
            refine aops_skip (want_no rfl rfl rfl rfl rfl) ?_
            refine aops_skip (want_no rfl rfl rfl rfl rfl) ?_
            refine aops_val (av_pick_bool (congrArg Value.bool (by first | assumption | rfl)) (by first | assumption | rfl)) ?_
            refine ac_cond_true rfl rfl ?_
            refine ac_seq ?_
            refine ac_region (by kernel_rfl) ?_
            first | refine aops_val (av_assign_bool rfl) ?_ | refine aops_val (av_assign rfl) ?_
            refine ac_ret ?_
            refine ⟨.bool false, aresult1 (ares_tmp rfl), false, rfl, fun h => (by cases h), fun hG => ?_⟩
            obtain ⟨⟨g1, g2, g3, g4, g5, g6, g7⟩, _⟩ := hG i hix
            exfalso; omega
          · intro hg8
            have hp8 := hg8; try simp only [decide_eq_true_eq, decide_eq_false_iff_not, Bool.not_eq_true', Bool.not_eq_false'] at hp8
            refine aops_wval (want_yes rfl rfl rfl hg8) (av_fieldOff (off := 2) rfl Try.underlying28 rfl inf3.size (by decide) rfl) ?_
            refine aops_wval (want_yes rfl rfl rfl hg8) (av_load1 rfl Try.underlying3 rfl (by (first | assumption | exact (cell_own (by (repeat (first | assumption | exact Hp.push_new _ _ | exact Hp.put_same _ _ _ | refine (Hp.push_old _ _ (by (first | assumption | (simp; done) | (simp; omega) | omega))).trans ?_ | refine (Hp.put_other _ _ (by (first | assumption | omega | (simp; done) | (simp; omega)))).trans ?_ | refine le_got (by assumption) (by (first | assumption | (simp; done) | (simp; omega) | omega)) (by intro e; cases e) ?_)))).trans rfl | exact Hp.cell_le (by assumption) (by (repeat (first | assumption | exact Hp.le_refl _ | refine Hp.le_put_new ?_ (by first | (first | assumption | (simp; done) | (simp; omega) | omega) | exact (show Hp.le _ _ by assumption).1) _ | refine Hp.le_push' ?_ _ | refine Hp.le_trans ?_ (by assumption)))) (by (first | assumption | (simp; done) | (simp; omega) | omega))))) ?_
            refine aops_wval (want_yes rfl rfl rfl hg8) (av_lt rfl rfl) ?_
            refine aops_val (av_pick_bool (congrArg Value.bool hg8) rfl) ?_
            first | refine aops_val (av_move_bool rfl) ?_ | refine aops_val (av_move rfl) ?_
            refine aops_guard rfl rfl rfl ?_ ?_
            · intro hg10
              have hp10 := hg10; try simp only [decide_eq_true_eq, decide_eq_false_iff_not, Bool.not_eq_true', Bool.not_eq_false'] at hp10
              refine aops_skip (want_no rfl rfl rfl hg10 rfl) ?_
              refine aops_skip (want_no rfl rfl rfl hg10 rfl) ?_
              refine aops_skip (want_no rfl rfl rfl hg10 rfl) ?_
              refine aops_val (av_pick_bool (congrArg Value.bool hg10) (by first | assumption | rfl)) ?_
              first | refine aops_val (av_move_bool rfl) ?_ | refine aops_val (av_move rfl) ?_
              refine aops_skip (want_no rfl rfl rfl rfl rfl) ?_
              refine aops_skip (want_no rfl rfl rfl rfl rfl) ?_
              refine aops_skip (want_no rfl rfl rfl rfl rfl) ?_
              refine aops_val (av_pick_bool (congrArg Value.bool (by first | assumption | rfl)) (by first | assumption | rfl)) ?_
              refine ac_cond_true rfl rfl ?_
              refine ac_seq ?_
              refine ac_region (by kernel_rfl) ?_
              first | refine aops_val (av_assign_bool rfl) ?_ | refine aops_val (av_assign rfl) ?_
              refine ac_ret ?_
              refine ⟨.bool false, aresult1 (ares_tmp rfl), false, rfl, fun h => (by cases h), fun hG => ?_⟩
              obtain ⟨⟨g1, g2, g3, g4, g5, g6, g7⟩, _⟩ := hG i hix
              exfalso; omega
            · intro hg10
              have hp10 := hg10; try simp only [decide_eq_true_eq, decide_eq_false_iff_not, Bool.not_eq_true', Bool.not_eq_false'] at hp10
              refine aops_wval (want_yes rfl rfl rfl hg10) (av_fieldOff (off := 3) rfl Try.underlying28 rfl inf26.size (by decide) rfl) ?_
              refine aops_wval (want_yes rfl rfl rfl hg10) (av_load1 rfl Try.underlying26 rfl (by (first | assumption | exact (cell_own (by (repeat (first | assumption | exact Hp.push_new _ _ | exact Hp.put_same _ _ _ | refine (Hp.push_old _ _ (by (first | assumption | (simp; done) | (simp; omega) | omega))).trans ?_ | refine (Hp.put_other _ _ (by (first | assumption | omega | (simp; done) | (simp; omega)))).trans ?_ | refine le_got (by assumption) (by (first | assumption | (simp; done) | (simp; omega) | omega)) (by intro e; cases e) ?_)))).trans rfl | exact Hp.cell_le (by assumption) (by (repeat (first | assumption | exact Hp.le_refl _ | refine Hp.le_put_new ?_ (by first | (first | assumption | (simp; done) | (simp; omega) | omega) | exact (show Hp.le _ _ by assumption).1) _ | refine Hp.le_push' ?_ _ | refine Hp.le_trans ?_ (by assumption)))) (by (first | assumption | (simp; done) | (simp; omega) | omega))))) ?_
              refine aops_wval (want_yes rfl rfl rfl hg10) (av_lt rfl rfl) ?_
              refine aops_val (av_pick_bool (congrArg Value.bool hg10) rfl) ?_
              first | refine aops_val (av_move_bool rfl) ?_ | refine aops_val (av_move rfl) ?_
              refine aops_guard rfl rfl rfl ?_ ?_
              · intro hg12
                have hp12 := hg12; try simp only [decide_eq_true_eq, decide_eq_false_iff_not, Bool.not_eq_true', Bool.not_eq_false'] at hp12
                refine aops_skip (want_no rfl rfl rfl hg12 rfl) ?_
                refine aops_skip (want_no rfl rfl rfl hg12 rfl) ?_
                refine aops_skip (want_no rfl rfl rfl hg12 rfl) ?_
                refine aops_val (av_pick_bool (congrArg Value.bool hg12) (by first | assumption | rfl)) ?_
                refine ac_cond_true rfl rfl ?_
                refine ac_seq ?_
                refine ac_region (by kernel_rfl) ?_
                first | refine aops_val (av_assign_bool rfl) ?_ | refine aops_val (av_assign rfl) ?_
                refine ac_ret ?_
                refine ⟨.bool false, aresult1 (ares_tmp rfl), false, rfl, fun h => (by cases h), fun hG => ?_⟩
                obtain ⟨⟨g1, g2, g3, g4, g5, g6, g7⟩, _⟩ := hG i hix
                exfalso; omega
              · intro hg12
                have hp12 := hg12; try simp only [decide_eq_true_eq, decide_eq_false_iff_not, Bool.not_eq_true', Bool.not_eq_false'] at hp12
                refine aops_wval (want_yes rfl rfl rfl hg12) (av_fieldOff (off := 3) rfl Try.underlying28 rfl inf26.size (by decide) rfl) ?_
                refine aops_wval (want_yes rfl rfl rfl hg12) (av_load1 rfl Try.underlying26 rfl (by (first | assumption | exact (cell_own (by (repeat (first | assumption | exact Hp.push_new _ _ | exact Hp.put_same _ _ _ | refine (Hp.push_old _ _ (by (first | assumption | (simp; done) | (simp; omega) | omega))).trans ?_ | refine (Hp.put_other _ _ (by (first | assumption | omega | (simp; done) | (simp; omega)))).trans ?_ | refine le_got (by assumption) (by (first | assumption | (simp; done) | (simp; omega) | omega)) (by intro e; cases e) ?_)))).trans rfl | exact Hp.cell_le (by assumption) (by (repeat (first | assumption | exact Hp.le_refl _ | refine Hp.le_put_new ?_ (by first | (first | assumption | (simp; done) | (simp; omega) | omega) | exact (show Hp.le _ _ by assumption).1) _ | refine Hp.le_push' ?_ _ | refine Hp.le_trans ?_ (by assumption)))) (by (first | assumption | (simp; done) | (simp; omega) | omega))))) ?_
                refine aops_wval (want_yes rfl rfl rfl hg12) (av_gt rfl rfl) ?_
                refine aops_val (av_pick_bool (congrArg Value.bool hg12) rfl) ?_
                refine ac_split rfl rfl ?_ ?_
                · intro hc14
                  (try simp only [decide_eq_true_eq, decide_eq_false_iff_not, Bool.not_eq_true', Bool.not_eq_false'] at hc14)
                  refine ac_seq ?_
                  refine ac_region (by kernel_rfl) ?_
                  first | refine aops_val (av_assign_bool rfl) ?_ | refine aops_val (av_assign rfl) ?_
                  refine ac_ret ?_
                  refine ⟨.bool false, aresult1 (ares_tmp rfl), false, rfl, fun h => (by cases h), fun hG => ?_⟩
                  obtain ⟨⟨g1, g2, g3, g4, g5, g6, g7⟩, _⟩ := hG i hix
                  exfalso; omega
                · intro hc14
                  (try simp only [decide_eq_true_eq, decide_eq_false_iff_not, Bool.not_eq_true', Bool.not_eq_false'] at hc14)
                  refine ac_skip ?_
                  refine ac_seq ?_
                  refine ac_draw (by kernel_rfl) (reg_of (B := [0, 1, 3, 7, 7, 23, 63, 127, 7, 511, 1023, 2047]) (π := [0, 1, 2, 3, 4, 5, 6, 7, 8, 9, 10, 11]) (by kernel_rfl)) ?_
                  first | refine adr_val rfl rfl (av_move_int (by first | assumption | rfl)) (by (simp only [List.not_mem_nil, List.mem_singleton, false_implies, forall_eq, implies_true, Hp.put_size, Hp.push_size]; try omega)) ?_ | refine adr_val rfl rfl (av_move (by first | assumption | rfl)) (by (simp only [List.not_mem_nil, List.mem_singleton, false_implies, forall_eq, implies_true, Hp.put_size, Hp.push_size]; try omega)) ?_
                  refine adr_val rfl rfl (av_gt rfl rfl) (by (simp only [List.not_mem_nil, List.mem_singleton, false_implies, forall_eq, implies_true, Hp.put_size, Hp.push_size]; try omega)) ?_
                  first | refine adr_val rfl rfl (av_move_bool rfl) (by (simp only [List.not_mem_nil, List.mem_singleton, false_implies, forall_eq, implies_true, Hp.put_size, Hp.push_size]; try omega)) ?_ | refine adr_val rfl rfl (av_move rfl) (by (simp only [List.not_mem_nil, List.mem_singleton, false_implies, forall_eq, implies_true, Hp.put_size, Hp.push_size]; try omega)) ?_
                  refine adr_guard rfl rfl rfl rfl ?_ ?_
                  · intro hg15
                    have hgt : (0 : Int) < i := of_decide_eq_true hg15
                    first | refine adr_wval rfl (want_yes rfl rfl rfl hg15) rfl (av_move_sl (by first | assumption | rfl)) (by (simp only [List.not_mem_nil, List.mem_singleton, false_implies, forall_eq, implies_true, Hp.put_size, Hp.push_size]; try omega)) ?_ | refine adr_wval rfl (want_yes rfl rfl rfl hg15) rfl (av_move (by first | assumption | rfl)) (by (simp only [List.not_mem_nil, List.mem_singleton, false_implies, forall_eq, implies_true, Hp.put_size, Hp.push_size]; try omega)) ?_
                    first | refine adr_wval rfl (want_yes rfl rfl rfl hg15) rfl (av_move_int (by first | assumption | rfl)) (by (simp only [List.not_mem_nil, List.mem_singleton, false_implies, forall_eq, implies_true, Hp.put_size, Hp.push_size]; try omega)) ?_ | refine adr_wval rfl (want_yes rfl rfl rfl hg15) rfl (av_move (by first | assumption | rfl)) (by (simp only [List.not_mem_nil, List.mem_singleton, false_implies, forall_eq, implies_true, Hp.put_size, Hp.push_size]; try omega)) ?_
                    refine adr_wval rfl (want_yes rfl rfl rfl hg15) rfl (av_sub_is (r := ((i - 1 : Nat) : Int)) rfl rfl (by omega) (by omega)) (by (simp only [List.not_mem_nil, List.mem_singleton, false_implies, forall_eq, implies_true, Hp.put_size, Hp.push_size]; try omega)) ?_
                    have hi0 : 0 < i := by omega
                    have hix1 : i - 1 < xs.length := by omega
                    obtain ⟨b2, o2, e2, hb2, hcell2⟩ := (hs.mono hle.sees).link_at hix1
                    simp only [Option.some.injEq, Addr.mk.injEq, and_true] at e2
                    obtain ⟨rfl, rfl⟩ := e2
                    refine adr_wval rfl (want_yes rfl rfl rfl hg15) rfl (av_indexAddr rfl rfl Try.underlying22 inf28.size (by (first | assumption | omega | (simp only [Int.toNat_natCast] at *; omega))) (by (first | assumption | omega | (simp only [Int.toNat_natCast] at *; omega)))) (by (simp only [List.not_mem_nil, List.mem_singleton, false_implies, forall_eq, implies_true, Hp.put_size, Hp.push_size]; try omega)) ?_
                    refine adr_wval rfl (want_yes rfl rfl rfl hg15) rfl (av_loadN (cs := [.int .i64 _, .int .i64 _, .int .i64 _, .int .u64 _]) rfl Try.underlying28 rfl inf28.size (by (first | assumption | exact cells_get (by (repeat (first | assumption | exact Hp.push_new _ _ | exact Hp.put_same _ _ _ | refine (Hp.push_old _ _ (by (first | assumption | (simp; done) | (simp; omega) | omega))).trans ?_ | refine (Hp.put_other _ _ (by (first | assumption | omega | (simp; done) | (simp; omega)))).trans ?_ | refine le_got (by assumption) (by (first | assumption | (simp; done) | (simp; omega) | omega)) (by intro e; cases e) ?_))) rfl | exact Cells.le (by assumption) (by (repeat (first | assumption | exact Hp.le_refl _ | refine Hp.le_put_new ?_ (by first | (first | assumption | (simp; done) | (simp; omega) | omega) | exact (show Hp.le _ _ by assumption).1) _ | refine Hp.le_push' ?_ _ | refine Hp.le_trans ?_ (by assumption)))) (by (first | assumption | (simp; done) | (simp; omega) | omega))))) (by (simp only [List.not_mem_nil, List.mem_singleton, false_implies, forall_eq, implies_true, Hp.put_size, Hp.push_size]; try omega)) ?_
                    refine adr_wval rfl (want_yes rfl rfl rfl hg15) rfl (av_loadN (cs := [.int .i64 _, .int .i64 _, .int .i64 _, .int .u64 _]) rfl Try.underlying28 rfl inf28.size (by (first | assumption | exact cells_get (by (repeat (first | assumption | exact Hp.push_new _ _ | exact Hp.put_same _ _ _ | refine (Hp.push_old _ _ (by (first | assumption | (simp; done) | (simp; omega) | omega))).trans ?_ | refine (Hp.put_other _ _ (by (first | assumption | omega | (simp; done) | (simp; omega)))).trans ?_ | refine le_got (by assumption) (by (first | assumption | (simp; done) | (simp; omega) | omega)) (by intro e; cases e) ?_))) rfl | exact Cells.le (by assumption) (by (repeat (first | assumption | exact Hp.le_refl _ | refine Hp.le_put_new ?_ (by first | (first | assumption | (simp; done) | (simp; omega) | omega) | exact (show Hp.le _ _ by assumption).1) _ | refine Hp.le_push' ?_ _ | refine Hp.le_trans ?_ (by assumption)))) (by (first | assumption | (simp; done) | (simp; omega) | omega))))) (by (simp only [List.not_mem_nil, List.mem_singleton, false_implies, forall_eq, implies_true, Hp.put_size, Hp.push_size]; try omega)) ?_
                    refine adr_wop rfl (want_yes rfl rfl rfl hg15) rfl (aop_call (Less_link _ _ _) rfl Try.func76 rfl rfl rfl ?_)
                    rintro v H ⟨rfl, rfl⟩
                    refine ⟨by (first | exact fun _ _ _ _ _ => rfl | (repeat (first | exact List.forall_mem_nil _ | refine List.forall_mem_cons.2 ⟨?_, ?_⟩ | (intro hb b hbm; first | (dsimp only at hb; exact absurd hb (by decide)) | (exact absurd hbm (List.not_mem_nil)) | (simp only [List.mem_singleton] at hbm; subst hbm; (first | rfl | exact Hp.put_other _ _ (by (first | assumption | omega | (simp; done) | (simp; omega))) | exact Hp.le.same (by assumption) (by (first | assumption | (simp; done) | (simp; omega) | omega)) (by (repeat (first | assumption | exact Hp.push_new _ _ | exact Hp.put_same _ _ _ | refine (Hp.push_old _ _ (by (first | assumption | (simp; done) | (simp; omega) | omega))).trans ?_ | refine (Hp.put_other _ _ (by (first | assumption | omega | (simp; done) | (simp; omega)))).trans ?_ | refine le_got (by assumption) (by (first | assumption | (simp; done) | (simp; omega) | omega)) (by intro e; cases e) ?_))) | exact hsameO _ _ _ (by (first | assumption | (simp; done) | (simp; omega) | omega)) (by (repeat (first | assumption | exact Hp.push_new _ _ | exact Hp.put_same _ _ _ | refine (Hp.push_old _ _ (by (first | assumption | (simp; done) | (simp; omega) | omega))).trans ?_ | refine (Hp.put_other _ _ (by (first | assumption | omega | (simp; done) | (simp; omega)))).trans ?_ | refine le_got (by assumption) (by (first | assumption | (simp; done) | (simp; omega) | omega)) (by intro e; cases e) ?_))))) | exact hsame _ hbm | exact hsame2 _ hbm)))), ?_⟩
                    refine adr_wval rfl (want_yes rfl rfl rfl hg15) rfl (av_not rfl) (by (simp only [List.not_mem_nil, List.mem_singleton, false_implies, forall_eq, implies_true, Hp.put_size, Hp.push_size]; try omega)) ?_
                    refine adr_val rfl rfl (av_pick_bool (congrArg Value.bool hg15) rfl) (by (simp only [List.not_mem_nil, List.mem_singleton, false_implies, forall_eq, implies_true, Hp.put_size, Hp.push_size]; try omega)) ?_
                    refine ac_split rfl rfl ?_ ?_
                    · intro hc16
                      (try simp only [decide_eq_true_eq, decide_eq_false_iff_not, Bool.not_eq_true', Bool.not_eq_false'] at hc16)
                      refine ac_seq ?_
                      refine ac_region (by kernel_rfl) ?_
                      first | refine aops_val (av_assign_bool rfl) ?_ | refine aops_val (av_assign rfl) ?_
                      refine ac_ret ?_
                      refine ⟨.bool false, aresult1 (ares_tmp rfl), false, rfl, fun h => (by cases h), fun hG => ?_⟩
                      obtain ⟨_, g8⟩ := hG i hix
                      exfalso; simp_all
                    · intro hc16
                      (try simp only [decide_eq_true_eq, decide_eq_false_iff_not, Bool.not_eq_true', Bool.not_eq_false'] at hc16)
                      refine ac_skip ?_
                      refine ac_region (by kernel_rfl) ?_
                      first | refine aops_val (av_move_int (by first | assumption | rfl)) ?_ | refine aops_val (av_move (by first | assumption | rfl)) ?_
                      first | refine aops_val (av_add64 rfl rfl (by (first | assumption | omega | (simp; omega)))) ?_ | refine aops_val (av_add rfl rfl) ?_
                      first | refine aops_val (av_assign_int rfl) ?_ | refine aops_val (av_assign rfl) ?_
                      refine ⟨xs.length - (i + 1), by omega, i + 1, by omega, rfl, by (repeat (first | assumption | exact Hp.le_refl _ | refine Hp.le_put_new ?_ (by first | (first | assumption | (simp; done) | (simp; omega) | omega) | exact (show Hp.le _ _ by assumption).1) _ | refine Hp.le_push' ?_ _ | refine Hp.le_trans ?_ (by assumption))), fun j h h0 => ?_, e0, rfl⟩
                      rcases Nat.lt_or_ge j i with h1 | h1
                      · exact hok j h h1
                      · obtain rfl : j = i := by omega
                        exact ⟨⟨by omega, by omega, by omega, by omega, by omega, by omega, by omega⟩, fun h2 => by first | omega | simp_all⟩
                  · intro hg15
                    have hgt : ¬ (0 : Int) < i := of_decide_eq_false hg15
                    refine adr_skip rfl (want_no rfl rfl rfl hg15 rfl) ?_
                    refine adr_skip rfl (want_no rfl rfl rfl hg15 rfl) ?_
                    refine adr_skip rfl (want_no rfl rfl rfl hg15 rfl) ?_
                    refine adr_skip rfl (want_no rfl rfl rfl hg15 rfl) ?_
                    refine adr_skip rfl (want_no rfl rfl rfl hg15 rfl) ?_
                    refine adr_skip rfl (want_no rfl rfl rfl hg15 rfl) ?_
                    refine adr_skip rfl (want_no rfl rfl rfl hg15 rfl) ?_
                    refine adr_skip rfl (want_no rfl rfl rfl hg15 rfl) ?_
                    refine adr_val rfl rfl (av_pick_bool (congrArg Value.bool hg15) (by first | assumption | rfl)) (by (simp only [List.not_mem_nil, List.mem_singleton, false_implies, forall_eq, implies_true, Hp.put_size, Hp.push_size]; try omega)) ?_
                    refine ac_cond_false rfl rfl ?_
                    refine ac_skip ?_
                    refine ac_region (by kernel_rfl) ?_
                    first | refine aops_val (av_move_int (by first | assumption | rfl)) ?_ | refine aops_val (av_move (by first | assumption | rfl)) ?_
                    first | refine aops_val (av_add64 rfl rfl (by (first | assumption | omega | (simp; omega)))) ?_ | refine aops_val (av_add rfl rfl) ?_
                    first | refine aops_val (av_assign_int rfl) ?_ | refine aops_val (av_assign rfl) ?_
                    refine ⟨xs.length - (i + 1), by omega, i + 1, by omega, rfl, by (repeat (first | assumption | exact Hp.le_refl _ | refine Hp.le_put_new ?_ (by first | (first | assumption | (simp; done) | (simp; omega) | omega) | exact (show Hp.le _ _ by assumption).1) _ | refine Hp.le_push' ?_ _ | refine Hp.le_trans ?_ (by assumption))), fun j h h0 => ?_, e0, rfl⟩
                    rcases Nat.lt_or_ge j i with h1 | h1
                    · exact hok j h h1
                    · obtain rfl : j = i := by omega
                      exact ⟨⟨by omega, by omega, by omega, by omega, by omega, by omega, by omega⟩, fun h2 => by first | omega | simp_all⟩
  · intro hc1
    (try simp only [decide_eq_true_eq, decide_eq_false_iff_not, Bool.not_eq_true', Bool.not_eq_false'] at hc1)
    refine ac_exit ?_
    refine ac_seq ?_
    refine ac_region (by kernel_rfl) ?_
    first | refine aops_val (av_assign_bool rfl) ?_ | refine aops_val (av_assign rfl) ?_
    refine ac_ret ?_
    refine ⟨.bool true, aresult1 (ares_tmp rfl), true, rfl, fun _ j h => hok j h (by omega), fun _ => rfl⟩
theorem Good_links (xs : List Link) (v : Value) (H : Hp) (hs : Sl kLink H v xs) (hl : xs.length ≤ 9223372036854775807) :
    ACalls Try.prog 15 #[v] H (fun r H' => (∃ g, r = .bool g ∧ (g = true ↔ GoodL xs)) ∧ H' = H) :=
  ACalls.pure (fun v ⟨g, h, _⟩ => by rw [h]; rfl) (Good_raw xs v H.ro (hs.mono H.sees_ro) hl)
theorem Same_raw22 (xs ys : List Link) (v u : Value) (H : Hp) (hs : Sl kLink H v xs) (hu : Sl kLink H u ys) (hl : xs.length ≤ 9223372036854775807) :
    ACalls Try.prog 19 #[v, u] H (fun r _ => r = .bool (decide (xs = ys))) := by
  obtain ⟨A, c, rfl⟩ := hs.shape
  obtain ⟨B, c2, rfl⟩ := hu.shape
  refine acalls_of_code Try.func19 rfl rfl rfl (by simp) ?_
  refine ac_seq ?_
  refine ac_region (by kernel_rfl) ?_
  first | refine aops_val (av_assign_bool rfl) ?_ | refine aops_val (av_assign rfl) ?_
  refine ac_seq ?_
  refine ac_seq ?_
  refine ac_region (by kernel_rfl) ?_
  first | refine aops_val (av_move_sl rfl) ?_ | refine aops_val (av_move rfl) ?_
  refine aops_val (av_len rfl Try.underlying22) ?_
  first | refine aops_val (av_move_sl rfl) ?_ | refine aops_val (av_move rfl) ?_
  refine aops_val (av_len rfl Try.underlying22) ?_
  refine aops_val (av_ne rfl rfl) ?_
  refine ac_split rfl rfl ?_ ?_
  · intro hc1
    have hne : xs.length ≠ ys.length := by have := of_decide_eq_true hc1; omega
    refine ac_seq ?_
    refine ac_region (by kernel_rfl) ?_
    first | refine aops_val (av_assign_bool rfl) ?_ | refine aops_val (av_assign rfl) ?_
    refine ac_ret ?_
    exact ⟨.bool false, aresult1 (ares_tmp rfl), by rw [decide_eq_false (fun e => hne (by rw [e]))]⟩
  · intro hc1
    have hlen : xs.length = ys.length := by have := of_decide_eq_false hc1; omega
    refine ac_skip ?_
    refine ac_seq ?_
    refine ac_seq ?_
    refine ac_region (by kernel_rfl) ?_
    first | refine aops_val (av_assign_int rfl) ?_ | refine aops_val (av_assign rfl) ?_
    refine ac_block ?_
    refine ac_loop (fun n t H' => ∃ (i : Nat), i ≤ xs.length ∧ n = xs.length - i ∧ H' = H ∧ (∀ (j : Nat) (h : j < xs.length), j < i → xs[j] = ys[j]) ∧ t 0 = .slice A xs.length c ∧ t 1 = .slice B ys.length c2 ∧ t 5 = .int .i64 i) (xs.length) (⟨0, by omega, rfl, rfl, fun j h h0 => by omega, rfl, rfl, rfl⟩) ?_
    rintro n t _ ⟨i, hi, rfl, rfl, hok, e0, e1, e5⟩
    refine ac_seq ?_
    refine ac_seq ?_
    refine ac_region (by kernel_rfl) ?_
    first | refine aops_val (av_move_int (by first | assumption | rfl)) ?_ | refine aops_val (av_move (by first | assumption | rfl)) ?_
    first | refine aops_val (av_move_sl (by first | assumption | rfl)) ?_ | refine aops_val (av_move (by first | assumption | rfl)) ?_
    refine aops_val (av_len rfl Try.underlying22) ?_
    refine aops_val (av_lt rfl rfl) ?_
    refine ac_split rfl rfl ?_ ?_
    · intro hc2
      (try simp only [decide_eq_true_eq, decide_eq_false_iff_not, Bool.not_eq_true', Bool.not_eq_false'] at hc2)
      refine ac_skip ?_
      refine ac_seq ?_
      refine ac_block ?_
      refine ac_seq ?_
      refine ac_draw (by kernel_rfl) (reg_of (B := [0, 0, 3, 7, 0, 0, 48, 112, 255]) (π := [0, 1, 2, 3, 4, 5, 6, 7, 8]) (by kernel_rfl)) ?_
      first | refine adr_val rfl rfl (av_move_sl (by first | assumption | rfl)) (by (simp only [List.not_mem_nil, List.mem_singleton, false_implies, forall_eq, implies_true, Hp.put_size, Hp.push_size]; try omega)) ?_ | refine adr_val rfl rfl (av_move (by first | assumption | rfl)) (by (simp only [List.not_mem_nil, List.mem_singleton, false_implies, forall_eq, implies_true, Hp.put_size, Hp.push_size]; try omega)) ?_
      first | refine adr_val rfl rfl (av_move_int (by first | assumption | rfl)) (by (simp only [List.not_mem_nil, List.mem_singleton, false_implies, forall_eq, implies_true, Hp.put_size, Hp.push_size]; try omega)) ?_ | refine adr_val rfl rfl (av_move (by first | assumption | rfl)) (by (simp only [List.not_mem_nil, List.mem_singleton, false_implies, forall_eq, implies_true, Hp.put_size, Hp.push_size]; try omega)) ?_
      have hix : i < xs.length := by omega
      have hiy : i < ys.length := by omega
      obtain ⟨b, o, rfl, hb, hcell1⟩ := hs.link_at hix
      obtain ⟨b2, o2, rfl, hb2, hcell2⟩ := hu.link_at hiy
      refine adr_val rfl rfl (av_indexAddr rfl rfl Try.underlying22 inf28.size (by (first | assumption | omega | (simp only [Int.toNat_natCast] at *; omega))) (by (first | assumption | omega | (simp only [Int.toNat_natCast] at *; omega)))) (by (simp only [List.not_mem_nil, List.mem_singleton, false_implies, forall_eq, implies_true, Hp.put_size, Hp.push_size]; try omega)) ?_
      refine adr_val rfl rfl (av_loadN (cs := [.int .i64 _, .int .i64 _, .int .i64 _, .int .u64 _]) rfl Try.underlying28 rfl inf28.size (by (first | assumption | exact cells_get (by (repeat (first | assumption | exact Hp.push_new _ _ | exact Hp.put_same _ _ _ | refine (Hp.push_old _ _ (by (first | assumption | (simp; done) | (simp; omega) | omega))).trans ?_ | refine (Hp.put_other _ _ (by (first | assumption | omega | (simp; done) | (simp; omega)))).trans ?_ | refine le_got (by assumption) (by (first | assumption | (simp; done) | (simp; omega) | omega)) (by intro e; cases e) ?_))) rfl | exact Cells.le (by assumption) (by (repeat (first | assumption | exact Hp.le_refl _ | refine Hp.le_put_new ?_ (by first | (first | assumption | (simp; done) | (simp; omega) | omega) | exact (show Hp.le _ _ by assumption).1) _ | refine Hp.le_push' ?_ _ | refine Hp.le_trans ?_ (by assumption)))) (by (first | assumption | (simp; done) | (simp; omega) | omega))))) (by (simp only [List.not_mem_nil, List.mem_singleton, false_implies, forall_eq, implies_true, Hp.put_size, Hp.push_size]; try omega)) ?_
      first | refine adr_val rfl rfl (av_move_sl (by first | assumption | rfl)) (by (simp only [List.not_mem_nil, List.mem_singleton, false_implies, forall_eq, implies_true, Hp.put_size, Hp.push_size]; try omega)) ?_ | refine adr_val rfl rfl (av_move (by first | assumption | rfl)) (by (simp only [List.not_mem_nil, List.mem_singleton, false_implies, forall_eq, implies_true, Hp.put_size, Hp.push_size]; try omega)) ?_
      first | refine adr_val rfl rfl (av_move_int (by first | assumption | rfl)) (by (simp only [List.not_mem_nil, List.mem_singleton, false_implies, forall_eq, implies_true, Hp.put_size, Hp.push_size]; try omega)) ?_ | refine adr_val rfl rfl (av_move (by first | assumption | rfl)) (by (simp only [List.not_mem_nil, List.mem_singleton, false_implies, forall_eq, implies_true, Hp.put_size, Hp.push_size]; try omega)) ?_
      refine adr_val rfl rfl (av_indexAddr rfl rfl Try.underlying22 inf28.size (by (first | assumption | omega | (simp only [Int.toNat_natCast] at *; omega))) (by (first | assumption | omega | (simp only [Int.toNat_natCast] at *; omega)))) (by (simp only [List.not_mem_nil, List.mem_singleton, false_implies, forall_eq, implies_true, Hp.put_size, Hp.push_size]; try omega)) ?_
      refine adr_val rfl rfl (av_loadN (cs := [.int .i64 _, .int .i64 _, .int .i64 _, .int .u64 _]) rfl Try.underlying28 rfl inf28.size (by (first | assumption | exact cells_get (by (repeat (first | assumption | exact Hp.push_new _ _ | exact Hp.put_same _ _ _ | refine (Hp.push_old _ _ (by (first | assumption | (simp; done) | (simp; omega) | omega))).trans ?_ | refine (Hp.put_other _ _ (by (first | assumption | omega | (simp; done) | (simp; omega)))).trans ?_ | refine le_got (by assumption) (by (first | assumption | (simp; done) | (simp; omega) | omega)) (by intro e; cases e) ?_))) rfl | exact Cells.le (by assumption) (by (repeat (first | assumption | exact Hp.le_refl _ | refine Hp.le_put_new ?_ (by first | (first | assumption | (simp; done) | (simp; omega) | omega) | exact (show Hp.le _ _ by assumption).1) _ | refine Hp.le_push' ?_ _ | refine Hp.le_trans ?_ (by assumption)))) (by (first | assumption | (simp; done) | (simp; omega) | omega))))) (by (simp only [List.not_mem_nil, List.mem_singleton, false_implies, forall_eq, implies_true, Hp.put_size, Hp.push_size]; try omega)) ?_
      refine adr_val rfl rfl (av_link_neq rfl rfl) (by (simp only [List.not_mem_nil, List.mem_singleton, false_implies, forall_eq, implies_true, Hp.put_size, Hp.push_size]; try omega)) ?_
      refine ac_split rfl rfl ?_ ?_
      · intro hc3
        have hne : xs[i] ≠ ys[i] := by simpa using hc3
        refine ac_seq ?_
        refine ac_region (by kernel_rfl) ?_
        first | refine aops_val (av_assign_bool rfl) ?_ | refine aops_val (av_assign rfl) ?_
        refine ac_ret ?_
        refine ⟨.bool false, aresult1 (ares_tmp rfl), ?_⟩
        rw [decide_eq_false]
        intro e; subst e; exact hne rfl
      · intro hc3
        have heq : xs[i] = ys[i] := by simpa using hc3
        refine ac_skip ?_
        refine ac_region (by kernel_rfl) ?_
        first | refine aops_val (av_move_int (by first | assumption | rfl)) ?_ | refine aops_val (av_move (by first | assumption | rfl)) ?_
        first | refine aops_val (av_add64 rfl rfl (by (first | assumption | omega | (simp; omega)))) ?_ | refine aops_val (av_add rfl rfl) ?_
        first | refine aops_val (av_assign_int rfl) ?_ | refine aops_val (av_assign rfl) ?_
        refine ⟨xs.length - (i + 1), by omega, i + 1, by omega, rfl, rfl, fun j h h0 => ?_, e0, e1, rfl⟩
        rcases Nat.lt_or_ge j i with h1 | h1
        · exact hok j h h1
        · obtain rfl : j = i := by omega
          exact heq
    · intro hc2
      (try simp only [decide_eq_true_eq, decide_eq_false_iff_not, Bool.not_eq_true', Bool.not_eq_false'] at hc2)
      refine ac_exit ?_
      refine ac_seq ?_
      refine ac_region (by kernel_rfl) ?_
      first | refine aops_val (av_assign_bool rfl) ?_ | refine aops_val (av_assign rfl) ?_
      refine ac_ret ?_
      refine ⟨.bool true, aresult1 (ares_tmp rfl), ?_⟩
      rw [decide_eq_true]
      exact List.ext_getElem hlen fun j h1 h2 => hok j h1 (by omega)
theorem Same_links (xs ys : List Link) (v u : Value) (H : Hp) (hs : Sl kLink H v xs) (hu : Sl kLink H u ys) (hl : xs.length ≤ 9223372036854775807) :
    ACalls Try.prog 19 #[v, u] H (fun r H' => r = .bool (decide (xs = ys)) ∧ H' = H) :=
  ACalls.pure (fun v h => by rw [h]; rfl) (Same_raw22 xs ys v u H.ro (hs.mono H.sees_ro) (hu.mono H.sees_ro) hl)
end Go.Proofs.Ytnkjikpmgeknbaa.Am
