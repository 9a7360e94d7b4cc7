/- What two lists of links have in common: the merge; the small living call of the statements on links. -/
import Derived.Test.YtnkjikpmgeknbaaAmPairs
namespace Go.Proofs.Ytnkjikpmgeknbaa.Am
open Go Go.RowKit
set_option maxRecDepth 100000
set_option linter.unusedVariables false
set_option linter.unusedSimpArgs false

theorem OwnP.box_put {α : Type} {k : Kd α} {G H : Hp} {v : Value} {xs : List α} (h : OwnP k G H v xs) {b1 : Nat} {cs : List Value} (hg : G.get b1 = .own 0 cs) (cs' : List Value) : OwnP k (G.put b1 (.own 0 cs')) (H.put b1 (.own 0 cs')) v xs :=
  h.put (by rw [hg]; intro e; cases e) _ (Hp.sees_box _ hg)
def bothF : Nat → List Link → List Link → List Link
  | 0, _, _ => []
  | n + 1, x :: a, y :: b => if keyI x < keyI y then bothF n a (y :: b) else if keyI y < keyI x then bothF n (x :: a) b else ⟨x.a, x.b, x.cost + y.cost, timesI x.n y.n⟩ :: bothF n a b
  | _ + 1, _, _ => []
def bothL (a b : List Link) : List Link := bothF (a.length + b.length) a b
theorem bothF_nil (n : Nat) (b : List Link) : bothF n [] b = [] := by cases n <;> rfl
theorem bothF_nil2 (n : Nat) (a : List Link) : bothF n a [] = [] := by cases n <;> cases a <;> rfl
theorem bothF_lt {n i j : Nat} {xs ys : List Link} (hn : 1 ≤ n) (hi : i < xs.length) (hj : j < ys.length) (h : keyI xs[i] < keyI ys[j]) : bothF n (xs.drop i) (ys.drop j) = bothF (n - 1) (xs.drop (i + 1)) (ys.drop j) := by
  obtain ⟨m, rfl⟩ : ∃ m, n = m + 1 := ⟨n - 1, by omega⟩
  rw [List.drop_eq_getElem_cons hi, List.drop_eq_getElem_cons hj, bothF, if_pos h]; rfl
theorem bothF_gt {n i j : Nat} {xs ys : List Link} (hn : 1 ≤ n) (hi : i < xs.length) (hj : j < ys.length) (h : keyI ys[j] < keyI xs[i]) : bothF n (xs.drop i) (ys.drop j) = bothF (n - 1) (xs.drop i) (ys.drop (j + 1)) := by
  obtain ⟨m, rfl⟩ : ∃ m, n = m + 1 := ⟨n - 1, by omega⟩
  rw [List.drop_eq_getElem_cons hi, List.drop_eq_getElem_cons hj, bothF, if_neg (by omega), if_pos h]; rfl
theorem bothF_eq {n i j : Nat} {xs ys : List Link} (hn : 1 ≤ n) (hi : i < xs.length) (hj : j < ys.length) (h : ¬ keyI ys[j] < keyI xs[i]) (h2 : ¬ keyI xs[i] < keyI ys[j]) :
    bothF n (xs.drop i) (ys.drop j) = ⟨xs[i].a, xs[i].b, xs[i].cost + ys[j].cost, timesI xs[i].n ys[j].n⟩ :: bothF (n - 1) (xs.drop (i + 1)) (ys.drop (j + 1)) := by
  obtain ⟨m, rfl⟩ : ∃ m, n = m + 1 := ⟨n - 1, by omega⟩
  rw [List.drop_eq_getElem_cons hi, List.drop_eq_getElem_cons hj, bothF, if_neg h2, if_neg h]; rfl
def OkB (x : Link) : Prop := 0 ≤ x.a ∧ x.a ≤ 9999 ∧ 0 ≤ x.b ∧ x.b ≤ 9999 ∧ 0 ≤ x.cost ∧ x.cost ≤ 1000000000000 ∧ 0 ≤ x.n
theorem Both_links (xs ys : List Link) (v u : Value) (H : Hp) (hs : Sl kLink H v xs) (hu : Sl kLink H u ys) (hx : ∀ x ∈ xs, OkB x) (hy : ∀ x ∈ ys, OkB x) (hl : xs.length ≤ 1000000) (hl2 : ys.length ≤ 1000000) :
    ACalls Try.prog 77 #[v, u] H (fun r H' => ∃ G, H.le G ∧ OwnP kLink G H' r (bothL xs ys)) := by
  obtain ⟨A, c, rfl⟩ := hs.shape
  obtain ⟨B, c2, rfl⟩ := hu.shape
  refine acalls_of_code Try.func77 rfl rfl rfl (by simp) ?_
  refine ac_seq ?_
  refine ac_region (by kernel_rfl) ?_
  first | refine aops_val (av_assign_sl rfl) ?_ | refine aops_val (av_assign rfl) ?_
  refine ac_seq ?_
  refine ac_region (by kernel_rfl) ?_
  first | refine aops_val (av_assign_sl rfl) ?_ | refine aops_val (av_assign rfl) ?_
  refine ac_seq ?_
  refine ac_block ?_
  refine ac_loop (fun n t H' => ∃ (i j : Nat) (out : List Link) (G : Hp) (A' : Option Addr) (c' : Nat) (B' : Option Addr) (c2' : Nat) (C : Option Addr) (c5 : Nat), i ≤ xs.length ∧ j ≤ ys.length ∧ (xs.length - i) + (ys.length - j) ≤ n ∧ out.length ≤ i ∧ out ++ bothF n (xs.drop i) (ys.drop j) = bothL xs ys ∧ H.le G ∧ OwnP kLink G H' (.slice C out.length c5) out ∧ Sl kLink G (.slice A' (xs.length - i) c') (xs.drop i) ∧ Sl kLink G (.slice B' (ys.length - j) c2') (ys.drop j) ∧ t 0 = .slice A' (xs.length - i) c' ∧ t 1 = .slice B' (ys.length - j) c2' ∧ t 5 = .slice C out.length c5) (xs.length + ys.length) (⟨0, 0, [], H, A, c, B, c2, _, _, by omega, by omega, by omega, by simp, rfl, Hp.le_refl _, OwnP.nil _ _, hs, hu, rfl, rfl, rfl⟩) ?_
  rintro n t H1 ⟨i, j, out, G, A', c', B', c2', C, c5, hi, hj, hn, hout, hboth, hle, hown, hsx, hsy, e0, e1, e5⟩
  have hz := hown.size
  refine ac_seq ?_
  refine ac_seq ?_
  refine ac_region (by kernel_rfl) ?_
  first | refine aops_val (av_move_sl (by first | assumption | rfl)) ?_ | refine aops_val (av_move (by first | assumption | rfl)) ?_
  refine aops_val (av_len rfl Try.underlying22) ?_
  refine aops_val (av_gt rfl rfl) ?_
  first | refine aops_val (av_move_bool rfl) ?_ | refine aops_val (av_move rfl) ?_
  refine aops_guard rfl rfl rfl ?_ ?_
  · intro hg1
    have hp1 := hg1; try simp only [decide_eq_true_eq, decide_eq_false_iff_not, Bool.not_eq_true', Bool.not_eq_false'] at hp1
    first | refine aops_wval (want_yes rfl rfl rfl hg1) (av_move_sl (by first | assumption | rfl)) ?_ | refine aops_wval (want_yes rfl rfl rfl hg1) (av_move (by first | assumption | rfl)) ?_
    refine aops_wval (want_yes rfl rfl rfl hg1) (av_len rfl Try.underlying22) ?_
    refine aops_wval (want_yes rfl rfl rfl hg1) (av_gt rfl rfl) ?_
    refine aops_val (av_pick_bool (congrArg Value.bool hg1) rfl) ?_
    refine ac_split rfl rfl ?_ ?_
    · intro hc2
      (try simp only [decide_eq_true_eq, decide_eq_false_iff_not, Bool.not_eq_true', Bool.not_eq_false'] at hc2)
      refine ac_skip ?_
      refine ac_block ?_
      refine ac_seq ?_
      have hix : i < xs.length := by omega
      have hjy : j < ys.length := by omega
      obtain ⟨b, o, rfl, hb, hcell0⟩ := hsx.link_at (i := 0) (by rw [List.length_drop]; omega)
      obtain ⟨b2, o2, rfl, hb2, hcell2⟩ := hsy.link_at (i := 0) (by rw [List.length_drop]; omega)
      rw [List.getElem_drop] at hcell0 hcell2
      have hcells0 := hown.le.cells hb hcell0
      have hcells2 := hown.le.cells hb2 hcell2
      simp only [Nat.add_zero] at hcells0 hcells2
      obtain ⟨x1, x2, x3, x4, x5, x6, x7⟩ := hx _ (List.getElem_mem hix)
      obtain ⟨y1, y2, y3, y4, y5, y6, y7⟩ := hy _ (List.getElem_mem hjy)
      refine ac_draw (by kernel_rfl) (reg_of (B := [0, 1, 3, 0, 8, 24, 0, 0, 199, 511]) (π := [0, 1, 2, 3, 4, 5, 6, 7, 8, 9]) (by kernel_rfl)) ?_
      first | refine adr_val rfl rfl (av_move_sl (by first | assumption | rfl)) (by (simp only [List.not_mem_nil, List.mem_singleton, false_implies, forall_eq, implies_true, Hp.put_size, Hp.push_size]; try omega)) ?_ | refine adr_val rfl rfl (av_move (by first | assumption | rfl)) (by (simp only [List.not_mem_nil, List.mem_singleton, false_implies, forall_eq, implies_true, Hp.put_size, Hp.push_size]; try omega)) ?_
      refine adr_val rfl rfl (av_indexAddr rfl rfl Try.underlying22 inf28.size (by (first | assumption | omega | (simp only [Int.toNat_natCast] at *; omega))) (by (first | assumption | omega | (simp only [Int.toNat_natCast] at *; omega)))) (by (simp only [List.not_mem_nil, List.mem_singleton, false_implies, forall_eq, implies_true, Hp.put_size, Hp.push_size]; try omega)) ?_
      refine adr_val rfl rfl (av_loadN (cs := [.int .i64 _, .int .i64 _, .int .i64 _, .int .u64 _]) rfl Try.underlying28 rfl inf28.size (by (first | assumption | exact cells_get (by (repeat (first | assumption | exact Hp.push_new _ _ | exact Hp.put_same _ _ _ | refine (Hp.push_old _ _ (by (first | assumption | (simp; done) | (simp; omega) | omega))).trans ?_ | refine (Hp.put_other _ _ (by (first | assumption | omega | (simp; done) | (simp; omega)))).trans ?_ | refine le_got (by assumption) (by (first | assumption | (simp; done) | (simp; omega) | omega)) (by intro e; cases e) ?_))) rfl | exact Cells.le (by assumption) (by (repeat (first | assumption | exact Hp.le_refl _ | refine Hp.le_put_new ?_ (by first | (first | assumption | (simp; done) | (simp; omega) | omega) | exact (show Hp.le _ _ by assumption).1) _ | refine Hp.le_push' ?_ _ | refine Hp.le_trans ?_ (by assumption)))) (by (first | assumption | (simp; done) | (simp; omega) | omega))))) (by (simp only [List.not_mem_nil, List.mem_singleton, false_implies, forall_eq, implies_true, Hp.put_size, Hp.push_size]; try omega)) ?_
      first | refine adr_val rfl rfl (av_move_sl (by first | assumption | rfl)) (by (simp only [List.not_mem_nil, List.mem_singleton, false_implies, forall_eq, implies_true, Hp.put_size, Hp.push_size]; try omega)) ?_ | refine adr_val rfl rfl (av_move (by first | assumption | rfl)) (by (simp only [List.not_mem_nil, List.mem_singleton, false_implies, forall_eq, implies_true, Hp.put_size, Hp.push_size]; try omega)) ?_
      refine adr_val rfl rfl (av_indexAddr rfl rfl Try.underlying22 inf28.size (by (first | assumption | omega | (simp only [Int.toNat_natCast] at *; omega))) (by (first | assumption | omega | (simp only [Int.toNat_natCast] at *; omega)))) (by (simp only [List.not_mem_nil, List.mem_singleton, false_implies, forall_eq, implies_true, Hp.put_size, Hp.push_size]; try omega)) ?_
      refine adr_val rfl rfl (av_loadN (cs := [.int .i64 _, .int .i64 _, .int .i64 _, .int .u64 _]) rfl Try.underlying28 rfl inf28.size (by (first | assumption | exact cells_get (by (repeat (first | assumption | exact Hp.push_new _ _ | exact Hp.put_same _ _ _ | refine (Hp.push_old _ _ (by (first | assumption | (simp; done) | (simp; omega) | omega))).trans ?_ | refine (Hp.put_other _ _ (by (first | assumption | omega | (simp; done) | (simp; omega)))).trans ?_ | refine le_got (by assumption) (by (first | assumption | (simp; done) | (simp; omega) | omega)) (by intro e; cases e) ?_))) rfl | exact Cells.le (by assumption) (by (repeat (first | assumption | exact Hp.le_refl _ | refine Hp.le_put_new ?_ (by first | (first | assumption | (simp; done) | (simp; omega) | omega) | exact (show Hp.le _ _ by assumption).1) _ | refine Hp.le_push' ?_ _ | refine Hp.le_trans ?_ (by assumption)))) (by (first | assumption | (simp; done) | (simp; omega) | omega))))) (by (simp only [List.not_mem_nil, List.mem_singleton, false_implies, forall_eq, implies_true, Hp.put_size, Hp.push_size]; try omega)) ?_
      refine adr_make rfl rfl (am_zero (l := [.int .i64 0, .int .i64 0, .int .i64 0, .int .u64 0]) inf28.zero rfl (by decide)) ?_
      refine adr_make rfl rfl (am_zero (l := [.int .i64 0, .int .i64 0, .int .i64 0, .int .u64 0]) inf28.zero rfl (by decide)) ?_
      first | refine adr_op rfl rfl (aop_putN (vs := [.int .i64 _, .int .i64 _, .int .i64 _, .int .u64 _]) rfl rfl inf28.size (by (repeat (first | assumption | exact Hp.push_new _ _ | exact Hp.put_same _ _ _ | refine (Hp.push_old _ _ (by (first | assumption | (simp; done) | (simp; omega) | omega))).trans ?_ | refine (Hp.put_other _ _ (by (first | assumption | omega | (simp; done) | (simp; omega)))).trans ?_ | refine le_got (by assumption) (by (first | assumption | (simp; done) | (simp; omega) | omega)) (by intro e; cases e) ?_))) (by (first | (simp; done) | (simp; omega) | omega | (rw [setR_length (by first | (simp; done) | (simp; omega) | omega)]; first | (simp; done) | (simp; omega) | omega) | (rw [List.length_set, setR_length (by first | (simp; done) | (simp; omega) | omega)]; first | (simp; done) | (simp; omega) | omega) | (rw [List.length_set, List.length_set, setR_length (by first | (simp; done) | (simp; omega) | omega)]; first | (simp; done) | (simp; omega) | omega))) rfl rfl ?_)
      refine ⟨by (first | exact fun _ _ _ _ _ => rfl | (repeat (first | exact List.forall_mem_nil _ | refine List.forall_mem_cons.2 ⟨?_, ?_⟩ | (intro hb b hbm; first | (dsimp only at hb; exact absurd hb (by decide)) | (exact absurd hbm (List.not_mem_nil)) | (simp only [List.mem_singleton] at hbm; subst hbm; (first | rfl | exact Hp.put_other _ _ (by (first | assumption | omega | (simp; done) | (simp; omega))) | exact Hp.le.same (by assumption) (by (first | assumption | (simp; done) | (simp; omega) | omega)) (by (repeat (first | assumption | exact Hp.push_new _ _ | exact Hp.put_same _ _ _ | refine (Hp.push_old _ _ (by (first | assumption | (simp; done) | (simp; omega) | omega))).trans ?_ | refine (Hp.put_other _ _ (by (first | assumption | omega | (simp; done) | (simp; omega)))).trans ?_ | refine le_got (by assumption) (by (first | assumption | (simp; done) | (simp; omega) | omega)) (by intro e; cases e) ?_))) | exact hsameO _ _ _ (by (first | assumption | (simp; done) | (simp; omega) | omega)) (by (repeat (first | assumption | exact Hp.push_new _ _ | exact Hp.put_same _ _ _ | refine (Hp.push_old _ _ (by (first | assumption | (simp; done) | (simp; omega) | omega))).trans ?_ | refine (Hp.put_other _ _ (by (first | assumption | omega | (simp; done) | (simp; omega)))).trans ?_ | refine le_got (by assumption) (by (first | assumption | (simp; done) | (simp; omega) | omega)) (by intro e; cases e) ?_))))) | exact hsame _ hbm | exact hsame2 _ hbm)))), ?_⟩
      first | refine adr_op rfl rfl (aop_putN (vs := [.int .i64 _, .int .i64 _, .int .i64 _, .int .u64 _]) rfl rfl inf28.size (by (repeat (first | assumption | exact Hp.push_new _ _ | exact Hp.put_same _ _ _ | refine (Hp.push_old _ _ (by (first | assumption | (simp; done) | (simp; omega) | omega))).trans ?_ | refine (Hp.put_other _ _ (by (first | assumption | omega | (simp; done) | (simp; omega)))).trans ?_ | refine le_got (by assumption) (by (first | assumption | (simp; done) | (simp; omega) | omega)) (by intro e; cases e) ?_))) (by (first | (simp; done) | (simp; omega) | omega | (rw [setR_length (by first | (simp; done) | (simp; omega) | omega)]; first | (simp; done) | (simp; omega) | omega) | (rw [List.length_set, setR_length (by first | (simp; done) | (simp; omega) | omega)]; first | (simp; done) | (simp; omega) | omega) | (rw [List.length_set, List.length_set, setR_length (by first | (simp; done) | (simp; omega) | omega)]; first | (simp; done) | (simp; omega) | omega))) rfl rfl ?_)
      refine ⟨by (first | exact fun _ _ _ _ _ => rfl | (repeat (first | exact List.forall_mem_nil _ | refine List.forall_mem_cons.2 ⟨?_, ?_⟩ | (intro hb b hbm; first | (dsimp only at hb; exact absurd hb (by decide)) | (exact absurd hbm (List.not_mem_nil)) | (simp only [List.mem_singleton] at hbm; subst hbm; (first | rfl | exact Hp.put_other _ _ (by (first | assumption | omega | (simp; done) | (simp; omega))) | exact Hp.le.same (by assumption) (by (first | assumption | (simp; done) | (simp; omega) | omega)) (by (repeat (first | assumption | exact Hp.push_new _ _ | exact Hp.put_same _ _ _ | refine (Hp.push_old _ _ (by (first | assumption | (simp; done) | (simp; omega) | omega))).trans ?_ | refine (Hp.put_other _ _ (by (first | assumption | omega | (simp; done) | (simp; omega)))).trans ?_ | refine le_got (by assumption) (by (first | assumption | (simp; done) | (simp; omega) | omega)) (by intro e; cases e) ?_))) | exact hsameO _ _ _ (by (first | assumption | (simp; done) | (simp; omega) | omega)) (by (repeat (first | assumption | exact Hp.push_new _ _ | exact Hp.put_same _ _ _ | refine (Hp.push_old _ _ (by (first | assumption | (simp; done) | (simp; omega) | omega))).trans ?_ | refine (Hp.put_other _ _ (by (first | assumption | omega | (simp; done) | (simp; omega)))).trans ?_ | refine le_got (by assumption) (by (first | assumption | (simp; done) | (simp; omega) | omega)) (by intro e; cases e) ?_))))) | exact hsame _ hbm | exact hsame2 _ hbm)))), ?_⟩
      refine ac_block ?_
      refine ac_seq ?_
      have hownB := (((hown.push (.own 0 [.int .i64 0, .int .i64 0, .int .i64 0, .int .u64 0])).push (.own 0 [.int .i64 0, .int .i64 0, .int .i64 0, .int .u64 0])).box_put (b1 := H1.size) (cs := [.int .i64 0, .int .i64 0, .int .i64 0, .int .u64 0]) (by rw [hz]; (repeat (first | assumption | exact Hp.push_new _ _ | exact Hp.put_same _ _ _ | refine (Hp.push_old _ _ (by (first | assumption | (simp; done) | (simp; omega) | omega))).trans ?_ | refine (Hp.put_other _ _ (by (first | assumption | omega | (simp; done) | (simp; omega)))).trans ?_ | refine le_got (by assumption) (by (first | assumption | (simp; done) | (simp; omega) | omega)) (by intro e; cases e) ?_))) [.int .i64 xs[i].a, .int .i64 xs[i].b, .int .i64 xs[i].cost, .int .u64 xs[i].n]).box_put (b1 := H1.size + 1) (cs := [.int .i64 0, .int .i64 0, .int .i64 0, .int .u64 0]) (by rw [hz]; (repeat (first | assumption | exact Hp.push_new _ _ | exact Hp.put_same _ _ _ | refine (Hp.push_old _ _ (by (first | assumption | (simp; done) | (simp; omega) | omega))).trans ?_ | refine (Hp.put_other _ _ (by (first | assumption | omega | (simp; done) | (simp; omega)))).trans ?_ | refine le_got (by assumption) (by (first | assumption | (simp; done) | (simp; omega) | omega)) (by intro e; cases e) ?_))) [.int .i64 ys[j].a, .int .i64 ys[j].b, .int .i64 ys[j].cost, .int .u64 ys[j].n]
      have hleG : G.le ((((G.push (.own 0 [.int .i64 0, .int .i64 0, .int .i64 0, .int .u64 0])).push (.own 0 [.int .i64 0, .int .i64 0, .int .i64 0, .int .u64 0])).put H1.size (.own 0 [.int .i64 xs[i].a, .int .i64 xs[i].b, .int .i64 xs[i].cost, .int .u64 xs[i].n])).put (H1.size + 1) (.own 0 [.int .i64 ys[j].a, .int .i64 ys[j].b, .int .i64 ys[j].cost, .int .u64 ys[j].n])) := Hp.le_put_new (Hp.le_put_new (Hp.le_push' (G.le_push _) _) (by rw [hz]; exact Nat.le_refl _) _) (by rw [hz]; omega) _
      have hleB := Hp.le_trans hle hleG
      refine ac_draw (by kernel_rfl) (reg_of (B := [0, 1, 0, 7, 15, 31]) (π := [0, 2, 1, 3, 4, 5]) (by kernel_rfl)) ?_
      refine adr_val rfl rfl (av_loadN (cs := [.int .i64 _, .int .i64 _, .int .i64 _, .int .u64 _]) rfl Try.underlying28 rfl inf28.size (by (first | assumption | exact cells_get (by (repeat (first | assumption | exact Hp.push_new _ _ | exact Hp.put_same _ _ _ | refine (Hp.push_old _ _ (by (first | assumption | (simp; done) | (simp; omega) | omega))).trans ?_ | refine (Hp.put_other _ _ (by (first | assumption | omega | (simp; done) | (simp; omega)))).trans ?_ | refine le_got (by assumption) (by (first | assumption | (simp; done) | (simp; omega) | omega)) (by intro e; cases e) ?_))) rfl | exact Cells.le (by assumption) (by (repeat (first | assumption | exact Hp.le_refl _ | refine Hp.le_put_new ?_ (by first | (first | assumption | (simp; done) | (simp; omega) | omega) | exact (show Hp.le _ _ by assumption).1) _ | refine Hp.le_push' ?_ _ | refine Hp.le_trans ?_ (by assumption)))) (by (first | assumption | (simp; done) | (simp; omega) | omega))))) (by (simp only [List.not_mem_nil, List.mem_singleton, false_implies, forall_eq, implies_true, Hp.put_size, Hp.push_size]; try omega)) ?_
      refine adr_val rfl rfl (av_loadN (cs := [.int .i64 _, .int .i64 _, .int .i64 _, .int .u64 _]) rfl Try.underlying28 rfl inf28.size (by (first | assumption | exact cells_get (by (repeat (first | assumption | exact Hp.push_new _ _ | exact Hp.put_same _ _ _ | refine (Hp.push_old _ _ (by (first | assumption | (simp; done) | (simp; omega) | omega))).trans ?_ | refine (Hp.put_other _ _ (by (first | assumption | omega | (simp; done) | (simp; omega)))).trans ?_ | refine le_got (by assumption) (by (first | assumption | (simp; done) | (simp; omega) | omega)) (by intro e; cases e) ?_))) rfl | exact Cells.le (by assumption) (by (repeat (first | assumption | exact Hp.le_refl _ | refine Hp.le_put_new ?_ (by first | (first | assumption | (simp; done) | (simp; omega) | omega) | exact (show Hp.le _ _ by assumption).1) _ | refine Hp.le_push' ?_ _ | refine Hp.le_trans ?_ (by assumption)))) (by (first | assumption | (simp; done) | (simp; omega) | omega))))) (by (simp only [List.not_mem_nil, List.mem_singleton, false_implies, forall_eq, implies_true, Hp.put_size, Hp.push_size]; try omega)) ?_
      refine adr_op rfl rfl (aop_call (key_link xs[i] _ x1 x2 x3 x4) rfl Try.func126 rfl rfl rfl ?_)
      rintro v H ⟨rfl, rfl⟩
      refine ⟨by (first | exact fun _ _ _ _ _ => rfl | (repeat (first | exact List.forall_mem_nil _ | refine List.forall_mem_cons.2 ⟨?_, ?_⟩ | (intro hb b hbm; first | (dsimp only at hb; exact absurd hb (by decide)) | (exact absurd hbm (List.not_mem_nil)) | (simp only [List.mem_singleton] at hbm; subst hbm; (first | rfl | exact Hp.put_other _ _ (by (first | assumption | omega | (simp; done) | (simp; omega))) | exact Hp.le.same (by assumption) (by (first | assumption | (simp; done) | (simp; omega) | omega)) (by (repeat (first | assumption | exact Hp.push_new _ _ | exact Hp.put_same _ _ _ | refine (Hp.push_old _ _ (by (first | assumption | (simp; done) | (simp; omega) | omega))).trans ?_ | refine (Hp.put_other _ _ (by (first | assumption | omega | (simp; done) | (simp; omega)))).trans ?_ | refine le_got (by assumption) (by (first | assumption | (simp; done) | (simp; omega) | omega)) (by intro e; cases e) ?_))) | exact hsameO _ _ _ (by (first | assumption | (simp; done) | (simp; omega) | omega)) (by (repeat (first | assumption | exact Hp.push_new _ _ | exact Hp.put_same _ _ _ | refine (Hp.push_old _ _ (by (first | assumption | (simp; done) | (simp; omega) | omega))).trans ?_ | refine (Hp.put_other _ _ (by (first | assumption | omega | (simp; done) | (simp; omega)))).trans ?_ | refine le_got (by assumption) (by (first | assumption | (simp; done) | (simp; omega) | omega)) (by intro e; cases e) ?_))))) | exact hsame _ hbm | exact hsame2 _ hbm)))), ?_⟩
      refine adr_op rfl rfl (aop_call (key_link ys[j] _ y1 y2 y3 y4) rfl Try.func126 rfl rfl rfl ?_)
      rintro v H ⟨rfl, rfl⟩
      refine ⟨by (first | exact fun _ _ _ _ _ => rfl | (repeat (first | exact List.forall_mem_nil _ | refine List.forall_mem_cons.2 ⟨?_, ?_⟩ | (intro hb b hbm; first | (dsimp only at hb; exact absurd hb (by decide)) | (exact absurd hbm (List.not_mem_nil)) | (simp only [List.mem_singleton] at hbm; subst hbm; (first | rfl | exact Hp.put_other _ _ (by (first | assumption | omega | (simp; done) | (simp; omega))) | exact Hp.le.same (by assumption) (by (first | assumption | (simp; done) | (simp; omega) | omega)) (by (repeat (first | assumption | exact Hp.push_new _ _ | exact Hp.put_same _ _ _ | refine (Hp.push_old _ _ (by (first | assumption | (simp; done) | (simp; omega) | omega))).trans ?_ | refine (Hp.put_other _ _ (by (first | assumption | omega | (simp; done) | (simp; omega)))).trans ?_ | refine le_got (by assumption) (by (first | assumption | (simp; done) | (simp; omega) | omega)) (by intro e; cases e) ?_))) | exact hsameO _ _ _ (by (first | assumption | (simp; done) | (simp; omega) | omega)) (by (repeat (first | assumption | exact Hp.push_new _ _ | exact Hp.put_same _ _ _ | refine (Hp.push_old _ _ (by (first | assumption | (simp; done) | (simp; omega) | omega))).trans ?_ | refine (Hp.put_other _ _ (by (first | assumption | omega | (simp; done) | (simp; omega)))).trans ?_ | refine le_got (by assumption) (by (first | assumption | (simp; done) | (simp; omega) | omega)) (by intro e; cases e) ?_))))) | exact hsame _ hbm | exact hsame2 _ hbm)))), ?_⟩
      refine adr_val rfl rfl (av_lt rfl rfl) (by (simp only [List.not_mem_nil, List.mem_singleton, false_implies, forall_eq, implies_true, Hp.put_size, Hp.push_size]; try omega)) ?_
      first | refine adr_val rfl rfl (av_assign_bool rfl) (by (simp only [List.not_mem_nil, List.mem_singleton, false_implies, forall_eq, implies_true, Hp.put_size, Hp.push_size]; try omega)) ?_ | refine adr_val rfl rfl (av_assign rfl) (by (simp only [List.not_mem_nil, List.mem_singleton, false_implies, forall_eq, implies_true, Hp.put_size, Hp.push_size]; try omega)) ?_
      refine ac_split rfl rfl ?_ ?_
      · intro hc3
        have hk : keyI xs[i] < keyI ys[j] := of_decide_eq_true hc3
        refine ac_region (by kernel_rfl) ?_
        first | refine aops_val (av_move_sl (by first | assumption | rfl)) ?_ | refine aops_val (av_move (by first | assumption | rfl)) ?_
        obtain ⟨A9, c9, S9, hsl9, hS9, hop9⟩ := hsx.drops (i := 1) (by rw [List.length_drop]; omega)
        rw [List.length_drop, List.drop_drop, show xs.length - i - 1 = xs.length - (i + 1) by omega] at hsl9
        rw [List.length_drop, show xs.length - i - 1 = xs.length - (i + 1) by omega] at hop9
        refine aops_val (hop9 _ _ _ _ _ _ _ _ _ _ _ _ _ (Hp.le_trans hleG hownB.le) (by first | rfl | assumption) Try.underlying22 inf28.size (by first | rfl | assumption)) ?_
        first | refine aops_val (av_assign_sl rfl) ?_ | refine aops_val (av_assign rfl) ?_
        exact ⟨n - 1, by omega, i + 1, j, out, _, A9, c9, _, c2', C, c5, by omega, hj, by omega, by omega, by rw [← hboth, bothF_lt (by omega) hix hjy hk], hleB, hownB, hsl9.mono hleG.sees, hsy.mono hleG.sees, rfl, e1, e5⟩
      · intro hc3
        have hk : ¬ keyI xs[i] < keyI ys[j] := of_decide_eq_false hc3
        refine ac_seq ?_
        refine ac_draw (by kernel_rfl) (reg_of (B := [0, 1, 0, 7, 15, 31]) (π := [0, 2, 1, 3, 4, 5]) (by kernel_rfl)) ?_
        refine adr_val rfl rfl (av_loadN (cs := [.int .i64 _, .int .i64 _, .int .i64 _, .int .u64 _]) rfl Try.underlying28 rfl inf28.size (by (first | assumption | exact cells_get (by (repeat (first | assumption | exact Hp.push_new _ _ | exact Hp.put_same _ _ _ | refine (Hp.push_old _ _ (by (first | assumption | (simp; done) | (simp; omega) | omega))).trans ?_ | refine (Hp.put_other _ _ (by (first | assumption | omega | (simp; done) | (simp; omega)))).trans ?_ | refine le_got (by assumption) (by (first | assumption | (simp; done) | (simp; omega) | omega)) (by intro e; cases e) ?_))) rfl | exact Cells.le (by assumption) (by (repeat (first | assumption | exact Hp.le_refl _ | refine Hp.le_put_new ?_ (by first | (first | assumption | (simp; done) | (simp; omega) | omega) | exact (show Hp.le _ _ by assumption).1) _ | refine Hp.le_push' ?_ _ | refine Hp.le_trans ?_ (by assumption)))) (by (first | assumption | (simp; done) | (simp; omega) | omega))))) (by (simp only [List.not_mem_nil, List.mem_singleton, false_implies, forall_eq, implies_true, Hp.put_size, Hp.push_size]; try omega)) ?_
        refine adr_val rfl rfl (av_loadN (cs := [.int .i64 _, .int .i64 _, .int .i64 _, .int .u64 _]) rfl Try.underlying28 rfl inf28.size (by (first | assumption | exact cells_get (by (repeat (first | assumption | exact Hp.push_new _ _ | exact Hp.put_same _ _ _ | refine (Hp.push_old _ _ (by (first | assumption | (simp; done) | (simp; omega) | omega))).trans ?_ | refine (Hp.put_other _ _ (by (first | assumption | omega | (simp; done) | (simp; omega)))).trans ?_ | refine le_got (by assumption) (by (first | assumption | (simp; done) | (simp; omega) | omega)) (by intro e; cases e) ?_))) rfl | exact Cells.le (by assumption) (by (repeat (first | assumption | exact Hp.le_refl _ | refine Hp.le_put_new ?_ (by first | (first | assumption | (simp; done) | (simp; omega) | omega) | exact (show Hp.le _ _ by assumption).1) _ | refine Hp.le_push' ?_ _ | refine Hp.le_trans ?_ (by assumption)))) (by (first | assumption | (simp; done) | (simp; omega) | omega))))) (by (simp only [List.not_mem_nil, List.mem_singleton, false_implies, forall_eq, implies_true, Hp.put_size, Hp.push_size]; try omega)) ?_
        refine adr_op rfl rfl (aop_call (key_link xs[i] _ x1 x2 x3 x4) rfl Try.func126 rfl rfl rfl ?_)
        rintro v H ⟨rfl, rfl⟩
        refine ⟨by (first | exact fun _ _ _ _ _ => rfl | (repeat (first | exact List.forall_mem_nil _ | refine List.forall_mem_cons.2 ⟨?_, ?_⟩ | (intro hb b hbm; first | (dsimp only at hb; exact absurd hb (by decide)) | (exact absurd hbm (List.not_mem_nil)) | (simp only [List.mem_singleton] at hbm; subst hbm; (first | rfl | exact Hp.put_other _ _ (by (first | assumption | omega | (simp; done) | (simp; omega))) | exact Hp.le.same (by assumption) (by (first | assumption | (simp; done) | (simp; omega) | omega)) (by (repeat (first | assumption | exact Hp.push_new _ _ | exact Hp.put_same _ _ _ | refine (Hp.push_old _ _ (by (first | assumption | (simp; done) | (simp; omega) | omega))).trans ?_ | refine (Hp.put_other _ _ (by (first | assumption | omega | (simp; done) | (simp; omega)))).trans ?_ | refine le_got (by assumption) (by (first | assumption | (simp; done) | (simp; omega) | omega)) (by intro e; cases e) ?_))) | exact hsameO _ _ _ (by (first | assumption | (simp; done) | (simp; omega) | omega)) (by (repeat (first | assumption | exact Hp.push_new _ _ | exact Hp.put_same _ _ _ | refine (Hp.push_old _ _ (by (first | assumption | (simp; done) | (simp; omega) | omega))).trans ?_ | refine (Hp.put_other _ _ (by (first | assumption | omega | (simp; done) | (simp; omega)))).trans ?_ | refine le_got (by assumption) (by (first | assumption | (simp; done) | (simp; omega) | omega)) (by intro e; cases e) ?_))))) | exact hsame _ hbm | exact hsame2 _ hbm)))), ?_⟩
        refine adr_op rfl rfl (aop_call (key_link ys[j] _ y1 y2 y3 y4) rfl Try.func126 rfl rfl rfl ?_)
        rintro v H ⟨rfl, rfl⟩
        refine ⟨by (first | exact fun _ _ _ _ _ => rfl | (repeat (first | exact List.forall_mem_nil _ | refine List.forall_mem_cons.2 ⟨?_, ?_⟩ | (intro hb b hbm; first | (dsimp only at hb; exact absurd hb (by decide)) | (exact absurd hbm (List.not_mem_nil)) | (simp only [List.mem_singleton] at hbm; subst hbm; (first | rfl | exact Hp.put_other _ _ (by (first | assumption | omega | (simp; done) | (simp; omega))) | exact Hp.le.same (by assumption) (by (first | assumption | (simp; done) | (simp; omega) | omega)) (by (repeat (first | assumption | exact Hp.push_new _ _ | exact Hp.put_same _ _ _ | refine (Hp.push_old _ _ (by (first | assumption | (simp; done) | (simp; omega) | omega))).trans ?_ | refine (Hp.put_other _ _ (by (first | assumption | omega | (simp; done) | (simp; omega)))).trans ?_ | refine le_got (by assumption) (by (first | assumption | (simp; done) | (simp; omega) | omega)) (by intro e; cases e) ?_))) | exact hsameO _ _ _ (by (first | assumption | (simp; done) | (simp; omega) | omega)) (by (repeat (first | assumption | exact Hp.push_new _ _ | exact Hp.put_same _ _ _ | refine (Hp.push_old _ _ (by (first | assumption | (simp; done) | (simp; omega) | omega))).trans ?_ | refine (Hp.put_other _ _ (by (first | assumption | omega | (simp; done) | (simp; omega)))).trans ?_ | refine le_got (by assumption) (by (first | assumption | (simp; done) | (simp; omega) | omega)) (by intro e; cases e) ?_))))) | exact hsame _ hbm | exact hsame2 _ hbm)))), ?_⟩
        refine adr_val rfl rfl (av_gt rfl rfl) (by (simp only [List.not_mem_nil, List.mem_singleton, false_implies, forall_eq, implies_true, Hp.put_size, Hp.push_size]; try omega)) ?_
        first | refine adr_val rfl rfl (av_assign_bool rfl) (by (simp only [List.not_mem_nil, List.mem_singleton, false_implies, forall_eq, implies_true, Hp.put_size, Hp.push_size]; try omega)) ?_ | refine adr_val rfl rfl (av_assign rfl) (by (simp only [List.not_mem_nil, List.mem_singleton, false_implies, forall_eq, implies_true, Hp.put_size, Hp.push_size]; try omega)) ?_
        refine ac_split rfl rfl ?_ ?_
        · intro hc4
          have hk2 : keyI ys[j] < keyI xs[i] := of_decide_eq_true hc4
          refine ac_region (by kernel_rfl) ?_
          first | refine aops_val (av_move_sl (by first | assumption | rfl)) ?_ | refine aops_val (av_move (by first | assumption | rfl)) ?_
          obtain ⟨A9, c9, S9, hsl9, hS9, hop9⟩ := hsy.drops (i := 1) (by rw [List.length_drop]; omega)
          rw [List.length_drop, List.drop_drop, show ys.length - j - 1 = ys.length - (j + 1) by omega] at hsl9
          rw [List.length_drop, show ys.length - j - 1 = ys.length - (j + 1) by omega] at hop9
          refine aops_val (hop9 _ _ _ _ _ _ _ _ _ _ _ _ _ (Hp.le_trans hleG hownB.le) (by first | rfl | assumption) Try.underlying22 inf28.size (by first | rfl | assumption)) ?_
          first | refine aops_val (av_assign_sl rfl) ?_ | refine aops_val (av_assign rfl) ?_
          exact ⟨n - 1, by omega, i, j + 1, out, _, _, c', A9, c9, C, c5, hi, by omega, by omega, by omega, by rw [← hboth, bothF_gt (by omega) hix hjy hk2], hleB, hownB, hsx.mono hleG.sees, hsl9.mono hleG.sees, e0, rfl, e5⟩
        · intro hc4
          have hk2 : ¬ keyI ys[j] < keyI xs[i] := of_decide_eq_false hc4
          refine ac_seq ?_
          refine ac_region (by kernel_rfl) ?_
          refine aops_val (av_fieldOff (off := 2) rfl Try.underlying28 rfl inf3.size (by decide) rfl) ?_
          refine aops_val (av_load1 rfl Try.underlying3 rfl (by (first | assumption | exact (cell_own (by (repeat (first | assumption | exact Hp.push_new _ _ | exact Hp.put_same _ _ _ | refine (Hp.push_old _ _ (by (first | assumption | (simp; done) | (simp; omega) | omega))).trans ?_ | refine (Hp.put_other _ _ (by (first | assumption | omega | (simp; done) | (simp; omega)))).trans ?_ | refine le_got (by assumption) (by (first | assumption | (simp; done) | (simp; omega) | omega)) (by intro e; cases e) ?_)))).trans rfl | exact Hp.cell_le (by assumption) (by (repeat (first | assumption | exact Hp.le_refl _ | refine Hp.le_put_new ?_ (by first | (first | assumption | (simp; done) | (simp; omega) | omega) | exact (show Hp.le _ _ by assumption).1) _ | refine Hp.le_push' ?_ _ | refine Hp.le_trans ?_ (by assumption)))) (by (first | assumption | (simp; done) | (simp; omega) | omega))))) ?_
          refine aops_val (av_fieldOff (off := 2) rfl Try.underlying28 rfl inf3.size (by decide) rfl) ?_
          refine aops_val (av_load1 rfl Try.underlying3 rfl (by (first | assumption | exact (cell_own (by (repeat (first | assumption | exact Hp.push_new _ _ | exact Hp.put_same _ _ _ | refine (Hp.push_old _ _ (by (first | assumption | (simp; done) | (simp; omega) | omega))).trans ?_ | refine (Hp.put_other _ _ (by (first | assumption | omega | (simp; done) | (simp; omega)))).trans ?_ | refine le_got (by assumption) (by (first | assumption | (simp; done) | (simp; omega) | omega)) (by intro e; cases e) ?_)))).trans rfl | exact Hp.cell_le (by assumption) (by (repeat (first | assumption | exact Hp.le_refl _ | refine Hp.le_put_new ?_ (by first | (first | assumption | (simp; done) | (simp; omega) | omega) | exact (show Hp.le _ _ by assumption).1) _ | refine Hp.le_push' ?_ _ | refine Hp.le_trans ?_ (by assumption)))) (by (first | assumption | (simp; done) | (simp; omega) | omega))))) ?_
          first | refine aops_val (av_add64 rfl rfl (by (first | assumption | omega | (simp; omega)))) ?_ | refine aops_val (av_add rfl rfl) ?_
          refine aops_val (av_fieldOff (off := 2) rfl Try.underlying28 rfl inf3.size (by decide) rfl) ?_
          first | refine aops_op (aop_put1 rfl rfl rfl inf3.size (by (repeat (first | assumption | exact Hp.push_new _ _ | exact Hp.put_same _ _ _ | refine (Hp.push_old _ _ (by (first | assumption | (simp; done) | (simp; omega) | omega))).trans ?_ | refine (Hp.put_other _ _ (by (first | assumption | omega | (simp; done) | (simp; omega)))).trans ?_ | refine le_got (by assumption) (by (first | assumption | (simp; done) | (simp; omega) | omega)) (by intro e; cases e) ?_))) (by (first | (simp; done) | (simp; omega) | omega | (rw [setR_length (by first | (simp; done) | (simp; omega) | omega)]; first | (simp; done) | (simp; omega) | omega) | (rw [List.length_set, setR_length (by first | (simp; done) | (simp; omega) | omega)]; first | (simp; done) | (simp; omega) | omega) | (rw [List.length_set, List.length_set, setR_length (by first | (simp; done) | (simp; omega) | omega)]; first | (simp; done) | (simp; omega) | omega))) rfl ?_)
          refine ac_seq ?_
          refine ac_region (by kernel_rfl) ?_
          refine aops_val (av_fieldOff (off := 3) rfl Try.underlying28 rfl inf26.size (by decide) rfl) ?_
          refine aops_val (av_load1 rfl Try.underlying26 rfl (by (first | assumption | exact (cell_own (by (repeat (first | assumption | exact Hp.push_new _ _ | exact Hp.put_same _ _ _ | refine (Hp.push_old _ _ (by (first | assumption | (simp; done) | (simp; omega) | omega))).trans ?_ | refine (Hp.put_other _ _ (by (first | assumption | omega | (simp; done) | (simp; omega)))).trans ?_ | refine le_got (by assumption) (by (first | assumption | (simp; done) | (simp; omega) | omega)) (by intro e; cases e) ?_)))).trans rfl | exact Hp.cell_le (by assumption) (by (repeat (first | assumption | exact Hp.le_refl _ | refine Hp.le_put_new ?_ (by first | (first | assumption | (simp; done) | (simp; omega) | omega) | exact (show Hp.le _ _ by assumption).1) _ | refine Hp.le_push' ?_ _ | refine Hp.le_trans ?_ (by assumption)))) (by (first | assumption | (simp; done) | (simp; omega) | omega))))) ?_
          refine aops_val (av_fieldOff (off := 3) rfl Try.underlying28 rfl inf26.size (by decide) rfl) ?_
          refine aops_val (av_load1 rfl Try.underlying26 rfl (by (first | assumption | exact (cell_own (by (repeat (first | assumption | exact Hp.push_new _ _ | exact Hp.put_same _ _ _ | refine (Hp.push_old _ _ (by (first | assumption | (simp; done) | (simp; omega) | omega))).trans ?_ | refine (Hp.put_other _ _ (by (first | assumption | omega | (simp; done) | (simp; omega)))).trans ?_ | refine le_got (by assumption) (by (first | assumption | (simp; done) | (simp; omega) | omega)) (by intro e; cases e) ?_)))).trans rfl | exact Hp.cell_le (by assumption) (by (repeat (first | assumption | exact Hp.le_refl _ | refine Hp.le_put_new ?_ (by first | (first | assumption | (simp; done) | (simp; omega) | omega) | exact (show Hp.le _ _ by assumption).1) _ | refine Hp.le_push' ?_ _ | refine Hp.le_trans ?_ (by assumption)))) (by (first | assumption | (simp; done) | (simp; omega) | omega))))) ?_
          refine aops_op (aop_call (Times_u64 _ _ (by omega) (by omega) _) rfl Try.func129 rfl rfl rfl ?_)
          rintro v H ⟨rfl, rfl⟩
          refine aops_val (av_fieldOff (off := 3) rfl Try.underlying28 rfl inf26.size (by decide) rfl) ?_
          first | refine aops_op (aop_put1 rfl rfl rfl inf26.size (by (repeat (first | assumption | exact Hp.push_new _ _ | exact Hp.put_same _ _ _ | refine (Hp.push_old _ _ (by (first | assumption | (simp; done) | (simp; omega) | omega))).trans ?_ | refine (Hp.put_other _ _ (by (first | assumption | omega | (simp; done) | (simp; omega)))).trans ?_ | refine le_got (by assumption) (by (first | assumption | (simp; done) | (simp; omega) | omega)) (by intro e; cases e) ?_))) (by (first | (simp; done) | (simp; omega) | omega | (rw [setR_length (by first | (simp; done) | (simp; omega) | omega)]; first | (simp; done) | (simp; omega) | omega) | (rw [List.length_set, setR_length (by first | (simp; done) | (simp; omega) | omega)]; first | (simp; done) | (simp; omega) | omega) | (rw [List.length_set, List.length_set, setR_length (by first | (simp; done) | (simp; omega) | omega)]; first | (simp; done) | (simp; omega) | omega))) rfl ?_)
          have hownE := (hownB.box_put (b1 := H1.size) (cs := [.int .i64 xs[i].a, .int .i64 xs[i].b, .int .i64 xs[i].cost, .int .u64 xs[i].n]) (by rw [hz]; (repeat (first | assumption | exact Hp.push_new _ _ | exact Hp.put_same _ _ _ | refine (Hp.push_old _ _ (by (first | assumption | (simp; done) | (simp; omega) | omega))).trans ?_ | refine (Hp.put_other _ _ (by (first | assumption | omega | (simp; done) | (simp; omega)))).trans ?_ | refine le_got (by assumption) (by (first | assumption | (simp; done) | (simp; omega) | omega)) (by intro e; cases e) ?_))) [.int .i64 xs[i].a, .int .i64 xs[i].b, .int .i64 (xs[i].cost + ys[j].cost), .int .u64 xs[i].n]).box_put (b1 := H1.size) (cs := [.int .i64 xs[i].a, .int .i64 xs[i].b, .int .i64 (xs[i].cost + ys[j].cost), .int .u64 xs[i].n]) (Hp.put_same _ _ _) [.int .i64 xs[i].a, .int .i64 xs[i].b, .int .i64 (xs[i].cost + ys[j].cost), .int .u64 (timesI xs[i].n ys[j].n)]
          have hleE := Hp.le_put_new (Hp.le_put_new hleG (show G.size ≤ H1.size by omega) (.own 0 [.int .i64 xs[i].a, .int .i64 xs[i].b, .int .i64 (xs[i].cost + ys[j].cost), .int .u64 xs[i].n])) (show G.size ≤ H1.size by omega) (.own 0 [.int .i64 xs[i].a, .int .i64 xs[i].b, .int .i64 (xs[i].cost + ys[j].cost), .int .u64 (timesI xs[i].n ys[j].n)])
          obtain ⟨A9, c9, S9, hsl9, hS9, hop9⟩ := hsx.drops (i := 1) (by rw [List.length_drop]; omega)
          rw [List.length_drop, List.drop_drop, show xs.length - i - 1 = xs.length - (i + 1) by omega] at hsl9
          rw [List.length_drop, show xs.length - i - 1 = xs.length - (i + 1) by omega] at hop9
          obtain ⟨A10, c10, S10, hsl10, hS10, hop10⟩ := hsy.drops (i := 1) (by rw [List.length_drop]; omega)
          rw [List.length_drop, List.drop_drop, show ys.length - j - 1 = ys.length - (j + 1) by omega] at hsl10
          rw [List.length_drop, show ys.length - j - 1 = ys.length - (j + 1) by omega] at hop10
          have hleEH := Hp.le_trans (Hp.le_push' hleE (.own 4 [.int .i64 xs[i].a, .int .i64 xs[i].b, .int .i64 (xs[i].cost + ys[j].cost), .int .u64 (timesI xs[i].n ys[j].n)])) (hownE.push (.own 4 [.int .i64 xs[i].a, .int .i64 xs[i].b, .int .i64 (xs[i].cost + ys[j].cost), .int .u64 (timesI xs[i].n ys[j].n)])).le
          refine ac_draw (by kernel_rfl) (reg_of (B := [0, 0, 2, 7, 0, 16, 0, 64, 15, 319, 1023]) (π := [0, 1, 2, 4, 5, 6, 7, 3, 8, 9, 10]) (by kernel_rfl)) ?_
          first | refine adr_val rfl rfl (av_move_sl (by first | assumption | rfl)) (by (simp only [List.not_mem_nil, List.mem_singleton, false_implies, forall_eq, implies_true, Hp.put_size, Hp.push_size]; try omega)) ?_ | refine adr_val rfl rfl (av_move (by first | assumption | rfl)) (by (simp only [List.not_mem_nil, List.mem_singleton, false_implies, forall_eq, implies_true, Hp.put_size, Hp.push_size]; try omega)) ?_
          refine adr_val rfl rfl (av_loadN (cs := [.int .i64 _, .int .i64 _, .int .i64 _, .int .u64 _]) rfl Try.underlying28 rfl inf28.size (by (first | assumption | exact cells_get (by (repeat (first | assumption | exact Hp.push_new _ _ | exact Hp.put_same _ _ _ | refine (Hp.push_old _ _ (by (first | assumption | (simp; done) | (simp; omega) | omega))).trans ?_ | refine (Hp.put_other _ _ (by (first | assumption | omega | (simp; done) | (simp; omega)))).trans ?_ | refine le_got (by assumption) (by (first | assumption | (simp; done) | (simp; omega) | omega)) (by intro e; cases e) ?_))) rfl | exact Cells.le (by assumption) (by (repeat (first | assumption | exact Hp.le_refl _ | refine Hp.le_put_new ?_ (by first | (first | assumption | (simp; done) | (simp; omega) | omega) | exact (show Hp.le _ _ by assumption).1) _ | refine Hp.le_push' ?_ _ | refine Hp.le_trans ?_ (by assumption)))) (by (first | assumption | (simp; done) | (simp; omega) | omega))))) (by (simp only [List.not_mem_nil, List.mem_singleton, false_implies, forall_eq, implies_true, Hp.put_size, Hp.push_size]; try omega)) ?_
          first | refine adr_make rfl rfl (am_buildSlice (r := [.int .i64 _, .int .i64 _, .int .i64 _, .int .u64 _]) Try.underlying22 inf28.size inf28.zero rfl (by decide) (by decide) (by decide) rfl) ?_
          first | refine adr_val rfl rfl (av_move_sl (by first | assumption | rfl)) (by (simp only [List.not_mem_nil, List.mem_singleton, false_implies, forall_eq, implies_true, Hp.put_size, Hp.push_size]; try omega)) ?_ | refine adr_val rfl rfl (av_move (by first | assumption | rfl)) (by (simp only [List.not_mem_nil, List.mem_singleton, false_implies, forall_eq, implies_true, Hp.put_size, Hp.push_size]; try omega)) ?_
          refine adr_val rfl rfl (hop9 _ _ _ _ _ _ _ _ _ _ _ _ _ hleEH (by first | rfl | assumption) Try.underlying22 inf28.size (by first | rfl | assumption)) (fun b hb => by have := (hS9 b hb).1; have := hleEH.1; exact Nat.lt_of_lt_of_le (hS9 b hb).1 hleEH.1) ?_
          first | refine adr_val rfl rfl (av_move_sl (by first | assumption | rfl)) (by (simp only [List.not_mem_nil, List.mem_singleton, false_implies, forall_eq, implies_true, Hp.put_size, Hp.push_size]; try omega)) ?_ | refine adr_val rfl rfl (av_move (by first | assumption | rfl)) (by (simp only [List.not_mem_nil, List.mem_singleton, false_implies, forall_eq, implies_true, Hp.put_size, Hp.push_size]; try omega)) ?_
          refine adr_val rfl rfl (hop10 _ _ _ _ _ _ _ _ _ _ _ _ _ hleEH (by first | rfl | assumption) Try.underlying22 inf28.size (by first | rfl | assumption)) (fun b hb => Nat.lt_of_lt_of_le (hS10 b hb).1 hleEH.1) ?_
          refine adr_op rfl rfl (OwnP.append (ys := [⟨xs[i].a, xs[i].b, xs[i].cost + ys[j].cost, timesI xs[i].n ys[j].n⟩]) (hownE.push (.own 4 [.int .i64 xs[i].a, .int .i64 xs[i].b, .int .i64 (xs[i].cost + ys[j].cost), .int .u64 (timesI xs[i].n ys[j].n)])) Try.underlying22 inf28 rfl rfl rfl (sl_one (k := kLink) rfl rfl hownE.size rfl) (by simp; omega) (by simp; omega) ?_)
          rintro v6 G6 H6 hle6 hown6
          have hsame := OwnP.sameS (hownE.push (.own 4 [.int .i64 xs[i].a, .int .i64 xs[i].b, .int .i64 (xs[i].cost + ys[j].cost), .int .u64 (timesI xs[i].n ys[j].n)])) hle6 hown6 (H0 := G) (Hp.le_push' hleE _) hS9
          have hsame2 := OwnP.sameS (hownE.push (.own 4 [.int .i64 xs[i].a, .int .i64 xs[i].b, .int .i64 (xs[i].cost + ys[j].cost), .int .u64 (timesI xs[i].n ys[j].n)])) hle6 hown6 (H0 := G) (Hp.le_push' hleE _) hS10
          have hsameO := OwnP.sameO (hownE.push (.own 4 [.int .i64 xs[i].a, .int .i64 xs[i].b, .int .i64 (xs[i].cost + ys[j].cost), .int .u64 (timesI xs[i].n ys[j].n)])) hle6 hown6
          obtain ⟨C', c', e6⟩ := hown6.shape
          rw [List.length_append, List.length_singleton] at e6
          subst e6
          refine ⟨by (first | exact fun _ _ _ _ _ => rfl | (repeat (first | exact List.forall_mem_nil _ | refine List.forall_mem_cons.2 ⟨?_, ?_⟩ | (intro hb b hbm; first | (dsimp only at hb; exact absurd hb (by decide)) | (exact absurd hbm (List.not_mem_nil)) | (simp only [List.mem_singleton] at hbm; subst hbm; (first | rfl | exact Hp.put_other _ _ (by (first | assumption | omega | (simp; done) | (simp; omega))) | exact Hp.le.same (by assumption) (by (first | assumption | (simp; done) | (simp; omega) | omega)) (by (repeat (first | assumption | exact Hp.push_new _ _ | exact Hp.put_same _ _ _ | refine (Hp.push_old _ _ (by (first | assumption | (simp; done) | (simp; omega) | omega))).trans ?_ | refine (Hp.put_other _ _ (by (first | assumption | omega | (simp; done) | (simp; omega)))).trans ?_ | refine le_got (by assumption) (by (first | assumption | (simp; done) | (simp; omega) | omega)) (by intro e; cases e) ?_))) | exact hsameO _ _ _ (by (first | assumption | (simp; done) | (simp; omega) | omega)) (by (repeat (first | assumption | exact Hp.push_new _ _ | exact Hp.put_same _ _ _ | refine (Hp.push_old _ _ (by (first | assumption | (simp; done) | (simp; omega) | omega))).trans ?_ | refine (Hp.put_other _ _ (by (first | assumption | omega | (simp; done) | (simp; omega)))).trans ?_ | refine le_got (by assumption) (by (first | assumption | (simp; done) | (simp; omega) | omega)) (by intro e; cases e) ?_))))) | exact hsame _ hbm | exact hsame2 _ hbm)))), ?_⟩
          first | refine adr_val rfl rfl (av_assign_sl rfl) (by (simp only [List.not_mem_nil, List.mem_singleton, false_implies, forall_eq, implies_true, Hp.put_size, Hp.push_size]; try omega)) ?_ | refine adr_val rfl rfl (av_assign rfl) (by (simp only [List.not_mem_nil, List.mem_singleton, false_implies, forall_eq, implies_true, Hp.put_size, Hp.push_size]; try omega)) ?_
          first | refine adr_val rfl rfl (av_assign_sl rfl) (by (simp only [List.not_mem_nil, List.mem_singleton, false_implies, forall_eq, implies_true, Hp.put_size, Hp.push_size]; try omega)) ?_ | refine adr_val rfl rfl (av_assign rfl) (by (simp only [List.not_mem_nil, List.mem_singleton, false_implies, forall_eq, implies_true, Hp.put_size, Hp.push_size]; try omega)) ?_
          first | refine adr_val rfl rfl (av_assign_sl rfl) (by (simp only [List.not_mem_nil, List.mem_singleton, false_implies, forall_eq, implies_true, Hp.put_size, Hp.push_size]; try omega)) ?_ | refine adr_val rfl rfl (av_assign rfl) (by (simp only [List.not_mem_nil, List.mem_singleton, false_implies, forall_eq, implies_true, Hp.put_size, Hp.push_size]; try omega)) ?_
          have hleG6 := Hp.le_trans (Hp.le_push' hleE (.own 4 [.int .i64 xs[i].a, .int .i64 xs[i].b, .int .i64 (xs[i].cost + ys[j].cost), .int .u64 (timesI xs[i].n ys[j].n)])) hle6
          exact ⟨n - 1, by omega, i + 1, j + 1, out ++ [⟨xs[i].a, xs[i].b, xs[i].cost + ys[j].cost, timesI xs[i].n ys[j].n⟩], G6, A9, c9, A10, c10, C', c', by omega, by omega, by omega, by simp; omega, by rw [← hboth, bothF_eq (by omega) hix hjy hk2 hk, List.append_assoc]; rfl, Hp.le_trans hle hleG6, (by rw [List.length_append, List.length_singleton]; exact hown6), hsl9.mono hleG6.sees, hsl10.mono hleG6.sees, rfl, rfl, (by rw [List.length_append, List.length_singleton]; rfl)⟩
    · intro hc2
      (try simp only [decide_eq_true_eq, decide_eq_false_iff_not, Bool.not_eq_true', Bool.not_eq_false'] at hc2)
      refine ac_exit ?_
      refine ac_seq ?_
      refine ac_region (by kernel_rfl) ?_
      first | refine aops_val (av_move_sl (by first | assumption | rfl)) ?_ | refine aops_val (av_move (by first | assumption | rfl)) ?_
      first | refine aops_val (av_assign_sl rfl) ?_ | refine aops_val (av_assign rfl) ?_
      refine ac_ret ?_
      refine ⟨.slice C out.length c5, aresult1 (ares_tmp rfl), G, hle, ?_⟩
      have : out = bothL xs ys := by
        rw [← hboth]
        rcases Nat.lt_or_ge i xs.length with h | h
        · rw [List.drop_of_length_le (by omega : ys.length ≤ j), bothF_nil2, List.append_nil]
        · rw [List.drop_of_length_le h, bothF_nil, List.append_nil]
      rw [← this]; exact hown
  · intro hg1
    have hp1 := hg1; try simp only [decide_eq_true_eq, decide_eq_false_iff_not, Bool.not_eq_true', Bool.not_eq_false'] at hp1
    refine aops_skip (want_no rfl rfl rfl hg1 rfl) ?_
    refine aops_skip (want_no rfl rfl rfl hg1 rfl) ?_
    refine aops_skip (want_no rfl rfl rfl hg1 rfl) ?_
    refine aops_val (av_pick_bool (congrArg Value.bool hg1) (by first | assumption | rfl)) ?_
    refine ac_cond_false rfl rfl ?_
    refine ac_exit ?_
    refine ac_seq ?_
    refine ac_region (by kernel_rfl) ?_
    first | refine aops_val (av_move_sl (by first | assumption | rfl)) ?_ | refine aops_val (av_move (by first | assumption | rfl)) ?_
    first | refine aops_val (av_assign_sl rfl) ?_ | refine aops_val (av_assign rfl) ?_
    refine ac_ret ?_
    refine ⟨.slice C out.length c5, aresult1 (ares_tmp rfl), G, hle, ?_⟩
    have : out = bothL xs ys := by
      rw [← hboth]
      rcases Nat.lt_or_ge i xs.length with h | h
      · rw [List.drop_of_length_le (by omega : ys.length ≤ j), bothF_nil2, List.append_nil]
      · rw [List.drop_of_length_le h, bothF_nil, List.append_nil]
    rw [← this]; exact hown
theorem both_one : bothL [⟨0, 1, 2, 2⟩] [⟨0, 1, 3, 2⟩] = [⟨0, 1, 5, 4⟩] := by decide
theorem lives22_ok (H : Hp) : ACalls Try.prog 16 #[] H (fun r H' => r = .bool true ∧ H.le H') := by
  refine acalls_of_code Try.func16 rfl rfl rfl (by simp) ?_
  refine ac_seq ?_
  refine ac_region (by kernel_rfl) ?_
  first | refine aops_val (av_assign_bool rfl) ?_ | refine aops_val (av_assign rfl) ?_
  refine ac_seq ?_
  refine ac_region (by kernel_rfl) ?_
  refine aops_op (aop_call (one_link 2 _) rfl Try.func78 rfl rfl rfl ?_)
  rintro v1 H1 ⟨hle1, hs1⟩
  refine aops_op (aop_call (one_link 3 _) rfl Try.func78 rfl rfl rfl ?_)
  rintro v2 H2 ⟨hle2, hs2⟩
  refine aops_op (aop_call (Both_links [⟨0, 1, 2, 2⟩] [⟨0, 1, 3, 2⟩] _ _ _ (hs1.mono hle2.sees) hs2 (by intro x hx; simp at hx; subst hx; simp [OkB]) (by intro x hx; simp at hx; subst hx; simp [OkB]) (by decide) (by decide)) rfl Try.func77 rfl rfl rfl ?_)
  rintro v3 H3 ⟨G3, hle3, hown3⟩; rw [both_one] at hown3; have hs3 := hown3.sl; obtain ⟨A3, c3, rfl⟩ := hs3.shape; have hle03 := Hp.le_trans (Hp.le_trans (Hp.le_trans hle1 hle2) hle3) hown3.le
  first | refine aops_val (av_assign_sl rfl) ?_ | refine aops_val (av_assign rfl) ?_
  refine ac_seq ?_
  refine ac_region (by kernel_rfl) ?_
  first | refine aops_val (av_move_sl rfl) ?_ | refine aops_val (av_move rfl) ?_
  refine aops_val (av_len rfl Try.underlying22) ?_
  refine aops_val (av_eq rfl rfl) ?_
  first | refine aops_val (av_move_bool rfl) ?_ | refine aops_val (av_move rfl) ?_
  refine aops_guard rfl rfl rfl ?_ ?_
  · intro hg1
    have hp1 := hg1; try simp only [decide_eq_true_eq, decide_eq_false_iff_not, Bool.not_eq_true', Bool.not_eq_false'] at hp1
    first | refine aops_wval (want_yes rfl rfl rfl hg1) (av_move_sl rfl) ?_ | refine aops_wval (want_yes rfl rfl rfl hg1) (av_move rfl) ?_
    obtain ⟨b, o, rfl, hb, hcell⟩ := hs3.link_at (i := 0) (by decide)
    refine aops_wval (want_yes rfl rfl rfl hg1) (av_indexAddr rfl rfl Try.underlying22 inf28.size (by (first | assumption | omega | (simp only [Int.toNat_natCast] at *; omega))) (by (first | assumption | omega | (simp only [Int.toNat_natCast] at *; omega)))) ?_
    refine aops_wval (want_yes rfl rfl rfl hg1) (av_loadN (cs := [.int .i64 _, .int .i64 _, .int .i64 _, .int .u64 _]) rfl Try.underlying28 rfl inf28.size (by (first | assumption | exact cells_get (by (repeat (first | assumption | exact Hp.push_new _ _ | exact Hp.put_same _ _ _ | refine (Hp.push_old _ _ (by (first | assumption | (simp; done) | (simp; omega) | omega))).trans ?_ | refine (Hp.put_other _ _ (by (first | assumption | omega | (simp; done) | (simp; omega)))).trans ?_ | refine le_got (by assumption) (by (first | assumption | (simp; done) | (simp; omega) | omega)) (by intro e; cases e) ?_))) rfl | exact Cells.le (by assumption) (by (repeat (first | assumption | exact Hp.le_refl _ | refine Hp.le_put_new ?_ (by first | (first | assumption | (simp; done) | (simp; omega) | omega) | exact (show Hp.le _ _ by assumption).1) _ | refine Hp.le_push' ?_ _ | refine Hp.le_trans ?_ (by assumption)))) (by (first | assumption | (simp; done) | (simp; omega) | omega))))) ?_
    refine aops_wval (want_yes rfl rfl rfl hg1) (av_build (pl := [(0, 1), (1, 1), (2, 1), (3, 1)]) (r := [.int .i64 _, .int .i64 _, .int .i64 _, .int .u64 _]) Try.underlying28 inf28.zero (by decide) rfl rfl) ?_
    refine aops_wval (want_yes rfl rfl rfl hg1) (av_link_eql (p := ⟨0, 1, 5, 4⟩) (q := ⟨0, 1, 5, 4⟩) rfl rfl) ?_
    refine aops_val (av_pick_bool (congrArg Value.bool hg1) rfl) ?_
    first | refine aops_val (av_move_bool rfl) ?_ | refine aops_val (av_move rfl) ?_
    refine aops_guard rfl rfl rfl ?_ ?_
    · intro hg2
      have hp2 := hg2; try simp only [decide_eq_true_eq, decide_eq_false_iff_not, Bool.not_eq_true', Bool.not_eq_false'] at hp2
      first | refine aops_wval (want_yes rfl rfl rfl hg2) (av_move_sl rfl) ?_ | refine aops_wval (want_yes rfl rfl rfl hg2) (av_move rfl) ?_
      refine aops_want (want_yes rfl rfl rfl hg2) (aop_call (Sum_links [⟨0, 1, 5, 4⟩] _ _ hs3 (by decide) (by intro x hx; simp at hx; subst hx; decide)) rfl Try.func79 rfl rfl rfl ?_)
      rintro v H ⟨rfl, rfl⟩
      refine aops_wval (want_yes rfl rfl rfl hg2) (av_eq rfl rfl) ?_
      refine aops_val (av_pick_bool (congrArg Value.bool hg2) rfl) ?_
      first | refine aops_val (av_assign_bool rfl) ?_ | refine aops_val (av_assign rfl) ?_
      refine ac_ret ?_
      exact ⟨.bool true, aresult1 (ares_tmp rfl), rfl, hle03⟩
    · intro hg2
      exact absurd hg2 (by decide)
  · intro hg1
    exact absurd hg1 (by decide)
end Go.Proofs.Ytnkjikpmgeknbaa.Am
