/- Links: cut, judged, compared. -/
import Derived.Test.YtnkjikpmgeknbaaAmNum
import Derived.Test.YtnkjikpmgeknbaaAmStructEq
import Derived.Test.YtnkjikpmgeknbaaAmLists
namespace Go.Proofs.Ytnkjikpmgeknbaa.Am
open Go Go.RowKit
set_option maxRecDepth 100000
set_option linter.unusedVariables false
set_option linter.unusedSimpArgs false

structure Link where
  a : Int
  b : Int
  cost : Int
  n : Int
theorem Link.ext' {x y : Link} (h1 : x.a = y.a) (h2 : x.b = y.b) (h3 : x.cost = y.cost) (h4 : x.n = y.n) : x = y := by
  cases x; cases y; simp only at h1 h2 h3 h4; subst h1 h2 h3 h4; rfl
instance : DecidableEq Link := fun x y => decidable_of_iff (x.a = y.a ∧ x.b = y.b ∧ x.cost = y.cost ∧ x.n = y.n) ⟨fun ⟨h1, h2, h3, h4⟩ => Link.ext' h1 h2 h3 h4, fun h => by rw [h]; exact ⟨rfl, rfl, rfl, rfl⟩⟩
def Link.cells (x : Link) : List Value := [.int .i64 x.a, .int .i64 x.b, .int .i64 x.cost, .int .u64 x.n]
def kLink : Kd Link where
  sz := 4
  pos := by decide
  rep _ x cs := cs = [.int .i64 x.a, .int .i64 x.b, .int .i64 x.cost, .int .u64 x.n]
  len h := by rw [h]; rfl
  mono _ h := h
  one h v hv := by rw [h] at hv; simp at hv; rcases hv with rfl | rfl | rfl | rfl <;> rfl
theorem Sl.link_at {H : Hp} {A : Option Addr} {n c : Nat} {xs : List Link} (h : Sl kLink H (.slice A n c) xs) {i : Nat} (hi : i < xs.length) :
    ∃ b o, A = some ⟨b, o, none⟩ ∧ b < H.size ∧ Cells H b (o + i * 4) [.int .i64 xs[i].a, .int .i64 xs[i].b, .int .i64 xs[i].cost, .int .u64 xs[i].n] := by
  obtain ⟨b, o, cs, e, hb, hr, hc⟩ := h.elem_at hi
  have : cs = [.int .i64 xs[i].a, .int .i64 xs[i].b, .int .i64 xs[i].cost, .int .u64 xs[i].n] := hr
  subst this
  exact ⟨b, o, e, hb, hc⟩
/-- Two links' cells, compared by Go. -/
theorem scal_link (x : Link) : ∀ v ∈ [Value.int .i64 x.a, .int .i64 x.b, .int .i64 x.cost, .int .u64 x.n], Am.scal v = true := by
  intro v hv; simp at hv; rcases hv with rfl | rfl | rfl | rfl <;> rfl
theorem fits_link (x y : Link) {fs : Array Field} (h : Try.prog.underlying 28 = some (.struct fs)) : ∀ f ∈ fs.toList, f.offset < [Value.int .i64 x.a, .int .i64 x.b, .int .i64 x.cost, .int .u64 x.n].length ∧ f.offset < [Value.int .i64 y.a, .int .i64 y.b, .int .i64 y.cost, .int .u64 y.n].length ∧
    fitsF Try.prog f ([Value.int .i64 x.a, .int .i64 x.b, .int .i64 x.cost, .int .u64 x.n].getD f.offset undef) ([Value.int .i64 y.a, .int .i64 y.b, .int .i64 y.cost, .int .u64 y.n].getD f.offset undef) := by
  rw [Try.underlying28] at h
  injection h with h; injection h with h
  subst h
  intro f hf
  simp at hf
  rcases hf with rfl | rfl | rfl | rfl
  · exact ⟨by simp, by simp, .int Try.underlying3 (by decide)⟩
  · exact ⟨by simp, by simp, .int Try.underlying3 (by decide)⟩
  · exact ⟨by simp, by simp, .int Try.underlying3 (by decide)⟩
  · exact ⟨by simp, by simp, .int Try.underlying26 (by decide)⟩
theorem eq_link (x y : Link) {fs : Array Field} (h : Try.prog.underlying 28 = some (.struct fs)) : allEq [Value.int .i64 x.a, .int .i64 x.b, .int .i64 x.cost, .int .u64 x.n] [.int .i64 y.a, .int .i64 y.b, .int .i64 y.cost, .int .u64 y.n] fs.toList = decide (x = y) := by
  rw [Try.underlying28] at h
  injection h with h; injection h with h
  subst h
  have e : (x = y) ↔ (x.a = y.a ∧ x.b = y.b ∧ x.cost = y.cost ∧ x.n = y.n) := ⟨fun h => by rw [h]; exact ⟨rfl, rfl, rfl, rfl⟩, fun ⟨h1, h2, h3, h4⟩ => Link.ext' h1 h2 h3 h4⟩
  rw [Bool.eq_iff_iff]
  simp [allEq, scalEq, e]
section
variable {t : Fr} {H : Hp} {d : Option Tmp} {ty : TypeId} {pos : String} {after : Array Edge} {guard : Option (Nat × Bool)} {x y : Operand} {yt : TypeId} {p q : Link}
theorem av_link_eql (hx : t.eval x = .agg #[.int .i64 p.a, .int .i64 p.b, .int .i64 p.cost, .int .u64 p.n]) (hy : t.eval y = .agg #[.int .i64 q.a, .int .i64 q.b, .int .i64 q.cost, .int .u64 q.n]) : AVal Try.prog ⟨d, .binOp .eql 28 x y yt, ty, pos, after, guard⟩ t [] H (.bool (decide (p = q))) := by
  have := av_struct_eql (H := H) (d := d) (ty := ty) (pos := pos) (after := after) (guard := guard) (yt := yt) hx hy (scal_link p) (scal_link q) Try.underlying28 (by kernel_rfl) (by kernel_rfl) (fits_link p q Try.underlying28)
  rwa [eq_link p q Try.underlying28] at this
theorem av_link_neq (hx : t.eval x = .agg #[.int .i64 p.a, .int .i64 p.b, .int .i64 p.cost, .int .u64 p.n]) (hy : t.eval y = .agg #[.int .i64 q.a, .int .i64 q.b, .int .i64 q.cost, .int .u64 q.n]) : AVal Try.prog ⟨d, .binOp .neq 28 x y yt, ty, pos, after, guard⟩ t [] H (.bool (!decide (p = q))) := by
  have := av_struct_neq (H := H) (d := d) (ty := ty) (pos := pos) (after := after) (guard := guard) (yt := yt) hx hy (scal_link p) (scal_link q) Try.underlying28 (by kernel_rfl) (by kernel_rfl) (fits_link p q Try.underlying28)
  rwa [eq_link p q Try.underlying28] at this
end
/-- Which of two links stands first. -/
def lessL (x y : Link) : Bool := decide (x.a < y.a) || (decide (x.a = y.a) && decide (x.b < y.b))
theorem Less_link (x y : Link) (H : Hp) : ACalls Try.prog 76 #[.agg #[.int .i64 x.a, .int .i64 x.b, .int .i64 x.cost, .int .u64 x.n], .agg #[.int .i64 y.a, .int .i64 y.b, .int .i64 y.cost, .int .u64 y.n]] H (fun r H' => r = .bool (lessL x y) ∧ H' = H) := by
  refine ACalls.pure (R := fun r => r = .bool (lessL x y)) (fun v h => by rw [h]; rfl) ?_
  refine acalls_of_code Try.func76 rfl rfl rfl (by simp) ?_
  refine ac_seq ?_
  refine ac_region (by kernel_rfl) ?_
  refine aops_make (am_box_agg rfl) ?_
  refine aops_make (am_box_agg rfl) ?_
  first | refine aops_val (av_assign_bool rfl) ?_ | refine aops_val (av_assign rfl) ?_
  refine ac_seq ?_
  refine ac_region (by kernel_rfl) ?_
  refine aops_val (av_fieldOff (off := 0) rfl Try.underlying28 rfl inf3.size (by decide) rfl) ?_
  refine aops_val (av_load1 rfl Try.underlying3 rfl (by (first | assumption | exact (cell_own (by (repeat (first | assumption | exact Hp.push_new _ _ | exact Hp.put_same _ _ _ | refine (Hp.push_old _ _ (by (first | assumption | (simp; done) | (simp; omega) | omega))).trans ?_ | refine (Hp.put_other _ _ (by (first | assumption | omega | (simp; done) | (simp; omega)))).trans ?_ | refine le_got (by assumption) (by (first | assumption | (simp; done) | (simp; omega) | omega)) (by intro e; cases e) ?_)))).trans rfl | exact Hp.cell_le (by assumption) (by (repeat (first | assumption | exact Hp.le_refl _ | refine Hp.le_put_new ?_ (by first | (first | assumption | (simp; done) | (simp; omega) | omega) | exact (show Hp.le _ _ by assumption).1) _ | refine Hp.le_push' ?_ _ | refine Hp.le_trans ?_ (by assumption)))) (by (first | assumption | (simp; done) | (simp; omega) | omega))))) ?_
  refine aops_val (av_fieldOff (off := 0) rfl Try.underlying28 rfl inf3.size (by decide) rfl) ?_
  refine aops_val (av_load1 rfl Try.underlying3 rfl (by (first | assumption | exact (cell_own (by (repeat (first | assumption | exact Hp.push_new _ _ | exact Hp.put_same _ _ _ | refine (Hp.push_old _ _ (by (first | assumption | (simp; done) | (simp; omega) | omega))).trans ?_ | refine (Hp.put_other _ _ (by (first | assumption | omega | (simp; done) | (simp; omega)))).trans ?_ | refine le_got (by assumption) (by (first | assumption | (simp; done) | (simp; omega) | omega)) (by intro e; cases e) ?_)))).trans rfl | exact Hp.cell_le (by assumption) (by (repeat (first | assumption | exact Hp.le_refl _ | refine Hp.le_put_new ?_ (by first | (first | assumption | (simp; done) | (simp; omega) | omega) | exact (show Hp.le _ _ by assumption).1) _ | refine Hp.le_push' ?_ _ | refine Hp.le_trans ?_ (by assumption)))) (by (first | assumption | (simp; done) | (simp; omega) | omega))))) ?_
  refine aops_val (av_lt rfl rfl) ?_
  first | refine aops_val (av_move_bool rfl) ?_ | refine aops_val (av_move rfl) ?_
  refine aops_guard rfl rfl rfl ?_ ?_
  · intro hg1
    have hp1 := hg1; try simp only [decide_eq_true_eq, decide_eq_false_iff_not, Bool.not_eq_true', Bool.not_eq_false'] at hp1
    refine aops_skip (want_no rfl rfl rfl hg1 rfl) ?_
    refine aops_skip (want_no rfl rfl rfl hg1 rfl) ?_
    refine aops_skip (want_no rfl rfl rfl hg1 rfl) ?_
    refine aops_skip (want_no rfl rfl rfl hg1 rfl) ?_
    refine aops_skip (want_no rfl rfl rfl hg1 rfl) ?_
    refine aops_skip (want_no rfl rfl rfl hg1 rfl) ?_
    refine aops_skip (want_gone rfl rfl rfl) ?_
    refine aops_skip (want_gone rfl rfl rfl) ?_
    refine aops_skip (want_gone rfl rfl rfl) ?_
    refine aops_skip (want_gone rfl rfl rfl) ?_
    refine aops_skip (want_gone rfl rfl rfl) ?_
    refine aops_skip (want_no rfl rfl rfl hg1 rfl) ?_
    refine aops_val (av_pick_bool (congrArg Value.bool hg1) rfl) ?_
    first | refine aops_val (av_assign_bool rfl) ?_ | refine aops_val (av_assign rfl) ?_
    refine ac_ret ?_
    refine ⟨.bool (lessL x y), aresult1 (ares_tmp ?_), rfl⟩
    show Value.bool _ = _
    congr 1
    simp_all [lessL]
  · intro hg1
    have hp1 := hg1; try simp only [decide_eq_true_eq, decide_eq_false_iff_not, Bool.not_eq_true', Bool.not_eq_false'] at hp1
    refine aops_wval (want_yes rfl rfl rfl hg1) (av_fieldOff (off := 0) rfl Try.underlying28 rfl inf3.size (by decide) rfl) ?_
    refine aops_wval (want_yes rfl rfl rfl hg1) (av_load1 rfl Try.underlying3 rfl (by (first | assumption | exact (cell_own (by (repeat (first | assumption | exact Hp.push_new _ _ | exact Hp.put_same _ _ _ | refine (Hp.push_old _ _ (by (first | assumption | (simp; done) | (simp; omega) | omega))).trans ?_ | refine (Hp.put_other _ _ (by (first | assumption | omega | (simp; done) | (simp; omega)))).trans ?_ | refine le_got (by assumption) (by (first | assumption | (simp; done) | (simp; omega) | omega)) (by intro e; cases e) ?_)))).trans rfl | exact Hp.cell_le (by assumption) (by (repeat (first | assumption | exact Hp.le_refl _ | refine Hp.le_put_new ?_ (by first | (first | assumption | (simp; done) | (simp; omega) | omega) | exact (show Hp.le _ _ by assumption).1) _ | refine Hp.le_push' ?_ _ | refine Hp.le_trans ?_ (by assumption)))) (by (first | assumption | (simp; done) | (simp; omega) | omega))))) ?_
    refine aops_wval (want_yes rfl rfl rfl hg1) (av_fieldOff (off := 0) rfl Try.underlying28 rfl inf3.size (by decide) rfl) ?_
    refine aops_wval (want_yes rfl rfl rfl hg1) (av_load1 rfl Try.underlying3 rfl (by (first | assumption | exact (cell_own (by (repeat (first | assumption | exact Hp.push_new _ _ | exact Hp.put_same _ _ _ | refine (Hp.push_old _ _ (by (first | assumption | (simp; done) | (simp; omega) | omega))).trans ?_ | refine (Hp.put_other _ _ (by (first | assumption | omega | (simp; done) | (simp; omega)))).trans ?_ | refine le_got (by assumption) (by (first | assumption | (simp; done) | (simp; omega) | omega)) (by intro e; cases e) ?_)))).trans rfl | exact Hp.cell_le (by assumption) (by (repeat (first | assumption | exact Hp.le_refl _ | refine Hp.le_put_new ?_ (by first | (first | assumption | (simp; done) | (simp; omega) | omega) | exact (show Hp.le _ _ by assumption).1) _ | refine Hp.le_push' ?_ _ | refine Hp.le_trans ?_ (by assumption)))) (by (first | assumption | (simp; done) | (simp; omega) | omega))))) ?_
    refine aops_wval (want_yes rfl rfl rfl hg1) (av_eq rfl rfl) ?_
    first | refine aops_wval (want_yes rfl rfl rfl hg1) (av_move_bool rfl) ?_ | refine aops_wval (want_yes rfl rfl rfl hg1) (av_move rfl) ?_
    refine aops_guard rfl rfl rfl ?_ ?_
    · intro hg2
      have hp2 := hg2; try simp only [decide_eq_true_eq, decide_eq_false_iff_not, Bool.not_eq_true', Bool.not_eq_false'] at hp2
      refine aops_wval (want_yes rfl rfl rfl hg2) (av_fieldOff (off := 1) rfl Try.underlying28 rfl inf3.size (by decide) rfl) ?_
      refine aops_wval (want_yes rfl rfl rfl hg2) (av_load1 rfl Try.underlying3 rfl (by (first | assumption | exact (cell_own (by (repeat (first | assumption | exact Hp.push_new _ _ | exact Hp.put_same _ _ _ | refine (Hp.push_old _ _ (by (first | assumption | (simp; done) | (simp; omega) | omega))).trans ?_ | refine (Hp.put_other _ _ (by (first | assumption | omega | (simp; done) | (simp; omega)))).trans ?_ | refine le_got (by assumption) (by (first | assumption | (simp; done) | (simp; omega) | omega)) (by intro e; cases e) ?_)))).trans rfl | exact Hp.cell_le (by assumption) (by (repeat (first | assumption | exact Hp.le_refl _ | refine Hp.le_put_new ?_ (by first | (first | assumption | (simp; done) | (simp; omega) | omega) | exact (show Hp.le _ _ by assumption).1) _ | refine Hp.le_push' ?_ _ | refine Hp.le_trans ?_ (by assumption)))) (by (first | assumption | (simp; done) | (simp; omega) | omega))))) ?_
      refine aops_wval (want_yes rfl rfl rfl hg2) (av_fieldOff (off := 1) rfl Try.underlying28 rfl inf3.size (by decide) rfl) ?_
      refine aops_wval (want_yes rfl rfl rfl hg2) (av_load1 rfl Try.underlying3 rfl (by (first | assumption | exact (cell_own (by (repeat (first | assumption | exact Hp.push_new _ _ | exact Hp.put_same _ _ _ | refine (Hp.push_old _ _ (by (first | assumption | (simp; done) | (simp; omega) | omega))).trans ?_ | refine (Hp.put_other _ _ (by (first | assumption | omega | (simp; done) | (simp; omega)))).trans ?_ | refine le_got (by assumption) (by (first | assumption | (simp; done) | (simp; omega) | omega)) (by intro e; cases e) ?_)))).trans rfl | exact Hp.cell_le (by assumption) (by (repeat (first | assumption | exact Hp.le_refl _ | refine Hp.le_put_new ?_ (by first | (first | assumption | (simp; done) | (simp; omega) | omega) | exact (show Hp.le _ _ by assumption).1) _ | refine Hp.le_push' ?_ _ | refine Hp.le_trans ?_ (by assumption)))) (by (first | assumption | (simp; done) | (simp; omega) | omega))))) ?_
      refine aops_wval (want_yes rfl rfl rfl hg2) (av_lt rfl rfl) ?_
      refine aops_wval (want_yes rfl rfl rfl hg1) (av_pick_bool (congrArg Value.bool hg2) rfl) ?_
      refine aops_val (av_pick_bool (congrArg Value.bool hg1) rfl) ?_
      first | refine aops_val (av_assign_bool rfl) ?_ | refine aops_val (av_assign rfl) ?_
      refine ac_ret ?_
      refine ⟨.bool (lessL x y), aresult1 (ares_tmp ?_), rfl⟩
      show Value.bool _ = _
      congr 1
      simp_all [lessL]
    · intro hg2
      have hp2 := hg2; try simp only [decide_eq_true_eq, decide_eq_false_iff_not, Bool.not_eq_true', Bool.not_eq_false'] at hp2
      refine aops_skip (want_no rfl rfl rfl hg2 rfl) ?_
      refine aops_skip (want_no rfl rfl rfl hg2 rfl) ?_
      refine aops_skip (want_no rfl rfl rfl hg2 rfl) ?_
      refine aops_skip (want_no rfl rfl rfl hg2 rfl) ?_
      refine aops_skip (want_no rfl rfl rfl hg2 rfl) ?_
      refine aops_wval (want_yes rfl rfl rfl hg1) (av_pick_bool (congrArg Value.bool hg2) rfl) ?_
      refine aops_val (av_pick_bool (congrArg Value.bool hg1) rfl) ?_
      first | refine aops_val (av_assign_bool rfl) ?_ | refine aops_val (av_assign rfl) ?_
      refine ac_ret ?_
      refine ⟨.bool (lessL x y), aresult1 (ares_tmp ?_), rfl⟩
      show Value.bool _ = _
      congr 1
      simp_all [lessL]
end Go.Proofs.Ytnkjikpmgeknbaa.Am
