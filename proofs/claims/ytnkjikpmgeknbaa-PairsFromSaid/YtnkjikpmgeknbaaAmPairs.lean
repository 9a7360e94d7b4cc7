/- What two lists of links have in common; how many ways there are. -/
import Derived.Test.YtnkjikpmgeknbaaAmLinks22
namespace Go.Proofs.Ytnkjikpmgeknbaa.Am
open Go Go.RowKit
set_option maxRecDepth 100000
set_option linter.unusedVariables false
set_option linter.unusedSimpArgs false

theorem pack_u64 {x y : Int} (h0 : 0 ≤ x) (h1 : x < 4294967296) (h2 : 0 ≤ y) (h3 : y < 4294967296) :
    IntKind.u64.wrap (BitVec.ofInt IntKind.u64.bits (IntKind.u64.wrap (x * 2 ^ min (32 : Int).toNat IntKind.u64.bits)) ||| BitVec.ofInt IntKind.u64.bits y).toNat = x * 4294967296 + y := by
  obtain ⟨m, rfl⟩ : ∃ m : Nat, x = m := ⟨x.toNat, by omega⟩
  obtain ⟨k, rfl⟩ : ∃ k : Nat, y = k := ⟨y.toNat, by omega⟩
  have e1 : IntKind.u64.wrap ((m : Int) * 2 ^ min (32 : Int).toNat IntKind.u64.bits) = ((m * 4294967296 : Nat) : Int) := by
    show IntKind.u64.wrap ((m : Int) * 4294967296) = _
    simp [IntKind.wrap, IntKind.bits, IntKind.signed]; omega
  rw [e1]
  have e2 : (BitVec.ofInt IntKind.u64.bits ((m * 4294967296 : Nat) : Int) ||| BitVec.ofInt IntKind.u64.bits (k : Int)).toNat = m * 4294967296 + k := by
    rw [BitVec.toNat_or]
    have a1 : (BitVec.ofInt IntKind.u64.bits ((m * 4294967296 : Nat) : Int)).toNat = m * 4294967296 := by
      show (BitVec.ofInt 64 _).toNat = _
      simp [BitVec.toNat_ofInt]; omega
    have a2 : (BitVec.ofInt IntKind.u64.bits (k : Int)).toNat = k := by
      show (BitVec.ofInt 64 _).toNat = _
      simp [BitVec.toNat_ofInt]; omega
    rw [a1, a2, Nat.mul_comm m, show 4294967296 = 2 ^ 32 from rfl, ← Nat.two_pow_add_eq_or_of_lt (by omega)]
  rw [e2]
  simp [IntKind.wrap, IntKind.bits, IntKind.signed]; omega
/-- A link's ends as one number. -/
def keyI (x : Link) : Int := x.a * 4294967296 + x.b
theorem conv_u32 {a : Int} (h0 : 0 ≤ a) (h1 : a < 4294967296) : IntKind.u32.wrap a = a := by simp [IntKind.wrap, IntKind.bits, IntKind.signed]; omega
theorem conv_u64 {a : Int} (h0 : 0 ≤ a) (h1 : a < 18446744073709551616) : IntKind.u64.wrap a = a := by simp [IntKind.wrap, IntKind.bits, IntKind.signed]; omega
theorem Pack_u32 (a b : Int) (ha : 0 ≤ a) (ha1 : a < 4294967296) (hb : 0 ≤ b) (hb1 : b < 4294967296) (H : Hp) : ACalls Try.prog 161 #[.int .u32 a, .int .u32 b] H (fun r H' => r = .int .u64 (a * 4294967296 + b) ∧ H' = H) := by
  refine acalls_of_code Try.func161 rfl rfl rfl (by simp) ?_
  refine ac_seq ?_
  refine ac_region (by kernel_rfl) ?_
  first | refine aops_val (av_assign_int rfl) ?_ | refine aops_val (av_assign rfl) ?_
  refine ac_seq ?_
  refine ac_region (by kernel_rfl) ?_
  first | refine aops_val (av_move_int rfl) ?_ | refine aops_val (av_move rfl) ?_
  refine aops_val (av_conv rfl (by rw [Try.underlying204]; rfl) Try.underlying26) ?_
  refine aops_val (av_shl rfl rfl (by omega)) ?_
  first | refine aops_val (av_move_int rfl) ?_ | refine aops_val (av_move rfl) ?_
  refine aops_val (av_conv rfl (by rw [Try.underlying204]; rfl) Try.underlying26) ?_
  refine aops_val (av_or rfl rfl) ?_
  first | refine aops_val (av_assign_int rfl) ?_ | refine aops_val (av_assign rfl) ?_
  refine ac_ret ?_
  refine ⟨.int .u64 (a * 4294967296 + b), aresult1 (ares_tmp ?_), rfl, rfl⟩
  show Value.int .u64 _ = _
  rw [← pack_u64 ha ha1 hb hb1]
  first | rfl | rw [conv_u64 ha (by omega), conv_u64 hb (by omega)]
theorem key_link (x : Link) (H : Hp) (ha : 0 ≤ x.a) (ha1 : x.a ≤ 9999) (hb : 0 ≤ x.b) (hb1 : x.b ≤ 9999) : ACalls Try.prog 126 #[.agg #[.int .i64 x.a, .int .i64 x.b, .int .i64 x.cost, .int .u64 x.n]] H (fun r H' => r = .int .u64 (keyI x) ∧ H' = H) := by
  refine ACalls.pure (R := fun r => r = .int .u64 (keyI x)) (fun v h => by rw [h]; rfl) ?_
  refine acalls_of_code Try.func126 rfl rfl rfl (by simp) ?_
  refine ac_seq ?_
  refine ac_region (by kernel_rfl) ?_
  refine aops_make (am_box_agg rfl) ?_
  first | refine aops_val (av_assign_int rfl) ?_ | refine aops_val (av_assign rfl) ?_
  refine ac_seq ?_
  refine ac_region (by kernel_rfl) ?_
  refine aops_val (av_fieldOff (off := 0) rfl Try.underlying28 rfl inf3.size (by decide) rfl) ?_
  refine aops_val (av_load1 rfl Try.underlying3 rfl (by (first | assumption | exact (cell_own (by (repeat (first | assumption | exact Hp.push_new _ _ | exact Hp.put_same _ _ _ | refine (Hp.push_old _ _ (by (first | assumption | (simp; done) | (simp; omega) | omega))).trans ?_ | refine (Hp.put_other _ _ (by (first | assumption | omega | (simp; done) | (simp; omega)))).trans ?_ | refine le_got (by assumption) (by (first | assumption | (simp; done) | (simp; omega) | omega)) (by intro e; cases e) ?_)))).trans rfl | exact Hp.cell_le (by assumption) (by (repeat (first | assumption | exact Hp.le_refl _ | refine Hp.le_put_new ?_ (by first | (first | assumption | (simp; done) | (simp; omega) | omega) | exact (show Hp.le _ _ by assumption).1) _ | refine Hp.le_push' ?_ _ | refine Hp.le_trans ?_ (by assumption)))) (by (first | assumption | (simp; done) | (simp; omega) | omega))))) ?_
  refine aops_val (av_conv rfl (by rw [Try.underlying3]; rfl) Try.underlying204) ?_
  refine aops_val (av_fieldOff (off := 1) rfl Try.underlying28 rfl inf3.size (by decide) rfl) ?_
  refine aops_val (av_load1 rfl Try.underlying3 rfl (by (first | assumption | exact (cell_own (by (repeat (first | assumption | exact Hp.push_new _ _ | exact Hp.put_same _ _ _ | refine (Hp.push_old _ _ (by (first | assumption | (simp; done) | (simp; omega) | omega))).trans ?_ | refine (Hp.put_other _ _ (by (first | assumption | omega | (simp; done) | (simp; omega)))).trans ?_ | refine le_got (by assumption) (by (first | assumption | (simp; done) | (simp; omega) | omega)) (by intro e; cases e) ?_)))).trans rfl | exact Hp.cell_le (by assumption) (by (repeat (first | assumption | exact Hp.le_refl _ | refine Hp.le_put_new ?_ (by first | (first | assumption | (simp; done) | (simp; omega) | omega) | exact (show Hp.le _ _ by assumption).1) _ | refine Hp.le_push' ?_ _ | refine Hp.le_trans ?_ (by assumption)))) (by (first | assumption | (simp; done) | (simp; omega) | omega))))) ?_
  refine aops_val (av_conv rfl (by rw [Try.underlying3]; rfl) Try.underlying204) ?_
  rw [conv_u32 ha (by omega), conv_u32 hb (by omega)]
  refine aops_op (aop_call (Pack_u32 _ _ (by omega) (by omega) (by omega) (by omega) _) rfl Try.func161 rfl rfl rfl ?_)
  rintro v H ⟨rfl, rfl⟩
  first | refine aops_val (av_assign_int rfl) ?_ | refine aops_val (av_assign rfl) ?_
  refine ac_ret ?_
  exact ⟨_, aresult1 (ares_tmp rfl), rfl⟩
def sumL (xs : List Link) : Int := xs.foldl (fun s x => addI s x.n) 0
theorem addI_nonneg {a b : Int} (ha : 0 ≤ a) (hb : 0 ≤ b) : 0 ≤ addI a b := by unfold addI mostI; omega
theorem Sum_raw (xs : List Link) (v : Value) (H : Hp) (hs : Sl kLink H v xs) (hl : xs.length ≤ 9223372036854775807) (hx : ∀ x ∈ xs, 0 ≤ x.n) :
    ACalls Try.prog 79 #[v] H (fun r _ => r = .int .u64 (sumL xs)) := by
  obtain ⟨A, c, rfl⟩ := hs.shape
  refine acalls_of_code Try.func79 rfl rfl rfl (by simp) ?_
  refine ac_seq ?_
  refine ac_region (by kernel_rfl) ?_
  first | refine aops_val (av_assign_int rfl) ?_ | refine aops_val (av_assign rfl) ?_
  refine ac_seq ?_
  refine ac_region (by kernel_rfl) ?_
  first | refine aops_val (av_assign_int rfl) ?_ | refine aops_val (av_assign rfl) ?_
  refine ac_seq ?_
  refine ac_seq ?_
  refine ac_region (by kernel_rfl) ?_
  first | refine aops_val (av_move_sl rfl) ?_ | refine aops_val (av_move rfl) ?_
  refine aops_val (av_len rfl Try.underlying22) ?_
  first | refine aops_val (av_move_int rfl) ?_ | refine aops_val (av_move rfl) ?_
  refine ac_block ?_
  refine ac_loop (fun n t H' => ∃ (i : Nat), i ≤ xs.length ∧ n = xs.length - i ∧ H.le H' ∧ 0 ≤ sumL (xs.take i) ∧ t 3 = .int .u64 (sumL (xs.take i)) ∧ t 6 = .slice A xs.length c ∧ t 7 = .int .i64 xs.length ∧ t 8 = .int .i64 i) (xs.length) (⟨0, by omega, rfl, Hp.le_refl _, by simp [sumL], rfl, rfl, rfl, rfl⟩) ?_
  rintro n t H1 ⟨i, hi, rfl, hle, h0, e3, e6, e7, e8⟩
  refine ac_seq ?_
  refine ac_region (by kernel_rfl) ?_
  refine aops_val (av_lt (by first | assumption | rfl) (by first | assumption | rfl)) ?_
  refine ac_seq ?_
  refine ac_split rfl rfl ?_ ?_
  · intro hc1
    (try simp only [decide_eq_true_eq, decide_eq_false_iff_not, Bool.not_eq_true', Bool.not_eq_false'] at hc1)
    refine ac_skip ?_
    refine ac_seq ?_
    refine ac_block ?_
    refine ac_seq ?_
    refine ac_region (by kernel_rfl) ?_
    have hix : i < xs.length := by omega
    obtain ⟨b, o, rfl, hb, hcell0⟩ := (hs.mono hle.sees).link_at hix
    have hbl : b < H1.size := hb
    have hxn := hx _ (List.getElem_mem hix)
    have hnext : addI (sumL (xs.take i)) xs[i].n = sumL (xs.take (i + 1)) := by rw [← take_next hix, sumL, sumL, List.foldl_append]; rfl
    refine aops_val (av_indexAddr (by first | assumption | rfl) (by first | assumption | rfl) Try.underlying22 inf28.size (by (first | assumption | omega | (simp only [Int.toNat_natCast] at *; omega))) (by (first | assumption | omega | (simp only [Int.toNat_natCast] at *; omega)))) ?_
    refine aops_val (av_loadN (cs := [.int .i64 _, .int .i64 _, .int .i64 _, .int .u64 _]) rfl Try.underlying28 rfl inf28.size (by (first | assumption | exact cells_get (by (repeat (first | assumption | exact Hp.push_new _ _ | exact Hp.put_same _ _ _ | refine (Hp.push_old _ _ (by (first | assumption | (simp; done) | (simp; omega) | omega))).trans ?_ | refine (Hp.put_other _ _ (by (first | assumption | omega | (simp; done) | (simp; omega)))).trans ?_ | refine le_got (by assumption) (by (first | assumption | (simp; done) | (simp; omega) | omega)) (by intro e; cases e) ?_))) rfl | exact Cells.le (by assumption) (by (repeat (first | assumption | exact Hp.le_refl _ | refine Hp.le_put_new ?_ (by first | (first | assumption | (simp; done) | (simp; omega) | omega) | exact (show Hp.le _ _ by assumption).1) _ | refine Hp.le_push' ?_ _ | refine Hp.le_trans ?_ (by assumption)))) (by (first | assumption | (simp; done) | (simp; omega) | omega))))) ?_
    refine aops_make (am_zero (l := [.int .i64 0, .int .i64 0, .int .i64 0, .int .u64 0]) inf28.zero rfl (by decide)) ?_
    first | refine aops_op (aop_putN (vs := [.int .i64 _, .int .i64 _, .int .i64 _, .int .u64 _]) rfl rfl inf28.size (by (repeat (first | assumption | exact Hp.push_new _ _ | exact Hp.put_same _ _ _ | refine (Hp.push_old _ _ (by (first | assumption | (simp; done) | (simp; omega) | omega))).trans ?_ | refine (Hp.put_other _ _ (by (first | assumption | omega | (simp; done) | (simp; omega)))).trans ?_ | refine le_got (by assumption) (by (first | assumption | (simp; done) | (simp; omega) | omega)) (by intro e; cases e) ?_))) (by (first | (simp; done) | (simp; omega) | omega | (rw [setR_length (by first | (simp; done) | (simp; omega) | omega)]; first | (simp; done) | (simp; omega) | omega) | (rw [List.length_set, setR_length (by first | (simp; done) | (simp; omega) | omega)]; first | (simp; done) | (simp; omega) | omega) | (rw [List.length_set, List.length_set, setR_length (by first | (simp; done) | (simp; omega) | omega)]; first | (simp; done) | (simp; omega) | omega))) rfl rfl ?_)
    refine ac_region (by kernel_rfl) ?_
    first | refine aops_val (av_move_int (by first | assumption | rfl)) ?_ | refine aops_val (av_move (by first | assumption | rfl)) ?_
    refine aops_val (av_fieldOff (off := 3) rfl Try.underlying28 rfl inf26.size (by decide) rfl) ?_
    refine aops_val (av_load1 rfl Try.underlying26 rfl (by (first | assumption | exact (cell_own (by (repeat (first | assumption | exact Hp.push_new _ _ | exact Hp.put_same _ _ _ | refine (Hp.push_old _ _ (by (first | assumption | (simp; done) | (simp; omega) | omega))).trans ?_ | refine (Hp.put_other _ _ (by (first | assumption | omega | (simp; done) | (simp; omega)))).trans ?_ | refine le_got (by assumption) (by (first | assumption | (simp; done) | (simp; omega) | omega)) (by intro e; cases e) ?_)))).trans rfl | exact Hp.cell_le (by assumption) (by (repeat (first | assumption | exact Hp.le_refl _ | refine Hp.le_put_new ?_ (by first | (first | assumption | (simp; done) | (simp; omega) | omega) | exact (show Hp.le _ _ by assumption).1) _ | refine Hp.le_push' ?_ _ | refine Hp.le_trans ?_ (by assumption)))) (by (first | assumption | (simp; done) | (simp; omega) | omega))))) ?_
    refine aops_op (aop_call (Add_u64 _ _ (by omega) (by omega) _) rfl Try.func130 rfl rfl rfl ?_)
    rintro v H ⟨rfl, rfl⟩
    first | refine aops_val (av_assign_int rfl) ?_ | refine aops_val (av_assign rfl) ?_
    refine ac_region (by kernel_rfl) ?_
    first | refine aops_val (av_add64 (by first | assumption | rfl) (by first | assumption | rfl) (by (first | assumption | omega | (simp; omega)))) ?_ | refine aops_val (av_add (by first | assumption | rfl) (by first | assumption | rfl)) ?_
    first | refine aops_val (av_move_int rfl) ?_ | refine aops_val (av_move rfl) ?_
    exact ⟨xs.length - (i + 1), by omega, i + 1, by omega, rfl, by (repeat (first | assumption | exact Hp.le_refl _ | refine Hp.le_put_new ?_ (by first | (first | assumption | (simp; done) | (simp; omega) | omega) | exact (show Hp.le _ _ by assumption).1) _ | refine Hp.le_push' ?_ _ | refine Hp.le_trans ?_ (by assumption))), by rw [← hnext]; exact addI_nonneg h0 hxn, by rw [← hnext]; rfl, e6, e7, rfl⟩
  · intro hc1
    (try simp only [decide_eq_true_eq, decide_eq_false_iff_not, Bool.not_eq_true', Bool.not_eq_false'] at hc1)
    refine ac_exit ?_
    refine ac_seq ?_
    refine ac_region (by kernel_rfl) ?_
    first | refine aops_val (av_move_int (by first | assumption | rfl)) ?_ | refine aops_val (av_move (by first | assumption | rfl)) ?_
    first | refine aops_val (av_assign_int rfl) ?_ | refine aops_val (av_assign rfl) ?_
    refine ac_ret ?_
    refine ⟨.int .u64 (sumL (xs.take i)), aresult1 (ares_tmp (by first | assumption | rfl)), ?_⟩
    rw [List.take_of_length_le (by omega)]
theorem Sum_links (xs : List Link) (v : Value) (H : Hp) (hs : Sl kLink H v xs) (hl : xs.length ≤ 9223372036854775807) (hx : ∀ x ∈ xs, 0 ≤ x.n) :
    ACalls Try.prog 79 #[v] H (fun r H' => r = .int .u64 (sumL xs) ∧ H' = H) :=
  ACalls.pure (fun v h => by rw [h]; rfl) (Sum_raw xs v H.ro (hs.mono H.sees_ro) hl hx)
theorem one_link (c : Int) (H : Hp) : ACalls Try.prog 78 #[.int .i64 c] H (fun r H' => H.le H' ∧ Sl kLink H' r [⟨0, 1, c, 2⟩]) := by
  refine acalls_of_code Try.func78 rfl rfl rfl (by simp) ?_
  refine ac_seq ?_
  refine ac_region (by kernel_rfl) ?_
  first | refine aops_val (av_assign_sl rfl) ?_ | refine aops_val (av_assign rfl) ?_
  refine ac_seq ?_
  refine ac_region (by kernel_rfl) ?_
  first | refine aops_val (av_move_int rfl) ?_ | refine aops_val (av_move rfl) ?_
  refine aops_val (av_build (pl := [(0, 1), (1, 1), (2, 1), (3, 1)]) (r := [.int .i64 _, .int .i64 _, .int .i64 _, .int .u64 _]) Try.underlying28 inf28.zero (by decide) rfl rfl) ?_
  first | refine aops_make (am_buildSlice (r := [.int .i64 _, .int .i64 _, .int .i64 _, .int .u64 _]) Try.underlying22 inf28.size inf28.zero rfl (by decide) (by decide) (by decide) rfl) ?_
  first | refine aops_val (av_assign_sl rfl) ?_ | refine aops_val (av_assign rfl) ?_
  refine ac_ret ?_
  exact ⟨_, aresult1 (ares_tmp rfl), H.le_push _, sl_one (k := kLink) (G := H) rfl rfl rfl rfl⟩
end Go.Proofs.Ytnkjikpmgeknbaa.Am
