/- Texts that the proof rests on, part 1: lemmas for every heap that is related to a world, no condition beyond each lemma's own. -/
import Derived.Test.YtnkjikpmgeknbaaAmTy
import Derived.Test.YtnkjikpmgeknbaaAmOwn
import Derived.Test.YtnkjikpmgeknbaaAmBits
import Derived.Test.YtnkjikpmgeknbaaAmShelfLay
import Derived.Test.YtnkjikpmgeknbaaAmStructEq
namespace Go.Proofs.Ytnkjikpmgeknbaa.Am
open Go Go.RowKit
set_option maxRecDepth 100000
set_option linter.unusedVariables false
set_option linter.unusedSimpArgs false

theorem take_next {α : Type} {xs : List α} {i : Nat} (h : i < xs.length) : xs.take i ++ [xs[i]] = xs.take (i + 1) := (List.take_succ_eq_append_getElem h).symm
theorem Few_ints (xs : List Int) (v : Value) (m : Int) (H : Hp) (hs : Sl (kInt .i64) H v xs) (hl : xs.length ≤ 9223372036854775807) (h0 : 0 ≤ m) (h1 : m ≤ 1000000) :
    ACalls Try.prog 136 #[v, .int .i64 m] H (fun r H' => H.le H' ∧ Sl (kInt .i64) H' r (xs.take m.toNat)) := by
  obtain ⟨A, c, rfl⟩ := hs.shape
  refine acalls_of_code Try.func136 rfl rfl rfl (by simp) ?_
  refine ac_seq ?_
  refine ac_region (by kernel_rfl) ?_
  first | refine aops_val (av_assign_sl rfl) ?_ | refine aops_val (av_assign rfl) ?_
  refine ac_seq ?_
  refine ac_region (by kernel_rfl) ?_
  first | refine aops_make (am_buildSlice (r := []) Try.underlying29 inf3.size inf3.zero rfl (by decide) (by decide) (by decide) rfl) ?_
  first | refine aops_val (av_assign_sl rfl) ?_ | refine aops_val (av_assign rfl) ?_
  refine ac_seq ?_
  refine ac_seq ?_
  refine ac_region (by kernel_rfl) ?_
  first | refine aops_val (av_assign_int rfl) ?_ | refine aops_val (av_assign rfl) ?_
  refine ac_block ?_
  refine ac_loop (fun n t H' => ∃ (i : Nat) (G : Hp) (B : Option Addr) (c5 : Nat), i ≤ xs.length ∧ (i : Int) ≤ m ∧ n = xs.length - i ∧ H.le G ∧ OwnP (kInt .i64) G H' (.slice B i c5) (xs.take i) ∧ t 0 = .slice A xs.length c ∧ t 1 = .int .i64 m ∧ t 5 = .slice B i c5 ∧ t 6 = .int .i64 i) (_) (⟨0, H.push .dead, _, _, by omega, h0, rfl, H.le_push _, OwnP.lit (kInt .i64) H, rfl, rfl, rfl, rfl⟩) ?_
  rintro n t H1 ⟨i, G, B, c5, hi, him, rfl, hle, hown, e0, e1, e5, e6⟩
  refine ac_seq ?_
  refine ac_seq ?_
  refine ac_region (by kernel_rfl) ?_
  refine aops_val (av_move_int e6) ?_
  refine aops_val (av_move_sl e0) ?_
  refine aops_val (av_len rfl Try.underlying29) ?_
  refine aops_val (av_lt rfl rfl) ?_
  first | refine aops_val (av_move_bool rfl) ?_ | refine aops_val (av_move rfl) ?_
  refine aops_guard rfl rfl rfl ?_ ?_
  · intro hg1
    have hp1 := hg1; try simp only [decide_eq_true_eq, decide_eq_false_iff_not, Bool.not_eq_true', Bool.not_eq_false'] at hp1
    refine aops_wval (want_yes rfl rfl rfl hg1) (av_move_int e6) ?_
    refine aops_wval (want_yes rfl rfl rfl hg1) (av_move_int e1) ?_
    refine aops_wval (want_yes rfl rfl rfl hg1) (av_lt rfl rfl) ?_
    refine aops_val (av_pick_bool (congrArg Value.bool hg1) rfl) ?_
    refine ac_split rfl rfl ?_ ?_
    · intro hc2
      (try simp only [decide_eq_true_eq, decide_eq_false_iff_not, Bool.not_eq_true', Bool.not_eq_false'] at hc2)
      refine ac_skip ?_
      refine ac_seq ?_
      refine ac_block ?_
      refine ac_region (by kernel_rfl) ?_
      refine aops_val (av_move_sl e5) ?_
      refine aops_val (av_move_sl e0) ?_
      refine aops_val (av_move_int e6) ?_
      obtain ⟨b, o, rfl, hb, hcell⟩ := (hs.mono (hle.sees.trans hown.le.sees)).int_at (i := (i : Int)) (by omega) (by omega)
      refine aops_val (av_indexAddr rfl rfl Try.underlying29 inf3.size t_idx t_idx) ?_
      refine aops_val (av_load1 rfl Try.underlying3 rfl t_cell) ?_
      first | refine aops_make (am_buildSlice (r := [.int .i64 _]) Try.underlying29 inf3.size inf3.zero rfl (by decide) (by decide) (by decide) rfl) ?_
      have hlen : (xs.take i).length = i := by rw [List.length_take]; omega
      refine aops_op (OwnP.append (ys := [xs.getD (i : Int).toNat 0]) (hown.push _) Try.underlying29 inf3 rfl rfl rfl (by rw [hown.size]; exact sl_int1) (by simp; omega) (by simp; omega) ?_)
      rintro v5 G' H2 hle' hown'
      obtain ⟨B', c', rfl⟩ := hown'.shape
      first | refine aops_val (av_assign_sl rfl) ?_ | refine aops_val (av_assign rfl) ?_
      refine ac_region (by kernel_rfl) ?_
      refine aops_val (av_move_int e6) ?_
      first | refine aops_val (av_add64 rfl rfl t_fits) ?_ | refine aops_val (av_add rfl rfl) ?_
      first | refine aops_val (av_assign_int rfl) ?_ | refine aops_val (av_assign rfl) ?_
      rw [Int.toNat_natCast, getD_at (show i < xs.length by omega), take_next (by omega)] at hown'
      have hlen2 : (xs.take (i + 1)).length = i + 1 := by rw [List.length_take]; omega
      rw [hlen2] at hown'
      refine ⟨xs.length - (i + 1), by omega, i + 1, G', B', c', by omega, by omega, rfl, Hp.le_trans (Hp.le_push' hle _) hle', hown', e0, e1, ?_, ?_⟩
      · show Value.slice B' _ c' = _
        congr 1
        simp; omega
      · rfl
    · intro hc2
      (try simp only [decide_eq_true_eq, decide_eq_false_iff_not, Bool.not_eq_true', Bool.not_eq_false'] at hc2)
      refine ac_exit ?_
      refine ac_seq ?_
      refine ac_region (by kernel_rfl) ?_
      refine aops_val (av_move_sl e5) ?_
      first | refine aops_val (av_assign_sl rfl) ?_ | refine aops_val (av_assign rfl) ?_
      refine ac_ret ?_
      refine ⟨.slice B i c5, aresult1 (ares_tmp rfl), Hp.le_trans hle hown.le, ?_⟩
      have : xs.take m.toNat = xs.take i := by
        rcases Nat.lt_or_ge i xs.length with h | h
        · have : ¬ (i : Int) < m := by simp_all
          rw [show m.toNat = i by omega]
        · rw [List.take_of_length_le (by omega), List.take_of_length_le (by omega)]
      rw [this]; exact hown.sl
  · intro hg1
    have hp1 := hg1; try simp only [decide_eq_true_eq, decide_eq_false_iff_not, Bool.not_eq_true', Bool.not_eq_false'] at hp1
    refine aops_skip (want_no rfl rfl rfl hg1 rfl) ?_
    refine aops_skip (want_no rfl rfl rfl hg1 rfl) ?_
    refine aops_skip (want_no rfl rfl rfl hg1 rfl) ?_
    refine aops_val (av_pick_bool (congrArg Value.bool hg1) (by first | assumption | rfl)) ?_
    refine ac_cond_false rfl rfl ?_
    refine ac_exit ?_
    refine ac_seq ?_
    refine ac_region (by kernel_rfl) ?_
    refine aops_val (av_move_sl e5) ?_
    first | refine aops_val (av_assign_sl rfl) ?_ | refine aops_val (av_assign rfl) ?_
    refine ac_ret ?_
    refine ⟨.slice B i c5, aresult1 (ares_tmp rfl), Hp.le_trans hle hown.le, ?_⟩
    have : xs.take m.toNat = xs.take i := by
      rcases Nat.lt_or_ge i xs.length with h | h
      · have : ¬ (i : Int) < m := by simp_all
        rw [show m.toNat = i by omega]
      · rw [List.take_of_length_le (by omega), List.take_of_length_le (by omega)]
    rw [this]; exact hown.sl
theorem Clone_ints (xs : List Int) (v : Value) (H : Hp) (hs : Sl (kInt .i64) H v xs) (hl : xs.length ≤ 1000000000) :
    ACalls Try.prog 90 #[v] H (fun r H' => H.le H' ∧ Sl (kInt .i64) H' r xs) := by
  rcases hs with ⟨rfl, rfl⟩ | ⟨b, o, c, rfl, hb, hk, hx⟩
  · skip
    refine acalls_of_code Try.func90 rfl rfl rfl (by simp) ?_
    refine ac_seq ?_
    refine ac_region (by kernel_rfl) ?_
    first | refine aops_val (av_assign_sl rfl) ?_ | refine aops_val (av_assign rfl) ?_
    refine ac_seq ?_
    refine ac_seq ?_
    refine ac_region (by kernel_rfl) ?_
    first | refine aops_val (av_move_sl rfl) ?_ | refine aops_val (av_move rfl) ?_
    refine aops_val (av_sl_eq_nil rfl rfl Try.underlying29) ?_
    refine ac_cond_true (rfl) rfl ?_
    refine ac_seq ?_
    refine ac_region (by kernel_rfl) ?_
    first | refine aops_val (av_assign_sl rfl) ?_ | refine aops_val (av_assign rfl) ?_
    refine ac_ret ?_
    exact ⟨.slice none 0 0, aresult1 (ares_tmp rfl), Hp.le_refl _, Sl.nil _ _⟩
  · have hs : Sl (kInt .i64) H (.slice (some ⟨b, o, none⟩) xs.length c) xs := .inr ⟨b, o, c, rfl, hb, hk, hx⟩
    skip
    refine acalls_of_code Try.func90 rfl rfl rfl (by simp) ?_
    refine ac_seq ?_
    refine ac_region (by kernel_rfl) ?_
    first | refine aops_val (av_assign_sl rfl) ?_ | refine aops_val (av_assign rfl) ?_
    refine ac_seq ?_
    refine ac_seq ?_
    refine ac_region (by kernel_rfl) ?_
    first | refine aops_val (av_move_sl rfl) ?_ | refine aops_val (av_move rfl) ?_
    refine aops_val (av_sl_eq_nil rfl rfl Try.underlying29) ?_
    refine ac_cond_false (rfl) rfl ?_
    refine ac_skip ?_
    refine ac_seq ?_
    refine ac_region (by kernel_rfl) ?_
    first | refine aops_make (am_buildSlice (r := []) Try.underlying29 inf3.size inf3.zero rfl (by decide) (by decide) (by decide) rfl) ?_
    first | refine aops_val (av_move_sl rfl) ?_ | refine aops_val (av_move rfl) ?_
    refine aops_op (OwnP.append (ys := xs) (OwnP.lit (kInt .i64) H) Try.underlying29 inf3 rfl rfl rfl (hs.mono (H.le_push _).sees) (by simp; omega) (by simp; omega) ?_)
    rintro v5 G' H2 hle' hown'
    rw [List.nil_append] at hown'
    obtain ⟨B', c', rfl⟩ := hown'.shape
    first | refine aops_val (av_assign_sl rfl) ?_ | refine aops_val (av_assign rfl) ?_
    refine ac_ret ?_
    exact ⟨.slice B' xs.length c', aresult1 (ares_tmp rfl), Hp.le_trans (Hp.le_trans (H.le_push _) hle') hown'.le, hown'.sl⟩
end Go.Proofs.Ytnkjikpmgeknbaa.Am
namespace Go.Proofs.Ytnkjikpmgeknbaa.Am
open Go Go.RowKit
set_option maxRecDepth 100000
set_option linter.unusedVariables false
set_option linter.unusedSimpArgs false

theorem Mul64_u64 (x y : Nat) (hx : x < 18446744073709551616) (hy : y < 18446744073709551616) (H : Hp) :
    ACalls Try.prog 162 #[.int .u64 x, .int .u64 y] H (fun r H' => r = .tuple #[.int .u64 ((x * y / 18446744073709551616 : Nat) : Int), .int .u64 ((x * y % 18446744073709551616 : Nat) : Int)] ∧ H' = H) :=
  mul64_real mul64Lay x y hx hy H
theorem times_high {m n : Nat} (hm : m ≤ 4611686018427387904) (hn : n ≤ 4611686018427387904) (h : m * n / 18446744073709551616 ≠ 0) : min ((m : Int) * n) mostI = mostI := by
  have : 18446744073709551616 ≤ m * n := by
    rcases Nat.lt_or_ge (m * n) 18446744073709551616 with h1 | h1
    · exact absurd (Nat.div_eq_of_lt h1) h
    · exact h1
  have h2 : ((m * n : Nat) : Int) = (m : Int) * n := by simp
  unfold mostI
  omega
theorem min_if (a M : Int) : (if M < a then M else a) = min a M := by rw [Int.min_def]; split <;> split <;> omega
theorem Times_u64 (a b : Int) (ha : 0 ≤ a) (hb : 0 ≤ b) (H : Hp) : ACalls Try.prog 129 #[.int .u64 a, .int .u64 b] H (fun r H' => r = .int .u64 (timesI a b) ∧ H' = H) := by
  obtain ⟨m, hm⟩ : ∃ m : Nat, (m : Int) = (if (4611686018427387904 : Int) < a then 4611686018427387904 else a) := ⟨(if (4611686018427387904 : Int) < a then 4611686018427387904 else a).toNat, by split <;> omega⟩
  obtain ⟨n, hn⟩ : ∃ n : Nat, (n : Int) = (if (4611686018427387904 : Int) < b then 4611686018427387904 else b) := ⟨(if (4611686018427387904 : Int) < b then 4611686018427387904 else b).toNat, by split <;> omega⟩
  have hm1 : m ≤ 4611686018427387904 := by split at hm <;> omega
  have hn1 : n ≤ 4611686018427387904 := by split at hn <;> omega
  have em : min a mostI = m := by unfold mostI; split at hm <;> omega
  have en : min b mostI = n := by unfold mostI; split at hn <;> omega
  refine acalls_of_code Try.func129 rfl rfl rfl (by simp) ?_
  refine ac_seq ?_
  refine ac_region (by kernel_rfl) ?_
  first | refine aops_val (av_assign_int rfl) ?_ | refine aops_val (av_assign rfl) ?_
  refine ac_seq ?_
  refine ac_region (by kernel_rfl) ?_
  first | refine aops_val (av_move_int rfl) ?_ | refine aops_val (av_move rfl) ?_
  refine aops_val (av_min2 rfl rfl) ?_
  first | refine aops_val (av_move_int rfl) ?_ | refine aops_val (av_move rfl) ?_
  refine aops_val (av_min2 rfl rfl) ?_
  rw [← hm, ← hn]
  refine aops_op (aop_call (Mul64_u64 m n (by omega) (by omega) H) rfl Try.func162 rfl rfl rfl ?_)
  rintro v H ⟨rfl, rfl⟩
  refine aops_val (av_move rfl) ?_
  refine aops_val (av_extract rfl rfl) ?_
  refine aops_val (av_extract rfl rfl) ?_
  first | refine aops_val (av_assign_int rfl) ?_ | refine aops_val (av_assign rfl) ?_
  first | refine aops_val (av_assign_int rfl) ?_ | refine aops_val (av_assign rfl) ?_
  refine ac_seq ?_
  refine ac_seq ?_
  refine ac_region (by kernel_rfl) ?_
  first | refine aops_val (av_move_int rfl) ?_ | refine aops_val (av_move rfl) ?_
  refine aops_val (av_ne rfl rfl) ?_
  refine ac_split rfl rfl ?_ ?_
  · intro hc1
    (try simp only [decide_eq_true_eq, decide_eq_false_iff_not, Bool.not_eq_true', Bool.not_eq_false'] at hc1)
    refine ac_seq ?_
    refine ac_region (by kernel_rfl) ?_
    first | refine aops_val (av_assign_int rfl) ?_ | refine aops_val (av_assign rfl) ?_
    refine ac_ret ?_
    refine ⟨.int .u64 4611686018427387904, aresult1 (ares_tmp rfl), ?_, rfl⟩
    rw [timesI, em, en, times_high hm1 hn1 (fun e => hc1 (by rw [e]; rfl))]; rfl
  · intro hc1
    (try simp only [decide_eq_true_eq, decide_eq_false_iff_not, Bool.not_eq_true', Bool.not_eq_false'] at hc1)
    refine ac_skip ?_
    refine ac_seq ?_
    refine ac_region (by kernel_rfl) ?_
    first | refine aops_val (av_move_int rfl) ?_ | refine aops_val (av_move rfl) ?_
    refine aops_val (av_min2 rfl rfl) ?_
    first | refine aops_val (av_assign_int rfl) ?_ | refine aops_val (av_assign rfl) ?_
    refine ac_ret ?_
    refine ⟨_, aresult1 (ares_tmp rfl), ?_, rfl⟩
    have h00 : m * n / 18446744073709551616 = 0 := by
      have h3 : ¬ ¬ ((m * n / 18446744073709551616 : Nat) : Int) = 0 := hc1
      have h4 := Decidable.not_not.1 h3
      exact Int.ofNat.inj h4
    have h0 : m * n < 18446744073709551616 := by omega
    rw [timesI, em, en, Nat.mod_eq_of_lt h0]
    show Value.int .u64 (if _ then _ else _) = _
    rw [min_if, show ((m * n : Nat) : Int) = (m : Int) * n by simp]
    rfl
theorem Add_u64 (a b : Int) (ha : 0 ≤ a) (hb : 0 ≤ b) (H : Hp) : ACalls Try.prog 130 #[.int .u64 a, .int .u64 b] H (fun r H' => r = .int .u64 (addI a b) ∧ H' = H) := by
  refine acalls_of_code Try.func130 rfl rfl rfl (by simp) ?_
  refine ac_seq ?_
  refine ac_region (by kernel_rfl) ?_
  first | refine aops_val (av_assign_int rfl) ?_ | refine aops_val (av_assign rfl) ?_
  refine ac_seq ?_
  refine ac_region (by kernel_rfl) ?_
  first | refine aops_val (av_move_int rfl) ?_ | refine aops_val (av_move rfl) ?_
  refine aops_val (av_min2 rfl rfl) ?_
  first | refine aops_val (av_move_int rfl) ?_ | refine aops_val (av_move rfl) ?_
  refine aops_val (av_min2 rfl rfl) ?_
  refine aops_val (av_add rfl rfl) ?_
  refine aops_val (av_min2 rfl rfl) ?_
  first | refine aops_val (av_assign_int rfl) ?_ | refine aops_val (av_assign rfl) ?_
  refine ac_ret ?_
  refine ⟨_, aresult1 (ares_tmp rfl), ?_, rfl⟩
  have hw : ∀ x : Int, 0 ≤ x → x < 18446744073709551616 → IntKind.u64.wrap x = x := fun x h1 h2 => by simp [IntKind.wrap, IntKind.bits, IntKind.signed]; omega
  have m1 : 0 ≤ min a mostI ∧ min a mostI ≤ 4611686018427387904 := by unfold mostI; rw [Int.min_def]; split <;> omega
  have m2 : 0 ≤ min b mostI ∧ min b mostI ≤ 4611686018427387904 := by unfold mostI; rw [Int.min_def]; split <;> omega
  show Value.int .u64 (if _ then _ else _) = _
  rw [min_if, min_if a 4611686018427387904, min_if b 4611686018427387904, show min a 4611686018427387904 = min a mostI from rfl, show min b 4611686018427387904 = min b mostI from rfl, hw _ (by omega) (by omega)]
  rfl
end Go.Proofs.Ytnkjikpmgeknbaa.Am
namespace Go.Proofs.Ytnkjikpmgeknbaa.Am
open Go Go.RowKit
set_option maxRecDepth 100000
set_option linter.unusedVariables false
set_option linter.unusedSimpArgs false

structure Link where
  a : Int
  b : Int
  cost : Int
  n : Int
theorem Link.ext' {x y : Link} (h1 : x.a = y.a) (h2 : x.b = y.b) (h3 : x.cost = y.cost) (h4 : x.n = y.n) : x = y := by
  cases x; cases y; simp only at h1 h2 h3 h4; subst h1 h2 h3 h4; rfl
instance : DecidableEq Link := fun x y => decidable_of_iff (x.a = y.a ∧ x.b = y.b ∧ x.cost = y.cost ∧ x.n = y.n) ⟨fun ⟨h1, h2, h3, h4⟩ => Link.ext' h1 h2 h3 h4, fun h => by rw [h]; exact ⟨rfl, rfl, rfl, rfl⟩⟩
def Link.cells (x : Link) : List Value := [.int .i64 x.a, .int .i64 x.b, .int .i64 x.cost, .int .u64 x.n]
def kLink : Kd Link where
  sz := 4
  pos := by decide
  rep _ x cs := cs = [.int .i64 x.a, .int .i64 x.b, .int .i64 x.cost, .int .u64 x.n]
  len h := by rw [h]; rfl
  mono _ h := h
  one h v hv := by rw [h] at hv; simp at hv; rcases hv with rfl | rfl | rfl | rfl <;> rfl
theorem Sl.link_at {H : Hp} {A : Option Addr} {n c : Nat} {xs : List Link} (h : Sl kLink H (.slice A n c) xs) {i : Nat} (hi : i < xs.length) :
    ∃ b o, A = some ⟨b, o, none⟩ ∧ b < H.size ∧ Cells H b (o + i * 4) [.int .i64 xs[i].a, .int .i64 xs[i].b, .int .i64 xs[i].cost, .int .u64 xs[i].n] := by
  obtain ⟨b, o, cs, e, hb, hr, hc⟩ := h.elem_at hi
  have : cs = [.int .i64 xs[i].a, .int .i64 xs[i].b, .int .i64 xs[i].cost, .int .u64 xs[i].n] := hr
  subst this
  exact ⟨b, o, e, hb, hc⟩
/-- Two links' cells, compared by Go. -/
theorem scal_link (x : Link) : ∀ v ∈ [Value.int .i64 x.a, .int .i64 x.b, .int .i64 x.cost, .int .u64 x.n], Am.scal v = true := by
  intro v hv; simp at hv; rcases hv with rfl | rfl | rfl | rfl <;> rfl
theorem fits_link (x y : Link) {fs : Array Field} (h : Try.prog.underlying 28 = some (.struct fs)) : ∀ f ∈ fs.toList, f.offset < [Value.int .i64 x.a, .int .i64 x.b, .int .i64 x.cost, .int .u64 x.n].length ∧ f.offset < [Value.int .i64 y.a, .int .i64 y.b, .int .i64 y.cost, .int .u64 y.n].length ∧
    fitsF Try.prog f ([Value.int .i64 x.a, .int .i64 x.b, .int .i64 x.cost, .int .u64 x.n].getD f.offset undef) ([Value.int .i64 y.a, .int .i64 y.b, .int .i64 y.cost, .int .u64 y.n].getD f.offset undef) := by
  rw [Try.underlying28] at h
  injection h with h; injection h with h
  subst h
  intro f hf
  simp at hf
  rcases hf with rfl | rfl | rfl | rfl
  · exact ⟨by simp, by simp, .int Try.underlying3 (by decide)⟩
  · exact ⟨by simp, by simp, .int Try.underlying3 (by decide)⟩
  · exact ⟨by simp, by simp, .int Try.underlying3 (by decide)⟩
  · exact ⟨by simp, by simp, .int Try.underlying26 (by decide)⟩
theorem eq_link (x y : Link) {fs : Array Field} (h : Try.prog.underlying 28 = some (.struct fs)) : allEq [Value.int .i64 x.a, .int .i64 x.b, .int .i64 x.cost, .int .u64 x.n] [.int .i64 y.a, .int .i64 y.b, .int .i64 y.cost, .int .u64 y.n] fs.toList = decide (x = y) := by
  rw [Try.underlying28] at h
  injection h with h; injection h with h
  subst h
  have e : (x = y) ↔ (x.a = y.a ∧ x.b = y.b ∧ x.cost = y.cost ∧ x.n = y.n) := ⟨fun h => by rw [h]; exact ⟨rfl, rfl, rfl, rfl⟩, fun ⟨h1, h2, h3, h4⟩ => Link.ext' h1 h2 h3 h4⟩
  rw [Bool.eq_iff_iff]
  simp [allEq, scalEq, e]
section
variable {t : Fr} {H : Hp} {d : Option Tmp} {ty : TypeId} {pos : String} {after : Array Edge} {guard : Option (Nat × Bool)} {x y : Operand} {yt : TypeId} {p q : Link}
theorem av_link_eql (hx : t.eval x = .agg #[.int .i64 p.a, .int .i64 p.b, .int .i64 p.cost, .int .u64 p.n]) (hy : t.eval y = .agg #[.int .i64 q.a, .int .i64 q.b, .int .i64 q.cost, .int .u64 q.n]) : AVal Try.prog ⟨d, .binOp .eql 28 x y yt, ty, pos, after, guard⟩ t [] H (.bool (decide (p = q))) := by
  have := av_struct_eql (H := H) (d := d) (ty := ty) (pos := pos) (after := after) (guard := guard) (yt := yt) hx hy (scal_link p) (scal_link q) Try.underlying28 (by kernel_rfl) (by kernel_rfl) (fits_link p q Try.underlying28)
  rwa [eq_link p q Try.underlying28] at this
theorem av_link_neq (hx : t.eval x = .agg #[.int .i64 p.a, .int .i64 p.b, .int .i64 p.cost, .int .u64 p.n]) (hy : t.eval y = .agg #[.int .i64 q.a, .int .i64 q.b, .int .i64 q.cost, .int .u64 q.n]) : AVal Try.prog ⟨d, .binOp .neq 28 x y yt, ty, pos, after, guard⟩ t [] H (.bool (!decide (p = q))) := by
  have := av_struct_neq (H := H) (d := d) (ty := ty) (pos := pos) (after := after) (guard := guard) (yt := yt) hx hy (scal_link p) (scal_link q) Try.underlying28 (by kernel_rfl) (by kernel_rfl) (fits_link p q Try.underlying28)
  rwa [eq_link p q Try.underlying28] at this
end
/-- Which of two links stands first. -/
def lessL (x y : Link) : Bool := decide (x.a < y.a) || (decide (x.a = y.a) && decide (x.b < y.b))
theorem Less_link (x y : Link) (H : Hp) : ACalls Try.prog 76 #[.agg #[.int .i64 x.a, .int .i64 x.b, .int .i64 x.cost, .int .u64 x.n], .agg #[.int .i64 y.a, .int .i64 y.b, .int .i64 y.cost, .int .u64 y.n]] H (fun r H' => r = .bool (lessL x y) ∧ H' = H) := by
  refine ACalls.pure (R := fun r => r = .bool (lessL x y)) (fun v h => by rw [h]; rfl) ?_
  refine acalls_of_code Try.func76 rfl rfl rfl (by simp) ?_
  refine ac_seq ?_
  refine ac_region (by kernel_rfl) ?_
  refine aops_make (am_box_agg rfl) ?_
  refine aops_make (am_box_agg rfl) ?_
  first | refine aops_val (av_assign_bool rfl) ?_ | refine aops_val (av_assign rfl) ?_
  refine ac_seq ?_
  refine ac_region (by kernel_rfl) ?_
  refine aops_val (av_fieldOff (off := 0) rfl Try.underlying28 rfl inf3.size (by decide) rfl) ?_
  refine aops_val (av_load1 rfl Try.underlying3 rfl t_cell) ?_
  refine aops_val (av_fieldOff (off := 0) rfl Try.underlying28 rfl inf3.size (by decide) rfl) ?_
  refine aops_val (av_load1 rfl Try.underlying3 rfl t_cell) ?_
  refine aops_val (av_lt rfl rfl) ?_
  first | refine aops_val (av_move_bool rfl) ?_ | refine aops_val (av_move rfl) ?_
  refine aops_guard rfl rfl rfl ?_ ?_
  · intro hg1
    have hp1 := hg1; try simp only [decide_eq_true_eq, decide_eq_false_iff_not, Bool.not_eq_true', Bool.not_eq_false'] at hp1
    refine aops_skip (want_no rfl rfl rfl hg1 rfl) ?_
    refine aops_skip (want_no rfl rfl rfl hg1 rfl) ?_
    refine aops_skip (want_no rfl rfl rfl hg1 rfl) ?_
    refine aops_skip (want_no rfl rfl rfl hg1 rfl) ?_
    refine aops_skip (want_no rfl rfl rfl hg1 rfl) ?_
    refine aops_skip (want_no rfl rfl rfl hg1 rfl) ?_
    refine aops_skip (want_gone rfl rfl rfl) ?_
    refine aops_skip (want_gone rfl rfl rfl) ?_
    refine aops_skip (want_gone rfl rfl rfl) ?_
    refine aops_skip (want_gone rfl rfl rfl) ?_
    refine aops_skip (want_gone rfl rfl rfl) ?_
    refine aops_skip (want_no rfl rfl rfl hg1 rfl) ?_
    refine aops_val (av_pick_bool (congrArg Value.bool hg1) rfl) ?_
    first | refine aops_val (av_assign_bool rfl) ?_ | refine aops_val (av_assign rfl) ?_
    refine ac_ret ?_
    refine ⟨.bool (lessL x y), aresult1 (ares_tmp ?_), rfl⟩
    show Value.bool _ = _
    congr 1
    simp_all [lessL]
  · intro hg1
    have hp1 := hg1; try simp only [decide_eq_true_eq, decide_eq_false_iff_not, Bool.not_eq_true', Bool.not_eq_false'] at hp1
    refine aops_wval (want_yes rfl rfl rfl hg1) (av_fieldOff (off := 0) rfl Try.underlying28 rfl inf3.size (by decide) rfl) ?_
    refine aops_wval (want_yes rfl rfl rfl hg1) (av_load1 rfl Try.underlying3 rfl t_cell) ?_
    refine aops_wval (want_yes rfl rfl rfl hg1) (av_fieldOff (off := 0) rfl Try.underlying28 rfl inf3.size (by decide) rfl) ?_
    refine aops_wval (want_yes rfl rfl rfl hg1) (av_load1 rfl Try.underlying3 rfl t_cell) ?_
    refine aops_wval (want_yes rfl rfl rfl hg1) (av_eq rfl rfl) ?_
    first | refine aops_wval (want_yes rfl rfl rfl hg1) (av_move_bool rfl) ?_ | refine aops_wval (want_yes rfl rfl rfl hg1) (av_move rfl) ?_
    refine aops_guard rfl rfl rfl ?_ ?_
    · intro hg2
      have hp2 := hg2; try simp only [decide_eq_true_eq, decide_eq_false_iff_not, Bool.not_eq_true', Bool.not_eq_false'] at hp2
      refine aops_wval (want_yes rfl rfl rfl hg2) (av_fieldOff (off := 1) rfl Try.underlying28 rfl inf3.size (by decide) rfl) ?_
      refine aops_wval (want_yes rfl rfl rfl hg2) (av_load1 rfl Try.underlying3 rfl t_cell) ?_
      refine aops_wval (want_yes rfl rfl rfl hg2) (av_fieldOff (off := 1) rfl Try.underlying28 rfl inf3.size (by decide) rfl) ?_
      refine aops_wval (want_yes rfl rfl rfl hg2) (av_load1 rfl Try.underlying3 rfl t_cell) ?_
      refine aops_wval (want_yes rfl rfl rfl hg2) (av_lt rfl rfl) ?_
      refine aops_wval (want_yes rfl rfl rfl hg1) (av_pick_bool (congrArg Value.bool hg2) rfl) ?_
      refine aops_val (av_pick_bool (congrArg Value.bool hg1) rfl) ?_
      first | refine aops_val (av_assign_bool rfl) ?_ | refine aops_val (av_assign rfl) ?_
      refine ac_ret ?_
      refine ⟨.bool (lessL x y), aresult1 (ares_tmp ?_), rfl⟩
      show Value.bool _ = _
      congr 1
      simp_all [lessL]
    · intro hg2
      have hp2 := hg2; try simp only [decide_eq_true_eq, decide_eq_false_iff_not, Bool.not_eq_true', Bool.not_eq_false'] at hp2
      refine aops_skip (want_no rfl rfl rfl hg2 rfl) ?_
      refine aops_skip (want_no rfl rfl rfl hg2 rfl) ?_
      refine aops_skip (want_no rfl rfl rfl hg2 rfl) ?_
      refine aops_skip (want_no rfl rfl rfl hg2 rfl) ?_
      refine aops_skip (want_no rfl rfl rfl hg2 rfl) ?_
      refine aops_wval (want_yes rfl rfl rfl hg1) (av_pick_bool (congrArg Value.bool hg2) rfl) ?_
      refine aops_val (av_pick_bool (congrArg Value.bool hg1) rfl) ?_
      first | refine aops_val (av_assign_bool rfl) ?_ | refine aops_val (av_assign rfl) ?_
      refine ac_ret ?_
      refine ⟨.bool (lessL x y), aresult1 (ares_tmp ?_), rfl⟩
      show Value.bool _ = _
      congr 1
      simp_all [lessL]
end Go.Proofs.Ytnkjikpmgeknbaa.Am
namespace Go.Proofs.Ytnkjikpmgeknbaa.Am
open Go Go.RowKit
set_option maxRecDepth 100000
set_option linter.unusedVariables false
set_option linter.unusedSimpArgs false

def Link.few (x : Link) : Link := if 1000000000 < x.cost then ⟨x.a, x.b, 1000000000, x.n⟩ else x
def fewL (xs : List Link) : List Link := (xs.take 25).map Link.few
theorem Few_links (xs : List Link) (v : Value) (H : Hp) (hs : Sl kLink H v xs) (hl : xs.length ≤ 9223372036854775807) :
    ACalls Try.prog 14 #[v] H (fun r H' => ∃ G', H.le G' ∧ OwnP kLink G' H' r (fewL xs)) := by
  obtain ⟨A, c, rfl⟩ := hs.shape
  refine acalls_of_code Try.func14 rfl rfl rfl (by simp) ?_
  refine ac_seq ?_
  refine ac_region (by kernel_rfl) ?_
  first | refine aops_val (av_assign_sl rfl) ?_ | refine aops_val (av_assign rfl) ?_
  refine ac_seq ?_
  refine ac_region (by kernel_rfl) ?_
  first | refine aops_make (am_buildSlice (r := []) Try.underlying22 inf28.size inf28.zero rfl (by decide) (by decide) (by decide) rfl) ?_
  first | refine aops_val (av_assign_sl rfl) ?_ | refine aops_val (av_assign rfl) ?_
  refine ac_seq ?_
  refine ac_seq ?_
  refine ac_region (by kernel_rfl) ?_
  first | refine aops_val (av_assign_int rfl) ?_ | refine aops_val (av_assign rfl) ?_
  refine ac_block ?_
  refine ac_loop (fun n t H' => ∃ (i : Nat) (G : Hp) (B : Option Addr) (c5 : Nat), i ≤ xs.length ∧ i ≤ 25 ∧ n = xs.length - i ∧ H.le G ∧ OwnP kLink G H' (.slice B i c5) ((xs.take i).map Link.few) ∧ t 0 = .slice A xs.length c ∧ t 3 = .slice B i c5 ∧ t 4 = .int .i64 i) (xs.length) (⟨0, H.push .dead, _, _, by omega, by omega, rfl, H.le_push _, OwnP.lit kLink H, rfl, rfl, rfl⟩) ?_
  rintro n t H1 ⟨i, G, B, c5, hi, hi25, rfl, hle, hown, e0, e3, e4⟩
  have hz := hown.size
  refine ac_seq ?_
  refine ac_seq ?_
  refine ac_region (by kernel_rfl) ?_
  first | refine aops_val (av_move_int (by first | assumption | rfl)) ?_ | refine aops_val (av_move (by first | assumption | rfl)) ?_
  first | refine aops_val (av_move_sl (by first | assumption | rfl)) ?_ | refine aops_val (av_move (by first | assumption | rfl)) ?_
  refine aops_val (av_len rfl Try.underlying22) ?_
  refine aops_val (av_lt rfl rfl) ?_
  first | refine aops_val (av_move_bool rfl) ?_ | refine aops_val (av_move rfl) ?_
  refine aops_guard rfl rfl rfl ?_ ?_
  · intro hg1
    have hp1 := hg1; try simp only [decide_eq_true_eq, decide_eq_false_iff_not, Bool.not_eq_true', Bool.not_eq_false'] at hp1
    first | refine aops_wval (want_yes rfl rfl rfl hg1) (av_move_int (by first | assumption | rfl)) ?_ | refine aops_wval (want_yes rfl rfl rfl hg1) (av_move (by first | assumption | rfl)) ?_
    refine aops_wval (want_yes rfl rfl rfl hg1) (av_lt rfl rfl) ?_
    refine aops_val (av_pick_bool (congrArg Value.bool hg1) rfl) ?_
    refine ac_split rfl rfl ?_ ?_
    · intro hc2
      (try simp only [decide_eq_true_eq, decide_eq_false_iff_not, Bool.not_eq_true', Bool.not_eq_false'] at hc2)
      refine ac_skip ?_
      refine ac_seq ?_
      refine ac_block ?_
      refine ac_seq ?_
      refine ac_region (by kernel_rfl) ?_
      first | refine aops_val (av_move_sl (by first | assumption | rfl)) ?_ | refine aops_val (av_move (by first | assumption | rfl)) ?_
      first | refine aops_val (av_move_int (by first | assumption | rfl)) ?_ | refine aops_val (av_move (by first | assumption | rfl)) ?_
      have hix : i < xs.length := by omega
      obtain ⟨b, o, rfl, hb, hcell0⟩ := (hs.mono hle.sees).link_at hix
      have hcells := hown.le.cells hb hcell0
      refine aops_val (av_indexAddr rfl rfl Try.underlying22 inf28.size t_idx t_idx) ?_
      refine aops_val (av_loadN (cs := [.int .i64 _, .int .i64 _, .int .i64 _, .int .u64 _]) rfl Try.underlying28 rfl inf28.size t_cells) ?_
      refine aops_make (am_zero (l := [.int .i64 0, .int .i64 0, .int .i64 0, .int .u64 0]) inf28.zero rfl (by decide)) ?_
      first | refine aops_op (aop_putN (vs := [.int .i64 _, .int .i64 _, .int .i64 _, .int .u64 _]) rfl rfl inf28.size t_get t_room rfl rfl ?_)
      refine ac_seq ?_
      refine ac_seq ?_
      refine ac_region (by kernel_rfl) ?_
      refine aops_val (av_fieldOff (off := 2) rfl Try.underlying28 rfl inf3.size (by decide) rfl) ?_
      refine aops_val (av_load1 rfl Try.underlying3 rfl t_cell) ?_
      refine aops_val (av_gt rfl rfl) ?_
      refine ac_split rfl rfl ?_ ?_
      · intro hc3
        have hx5 : xs[i].few = ⟨xs[i].a, xs[i].b, 1000000000, xs[i].n⟩ := if_pos (by simpa using hc3)
        have hgb : ((G.push (.own 0 [.int .i64 0, .int .i64 0, .int .i64 0, .int .u64 0])).put H1.size (.own 0 [.int .i64 xs[i].a, .int .i64 xs[i].b, .int .i64 xs[i].cost, .int .u64 xs[i].n])).get H1.size = .own 0 [.int .i64 xs[i].a, .int .i64 xs[i].b, .int .i64 xs[i].cost, .int .u64 xs[i].n] := Hp.put_same _ _ _
        have hownE := (hown.boxed [.int .i64 0, .int .i64 0, .int .i64 0, .int .u64 0] [.int .i64 xs[i].a, .int .i64 xs[i].b, .int .i64 xs[i].cost, .int .u64 xs[i].n]).put (b1 := H1.size) (by rw [hgb]; intro e; cases e) (.own 0 [.int .i64 xs[i].a, .int .i64 xs[i].b, .int .i64 1000000000, .int .u64 xs[i].n]) (Hp.sees_box _ hgb)
        have hleE := Hp.le_put_new (b := H1.size) (Hp.le_put_new (b := H1.size) (Hp.le_push' hle (.own 0 [.int .i64 0, .int .i64 0, .int .i64 0, .int .u64 0])) (by rw [hz]; exact hle.1) (.own 0 [.int .i64 xs[i].a, .int .i64 xs[i].b, .int .i64 xs[i].cost, .int .u64 xs[i].n])) (by rw [hz]; exact hle.1) (.own 0 [.int .i64 xs[i].a, .int .i64 xs[i].b, .int .i64 1000000000, .int .u64 xs[i].n])
        refine ac_region (by kernel_rfl) ?_
        refine aops_val (av_fieldOff (off := 2) rfl Try.underlying28 rfl inf3.size (by decide) rfl) ?_
        first | refine aops_op (aop_put1 rfl rfl rfl inf3.size t_get t_room rfl ?_)
        refine ac_region (by kernel_rfl) ?_
        first | refine aops_val (av_move_sl (by first | assumption | rfl)) ?_ | refine aops_val (av_move (by first | assumption | rfl)) ?_
        refine aops_val (av_loadN (cs := [.int .i64 _, .int .i64 _, .int .i64 _, .int .u64 _]) rfl Try.underlying28 rfl inf28.size t_cells) ?_
        first | refine aops_make (am_buildSlice (r := [.int .i64 _, .int .i64 _, .int .i64 _, .int .u64 _]) Try.underlying22 inf28.size inf28.zero rfl (by decide) (by decide) (by decide) rfl) ?_
        have hlen : ((xs.take i).map Link.few).length = i := by rw [List.length_map, List.length_take]; omega
        refine aops_op (OwnP.append (ys := [xs[i].few]) (hownE.push _) Try.underlying22 inf28 rfl rfl rfl (sl_one (k := kLink) (by rw [hx5]; rfl) rfl hownE.size rfl) (by rw [hlen]; simp; omega) (by rw [hlen]; simp; omega) ?_)
        rintro v6 G6 H6 hle6 hown6
        obtain ⟨B', c', e6⟩ := hown6.shape
        rw [List.length_append, hlen, List.length_singleton] at e6
        subst e6
        first | refine aops_val (av_assign_sl rfl) ?_ | refine aops_val (av_assign rfl) ?_
        refine ac_region (by kernel_rfl) ?_
        first | refine aops_val (av_move_int (by first | assumption | rfl)) ?_ | refine aops_val (av_move (by first | assumption | rfl)) ?_
        first | refine aops_val (av_add64 rfl rfl t_fits) ?_ | refine aops_val (av_add rfl rfl) ?_
        first | refine aops_val (av_assign_int rfl) ?_ | refine aops_val (av_assign rfl) ?_
        rw [← List.map_singleton, ← List.map_append, take_next hix] at hown6
        exact ⟨xs.length - (i + 1), by omega, i + 1, G6, B', c', by omega, by omega, rfl, Hp.le_trans (Hp.le_push' hleE _) hle6, hown6, e0, rfl, rfl⟩
      · intro hc3
        have hx5 : xs[i].few = ⟨xs[i].a, xs[i].b, xs[i].cost, xs[i].n⟩ := if_neg (by simpa using hc3)
        have hownE := hown.boxed [.int .i64 0, .int .i64 0, .int .i64 0, .int .u64 0] [.int .i64 xs[i].a, .int .i64 xs[i].b, .int .i64 xs[i].cost, .int .u64 xs[i].n]
        have hleE := Hp.le_put_new (b := H1.size) (Hp.le_push' hle (.own 0 [.int .i64 0, .int .i64 0, .int .i64 0, .int .u64 0])) (by rw [hz]; exact hle.1) (.own 0 [.int .i64 xs[i].a, .int .i64 xs[i].b, .int .i64 xs[i].cost, .int .u64 xs[i].n])
        refine ac_skip ?_
        refine ac_region (by kernel_rfl) ?_
        first | refine aops_val (av_move_sl (by first | assumption | rfl)) ?_ | refine aops_val (av_move (by first | assumption | rfl)) ?_
        refine aops_val (av_loadN (cs := [.int .i64 _, .int .i64 _, .int .i64 _, .int .u64 _]) rfl Try.underlying28 rfl inf28.size t_cells) ?_
        first | refine aops_make (am_buildSlice (r := [.int .i64 _, .int .i64 _, .int .i64 _, .int .u64 _]) Try.underlying22 inf28.size inf28.zero rfl (by decide) (by decide) (by decide) rfl) ?_
        have hlen : ((xs.take i).map Link.few).length = i := by rw [List.length_map, List.length_take]; omega
        refine aops_op (OwnP.append (ys := [xs[i].few]) (hownE.push _) Try.underlying22 inf28 rfl rfl rfl (sl_one (k := kLink) (by rw [hx5]; rfl) rfl hownE.size rfl) (by rw [hlen]; simp; omega) (by rw [hlen]; simp; omega) ?_)
        rintro v6 G6 H6 hle6 hown6
        obtain ⟨B', c', e6⟩ := hown6.shape
        rw [List.length_append, hlen, List.length_singleton] at e6
        subst e6
        first | refine aops_val (av_assign_sl rfl) ?_ | refine aops_val (av_assign rfl) ?_
        refine ac_region (by kernel_rfl) ?_
        first | refine aops_val (av_move_int (by first | assumption | rfl)) ?_ | refine aops_val (av_move (by first | assumption | rfl)) ?_
        first | refine aops_val (av_add64 rfl rfl t_fits) ?_ | refine aops_val (av_add rfl rfl) ?_
        first | refine aops_val (av_assign_int rfl) ?_ | refine aops_val (av_assign rfl) ?_
        rw [← List.map_singleton, ← List.map_append, take_next hix] at hown6
        exact ⟨xs.length - (i + 1), by omega, i + 1, G6, B', c', by omega, by omega, rfl, Hp.le_trans (Hp.le_push' hleE _) hle6, hown6, e0, rfl, rfl⟩
    · intro hc2
      (try simp only [decide_eq_true_eq, decide_eq_false_iff_not, Bool.not_eq_true', Bool.not_eq_false'] at hc2)
      refine ac_exit ?_
      refine ac_seq ?_
      refine ac_region (by kernel_rfl) ?_
      first | refine aops_val (av_move_sl (by first | assumption | rfl)) ?_ | refine aops_val (av_move (by first | assumption | rfl)) ?_
      first | refine aops_val (av_assign_sl rfl) ?_ | refine aops_val (av_assign rfl) ?_
      refine ac_ret ?_
      refine ⟨.slice B i c5, aresult1 (ares_tmp rfl), G, hle, ?_⟩
      have : fewL xs = (xs.take i).map Link.few := by
        unfold fewL
        rcases Nat.lt_or_ge i xs.length with h | h
        · rw [show i = 25 by first | omega | (simp_all; done) | (simp_all; omega)]
        · rw [List.take_of_length_le (by omega), List.take_of_length_le (by omega)]
      rw [this]; exact hown
  · intro hg1
    have hp1 := hg1; try simp only [decide_eq_true_eq, decide_eq_false_iff_not, Bool.not_eq_true', Bool.not_eq_false'] at hp1
    refine aops_skip (want_no rfl rfl rfl hg1 rfl) ?_
    refine aops_skip (want_no rfl rfl rfl hg1 rfl) ?_
    refine aops_val (av_pick_bool (congrArg Value.bool hg1) (by first | assumption | rfl)) ?_
    refine ac_cond_false rfl rfl ?_
    refine ac_exit ?_
    refine ac_seq ?_
    refine ac_region (by kernel_rfl) ?_
    first | refine aops_val (av_move_sl (by first | assumption | rfl)) ?_ | refine aops_val (av_move (by first | assumption | rfl)) ?_
    first | refine aops_val (av_assign_sl rfl) ?_ | refine aops_val (av_assign rfl) ?_
    refine ac_ret ?_
    refine ⟨.slice B i c5, aresult1 (ares_tmp rfl), G, hle, ?_⟩
    have : fewL xs = (xs.take i).map Link.few := by
      unfold fewL
      rcases Nat.lt_or_ge i xs.length with h | h
      · rw [show i = 25 by first | omega | (simp_all; done) | (simp_all; omega)]
      · rw [List.take_of_length_le (by omega), List.take_of_length_le (by omega)]
    rw [this]; exact hown
def OkL (x : Link) : Prop := 0 ≤ x.a ∧ x.a ≤ 9999 ∧ 0 ≤ x.b ∧ x.b ≤ 9999 ∧ 0 ≤ x.cost ∧ 1 ≤ x.n ∧ x.n ≤ 4611686018427387904
def GoodL (xs : List Link) : Prop := ∀ (i : Nat) (h : i < xs.length), OkL xs[i] ∧ (0 < i → lessL (xs[i - 1]'(by omega)) xs[i] = true)
theorem Good_raw (xs : List Link) (v : Value) (H : Hp) (hs : Sl kLink H v xs) (hl : xs.length ≤ 9223372036854775807) :
    ACalls Try.prog 15 #[v] H (fun r _ => ∃ g, r = .bool g ∧ (g = true ↔ GoodL xs)) := by
  obtain ⟨A, c, rfl⟩ := hs.shape
  refine acalls_of_code Try.func15 rfl rfl rfl (by simp) ?_
  refine ac_seq ?_
  refine ac_region (by kernel_rfl) ?_
  first | refine aops_val (av_assign_bool rfl) ?_ | refine aops_val (av_assign rfl) ?_
  refine ac_seq ?_
  refine ac_seq ?_
  refine ac_region (by kernel_rfl) ?_
  first | refine aops_val (av_assign_int rfl) ?_ | refine aops_val (av_assign rfl) ?_
  refine ac_block ?_
  refine ac_loop (fun n t H' => ∃ (i : Nat), i ≤ xs.length ∧ n = xs.length - i ∧ H.le H' ∧ (∀ (j : Nat) (h : j < xs.length), j < i → OkL xs[j] ∧ (0 < j → lessL (xs[j - 1]'(by omega)) xs[j] = true)) ∧ t 0 = .slice A xs.length c ∧ t 3 = .int .i64 i) (xs.length) (⟨0, by omega, rfl, Hp.le_refl _, fun j h h0 => by omega, rfl, rfl⟩) ?_
  rintro n t H1 ⟨i, hi, rfl, hle, hok, e0, e3⟩
  refine ac_seq ?_
  refine ac_seq ?_
  refine ac_region (by kernel_rfl) ?_
  first | refine aops_val (av_move_int (by first | assumption | rfl)) ?_ | refine aops_val (av_move (by first | assumption | rfl)) ?_
  first | refine aops_val (av_move_sl (by first | assumption | rfl)) ?_ | refine aops_val (av_move (by first | assumption | rfl)) ?_
  refine aops_val (av_len rfl Try.underlying22) ?_
  refine aops_val (av_lt rfl rfl) ?_
  refine ac_split rfl rfl ?_ ?_
  · intro hc1
    (try simp only [decide_eq_true_eq, decide_eq_false_iff_not, Bool.not_eq_true', Bool.not_eq_false'] at hc1)
    refine ac_skip ?_
    refine ac_seq ?_
    refine ac_block ?_
    refine ac_seq ?_
    refine ac_region (by kernel_rfl) ?_
    first | refine aops_val (av_move_sl (by first | assumption | rfl)) ?_ | refine aops_val (av_move (by first | assumption | rfl)) ?_
    first | refine aops_val (av_move_int (by first | assumption | rfl)) ?_ | refine aops_val (av_move (by first | assumption | rfl)) ?_
    have hix : i < xs.length := by omega
    obtain ⟨b, o, rfl, hb, hcell0⟩ := (hs.mono hle.sees).link_at hix
    have hbl : b < H1.size := hb
    refine aops_val (av_indexAddr rfl rfl Try.underlying22 inf28.size t_idx t_idx) ?_
    refine aops_val (av_loadN (cs := [.int .i64 _, .int .i64 _, .int .i64 _, .int .u64 _]) rfl Try.underlying28 rfl inf28.size t_cells) ?_
    refine aops_make (am_zero (l := [.int .i64 0, .int .i64 0, .int .i64 0, .int .u64 0]) inf28.zero rfl (by decide)) ?_
    first | refine aops_op (aop_putN (vs := [.int .i64 _, .int .i64 _, .int .i64 _, .int .u64 _]) rfl rfl inf28.size t_get t_room rfl rfl ?_)
    refine ac_seq ?_
    refine ac_seq ?_
    refine ac_region (by kernel_rfl) ?_
    refine aops_val (av_fieldOff (off := 0) rfl Try.underlying28 rfl inf3.size (by decide) rfl) ?_
    refine aops_val (av_load1 rfl Try.underlying3 rfl t_cell) ?_
    refine aops_val (av_lt rfl rfl) ?_
    first | refine aops_val (av_move_bool rfl) ?_ | refine aops_val (av_move rfl) ?_
    refine aops_guard rfl rfl rfl ?_ ?_
    · intro hg2
      have hp2 := hg2; try simp only [decide_eq_true_eq, decide_eq_false_iff_not, Bool.not_eq_true', Bool.not_eq_false'] at hp2
      refine aops_skip (want_no rfl rfl rfl hg2 rfl) ?_
      refine aops_skip (want_no rfl rfl rfl hg2 rfl) ?_
      refine aops_skip (want_no rfl rfl rfl hg2 rfl) ?_
      refine aops_val (av_pick_bool (congrArg Value.bool hg2) (by first | assumption | rfl)) ?_
      first | refine aops_val (av_move_bool rfl) ?_ | refine aops_val (av_move rfl) ?_
      refine aops_skip (want_no rfl rfl rfl rfl rfl) ?_
      refine aops_skip (want_no rfl rfl rfl rfl rfl) ?_
      refine aops_skip (want_no rfl rfl rfl rfl rfl) ?_
      refine aops_val (av_pick_bool (congrArg Value.bool (by first | assumption | rfl)) (by first | assumption | rfl)) ?_
      first | refine aops_val (av_move_bool rfl) ?_ | refine aops_val (av_move rfl) ?_
      refine aops_skip (want_no rfl rfl rfl rfl rfl) ?_
      refine aops_skip (want_no rfl rfl rfl rfl rfl) ?_
      refine aops_skip (want_no rfl rfl rfl rfl rfl) ?_
      refine aops_val (av_pick_bool (congrArg Value.bool (by first | assumption | rfl)) (by first | assumption | rfl)) ?_
      first | refine aops_val (av_move_bool rfl) ?_ | refine aops_val (av_move rfl) ?_
      refine aops_skip (want_no rfl rfl rfl rfl rfl) ?_
      refine aops_skip (want_no rfl rfl rfl rfl rfl) ?_
      refine aops_skip (want_no rfl rfl rfl rfl rfl) ?_
      refine aops_val (av_pick_bool (congrArg Value.bool (by first | assumption | rfl)) (by first | assumption | rfl)) ?_
      first | refine aops_val (av_move_bool rfl) ?_ | refine aops_val (av_move rfl) ?_
      refine aops_skip (want_no rfl rfl rfl rfl rfl) ?_
      refine aops_skip (want_no rfl rfl rfl rfl rfl) ?_
      refine aops_skip (want_no rfl rfl rfl rfl rfl) ?_
      refine aops_val (av_pick_bool (congrArg Value.bool (by first | assumption | rfl)) (by first | assumption | rfl)) ?_
      first | refine aops_val (av_move_bool rfl) ?_ | refine aops_val (av_move rfl) ?_
      refine aops_skip (want_no rfl rfl rfl rfl rfl) ?_
      refine aops_skip (want_no rfl rfl rfl rfl rfl) ?_
      refine aops_skip (want_no rfl rfl rfl rfl rfl) ?_
      refine aops_val (av_pick_bool (congrArg Value.bool (by first | assumption | rfl)) (by first | assumption | rfl)) ?_
      refine ac_cond_true rfl rfl ?_
      refine ac_seq ?_
      refine ac_region (by kernel_rfl) ?_
      first | refine aops_val (av_assign_bool rfl) ?_ | refine aops_val (av_assign rfl) ?_
      refine ac_ret ?_
      refine ⟨.bool false, aresult1 (ares_tmp rfl), false, rfl, fun h => (by cases h), fun hG => ?_⟩
      obtain ⟨⟨g1, g2, g3, g4, g5, g6, g7⟩, _⟩ := hG i hix
      exfalso; omega
    · intro hg2
      have hp2 := hg2; try simp only [decide_eq_true_eq, decide_eq_false_iff_not, Bool.not_eq_true', Bool.not_eq_false'] at hp2
      refine aops_wval (want_yes rfl rfl rfl hg2) (av_fieldOff (off := 0) rfl Try.underlying28 rfl inf3.size (by decide) rfl) ?_
      refine aops_wval (want_yes rfl rfl rfl hg2) (av_load1 rfl Try.underlying3 rfl t_cell) ?_
      refine aops_wval (want_yes rfl rfl rfl hg2) (av_gt rfl rfl) ?_
      refine aops_val (av_pick_bool (congrArg Value.bool hg2) rfl) ?_
      first | refine aops_val (av_move_bool rfl) ?_ | refine aops_val (av_move rfl) ?_
      refine aops_guard rfl rfl rfl ?_ ?_
      · intro hg4
        have hp4 := hg4; try simp only [decide_eq_true_eq, decide_eq_false_iff_not, Bool.not_eq_true', Bool.not_eq_false'] at hp4
        refine aops_skip (want_no rfl rfl rfl hg4 rfl) ?_
        refine aops_skip (want_no rfl rfl rfl hg4 rfl) ?_
        refine aops_skip (want_no rfl rfl rfl hg4 rfl) ?_
        refine aops_val (av_pick_bool (congrArg Value.bool hg4) (by first | assumption | rfl)) ?_
        first | refine aops_val (av_move_bool rfl) ?_ | refine aops_val (av_move rfl) ?_
        refine aops_skip (want_no rfl rfl rfl rfl rfl) ?_
        refine aops_skip (want_no rfl rfl rfl rfl rfl) ?_
        refine aops_skip (want_no rfl rfl rfl rfl rfl) ?_
        refine aops_val (av_pick_bool (congrArg Value.bool (by first | assumption | rfl)) (by first | assumption | rfl)) ?_
        first | refine aops_val (av_move_bool rfl) ?_ | refine aops_val (av_move rfl) ?_
        refine aops_skip (want_no rfl rfl rfl rfl rfl) ?_
        refine aops_skip (want_no rfl rfl rfl rfl rfl) ?_
        refine aops_skip (want_no rfl rfl rfl rfl rfl) ?_
        refine aops_val (av_pick_bool (congrArg Value.bool (by first | assumption | rfl)) (by first | assumption | rfl)) ?_
        first | refine aops_val (av_move_bool rfl) ?_ | refine aops_val (av_move rfl) ?_
        refine aops_skip (want_no rfl rfl rfl rfl rfl) ?_
        refine aops_skip (want_no rfl rfl rfl rfl rfl) ?_
        refine aops_skip (want_no rfl rfl rfl rfl rfl) ?_
        refine aops_val (av_pick_bool (congrArg Value.bool (by first | assumption | rfl)) (by first | assumption | rfl)) ?_
        first | refine aops_val (av_move_bool rfl) ?_ | refine aops_val (av_move rfl) ?_
        refine aops_skip (want_no rfl rfl rfl rfl rfl) ?_
        refine aops_skip (want_no rfl rfl rfl rfl rfl) ?_
        refine aops_skip (want_no rfl rfl rfl rfl rfl) ?_
        refine aops_val (av_pick_bool (congrArg Value.bool (by first | assumption | rfl)) (by first | assumption | rfl)) ?_
        refine ac_cond_true rfl rfl ?_
        refine ac_seq ?_
        refine ac_region (by kernel_rfl) ?_
        first | refine aops_val (av_assign_bool rfl) ?_ | refine aops_val (av_assign rfl) ?_
        refine ac_ret ?_
        refine ⟨.bool false, aresult1 (ares_tmp rfl), false, rfl, fun h => (by cases h), fun hG => ?_⟩
        obtain ⟨⟨g1, g2, g3, g4, g5, g6, g7⟩, _⟩ := hG i hix
        exfalso; omega
      · intro hg4
        have hp4 := hg4; try simp only [decide_eq_true_eq, decide_eq_false_iff_not, Bool.not_eq_true', Bool.not_eq_false'] at hp4
        refine aops_wval (want_yes rfl rfl rfl hg4) (av_fieldOff (off := 1) rfl Try.underlying28 rfl inf3.size (by decide) rfl) ?_
        refine aops_wval (want_yes rfl rfl rfl hg4) (av_load1 rfl Try.underlying3 rfl t_cell) ?_
        refine aops_wval (want_yes rfl rfl rfl hg4) (av_lt rfl rfl) ?_
        refine aops_val (av_pick_bool (congrArg Value.bool hg4) rfl) ?_
        first | refine aops_val (av_move_bool rfl) ?_ | refine aops_val (av_move rfl) ?_
        refine aops_guard rfl rfl rfl ?_ ?_
        · intro hg6
          have hp6 := hg6; try simp only [decide_eq_true_eq, decide_eq_false_iff_not, Bool.not_eq_true', Bool.not_eq_false'] at hp6
          refine aops_skip (want_no rfl rfl rfl hg6 rfl) ?_
          refine aops_skip (want_no rfl rfl rfl hg6 rfl) ?_
          refine aops_skip (want_no rfl rfl rfl hg6 rfl) ?_
          refine aops_val (av_pick_bool (congrArg Value.bool hg6) (by first | assumption | rfl)) ?_
          first | refine aops_val (av_move_bool rfl) ?_ | refine aops_val (av_move rfl) ?_
          refine aops_skip (want_no rfl rfl rfl rfl rfl) ?_
          refine aops_skip (want_no rfl rfl rfl rfl rfl) ?_
          refine aops_skip (want_no rfl rfl rfl rfl rfl) ?_
          refine aops_val (av_pick_bool (congrArg Value.bool (by first | assumption | rfl)) (by first | assumption | rfl)) ?_
          first | refine aops_val (av_move_bool rfl) ?_ | refine aops_val (av_move rfl) ?_
          refine aops_skip (want_no rfl rfl rfl rfl rfl) ?_
          refine aops_skip (want_no rfl rfl rfl rfl rfl) ?_
          refine aops_skip (want_no rfl rfl rfl rfl rfl) ?_
          refine aops_val (av_pick_bool (congrArg Value.bool (by first | assumption | rfl)) (by first | assumption | rfl)) ?_
          first | refine aops_val (av_move_bool rfl) ?_ | refine aops_val (av_move rfl) ?_
          refine aops_skip (want_no rfl rfl rfl rfl rfl) ?_
          refine aops_skip (want_no rfl rfl rfl rfl rfl) ?_
          refine aops_skip (want_no rfl rfl rfl rfl rfl) ?_
          refine aops_val (av_pick_bool (congrArg Value.bool (by first | assumption | rfl)) (by first | assumption | rfl)) ?_
          refine ac_cond_true rfl rfl ?_
          refine ac_seq ?_
          refine ac_region (by kernel_rfl) ?_
          first | refine aops_val (av_assign_bool rfl) ?_ | refine aops_val (av_assign rfl) ?_
          refine ac_ret ?_
          refine ⟨.bool false, aresult1 (ares_tmp rfl), false, rfl, fun h => (by cases h), fun hG => ?_⟩
          obtain ⟨⟨g1, g2, g3, g4, g5, g6, g7⟩, _⟩ := hG i hix
          exfalso; omega
        · intro hg6
          have hp6 := hg6; try simp only [decide_eq_true_eq, decide_eq_false_iff_not, Bool.not_eq_true', Bool.not_eq_false'] at hp6
          refine aops_wval (want_yes rfl rfl rfl hg6) (av_fieldOff (off := 1) rfl Try.underlying28 rfl inf3.size (by decide) rfl) ?_
          refine aops_wval (want_yes rfl rfl rfl hg6) (av_load1 rfl Try.underlying3 rfl t_cell) ?_
          refine aops_wval (want_yes rfl rfl rfl hg6) (av_gt rfl rfl) ?_
          refine aops_val (av_pick_bool (congrArg Value.bool hg6) rfl) ?_
          first | refine aops_val (av_move_bool rfl) ?_ | refine aops_val (av_move rfl) ?_
          refine aops_guard rfl rfl rfl ?_ ?_
          · intro hg8
            have hp8 := hg8; try simp only [decide_eq_true_eq, decide_eq_false_iff_not, Bool.not_eq_true', Bool.not_eq_false'] at hp8
            refine aops_skip (want_no rfl rfl rfl hg8 rfl) ?_
            refine aops_skip (want_no rfl rfl rfl hg8 rfl) ?_
            refine aops_skip (want_no rfl rfl rfl hg8 rfl) ?_
            refine aops_val (av_pick_bool (congrArg Value.bool hg8) (by first | assumption | rfl)) ?_
            first | refine aops_val (av_move_bool rfl) ?_ | refine aops_val (av_move rfl) ?_
            refine aops_skip (want_no rfl rfl rfl rfl rfl) ?_
            refine aops_skip (want_no rfl rfl rfl rfl rfl) ?_
            refine aops_skip (want_no rfl rfl rfl rfl rfl) ?_
            refine aops_val (av_pick_bool (congrArg Value.bool (by first | assumption | rfl)) (by first | assumption | rfl)) ?_
            first | refine aops_val (av_move_bool rfl) ?_ | refine aops_val (av_move rfl) ?_
            refine aops_skip (want_no rfl rfl rfl rfl rfl) ?_
            refine aops_skip (want_no rfl rfl rfl rfl rfl) ?_
            refine aops_skip (want_no rfl rfl rfl rfl rfl) ?_
            refine aops_val (av_pick_bool (congrArg Value.bool (by first | assumption | rfl)) (by first | assumption | rfl)) ?_
            refine ac_cond_true rfl rfl ?_
            refine ac_seq ?_
            refine ac_region (by kernel_rfl) ?_
            first | refine aops_val (av_assign_bool rfl) ?_ | refine aops_val (av_assign rfl) ?_
            refine ac_ret ?_
            refine ⟨.bool false, aresult1 (ares_tmp rfl), false, rfl, fun h => (by cases h), fun hG => ?_⟩
            obtain ⟨⟨g1, g2, g3, g4, g5, g6, g7⟩, _⟩ := hG i hix
            exfalso; omega
          · intro hg8
            have hp8 := hg8; try simp only [decide_eq_true_eq, decide_eq_false_iff_not, Bool.not_eq_true', Bool.not_eq_false'] at hp8
            refine aops_wval (want_yes rfl rfl rfl hg8) (av_fieldOff (off := 2) rfl Try.underlying28 rfl inf3.size (by decide) rfl) ?_
            refine aops_wval (want_yes rfl rfl rfl hg8) (av_load1 rfl Try.underlying3 rfl t_cell) ?_
            refine aops_wval (want_yes rfl rfl rfl hg8) (av_lt rfl rfl) ?_
            refine aops_val (av_pick_bool (congrArg Value.bool hg8) rfl) ?_
            first | refine aops_val (av_move_bool rfl) ?_ | refine aops_val (av_move rfl) ?_
            refine aops_guard rfl rfl rfl ?_ ?_
            · intro hg10
              have hp10 := hg10; try simp only [decide_eq_true_eq, decide_eq_false_iff_not, Bool.not_eq_true', Bool.not_eq_false'] at hp10
              refine aops_skip (want_no rfl rfl rfl hg10 rfl) ?_
              refine aops_skip (want_no rfl rfl rfl hg10 rfl) ?_
              refine aops_skip (want_no rfl rfl rfl hg10 rfl) ?_
              refine aops_val (av_pick_bool (congrArg Value.bool hg10) (by first | assumption | rfl)) ?_
              first | refine aops_val (av_move_bool rfl) ?_ | refine aops_val (av_move rfl) ?_
              refine aops_skip (want_no rfl rfl rfl rfl rfl) ?_
              refine aops_skip (want_no rfl rfl rfl rfl rfl) ?_
              refine aops_skip (want_no rfl rfl rfl rfl rfl) ?_
              refine aops_val (av_pick_bool (congrArg Value.bool (by first | assumption | rfl)) (by first | assumption | rfl)) ?_
              refine ac_cond_true rfl rfl ?_
              refine ac_seq ?_
              refine ac_region (by kernel_rfl) ?_
              first | refine aops_val (av_assign_bool rfl) ?_ | refine aops_val (av_assign rfl) ?_
              refine ac_ret ?_
              refine ⟨.bool false, aresult1 (ares_tmp rfl), false, rfl, fun h => (by cases h), fun hG => ?_⟩
              obtain ⟨⟨g1, g2, g3, g4, g5, g6, g7⟩, _⟩ := hG i hix
              exfalso; omega
            · intro hg10
              have hp10 := hg10; try simp only [decide_eq_true_eq, decide_eq_false_iff_not, Bool.not_eq_true', Bool.not_eq_false'] at hp10
              refine aops_wval (want_yes rfl rfl rfl hg10) (av_fieldOff (off := 3) rfl Try.underlying28 rfl inf26.size (by decide) rfl) ?_
              refine aops_wval (want_yes rfl rfl rfl hg10) (av_load1 rfl Try.underlying26 rfl t_cell) ?_
              refine aops_wval (want_yes rfl rfl rfl hg10) (av_lt rfl rfl) ?_
              refine aops_val (av_pick_bool (congrArg Value.bool hg10) rfl) ?_
              first | refine aops_val (av_move_bool rfl) ?_ | refine aops_val (av_move rfl) ?_
              refine aops_guard rfl rfl rfl ?_ ?_
              · intro hg12
                have hp12 := hg12; try simp only [decide_eq_true_eq, decide_eq_false_iff_not, Bool.not_eq_true', Bool.not_eq_false'] at hp12
                refine aops_skip (want_no rfl rfl rfl hg12 rfl) ?_
                refine aops_skip (want_no rfl rfl rfl hg12 rfl) ?_
                refine aops_skip (want_no rfl rfl rfl hg12 rfl) ?_
                refine aops_val (av_pick_bool (congrArg Value.bool hg12) (by first | assumption | rfl)) ?_
                refine ac_cond_true rfl rfl ?_
                refine ac_seq ?_
                refine ac_region (by kernel_rfl) ?_
                first | refine aops_val (av_assign_bool rfl) ?_ | refine aops_val (av_assign rfl) ?_
                refine ac_ret ?_
                refine ⟨.bool false, aresult1 (ares_tmp rfl), false, rfl, fun h => (by cases h), fun hG => ?_⟩
                obtain ⟨⟨g1, g2, g3, g4, g5, g6, g7⟩, _⟩ := hG i hix
                exfalso; omega
              · intro hg12
                have hp12 := hg12; try simp only [decide_eq_true_eq, decide_eq_false_iff_not, Bool.not_eq_true', Bool.not_eq_false'] at hp12
                refine aops_wval (want_yes rfl rfl rfl hg12) (av_fieldOff (off := 3) rfl Try.underlying28 rfl inf26.size (by decide) rfl) ?_
                refine aops_wval (want_yes rfl rfl rfl hg12) (av_load1 rfl Try.underlying26 rfl t_cell) ?_
                refine aops_wval (want_yes rfl rfl rfl hg12) (av_gt rfl rfl) ?_
                refine aops_val (av_pick_bool (congrArg Value.bool hg12) rfl) ?_
                refine ac_split rfl rfl ?_ ?_
                · intro hc14
                  (try simp only [decide_eq_true_eq, decide_eq_false_iff_not, Bool.not_eq_true', Bool.not_eq_false'] at hc14)
                  refine ac_seq ?_
                  refine ac_region (by kernel_rfl) ?_
                  first | refine aops_val (av_assign_bool rfl) ?_ | refine aops_val (av_assign rfl) ?_
                  refine ac_ret ?_
                  refine ⟨.bool false, aresult1 (ares_tmp rfl), false, rfl, fun h => (by cases h), fun hG => ?_⟩
                  obtain ⟨⟨g1, g2, g3, g4, g5, g6, g7⟩, _⟩ := hG i hix
                  exfalso; omega
                · intro hc14
                  (try simp only [decide_eq_true_eq, decide_eq_false_iff_not, Bool.not_eq_true', Bool.not_eq_false'] at hc14)
                  refine ac_skip ?_
                  refine ac_seq ?_
                  refine ac_draw (by kernel_rfl) (reg_of (B := [0, 1, 3, 7, 7, 23, 63, 127, 7, 511, 1023, 2047]) (π := [0, 1, 2, 3, 4, 5, 6, 7, 8, 9, 10, 11]) (by kernel_rfl)) ?_
                  first | refine adr_val rfl rfl (av_move_int (by first | assumption | rfl)) t_lt ?_ | refine adr_val rfl rfl (av_move (by first | assumption | rfl)) t_lt ?_
                  refine adr_val rfl rfl (av_gt rfl rfl) t_lt ?_
                  first | refine adr_val rfl rfl (av_move_bool rfl) t_lt ?_ | refine adr_val rfl rfl (av_move rfl) t_lt ?_
                  refine adr_guard rfl rfl rfl rfl ?_ ?_
                  · intro hg15
                    have hgt : (0 : Int) < i := of_decide_eq_true hg15
                    first | refine adr_wval rfl (want_yes rfl rfl rfl hg15) rfl (av_move_sl (by first | assumption | rfl)) t_lt ?_ | refine adr_wval rfl (want_yes rfl rfl rfl hg15) rfl (av_move (by first | assumption | rfl)) t_lt ?_
                    first | refine adr_wval rfl (want_yes rfl rfl rfl hg15) rfl (av_move_int (by first | assumption | rfl)) t_lt ?_ | refine adr_wval rfl (want_yes rfl rfl rfl hg15) rfl (av_move (by first | assumption | rfl)) t_lt ?_
                    refine adr_wval rfl (want_yes rfl rfl rfl hg15) rfl (av_sub_is (r := ((i - 1 : Nat) : Int)) rfl rfl (by omega) (by omega)) t_lt ?_
                    have hi0 : 0 < i := by omega
                    have hix1 : i - 1 < xs.length := by omega
                    obtain ⟨b2, o2, e2, hb2, hcell2⟩ := (hs.mono hle.sees).link_at hix1
                    simp only [Option.some.injEq, Addr.mk.injEq, and_true] at e2
                    obtain ⟨rfl, rfl⟩ := e2
                    refine adr_wval rfl (want_yes rfl rfl rfl hg15) rfl (av_indexAddr rfl rfl Try.underlying22 inf28.size t_idx t_idx) t_lt ?_
                    refine adr_wval rfl (want_yes rfl rfl rfl hg15) rfl (av_loadN (cs := [.int .i64 _, .int .i64 _, .int .i64 _, .int .u64 _]) rfl Try.underlying28 rfl inf28.size t_cells) t_lt ?_
                    refine adr_wval rfl (want_yes rfl rfl rfl hg15) rfl (av_loadN (cs := [.int .i64 _, .int .i64 _, .int .i64 _, .int .u64 _]) rfl Try.underlying28 rfl inf28.size t_cells) t_lt ?_
                    refine adr_wop rfl (want_yes rfl rfl rfl hg15) rfl (aop_call (Less_link _ _ _) rfl Try.func76 rfl rfl rfl ?_)
                    rintro v H ⟨rfl, rfl⟩
                    refine ⟨t_pend, ?_⟩
                    refine adr_wval rfl (want_yes rfl rfl rfl hg15) rfl (av_not rfl) t_lt ?_
                    refine adr_val rfl rfl (av_pick_bool (congrArg Value.bool hg15) rfl) t_lt ?_
                    refine ac_split rfl rfl ?_ ?_
                    · intro hc16
                      (try simp only [decide_eq_true_eq, decide_eq_false_iff_not, Bool.not_eq_true', Bool.not_eq_false'] at hc16)
                      refine ac_seq ?_
                      refine ac_region (by kernel_rfl) ?_
                      first | refine aops_val (av_assign_bool rfl) ?_ | refine aops_val (av_assign rfl) ?_
                      refine ac_ret ?_
                      refine ⟨.bool false, aresult1 (ares_tmp rfl), false, rfl, fun h => (by cases h), fun hG => ?_⟩
                      obtain ⟨_, g8⟩ := hG i hix
                      exfalso; simp_all
                    · intro hc16
                      (try simp only [decide_eq_true_eq, decide_eq_false_iff_not, Bool.not_eq_true', Bool.not_eq_false'] at hc16)
                      refine ac_skip ?_
                      refine ac_region (by kernel_rfl) ?_
                      first | refine aops_val (av_move_int (by first | assumption | rfl)) ?_ | refine aops_val (av_move (by first | assumption | rfl)) ?_
                      first | refine aops_val (av_add64 rfl rfl t_fits) ?_ | refine aops_val (av_add rfl rfl) ?_
                      first | refine aops_val (av_assign_int rfl) ?_ | refine aops_val (av_assign rfl) ?_
                      refine ⟨xs.length - (i + 1), by omega, i + 1, by omega, rfl, t_le, fun j h h0 => ?_, e0, rfl⟩
                      rcases Nat.lt_or_ge j i with h1 | h1
                      · exact hok j h h1
                      · obtain rfl : j = i := by omega
                        exact ⟨⟨by omega, by omega, by omega, by omega, by omega, by omega, by omega⟩, fun h2 => by first | omega | simp_all⟩
                  · intro hg15
                    have hgt : ¬ (0 : Int) < i := of_decide_eq_false hg15
                    refine adr_skip rfl (want_no rfl rfl rfl hg15 rfl) ?_
                    refine adr_skip rfl (want_no rfl rfl rfl hg15 rfl) ?_
                    refine adr_skip rfl (want_no rfl rfl rfl hg15 rfl) ?_
                    refine adr_skip rfl (want_no rfl rfl rfl hg15 rfl) ?_
                    refine adr_skip rfl (want_no rfl rfl rfl hg15 rfl) ?_
                    refine adr_skip rfl (want_no rfl rfl rfl hg15 rfl) ?_
                    refine adr_skip rfl (want_no rfl rfl rfl hg15 rfl) ?_
                    refine adr_skip rfl (want_no rfl rfl rfl hg15 rfl) ?_
                    refine adr_val rfl rfl (av_pick_bool (congrArg Value.bool hg15) (by first | assumption | rfl)) t_lt ?_
                    refine ac_cond_false rfl rfl ?_
                    refine ac_skip ?_
                    refine ac_region (by kernel_rfl) ?_
                    first | refine aops_val (av_move_int (by first | assumption | rfl)) ?_ | refine aops_val (av_move (by first | assumption | rfl)) ?_
                    first | refine aops_val (av_add64 rfl rfl t_fits) ?_ | refine aops_val (av_add rfl rfl) ?_
                    first | refine aops_val (av_assign_int rfl) ?_ | refine aops_val (av_assign rfl) ?_
                    refine ⟨xs.length - (i + 1), by omega, i + 1, by omega, rfl, t_le, fun j h h0 => ?_, e0, rfl⟩
                    rcases Nat.lt_or_ge j i with h1 | h1
                    · exact hok j h h1
                    · obtain rfl : j = i := by omega
                      exact ⟨⟨by omega, by omega, by omega, by omega, by omega, by omega, by omega⟩, fun h2 => by first | omega | simp_all⟩
  · intro hc1
    (try simp only [decide_eq_true_eq, decide_eq_false_iff_not, Bool.not_eq_true', Bool.not_eq_false'] at hc1)
    refine ac_exit ?_
    refine ac_seq ?_
    refine ac_region (by kernel_rfl) ?_
    first | refine aops_val (av_assign_bool rfl) ?_ | refine aops_val (av_assign rfl) ?_
    refine ac_ret ?_
    refine ⟨.bool true, aresult1 (ares_tmp rfl), true, rfl, fun _ j h => hok j h (by omega), fun _ => rfl⟩
theorem Good_links (xs : List Link) (v : Value) (H : Hp) (hs : Sl kLink H v xs) (hl : xs.length ≤ 9223372036854775807) :
    ACalls Try.prog 15 #[v] H (fun r H' => (∃ g, r = .bool g ∧ (g = true ↔ GoodL xs)) ∧ H' = H) :=
  ACalls.pure (fun v ⟨g, h, _⟩ => by rw [h]; rfl) (Good_raw xs v H.ro (hs.mono H.sees_ro) hl)
theorem Same_raw22 (xs ys : List Link) (v u : Value) (H : Hp) (hs : Sl kLink H v xs) (hu : Sl kLink H u ys) (hl : xs.length ≤ 9223372036854775807) :
    ACalls Try.prog 19 #[v, u] H (fun r _ => r = .bool (decide (xs = ys))) := by
  obtain ⟨A, c, rfl⟩ := hs.shape
  obtain ⟨B, c2, rfl⟩ := hu.shape
  refine acalls_of_code Try.func19 rfl rfl rfl (by simp) ?_
  refine ac_seq ?_
  refine ac_region (by kernel_rfl) ?_
  first | refine aops_val (av_assign_bool rfl) ?_ | refine aops_val (av_assign rfl) ?_
  refine ac_seq ?_
  refine ac_seq ?_
  refine ac_region (by kernel_rfl) ?_
  first | refine aops_val (av_move_sl rfl) ?_ | refine aops_val (av_move rfl) ?_
  refine aops_val (av_len rfl Try.underlying22) ?_
  first | refine aops_val (av_move_sl rfl) ?_ | refine aops_val (av_move rfl) ?_
  refine aops_val (av_len rfl Try.underlying22) ?_
  refine aops_val (av_ne rfl rfl) ?_
  refine ac_split rfl rfl ?_ ?_
  · intro hc1
    have hne : xs.length ≠ ys.length := by have := of_decide_eq_true hc1; omega
    refine ac_seq ?_
    refine ac_region (by kernel_rfl) ?_
    first | refine aops_val (av_assign_bool rfl) ?_ | refine aops_val (av_assign rfl) ?_
    refine ac_ret ?_
    exact ⟨.bool false, aresult1 (ares_tmp rfl), by rw [decide_eq_false (fun e => hne (by rw [e]))]⟩
  · intro hc1
    have hlen : xs.length = ys.length := by have := of_decide_eq_false hc1; omega
    refine ac_skip ?_
    refine ac_seq ?_
    refine ac_seq ?_
    refine ac_region (by kernel_rfl) ?_
    first | refine aops_val (av_assign_int rfl) ?_ | refine aops_val (av_assign rfl) ?_
    refine ac_block ?_
    refine ac_loop (fun n t H' => ∃ (i : Nat), i ≤ xs.length ∧ n = xs.length - i ∧ H' = H ∧ (∀ (j : Nat) (h : j < xs.length), j < i → xs[j] = ys[j]) ∧ t 0 = .slice A xs.length c ∧ t 1 = .slice B ys.length c2 ∧ t 5 = .int .i64 i) (xs.length) (⟨0, by omega, rfl, rfl, fun j h h0 => by omega, rfl, rfl, rfl⟩) ?_
    rintro n t _ ⟨i, hi, rfl, rfl, hok, e0, e1, e5⟩
    refine ac_seq ?_
    refine ac_seq ?_
    refine ac_region (by kernel_rfl) ?_
    first | refine aops_val (av_move_int (by first | assumption | rfl)) ?_ | refine aops_val (av_move (by first | assumption | rfl)) ?_
    first | refine aops_val (av_move_sl (by first | assumption | rfl)) ?_ | refine aops_val (av_move (by first | assumption | rfl)) ?_
    refine aops_val (av_len rfl Try.underlying22) ?_
    refine aops_val (av_lt rfl rfl) ?_
    refine ac_split rfl rfl ?_ ?_
    · intro hc2
      (try simp only [decide_eq_true_eq, decide_eq_false_iff_not, Bool.not_eq_true', Bool.not_eq_false'] at hc2)
      refine ac_skip ?_
      refine ac_seq ?_
      refine ac_block ?_
      refine ac_seq ?_
      refine ac_draw (by kernel_rfl) (reg_of (B := [0, 0, 3, 7, 0, 0, 48, 112, 255]) (π := [0, 1, 2, 3, 4, 5, 6, 7, 8]) (by kernel_rfl)) ?_
      first | refine adr_val rfl rfl (av_move_sl (by first | assumption | rfl)) t_lt ?_ | refine adr_val rfl rfl (av_move (by first | assumption | rfl)) t_lt ?_
      first | refine adr_val rfl rfl (av_move_int (by first | assumption | rfl)) t_lt ?_ | refine adr_val rfl rfl (av_move (by first | assumption | rfl)) t_lt ?_
      have hix : i < xs.length := by omega
      have hiy : i < ys.length := by omega
      obtain ⟨b, o, rfl, hb, hcell1⟩ := hs.link_at hix
      obtain ⟨b2, o2, rfl, hb2, hcell2⟩ := hu.link_at hiy
      refine adr_val rfl rfl (av_indexAddr rfl rfl Try.underlying22 inf28.size t_idx t_idx) t_lt ?_
      refine adr_val rfl rfl (av_loadN (cs := [.int .i64 _, .int .i64 _, .int .i64 _, .int .u64 _]) rfl Try.underlying28 rfl inf28.size t_cells) t_lt ?_
      first | refine adr_val rfl rfl (av_move_sl (by first | assumption | rfl)) t_lt ?_ | refine adr_val rfl rfl (av_move (by first | assumption | rfl)) t_lt ?_
      first | refine adr_val rfl rfl (av_move_int (by first | assumption | rfl)) t_lt ?_ | refine adr_val rfl rfl (av_move (by first | assumption | rfl)) t_lt ?_
      refine adr_val rfl rfl (av_indexAddr rfl rfl Try.underlying22 inf28.size t_idx t_idx) t_lt ?_
      refine adr_val rfl rfl (av_loadN (cs := [.int .i64 _, .int .i64 _, .int .i64 _, .int .u64 _]) rfl Try.underlying28 rfl inf28.size t_cells) t_lt ?_
      refine adr_val rfl rfl (av_link_neq rfl rfl) t_lt ?_
      refine ac_split rfl rfl ?_ ?_
      · intro hc3
        have hne : xs[i] ≠ ys[i] := by simpa using hc3
        refine ac_seq ?_
        refine ac_region (by kernel_rfl) ?_
        first | refine aops_val (av_assign_bool rfl) ?_ | refine aops_val (av_assign rfl) ?_
        refine ac_ret ?_
        refine ⟨.bool false, aresult1 (ares_tmp rfl), ?_⟩
        rw [decide_eq_false]
        intro e; subst e; exact hne rfl
      · intro hc3
        have heq : xs[i] = ys[i] := by simpa using hc3
        refine ac_skip ?_
        refine ac_region (by kernel_rfl) ?_
        first | refine aops_val (av_move_int (by first | assumption | rfl)) ?_ | refine aops_val (av_move (by first | assumption | rfl)) ?_
        first | refine aops_val (av_add64 rfl rfl t_fits) ?_ | refine aops_val (av_add rfl rfl) ?_
        first | refine aops_val (av_assign_int rfl) ?_ | refine aops_val (av_assign rfl) ?_
        refine ⟨xs.length - (i + 1), by omega, i + 1, by omega, rfl, rfl, fun j h h0 => ?_, e0, e1, rfl⟩
        rcases Nat.lt_or_ge j i with h1 | h1
        · exact hok j h h1
        · obtain rfl : j = i := by omega
          exact heq
    · intro hc2
      (try simp only [decide_eq_true_eq, decide_eq_false_iff_not, Bool.not_eq_true', Bool.not_eq_false'] at hc2)
      refine ac_exit ?_
      refine ac_seq ?_
      refine ac_region (by kernel_rfl) ?_
      first | refine aops_val (av_assign_bool rfl) ?_ | refine aops_val (av_assign rfl) ?_
      refine ac_ret ?_
      refine ⟨.bool true, aresult1 (ares_tmp rfl), ?_⟩
      rw [decide_eq_true]
      exact List.ext_getElem hlen fun j h1 h2 => hok j h1 (by omega)
theorem Same_links (xs ys : List Link) (v u : Value) (H : Hp) (hs : Sl kLink H v xs) (hu : Sl kLink H u ys) (hl : xs.length ≤ 9223372036854775807) :
    ACalls Try.prog 19 #[v, u] H (fun r H' => r = .bool (decide (xs = ys)) ∧ H' = H) :=
  ACalls.pure (fun v h => by rw [h]; rfl) (Same_raw22 xs ys v u H.ro (hs.mono H.sees_ro) (hu.mono H.sees_ro) hl)
end Go.Proofs.Ytnkjikpmgeknbaa.Am
namespace Go.Proofs.Ytnkjikpmgeknbaa.Am
open Go Go.RowKit
set_option maxRecDepth 100000
set_option linter.unusedVariables false
set_option linter.unusedSimpArgs false

def isAt (a b : Int) (x : Link) : Bool := decide (x.a = a) && decide (x.b = b)
def findI (xs : List Link) (a b : Int) : Int := match xs.findIdx? (isAt a b) with
  | some i => i
  | none => -1
theorem findI_some {xs : List Link} {a b : Int} {i : Nat} (hi : i < xs.length) (h : isAt a b xs[i] = true) (hno : ∀ x ∈ xs.take i, isAt a b x = false) : findI xs a b = i := by
  unfold findI
  have : xs.findIdx? (isAt a b) = some i := by
    rw [List.findIdx?_eq_some_iff_getElem]
    refine ⟨hi, h, fun j hj => ?_⟩
    have := hno xs[j] (List.mem_take_iff_getElem.2 ⟨j, by omega, rfl⟩)
    rw [this]; simp
  rw [this]
theorem findI_none {xs : List Link} {a b : Int} (hno : ∀ x ∈ xs, isAt a b x = false) : findI xs a b = -1 := by
  unfold findI
  have : xs.findIdx? (isAt a b) = none := by
    rw [List.findIdx?_eq_none_iff]; exact hno
  rw [this]
theorem findI_ge {xs : List Link} {a b : Int} : findI xs a b ≥ 0 ↔ ∃ x ∈ xs, x.a = a ∧ x.b = b := by
  unfold findI
  cases h : xs.findIdx? (isAt a b) with
  | none =>
    rw [List.findIdx?_eq_none_iff] at h
    refine ⟨fun h => by simp at h, fun ⟨x, hx, e1, e2⟩ => ?_⟩
    have := h x hx
    unfold isAt at this
    rw [decide_eq_true e1, decide_eq_true e2] at this
    cases this
  | some i =>
    obtain ⟨hi, h1, _⟩ := List.findIdx?_eq_some_iff_getElem.1 h
    unfold isAt at h1
    rw [Bool.and_eq_true, decide_eq_true_eq, decide_eq_true_eq] at h1
    exact ⟨fun _ => ⟨_, List.getElem_mem hi, h1⟩, fun _ => by simp⟩
theorem Find_raw (xs : List Link) (v : Value) (a b : Int) (H : Hp) (hs : Sl kLink H v xs) (hl : xs.length ≤ 9223372036854775807) :
    ACalls Try.prog 109 #[v, .int .i64 a, .int .i64 b] H (fun r _ => r = .int .i64 (findI xs a b)) := by
  obtain ⟨A, c, rfl⟩ := hs.shape
  refine acalls_of_code Try.func109 rfl rfl rfl (by simp) ?_
  refine ac_seq ?_
  refine ac_region (by kernel_rfl) ?_
  first | refine aops_val (av_assign_int rfl) ?_ | refine aops_val (av_assign rfl) ?_
  refine ac_seq ?_
  refine ac_seq ?_
  refine ac_region (by kernel_rfl) ?_
  first | refine aops_val (av_assign_int rfl) ?_ | refine aops_val (av_assign rfl) ?_
  refine ac_block ?_
  refine ac_loop (fun n t H' => ∃ (i : Nat), i ≤ xs.length ∧ n = xs.length - i ∧ H' = H ∧ (∀ x ∈ xs.take i, isAt a b x = false) ∧ t 0 = .slice A xs.length c ∧ t 1 = .int .i64 a ∧ t 2 = .int .i64 b ∧ t 7 = .int .i64 i) (xs.length) (⟨0, by omega, rfl, rfl, by simp, rfl, rfl, rfl, rfl⟩) ?_
  rintro n t _ ⟨i, hi, rfl, rfl, hno, e0, e1, e2, e7⟩
  refine ac_seq ?_
  refine ac_seq ?_
  refine ac_region (by kernel_rfl) ?_
  first | refine aops_val (av_move_int (by first | assumption | rfl)) ?_ | refine aops_val (av_move (by first | assumption | rfl)) ?_
  first | refine aops_val (av_move_sl (by first | assumption | rfl)) ?_ | refine aops_val (av_move (by first | assumption | rfl)) ?_
  refine aops_val (av_len rfl Try.underlying22) ?_
  refine aops_val (av_lt rfl rfl) ?_
  refine ac_split rfl rfl ?_ ?_
  · intro hc1
    (try simp only [decide_eq_true_eq, decide_eq_false_iff_not, Bool.not_eq_true', Bool.not_eq_false'] at hc1)
    refine ac_skip ?_
    refine ac_seq ?_
    refine ac_block ?_
    refine ac_seq ?_
    refine ac_region (by kernel_rfl) ?_
    first | refine aops_val (av_move_sl (by first | assumption | rfl)) ?_ | refine aops_val (av_move (by first | assumption | rfl)) ?_
    first | refine aops_val (av_move_int (by first | assumption | rfl)) ?_ | refine aops_val (av_move (by first | assumption | rfl)) ?_
    have hix : i < xs.length := by omega
    obtain ⟨b1, o1, rfl, hb1, hcell1⟩ := hs.link_at hix
    have hcella := hcell1 0 _ rfl
    have hcellb := hcell1 1 _ rfl
    refine aops_val (av_indexAddr rfl rfl Try.underlying22 inf28.size t_idx t_idx) ?_
    refine aops_val (av_fieldOff (off := 0) rfl Try.underlying28 rfl inf3.size (by decide) rfl) ?_
    refine aops_val (av_load1 rfl Try.underlying3 rfl t_cell) ?_
    first | refine aops_val (av_move_int (by first | assumption | rfl)) ?_ | refine aops_val (av_move (by first | assumption | rfl)) ?_
    refine aops_val (av_eq rfl rfl) ?_
    first | refine aops_val (av_move_bool rfl) ?_ | refine aops_val (av_move rfl) ?_
    refine aops_guard rfl rfl rfl ?_ ?_
    · intro hg2
      have hxa : xs[i].a = a := of_decide_eq_true hg2
      first | refine aops_wval (want_yes rfl rfl rfl hg2) (av_move_sl (by first | assumption | rfl)) ?_ | refine aops_wval (want_yes rfl rfl rfl hg2) (av_move (by first | assumption | rfl)) ?_
      first | refine aops_wval (want_yes rfl rfl rfl hg2) (av_move_int (by first | assumption | rfl)) ?_ | refine aops_wval (want_yes rfl rfl rfl hg2) (av_move (by first | assumption | rfl)) ?_
      refine aops_wval (want_yes rfl rfl rfl hg2) (av_indexAddr rfl rfl Try.underlying22 inf28.size t_idx t_idx) ?_
      refine aops_wval (want_yes rfl rfl rfl hg2) (av_fieldOff (off := 1) rfl Try.underlying28 rfl inf3.size (by decide) rfl) ?_
      refine aops_wval (want_yes rfl rfl rfl hg2) (av_load1 rfl Try.underlying3 rfl t_cell) ?_
      first | refine aops_wval (want_yes rfl rfl rfl hg2) (av_move_int (by first | assumption | rfl)) ?_ | refine aops_wval (want_yes rfl rfl rfl hg2) (av_move (by first | assumption | rfl)) ?_
      refine aops_wval (want_yes rfl rfl rfl hg2) (av_eq rfl rfl) ?_
      refine aops_val (av_pick_bool (congrArg Value.bool hg2) rfl) ?_
      refine ac_split rfl rfl ?_ ?_
      · intro hc3
        have hxb : xs[i].b = b := of_decide_eq_true hc3
        refine ac_seq ?_
        refine ac_region (by kernel_rfl) ?_
        first | refine aops_val (av_move_int (by first | assumption | rfl)) ?_ | refine aops_val (av_move (by first | assumption | rfl)) ?_
        first | refine aops_val (av_assign_int rfl) ?_ | refine aops_val (av_assign rfl) ?_
        refine ac_ret ?_
        exact ⟨.int .i64 i, aresult1 (ares_tmp rfl), by rw [findI_some hix (by unfold isAt; rw [decide_eq_true hxa, decide_eq_true hxb]; rfl) hno]⟩
      · intro hc3
        have hxb : xs[i].b ≠ b := of_decide_eq_false hc3
        refine ac_skip ?_
        refine ac_region (by kernel_rfl) ?_
        first | refine aops_val (av_move_int (by first | assumption | rfl)) ?_ | refine aops_val (av_move (by first | assumption | rfl)) ?_
        first | refine aops_val (av_add64 rfl rfl t_fits) ?_ | refine aops_val (av_add rfl rfl) ?_
        first | refine aops_val (av_assign_int rfl) ?_ | refine aops_val (av_assign rfl) ?_
        refine ⟨xs.length - (i + 1), by omega, i + 1, by omega, rfl, rfl, fun x hx => ?_, e0, e1, e2, rfl⟩
        rw [← take_next hix] at hx
        rcases List.mem_append.1 hx with hx | hx
        · exact hno x hx
        · rw [List.mem_singleton.1 hx]; unfold isAt
          first
            | (rw [decide_eq_false hxa]; rfl)
            | (rw [decide_eq_false hxb, Bool.and_false])
    · intro hg2
      have hxa : xs[i].a ≠ a := of_decide_eq_false hg2
      refine aops_skip (want_no rfl rfl rfl hg2 rfl) ?_
      refine aops_skip (want_no rfl rfl rfl hg2 rfl) ?_
      refine aops_skip (want_no rfl rfl rfl hg2 rfl) ?_
      refine aops_skip (want_no rfl rfl rfl hg2 rfl) ?_
      refine aops_skip (want_no rfl rfl rfl hg2 rfl) ?_
      refine aops_skip (want_no rfl rfl rfl hg2 rfl) ?_
      refine aops_skip (want_no rfl rfl rfl hg2 rfl) ?_
      refine aops_val (av_pick_bool (congrArg Value.bool hg2) (by first | assumption | rfl)) ?_
      refine ac_cond_false rfl rfl ?_
      refine ac_skip ?_
      refine ac_region (by kernel_rfl) ?_
      first | refine aops_val (av_move_int (by first | assumption | rfl)) ?_ | refine aops_val (av_move (by first | assumption | rfl)) ?_
      first | refine aops_val (av_add64 rfl rfl t_fits) ?_ | refine aops_val (av_add rfl rfl) ?_
      first | refine aops_val (av_assign_int rfl) ?_ | refine aops_val (av_assign rfl) ?_
      refine ⟨xs.length - (i + 1), by omega, i + 1, by omega, rfl, rfl, fun x hx => ?_, e0, e1, e2, rfl⟩
      rw [← take_next hix] at hx
      rcases List.mem_append.1 hx with hx | hx
      · exact hno x hx
      · rw [List.mem_singleton.1 hx]; unfold isAt
        first
          | (rw [decide_eq_false hxa]; rfl)
          | (rw [decide_eq_false hxb, Bool.and_false])
  · intro hc1
    (try simp only [decide_eq_true_eq, decide_eq_false_iff_not, Bool.not_eq_true', Bool.not_eq_false'] at hc1)
    refine ac_exit ?_
    refine ac_seq ?_
    refine ac_region (by kernel_rfl) ?_
    first | refine aops_val (av_assign_int rfl) ?_ | refine aops_val (av_assign rfl) ?_
    refine ac_ret ?_
    rw [List.take_of_length_le (by omega)] at hno
    exact ⟨.int .i64 (-1), aresult1 (ares_tmp rfl), by rw [findI_none hno]⟩
theorem Find_links (xs : List Link) (v : Value) (a b : Int) (H : Hp) (hs : Sl kLink H v xs) (hl : xs.length ≤ 9223372036854775807) :
    ACalls Try.prog 109 #[v, .int .i64 a, .int .i64 b] H (fun r H' => r = .int .i64 (findI xs a b) ∧ H' = H) :=
  ACalls.pure (fun v h => by rw [h]; rfl) (Find_raw xs v a b H.ro (hs.mono H.sees_ro) hl)
def withinR (xs fs ts : List Link) : List Link := xs.filter fun x => decide (findI fs x.a x.a ≥ 0) && decide (findI ts x.b x.b ≥ 0)
def endedR (ns ls : List Link) (second : Bool) : List Link := ns.filter fun x => ls.any fun y => decide ((if second then y.b else y.a) = x.a)
theorem within_ref (xs fs ts : List Link) (v vf vt : Value) (H : Hp) (hs : Sl kLink H v xs) (hf : Sl kLink H vf fs) (ht : Sl kLink H vt ts) (hl : xs.length ≤ 1000000) (hlf : fs.length ≤ 1000000) (hlt : ts.length ≤ 1000000) :
    ACalls Try.prog 105 #[v, vf, vt] H (fun r H' => ∃ G', H.le G' ∧ OwnP kLink G' H' r (withinR xs fs ts)) := by
  obtain ⟨A, c, rfl⟩ := hs.shape
  obtain ⟨Af, cf, rfl⟩ := hf.shape
  obtain ⟨At, ct, rfl⟩ := ht.shape
  refine acalls_of_code Try.func105 rfl rfl rfl (by simp) ?_
  refine ac_seq ?_
  refine ac_region (by kernel_rfl) ?_
  first | refine aops_val (av_assign_sl rfl) ?_ | refine aops_val (av_assign rfl) ?_
  refine ac_seq ?_
  refine ac_region (by kernel_rfl) ?_
  first | refine aops_make (am_buildSlice (r := []) Try.underlying22 inf28.size inf28.zero rfl (by decide) (by decide) (by decide) rfl) ?_
  first | refine aops_val (av_assign_sl rfl) ?_ | refine aops_val (av_assign rfl) ?_
  refine ac_seq ?_
  refine ac_seq ?_
  refine ac_region (by kernel_rfl) ?_
  first | refine aops_val (av_assign_int rfl) ?_ | refine aops_val (av_assign rfl) ?_
  refine ac_block ?_
  refine ac_loop (fun n t H' => ∃ (i : Nat) (G : Hp) (B : Option Addr) (c5 : Nat), i ≤ xs.length ∧ n = xs.length - i ∧ H.le G ∧ OwnP kLink G H' (.slice B (withinR (xs.take i) fs ts).length c5) (withinR (xs.take i) fs ts) ∧ t 0 = .slice A xs.length c ∧ t 1 = .slice Af fs.length cf ∧ t 2 = .slice At ts.length ct ∧ t 7 = .slice B (withinR (xs.take i) fs ts).length c5 ∧ t 8 = .int .i64 i) (xs.length) (⟨0, H.push .dead, _, _, by omega, rfl, H.le_push _, OwnP.lit kLink H, rfl, rfl, rfl, rfl, rfl⟩) ?_
  rintro n t H1 ⟨i, G, B, c5, hi, rfl, hle, hown, e0, e1, e2, e7, e8⟩
  have hz := hown.size
  have hleH1 := Hp.le_trans hle hown.le
  have hlen : (withinR (xs.take i) fs ts).length ≤ i := Nat.le_trans (List.length_filter_le _ _) (by rw [List.length_take]; omega)
  refine ac_seq ?_
  refine ac_seq ?_
  refine ac_region (by kernel_rfl) ?_
  first | refine aops_val (av_move_int (by first | assumption | rfl)) ?_ | refine aops_val (av_move (by first | assumption | rfl)) ?_
  first | refine aops_val (av_move_sl (by first | assumption | rfl)) ?_ | refine aops_val (av_move (by first | assumption | rfl)) ?_
  refine aops_val (av_len rfl Try.underlying22) ?_
  refine aops_val (av_lt rfl rfl) ?_
  refine ac_split rfl rfl ?_ ?_
  · intro hc1
    (try simp only [decide_eq_true_eq, decide_eq_false_iff_not, Bool.not_eq_true', Bool.not_eq_false'] at hc1)
    refine ac_skip ?_
    refine ac_seq ?_
    refine ac_block ?_
    refine ac_seq ?_
    refine ac_draw (by kernel_rfl) (reg_of (B := [0, 0, 0, 6, 14, 30, 0, 0, 192, 448, 960, 2047, 4095, 8191, 16383, 16383, 16383, 114687, 245759, 507903, 16383, 16383, 3162111, 7356415, 15745023, 33554431, 67108863, 134217727]) (π := [0, 1, 2, 3, 4, 5, 6, 7, 8, 9, 10, 11, 12, 13, 14, 15, 16, 17, 18, 19, 20, 21, 22, 23, 24, 25, 26, 27]) (by kernel_rfl)) ?_
    first | refine adr_val rfl rfl (av_move_sl (by first | assumption | rfl)) t_lt ?_ | refine adr_val rfl rfl (av_move (by first | assumption | rfl)) t_lt ?_
    first | refine adr_val rfl rfl (av_move_sl (by first | assumption | rfl)) t_lt ?_ | refine adr_val rfl rfl (av_move (by first | assumption | rfl)) t_lt ?_
    first | refine adr_val rfl rfl (av_move_int (by first | assumption | rfl)) t_lt ?_ | refine adr_val rfl rfl (av_move (by first | assumption | rfl)) t_lt ?_
    have hix : i < xs.length := by omega
    obtain ⟨b1, o1, rfl, hb1, hcell1⟩ := (hs.mono hle.sees).link_at hix
    have hcells := hown.le.cells hb1 hcell1
    have hcella := hcells 0 _ rfl
    have hcellb := hcells 1 _ rfl
    refine adr_val rfl rfl (av_indexAddr rfl rfl Try.underlying22 inf28.size t_idx t_idx) t_lt ?_
    refine adr_val rfl rfl (av_fieldOff (off := 0) rfl Try.underlying28 rfl inf3.size (by decide) rfl) t_lt ?_
    refine adr_val rfl rfl (av_load1 rfl Try.underlying3 rfl t_cell) t_lt ?_
    first | refine adr_val rfl rfl (av_move_sl (by first | assumption | rfl)) t_lt ?_ | refine adr_val rfl rfl (av_move (by first | assumption | rfl)) t_lt ?_
    first | refine adr_val rfl rfl (av_move_int (by first | assumption | rfl)) t_lt ?_ | refine adr_val rfl rfl (av_move (by first | assumption | rfl)) t_lt ?_
    refine adr_val rfl rfl (av_indexAddr rfl rfl Try.underlying22 inf28.size t_idx t_idx) t_lt ?_
    refine adr_val rfl rfl (av_fieldOff (off := 0) rfl Try.underlying28 rfl inf3.size (by decide) rfl) t_lt ?_
    refine adr_val rfl rfl (av_load1 rfl Try.underlying3 rfl t_cell) t_lt ?_
    refine adr_op rfl rfl (aop_call (Find_links fs _ _ _ _ (hf.mono hleH1.sees) (by omega)) rfl Try.func109 rfl rfl rfl ?_)
    rintro v5 H5 ⟨rfl, rfl⟩
    refine ⟨t_pend, ?_⟩
    refine adr_val rfl rfl (av_ge rfl rfl) t_lt ?_
    first | refine adr_val rfl rfl (av_move_bool rfl) t_lt ?_ | refine adr_val rfl rfl (av_move rfl) t_lt ?_
    refine adr_guard rfl rfl rfl rfl ?_ ?_
    · intro hg2
      have hfa : findI fs xs[i].a xs[i].a ≥ 0 := of_decide_eq_true hg2
      first | refine adr_wval rfl (want_yes rfl rfl rfl hg2) rfl (av_move_sl (by first | assumption | rfl)) t_lt ?_ | refine adr_wval rfl (want_yes rfl rfl rfl hg2) rfl (av_move (by first | assumption | rfl)) t_lt ?_
      first | refine adr_wval rfl (want_yes rfl rfl rfl hg2) rfl (av_move_sl (by first | assumption | rfl)) t_lt ?_ | refine adr_wval rfl (want_yes rfl rfl rfl hg2) rfl (av_move (by first | assumption | rfl)) t_lt ?_
      first | refine adr_wval rfl (want_yes rfl rfl rfl hg2) rfl (av_move_int (by first | assumption | rfl)) t_lt ?_ | refine adr_wval rfl (want_yes rfl rfl rfl hg2) rfl (av_move (by first | assumption | rfl)) t_lt ?_
      refine adr_wval rfl (want_yes rfl rfl rfl hg2) rfl (av_indexAddr rfl rfl Try.underlying22 inf28.size t_idx t_idx) t_lt ?_
      refine adr_wval rfl (want_yes rfl rfl rfl hg2) rfl (av_fieldOff (off := 1) rfl Try.underlying28 rfl inf3.size (by decide) rfl) t_lt ?_
      refine adr_wval rfl (want_yes rfl rfl rfl hg2) rfl (av_load1 rfl Try.underlying3 rfl t_cell) t_lt ?_
      first | refine adr_wval rfl (want_yes rfl rfl rfl hg2) rfl (av_move_sl (by first | assumption | rfl)) t_lt ?_ | refine adr_wval rfl (want_yes rfl rfl rfl hg2) rfl (av_move (by first | assumption | rfl)) t_lt ?_
      first | refine adr_wval rfl (want_yes rfl rfl rfl hg2) rfl (av_move_int (by first | assumption | rfl)) t_lt ?_ | refine adr_wval rfl (want_yes rfl rfl rfl hg2) rfl (av_move (by first | assumption | rfl)) t_lt ?_
      refine adr_wval rfl (want_yes rfl rfl rfl hg2) rfl (av_indexAddr rfl rfl Try.underlying22 inf28.size t_idx t_idx) t_lt ?_
      refine adr_wval rfl (want_yes rfl rfl rfl hg2) rfl (av_fieldOff (off := 1) rfl Try.underlying28 rfl inf3.size (by decide) rfl) t_lt ?_
      refine adr_wval rfl (want_yes rfl rfl rfl hg2) rfl (av_load1 rfl Try.underlying3 rfl t_cell) t_lt ?_
      refine adr_wop rfl (want_yes rfl rfl rfl hg2) rfl (aop_call (Find_links ts _ _ _ _ (ht.mono hleH1.sees) (by omega)) rfl Try.func109 rfl rfl rfl ?_)
      rintro v6 H6 ⟨rfl, rfl⟩
      refine ⟨t_pend, ?_⟩
      refine adr_wval rfl (want_yes rfl rfl rfl hg2) rfl (av_ge rfl rfl) t_lt ?_
      refine adr_val rfl rfl (av_pick_bool (congrArg Value.bool hg2) rfl) t_lt ?_
      refine ac_split rfl rfl ?_ ?_
      · intro hc3
        have hta : findI ts xs[i].b xs[i].b ≥ 0 := of_decide_eq_true hc3
        have hw1 : withinR (xs.take (i + 1)) fs ts = withinR (xs.take i) fs ts ++ [xs[i]] := by
          unfold withinR
          rw [← take_next hix, List.filter_append, List.filter_cons_of_pos (by rw [decide_eq_true hfa, decide_eq_true hta]; rfl)]
          simp
        refine ac_region (by kernel_rfl) ?_
        first | refine aops_val (av_move_sl (by first | assumption | rfl)) ?_ | refine aops_val (av_move (by first | assumption | rfl)) ?_
        first | refine aops_val (av_move_sl (by first | assumption | rfl)) ?_ | refine aops_val (av_move (by first | assumption | rfl)) ?_
        first | refine aops_val (av_move_int (by first | assumption | rfl)) ?_ | refine aops_val (av_move (by first | assumption | rfl)) ?_
        refine aops_val (av_indexAddr rfl rfl Try.underlying22 inf28.size t_idx t_idx) ?_
        refine aops_val (av_loadN (cs := [.int .i64 _, .int .i64 _, .int .i64 _, .int .u64 _]) rfl Try.underlying28 rfl inf28.size t_cells) ?_
        first | refine aops_make (am_buildSlice (r := [.int .i64 _, .int .i64 _, .int .i64 _, .int .u64 _]) Try.underlying22 inf28.size inf28.zero rfl (by decide) (by decide) (by decide) rfl) ?_
        refine aops_op (OwnP.append (ys := [xs[i]]) (hown.push _) Try.underlying22 inf28 rfl rfl rfl (sl_one (k := kLink) rfl rfl hown.size rfl) (by simp only [List.length_singleton]; omega) (by simp only [List.length_singleton]; omega) ?_)
        rintro v6 G6 H6 hle6 hown6
        rw [← hw1] at hown6
        obtain ⟨B', c', e6⟩ := hown6.shape
        subst e6
        first | refine aops_val (av_assign_sl rfl) ?_ | refine aops_val (av_assign rfl) ?_
        refine ac_region (by kernel_rfl) ?_
        first | refine aops_val (av_move_int (by first | assumption | rfl)) ?_ | refine aops_val (av_move (by first | assumption | rfl)) ?_
        first | refine aops_val (av_add64 rfl rfl t_fits) ?_ | refine aops_val (av_add rfl rfl) ?_
        first | refine aops_val (av_assign_int rfl) ?_ | refine aops_val (av_assign rfl) ?_
        first
        | exact ⟨xs.length - (i + 1), by omega, i + 1, G6, B', c', by omega, rfl, Hp.le_trans (Hp.le_push' hle _) hle6, hown6, e0, e1, e2, rfl, rfl⟩
        | exact ⟨xs.length - (i + 1), by omega, i + 1, G, B, c5, by omega, rfl, hle, by rw [hw2]; exact hown, e0, e1, e2, by rw [hw2]; exact e7, rfl⟩
      · intro hc3
        have hta : ¬ findI ts xs[i].b xs[i].b ≥ 0 := of_decide_eq_false hc3
        have hw2 : withinR (xs.take (i + 1)) fs ts = withinR (xs.take i) fs ts := by
          unfold withinR
          rw [← take_next hix, List.filter_append, List.filter_cons_of_neg (by rw [decide_eq_false hta]; simp)]
          simp
        refine ac_skip ?_
        refine ac_region (by kernel_rfl) ?_
        first | refine aops_val (av_move_int (by first | assumption | rfl)) ?_ | refine aops_val (av_move (by first | assumption | rfl)) ?_
        first | refine aops_val (av_add64 rfl rfl t_fits) ?_ | refine aops_val (av_add rfl rfl) ?_
        first | refine aops_val (av_assign_int rfl) ?_ | refine aops_val (av_assign rfl) ?_
        first
        | exact ⟨xs.length - (i + 1), by omega, i + 1, G6, B', c', by omega, rfl, Hp.le_trans (Hp.le_push' hle _) hle6, hown6, e0, e1, e2, rfl, rfl⟩
        | exact ⟨xs.length - (i + 1), by omega, i + 1, G, B, c5, by omega, rfl, hle, by rw [hw2]; exact hown, e0, e1, e2, by rw [hw2]; exact e7, rfl⟩
    · intro hg2
      have hfa : ¬ findI fs xs[i].a xs[i].a ≥ 0 := of_decide_eq_false hg2
      have hw2 : withinR (xs.take (i + 1)) fs ts = withinR (xs.take i) fs ts := by
        unfold withinR
        rw [← take_next hix, List.filter_append, List.filter_cons_of_neg (by rw [decide_eq_false hfa]; simp)]
        simp
      refine adr_skip rfl (want_no rfl rfl rfl hg2 rfl) ?_
      refine adr_skip rfl (want_no rfl rfl rfl hg2 rfl) ?_
      refine adr_skip rfl (want_no rfl rfl rfl hg2 rfl) ?_
      refine adr_skip rfl (want_no rfl rfl rfl hg2 rfl) ?_
      refine adr_skip rfl (want_no rfl rfl rfl hg2 rfl) ?_
      refine adr_skip rfl (want_no rfl rfl rfl hg2 rfl) ?_
      refine adr_skip rfl (want_no rfl rfl rfl hg2 rfl) ?_
      refine adr_skip rfl (want_no rfl rfl rfl hg2 rfl) ?_
      refine adr_skip rfl (want_no rfl rfl rfl hg2 rfl) ?_
      refine adr_skip rfl (want_no rfl rfl rfl hg2 rfl) ?_
      refine adr_skip rfl (want_no rfl rfl rfl hg2 rfl) ?_
      refine adr_skip rfl (want_no rfl rfl rfl hg2 rfl) ?_
      refine adr_skip rfl (want_no rfl rfl rfl hg2 rfl) ?_
      refine adr_val rfl rfl (av_pick_bool (congrArg Value.bool hg2) (by first | assumption | rfl)) t_lt ?_
      refine ac_cond_false rfl rfl ?_
      refine ac_skip ?_
      refine ac_region (by kernel_rfl) ?_
      first | refine aops_val (av_move_int (by first | assumption | rfl)) ?_ | refine aops_val (av_move (by first | assumption | rfl)) ?_
      first | refine aops_val (av_add64 rfl rfl t_fits) ?_ | refine aops_val (av_add rfl rfl) ?_
      first | refine aops_val (av_assign_int rfl) ?_ | refine aops_val (av_assign rfl) ?_
      first
      | exact ⟨xs.length - (i + 1), by omega, i + 1, G6, B', c', by omega, rfl, Hp.le_trans (Hp.le_push' hle _) hle6, hown6, e0, e1, e2, rfl, rfl⟩
      | exact ⟨xs.length - (i + 1), by omega, i + 1, G, B, c5, by omega, rfl, hle, by rw [hw2]; exact hown, e0, e1, e2, by rw [hw2]; exact e7, rfl⟩
  · intro hc1
    (try simp only [decide_eq_true_eq, decide_eq_false_iff_not, Bool.not_eq_true', Bool.not_eq_false'] at hc1)
    refine ac_exit ?_
    refine ac_seq ?_
    refine ac_region (by kernel_rfl) ?_
    first | refine aops_val (av_move_sl (by first | assumption | rfl)) ?_ | refine aops_val (av_move (by first | assumption | rfl)) ?_
    first | refine aops_val (av_assign_sl rfl) ?_ | refine aops_val (av_assign rfl) ?_
    refine ac_ret ?_
    have h2 : withinR (xs.take i) fs ts = withinR xs fs ts := by rw [List.take_of_length_le (by omega)]
    refine ⟨.slice B (withinR (xs.take i) fs ts).length c5, aresult1 (ares_tmp rfl), G, hle, ?_⟩
    rw [← h2]; exact hown
theorem endedR_next {ns ls : List Link} {second : Bool} {i : Nat} (h : i < ns.length) : endedR (ns.take (i + 1)) ls second = endedR (ns.take i) ls second ++ (if (ls.any fun y => decide ((if second then y.b else y.a) = ns[i].a)) = true then [ns[i]] else []) := by
  unfold endedR
  rw [← take_next h, List.filter_append, List.filter_cons, List.filter_nil]
theorem any_next {ls : List Link} {q : Link → Bool} {j : Nat} (h : j < ls.length) : (ls.take (j + 1)).any q = ((ls.take j).any q || q ls[j]) := by
  rw [← take_next h, List.any_append]; simp
theorem ended_ref (ns ls : List Link) (second : Bool) (v vl : Value) (H : Hp) (hs : Sl kLink H v ns) (hf : Sl kLink H vl ls) (hl : ns.length ≤ 1000000) (hlf : ls.length ≤ 1000000) :
    ACalls Try.prog 106 #[v, vl, .bool second] H (fun r H' => ∃ G', H.le G' ∧ OwnP kLink G' H' r (endedR ns ls second)) := by
  obtain ⟨A, c, rfl⟩ := hs.shape
  obtain ⟨Af, cf, rfl⟩ := hf.shape
  refine acalls_of_code Try.func106 rfl rfl rfl (by simp) ?_
  refine ac_seq ?_
  refine ac_region (by kernel_rfl) ?_
  first | refine aops_val (av_assign_sl rfl) ?_ | refine aops_val (av_assign rfl) ?_
  refine ac_seq ?_
  refine ac_region (by kernel_rfl) ?_
  first | refine aops_make (am_buildSlice (r := []) Try.underlying22 inf28.size inf28.zero rfl (by decide) (by decide) (by decide) rfl) ?_
  first | refine aops_val (av_assign_sl rfl) ?_ | refine aops_val (av_assign rfl) ?_
  refine ac_seq ?_
  refine ac_seq ?_
  refine ac_region (by kernel_rfl) ?_
  first | refine aops_val (av_assign_int rfl) ?_ | refine aops_val (av_assign rfl) ?_
  refine ac_block ?_
  refine ac_loop (fun n t H' => ∃ (i : Nat) (G : Hp) (B : Option Addr) (c5 : Nat), i ≤ ns.length ∧ n = ns.length - i ∧ H.le G ∧ OwnP kLink G H' (.slice B (endedR (ns.take i) ls second).length c5) (endedR (ns.take i) ls second) ∧ t 0 = .slice A ns.length c ∧ t 1 = .slice Af ls.length cf ∧ t 2 = .bool second ∧ t 7 = .slice B (endedR (ns.take i) ls second).length c5 ∧ t 8 = .int .i64 i) (ns.length) (⟨0, H.push .dead, _, _, by omega, rfl, H.le_push _, OwnP.lit kLink H, rfl, rfl, rfl, rfl, rfl⟩) ?_
  rintro n t H1 ⟨i, G, B, c5, hi, rfl, hle, hown, e0, e1, e2, e7, e8⟩
  have hz := hown.size
  have hleH1 := Hp.le_trans hle hown.le
  have hlen : (endedR (ns.take i) ls second).length ≤ i := Nat.le_trans (List.length_filter_le _ _) (by rw [List.length_take]; omega)
  refine ac_seq ?_
  refine ac_seq ?_
  refine ac_region (by kernel_rfl) ?_
  first | refine aops_val (av_move_int (by first | assumption | rfl)) ?_ | refine aops_val (av_move (by first | assumption | rfl)) ?_
  first | refine aops_val (av_move_sl (by first | assumption | rfl)) ?_ | refine aops_val (av_move (by first | assumption | rfl)) ?_
  refine aops_val (av_len rfl Try.underlying22) ?_
  refine aops_val (av_lt rfl rfl) ?_
  refine ac_split rfl rfl ?_ ?_
  · intro hc1
    (try simp only [decide_eq_true_eq, decide_eq_false_iff_not, Bool.not_eq_true', Bool.not_eq_false'] at hc1)
    refine ac_skip ?_
    refine ac_seq ?_
    refine ac_block ?_
    refine ac_seq ?_
    have hix : i < ns.length := by omega
    obtain ⟨b1, o1, rfl, hb1, hcell1⟩ := (hs.mono hle.sees).link_at hix
    have hcells := hown.le.cells hb1 hcell1
    have hcella := hcells 0 _ rfl
    refine ac_region (by kernel_rfl) ?_
    first | refine aops_val (av_assign_bool rfl) ?_ | refine aops_val (av_assign rfl) ?_
    refine ac_seq ?_
    refine ac_seq ?_
    refine ac_region (by kernel_rfl) ?_
    first | refine aops_val (av_assign_int rfl) ?_ | refine aops_val (av_assign rfl) ?_
    refine ac_block ?_
    refine ac_loop (fun n t H' => ∃ (j : Nat), j ≤ ls.length ∧ n = ls.length - j ∧ H' = H1 ∧ t 0 = .slice (some ⟨b1, o1, none⟩) ns.length c ∧ t 1 = .slice Af ls.length cf ∧ t 2 = .bool second ∧ t 7 = .slice B (endedR (ns.take i) ls second).length c5 ∧ t 8 = .int .i64 i ∧ t 9 = .bool ((ls.take j).any fun y => decide ((if second then y.b else y.a) = ns[i].a)) ∧ t 10 = .int .i64 j) (ls.length) (⟨0, by omega, rfl, rfl, e0, e1, e2, e7, e8, rfl, rfl⟩) ?_
    rintro n t H1 ⟨j, hj, rfl, rfl, e0, e1, e2, e7, e8, e9, e10⟩
    refine ac_seq ?_
    refine ac_seq ?_
    refine ac_region (by kernel_rfl) ?_
    first | refine aops_val (av_move_int (by first | assumption | rfl)) ?_ | refine aops_val (av_move (by first | assumption | rfl)) ?_
    first | refine aops_val (av_move_sl (by first | assumption | rfl)) ?_ | refine aops_val (av_move (by first | assumption | rfl)) ?_
    refine aops_val (av_len rfl Try.underlying22) ?_
    refine aops_val (av_lt rfl rfl) ?_
    refine ac_split rfl rfl ?_ ?_
    · intro hc2
      (try simp only [decide_eq_true_eq, decide_eq_false_iff_not, Bool.not_eq_true', Bool.not_eq_false'] at hc2)
      refine ac_skip ?_
      refine ac_seq ?_
      refine ac_block ?_
      refine ac_draw (by kernel_rfl) (reg_of (B := [0, 1, 3, 7, 15, 31, 31, 127, 255, 511, 31, 31, 3103, 7199, 15391, 32767, 65535, 131071, 262143, 524287, 1048575, 2097151, 2097151, 8388607, 16777215, 33554431, 2097151, 2097151, 203423743, 471859199, 1008730111, 2147483647, 4294967295, 8589934591, 17179869183]) (π := [0, 1, 2, 3, 4, 5, 6, 7, 8, 9, 10, 11, 12, 13, 14, 15, 16, 17, 18, 19, 20, 21, 22, 23, 24, 25, 26, 27, 28, 29, 30, 31, 32, 33, 34]) (by kernel_rfl)) ?_
      have hjx : j < ls.length := by omega
      obtain ⟨b2, o2, rfl, hb2, hcell2⟩ := (hf.mono hleH1.sees).link_at hjx
      have hcella2 := hcell2 0 _ rfl
      have hcellb2 := hcell2 1 _ rfl
      first | refine adr_val rfl rfl (av_move_bool (by first | assumption | rfl)) t_lt ?_ | refine adr_val rfl rfl (av_move (by first | assumption | rfl)) t_lt ?_
      first | refine adr_val rfl rfl (av_move_bool rfl) t_lt ?_ | refine adr_val rfl rfl (av_move rfl) t_lt ?_
      refine adr_guard rfl rfl rfl rfl ?_ ?_
      · intro hg3
        have hp3 := hg3; try simp only [decide_eq_true_eq, decide_eq_false_iff_not, Bool.not_eq_true', Bool.not_eq_false'] at hp3
        refine adr_skip rfl (want_no rfl rfl rfl hg3 rfl) ?_
        refine adr_skip rfl (want_no rfl rfl rfl hg3 rfl) ?_
        refine adr_skip rfl (want_no rfl rfl rfl hg3 rfl) ?_
        refine adr_skip rfl (want_gone rfl rfl rfl) ?_
        refine adr_skip rfl (want_gone rfl rfl rfl) ?_
        refine adr_skip rfl (want_gone rfl rfl rfl) ?_
        refine adr_skip rfl (want_gone rfl rfl rfl) ?_
        refine adr_skip rfl (want_gone rfl rfl rfl) ?_
        refine adr_skip rfl (want_gone rfl rfl rfl) ?_
        refine adr_skip rfl (want_gone rfl rfl rfl) ?_
        refine adr_skip rfl (want_gone rfl rfl rfl) ?_
        refine adr_skip rfl (want_gone rfl rfl rfl) ?_
        refine adr_skip rfl (want_gone rfl rfl rfl) ?_
        refine adr_skip rfl (want_gone rfl rfl rfl) ?_
        refine adr_skip rfl (want_no rfl rfl rfl hg3 rfl) ?_
        refine adr_val rfl rfl (av_pick_bool (congrArg Value.bool hg3) (by first | assumption | rfl)) t_lt ?_
        first | refine adr_val rfl rfl (av_move_bool rfl) t_lt ?_ | refine adr_val rfl rfl (av_move rfl) t_lt ?_
        refine adr_skip rfl (want_no rfl rfl rfl rfl rfl) ?_
        refine adr_skip rfl (want_no rfl rfl rfl rfl rfl) ?_
        refine adr_skip rfl (want_gone rfl rfl rfl) ?_
        refine adr_skip rfl (want_gone rfl rfl rfl) ?_
        refine adr_skip rfl (want_gone rfl rfl rfl) ?_
        refine adr_skip rfl (want_gone rfl rfl rfl) ?_
        refine adr_skip rfl (want_gone rfl rfl rfl) ?_
        refine adr_skip rfl (want_gone rfl rfl rfl) ?_
        refine adr_skip rfl (want_gone rfl rfl rfl) ?_
        refine adr_skip rfl (want_gone rfl rfl rfl) ?_
        refine adr_skip rfl (want_gone rfl rfl rfl) ?_
        refine adr_skip rfl (want_gone rfl rfl rfl) ?_
        refine adr_skip rfl (want_gone rfl rfl rfl) ?_
        refine adr_skip rfl (want_no rfl rfl rfl rfl rfl) ?_
        refine adr_val rfl rfl (av_pick_bool (congrArg Value.bool (by first | assumption | rfl)) (by first | assumption | rfl)) t_lt ?_
        first | refine adr_val rfl rfl (av_assign_bool rfl) t_lt ?_ | refine adr_val rfl rfl (av_assign rfl) t_lt ?_
        refine ac_region (by kernel_rfl) ?_
        first | refine aops_val (av_move_int (by first | assumption | rfl)) ?_ | refine aops_val (av_move (by first | assumption | rfl)) ?_
        first | refine aops_val (av_add64 rfl rfl t_fits) ?_ | refine aops_val (av_add rfl rfl) ?_
        first | refine aops_val (av_assign_int rfl) ?_ | refine aops_val (av_assign rfl) ?_
        refine ⟨ls.length - (j + 1), by omega, j + 1, by omega, rfl, rfl, e0, e1, e2, e7, e8, ?_, rfl⟩
        rw [any_next hjx]
        refine congrArg Value.bool ?_
        cases second <;> simp_all
      · intro hg3
        have hp3 := hg3; try simp only [decide_eq_true_eq, decide_eq_false_iff_not, Bool.not_eq_true', Bool.not_eq_false'] at hp3
        first | refine adr_wval rfl (want_yes rfl rfl rfl hg3) rfl (av_move_bool (by first | assumption | rfl)) t_lt ?_ | refine adr_wval rfl (want_yes rfl rfl rfl hg3) rfl (av_move (by first | assumption | rfl)) t_lt ?_
        refine adr_wval rfl (want_yes rfl rfl rfl hg3) rfl (av_not rfl) t_lt ?_
        first | refine adr_wval rfl (want_yes rfl rfl rfl hg3) rfl (av_move_bool rfl) t_lt ?_ | refine adr_wval rfl (want_yes rfl rfl rfl hg3) rfl (av_move rfl) t_lt ?_
        refine adr_guard rfl rfl rfl rfl ?_ ?_
        · intro hg4
          have hp4 := hg4; try simp only [decide_eq_true_eq, decide_eq_false_iff_not, Bool.not_eq_true', Bool.not_eq_false'] at hp4
          first | refine adr_wval rfl (want_yes rfl rfl rfl hg4) rfl (av_move_sl (by first | assumption | rfl)) t_lt ?_ | refine adr_wval rfl (want_yes rfl rfl rfl hg4) rfl (av_move (by first | assumption | rfl)) t_lt ?_
          first | refine adr_wval rfl (want_yes rfl rfl rfl hg4) rfl (av_move_int (by first | assumption | rfl)) t_lt ?_ | refine adr_wval rfl (want_yes rfl rfl rfl hg4) rfl (av_move (by first | assumption | rfl)) t_lt ?_
          refine adr_wval rfl (want_yes rfl rfl rfl hg4) rfl (av_indexAddr rfl rfl Try.underlying22 inf28.size t_idx t_idx) t_lt ?_
          refine adr_wval rfl (want_yes rfl rfl rfl hg4) rfl (av_fieldOff (off := 0) rfl Try.underlying28 rfl inf3.size (by decide) rfl) t_lt ?_
          refine adr_wval rfl (want_yes rfl rfl rfl hg4) rfl (av_load1 rfl Try.underlying3 rfl t_cell) t_lt ?_
          first | refine adr_wval rfl (want_yes rfl rfl rfl hg4) rfl (av_move_sl (by first | assumption | rfl)) t_lt ?_ | refine adr_wval rfl (want_yes rfl rfl rfl hg4) rfl (av_move (by first | assumption | rfl)) t_lt ?_
          first | refine adr_wval rfl (want_yes rfl rfl rfl hg4) rfl (av_move_int (by first | assumption | rfl)) t_lt ?_ | refine adr_wval rfl (want_yes rfl rfl rfl hg4) rfl (av_move (by first | assumption | rfl)) t_lt ?_
          refine adr_wval rfl (want_yes rfl rfl rfl hg4) rfl (av_indexAddr rfl rfl Try.underlying22 inf28.size t_idx t_idx) t_lt ?_
          refine adr_wval rfl (want_yes rfl rfl rfl hg4) rfl (av_fieldOff (off := 0) rfl Try.underlying28 rfl inf3.size (by decide) rfl) t_lt ?_
          refine adr_wval rfl (want_yes rfl rfl rfl hg4) rfl (av_load1 rfl Try.underlying3 rfl t_cell) t_lt ?_
          refine adr_wval rfl (want_yes rfl rfl rfl hg4) rfl (av_eq rfl rfl) t_lt ?_
          refine adr_wval rfl (want_yes rfl rfl rfl hg3) rfl (av_pick_bool (congrArg Value.bool hg4) rfl) t_lt ?_
          refine adr_val rfl rfl (av_pick_bool (congrArg Value.bool hg3) rfl) t_lt ?_
          first | refine adr_val rfl rfl (av_move_bool rfl) t_lt ?_ | refine adr_val rfl rfl (av_move rfl) t_lt ?_
          refine adr_guard rfl rfl rfl rfl ?_ ?_
          · intro hg5
            have hp5 := hg5; try simp only [decide_eq_true_eq, decide_eq_false_iff_not, Bool.not_eq_true', Bool.not_eq_false'] at hp5
            refine adr_skip rfl (want_no rfl rfl rfl hg5 rfl) ?_
            refine adr_skip rfl (want_no rfl rfl rfl hg5 rfl) ?_
            refine adr_skip rfl (want_gone rfl rfl rfl) ?_
            refine adr_skip rfl (want_gone rfl rfl rfl) ?_
            refine adr_skip rfl (want_gone rfl rfl rfl) ?_
            refine adr_skip rfl (want_gone rfl rfl rfl) ?_
            refine adr_skip rfl (want_gone rfl rfl rfl) ?_
            refine adr_skip rfl (want_gone rfl rfl rfl) ?_
            refine adr_skip rfl (want_gone rfl rfl rfl) ?_
            refine adr_skip rfl (want_gone rfl rfl rfl) ?_
            refine adr_skip rfl (want_gone rfl rfl rfl) ?_
            refine adr_skip rfl (want_gone rfl rfl rfl) ?_
            refine adr_skip rfl (want_gone rfl rfl rfl) ?_
            refine adr_skip rfl (want_no rfl rfl rfl hg5 rfl) ?_
            refine adr_val rfl rfl (av_pick_bool (congrArg Value.bool hg5) (by first | assumption | rfl)) t_lt ?_
            first | refine adr_val rfl rfl (av_assign_bool rfl) t_lt ?_ | refine adr_val rfl rfl (av_assign rfl) t_lt ?_
            refine ac_region (by kernel_rfl) ?_
            first | refine aops_val (av_move_int (by first | assumption | rfl)) ?_ | refine aops_val (av_move (by first | assumption | rfl)) ?_
            first | refine aops_val (av_add64 rfl rfl t_fits) ?_ | refine aops_val (av_add rfl rfl) ?_
            first | refine aops_val (av_assign_int rfl) ?_ | refine aops_val (av_assign rfl) ?_
            refine ⟨ls.length - (j + 1), by omega, j + 1, by omega, rfl, rfl, e0, e1, e2, e7, e8, ?_, rfl⟩
            rw [any_next hjx]
            refine congrArg Value.bool ?_
            cases second <;> simp_all
          · intro hg5
            have hp5 := hg5; try simp only [decide_eq_true_eq, decide_eq_false_iff_not, Bool.not_eq_true', Bool.not_eq_false'] at hp5
            first | refine adr_wval rfl (want_yes rfl rfl rfl hg5) rfl (av_move_bool (by first | assumption | rfl)) t_lt ?_ | refine adr_wval rfl (want_yes rfl rfl rfl hg5) rfl (av_move (by first | assumption | rfl)) t_lt ?_
            first | refine adr_wval rfl (want_yes rfl rfl rfl hg5) rfl (av_move_bool rfl) t_lt ?_ | refine adr_wval rfl (want_yes rfl rfl rfl hg5) rfl (av_move rfl) t_lt ?_
            refine adr_guard rfl rfl rfl rfl ?_ ?_
            · intro hg6
              have hp6 := hg6; try simp only [decide_eq_true_eq, decide_eq_false_iff_not, Bool.not_eq_true', Bool.not_eq_false'] at hp6
              first | refine adr_wval rfl (want_yes rfl rfl rfl hg6) rfl (av_move_sl (by first | assumption | rfl)) t_lt ?_ | refine adr_wval rfl (want_yes rfl rfl rfl hg6) rfl (av_move (by first | assumption | rfl)) t_lt ?_
              first | refine adr_wval rfl (want_yes rfl rfl rfl hg6) rfl (av_move_int (by first | assumption | rfl)) t_lt ?_ | refine adr_wval rfl (want_yes rfl rfl rfl hg6) rfl (av_move (by first | assumption | rfl)) t_lt ?_
              refine adr_wval rfl (want_yes rfl rfl rfl hg6) rfl (av_indexAddr rfl rfl Try.underlying22 inf28.size t_idx t_idx) t_lt ?_
              refine adr_wval rfl (want_yes rfl rfl rfl hg6) rfl (av_fieldOff (off := 1) rfl Try.underlying28 rfl inf3.size (by decide) rfl) t_lt ?_
              refine adr_wval rfl (want_yes rfl rfl rfl hg6) rfl (av_load1 rfl Try.underlying3 rfl t_cell) t_lt ?_
              first | refine adr_wval rfl (want_yes rfl rfl rfl hg6) rfl (av_move_sl (by first | assumption | rfl)) t_lt ?_ | refine adr_wval rfl (want_yes rfl rfl rfl hg6) rfl (av_move (by first | assumption | rfl)) t_lt ?_
              first | refine adr_wval rfl (want_yes rfl rfl rfl hg6) rfl (av_move_int (by first | assumption | rfl)) t_lt ?_ | refine adr_wval rfl (want_yes rfl rfl rfl hg6) rfl (av_move (by first | assumption | rfl)) t_lt ?_
              refine adr_wval rfl (want_yes rfl rfl rfl hg6) rfl (av_indexAddr rfl rfl Try.underlying22 inf28.size t_idx t_idx) t_lt ?_
              refine adr_wval rfl (want_yes rfl rfl rfl hg6) rfl (av_fieldOff (off := 0) rfl Try.underlying28 rfl inf3.size (by decide) rfl) t_lt ?_
              refine adr_wval rfl (want_yes rfl rfl rfl hg6) rfl (av_load1 rfl Try.underlying3 rfl t_cell) t_lt ?_
              refine adr_wval rfl (want_yes rfl rfl rfl hg6) rfl (av_eq rfl rfl) t_lt ?_
              refine adr_wval rfl (want_yes rfl rfl rfl hg5) rfl (av_pick_bool (congrArg Value.bool hg6) rfl) t_lt ?_
              refine adr_val rfl rfl (av_pick_bool (congrArg Value.bool hg5) rfl) t_lt ?_
              first | refine adr_val rfl rfl (av_assign_bool rfl) t_lt ?_ | refine adr_val rfl rfl (av_assign rfl) t_lt ?_
              refine ac_region (by kernel_rfl) ?_
              first | refine aops_val (av_move_int (by first | assumption | rfl)) ?_ | refine aops_val (av_move (by first | assumption | rfl)) ?_
              first | refine aops_val (av_add64 rfl rfl t_fits) ?_ | refine aops_val (av_add rfl rfl) ?_
              first | refine aops_val (av_assign_int rfl) ?_ | refine aops_val (av_assign rfl) ?_
              refine ⟨ls.length - (j + 1), by omega, j + 1, by omega, rfl, rfl, e0, e1, e2, e7, e8, ?_, rfl⟩
              rw [any_next hjx]
              refine congrArg Value.bool ?_
              cases second <;> simp_all
            · intro hg6
              have hp6 := hg6; try simp only [decide_eq_true_eq, decide_eq_false_iff_not, Bool.not_eq_true', Bool.not_eq_false'] at hp6
              refine adr_skip rfl (want_no rfl rfl rfl hg6 rfl) ?_
              refine adr_skip rfl (want_no rfl rfl rfl hg6 rfl) ?_
              refine adr_skip rfl (want_no rfl rfl rfl hg6 rfl) ?_
              refine adr_skip rfl (want_no rfl rfl rfl hg6 rfl) ?_
              refine adr_skip rfl (want_no rfl rfl rfl hg6 rfl) ?_
              refine adr_skip rfl (want_no rfl rfl rfl hg6 rfl) ?_
              refine adr_skip rfl (want_no rfl rfl rfl hg6 rfl) ?_
              refine adr_skip rfl (want_no rfl rfl rfl hg6 rfl) ?_
              refine adr_skip rfl (want_no rfl rfl rfl hg6 rfl) ?_
              refine adr_skip rfl (want_no rfl rfl rfl hg6 rfl) ?_
              refine adr_skip rfl (want_no rfl rfl rfl hg6 rfl) ?_
              refine adr_wval rfl (want_yes rfl rfl rfl hg5) rfl (av_pick_bool (congrArg Value.bool hg6) (by first | assumption | rfl)) t_lt ?_
              refine adr_val rfl rfl (av_pick_bool (congrArg Value.bool hg5) rfl) t_lt ?_
              first | refine adr_val rfl rfl (av_assign_bool rfl) t_lt ?_ | refine adr_val rfl rfl (av_assign rfl) t_lt ?_
              refine ac_region (by kernel_rfl) ?_
              first | refine aops_val (av_move_int (by first | assumption | rfl)) ?_ | refine aops_val (av_move (by first | assumption | rfl)) ?_
              first | refine aops_val (av_add64 rfl rfl t_fits) ?_ | refine aops_val (av_add rfl rfl) ?_
              first | refine aops_val (av_assign_int rfl) ?_ | refine aops_val (av_assign rfl) ?_
              refine ⟨ls.length - (j + 1), by omega, j + 1, by omega, rfl, rfl, e0, e1, e2, e7, e8, ?_, rfl⟩
              rw [any_next hjx]
              refine congrArg Value.bool ?_
              cases second <;> simp_all
        · intro hg4
          have hp4 := hg4; try simp only [decide_eq_true_eq, decide_eq_false_iff_not, Bool.not_eq_true', Bool.not_eq_false'] at hp4
          refine adr_skip rfl (want_no rfl rfl rfl hg4 rfl) ?_
          refine adr_skip rfl (want_no rfl rfl rfl hg4 rfl) ?_
          refine adr_skip rfl (want_no rfl rfl rfl hg4 rfl) ?_
          refine adr_skip rfl (want_no rfl rfl rfl hg4 rfl) ?_
          refine adr_skip rfl (want_no rfl rfl rfl hg4 rfl) ?_
          refine adr_skip rfl (want_no rfl rfl rfl hg4 rfl) ?_
          refine adr_skip rfl (want_no rfl rfl rfl hg4 rfl) ?_
          refine adr_skip rfl (want_no rfl rfl rfl hg4 rfl) ?_
          refine adr_skip rfl (want_no rfl rfl rfl hg4 rfl) ?_
          refine adr_skip rfl (want_no rfl rfl rfl hg4 rfl) ?_
          refine adr_skip rfl (want_no rfl rfl rfl hg4 rfl) ?_
          refine adr_wval rfl (want_yes rfl rfl rfl hg3) rfl (av_pick_bool (congrArg Value.bool hg4) (by first | assumption | rfl)) t_lt ?_
          refine adr_val rfl rfl (av_pick_bool (congrArg Value.bool hg3) rfl) t_lt ?_
          first | refine adr_val rfl rfl (av_move_bool rfl) t_lt ?_ | refine adr_val rfl rfl (av_move rfl) t_lt ?_
          first | refine adr_wval rfl (want_yes rfl rfl rfl rfl) rfl (av_move_bool (by first | assumption | rfl)) t_lt ?_ | refine adr_wval rfl (want_yes rfl rfl rfl rfl) rfl (av_move (by first | assumption | rfl)) t_lt ?_
          first | refine adr_wval rfl (want_yes rfl rfl rfl rfl) rfl (av_move_bool rfl) t_lt ?_ | refine adr_wval rfl (want_yes rfl rfl rfl rfl) rfl (av_move rfl) t_lt ?_
          refine adr_guard rfl rfl rfl rfl ?_ ?_
          · intro hg7
            have hp7 := hg7; try simp only [decide_eq_true_eq, decide_eq_false_iff_not, Bool.not_eq_true', Bool.not_eq_false'] at hp7
            first | refine adr_wval rfl (want_yes rfl rfl rfl hg7) rfl (av_move_sl (by first | assumption | rfl)) t_lt ?_ | refine adr_wval rfl (want_yes rfl rfl rfl hg7) rfl (av_move (by first | assumption | rfl)) t_lt ?_
            first | refine adr_wval rfl (want_yes rfl rfl rfl hg7) rfl (av_move_int (by first | assumption | rfl)) t_lt ?_ | refine adr_wval rfl (want_yes rfl rfl rfl hg7) rfl (av_move (by first | assumption | rfl)) t_lt ?_
            refine adr_wval rfl (want_yes rfl rfl rfl hg7) rfl (av_indexAddr rfl rfl Try.underlying22 inf28.size t_idx t_idx) t_lt ?_
            refine adr_wval rfl (want_yes rfl rfl rfl hg7) rfl (av_fieldOff (off := 1) rfl Try.underlying28 rfl inf3.size (by decide) rfl) t_lt ?_
            refine adr_wval rfl (want_yes rfl rfl rfl hg7) rfl (av_load1 rfl Try.underlying3 rfl t_cell) t_lt ?_
            first | refine adr_wval rfl (want_yes rfl rfl rfl hg7) rfl (av_move_sl (by first | assumption | rfl)) t_lt ?_ | refine adr_wval rfl (want_yes rfl rfl rfl hg7) rfl (av_move (by first | assumption | rfl)) t_lt ?_
            first | refine adr_wval rfl (want_yes rfl rfl rfl hg7) rfl (av_move_int (by first | assumption | rfl)) t_lt ?_ | refine adr_wval rfl (want_yes rfl rfl rfl hg7) rfl (av_move (by first | assumption | rfl)) t_lt ?_
            refine adr_wval rfl (want_yes rfl rfl rfl hg7) rfl (av_indexAddr rfl rfl Try.underlying22 inf28.size t_idx t_idx) t_lt ?_
            refine adr_wval rfl (want_yes rfl rfl rfl hg7) rfl (av_fieldOff (off := 0) rfl Try.underlying28 rfl inf3.size (by decide) rfl) t_lt ?_
            refine adr_wval rfl (want_yes rfl rfl rfl hg7) rfl (av_load1 rfl Try.underlying3 rfl t_cell) t_lt ?_
            refine adr_wval rfl (want_yes rfl rfl rfl hg7) rfl (av_eq rfl rfl) t_lt ?_
            refine adr_wval rfl (want_yes rfl rfl rfl rfl) rfl (av_pick_bool (congrArg Value.bool hg7) rfl) t_lt ?_
            refine adr_val rfl rfl (av_pick_bool (congrArg Value.bool rfl) rfl) t_lt ?_
            first | refine adr_val rfl rfl (av_assign_bool rfl) t_lt ?_ | refine adr_val rfl rfl (av_assign rfl) t_lt ?_
            refine ac_region (by kernel_rfl) ?_
            first | refine aops_val (av_move_int (by first | assumption | rfl)) ?_ | refine aops_val (av_move (by first | assumption | rfl)) ?_
            first | refine aops_val (av_add64 rfl rfl t_fits) ?_ | refine aops_val (av_add rfl rfl) ?_
            first | refine aops_val (av_assign_int rfl) ?_ | refine aops_val (av_assign rfl) ?_
            refine ⟨ls.length - (j + 1), by omega, j + 1, by omega, rfl, rfl, e0, e1, e2, e7, e8, ?_, rfl⟩
            rw [any_next hjx]
            refine congrArg Value.bool ?_
            cases second <;> simp_all
          · intro hg7
            have hp7 := hg7; try simp only [decide_eq_true_eq, decide_eq_false_iff_not, Bool.not_eq_true', Bool.not_eq_false'] at hp7
            refine adr_skip rfl (want_no rfl rfl rfl hg7 rfl) ?_
            refine adr_skip rfl (want_no rfl rfl rfl hg7 rfl) ?_
            refine adr_skip rfl (want_no rfl rfl rfl hg7 rfl) ?_
            refine adr_skip rfl (want_no rfl rfl rfl hg7 rfl) ?_
            refine adr_skip rfl (want_no rfl rfl rfl hg7 rfl) ?_
            refine adr_skip rfl (want_no rfl rfl rfl hg7 rfl) ?_
            refine adr_skip rfl (want_no rfl rfl rfl hg7 rfl) ?_
            refine adr_skip rfl (want_no rfl rfl rfl hg7 rfl) ?_
            refine adr_skip rfl (want_no rfl rfl rfl hg7 rfl) ?_
            refine adr_skip rfl (want_no rfl rfl rfl hg7 rfl) ?_
            refine adr_skip rfl (want_no rfl rfl rfl hg7 rfl) ?_
            refine adr_wval rfl (want_yes rfl rfl rfl rfl) rfl (av_pick_bool (congrArg Value.bool hg7) (by first | assumption | rfl)) t_lt ?_
            refine adr_val rfl rfl (av_pick_bool (congrArg Value.bool rfl) rfl) t_lt ?_
            first | refine adr_val rfl rfl (av_assign_bool rfl) t_lt ?_ | refine adr_val rfl rfl (av_assign rfl) t_lt ?_
            refine ac_region (by kernel_rfl) ?_
            first | refine aops_val (av_move_int (by first | assumption | rfl)) ?_ | refine aops_val (av_move (by first | assumption | rfl)) ?_
            first | refine aops_val (av_add64 rfl rfl t_fits) ?_ | refine aops_val (av_add rfl rfl) ?_
            first | refine aops_val (av_assign_int rfl) ?_ | refine aops_val (av_assign rfl) ?_
            refine ⟨ls.length - (j + 1), by omega, j + 1, by omega, rfl, rfl, e0, e1, e2, e7, e8, ?_, rfl⟩
            rw [any_next hjx]
            refine congrArg Value.bool ?_
            cases second <;> simp_all
    · intro hc2
      (try simp only [decide_eq_true_eq, decide_eq_false_iff_not, Bool.not_eq_true', Bool.not_eq_false'] at hc2)
      refine ac_exit ?_
      refine ac_seq ?_
      refine ac_region (by kernel_rfl) ?_
      first | refine aops_val (av_move_bool (by first | assumption | rfl)) ?_ | refine aops_val (av_move (by first | assumption | rfl)) ?_
      refine ac_split rfl rfl ?_ ?_
      · intro hc8
        have hany : (ls.any fun y => decide ((if second then y.b else y.a) = ns[i].a)) = true := by have h := hc8; rw [List.take_of_length_le (by omega)] at h; exact h
        have hw1 : endedR (ns.take (i + 1)) ls second = endedR (ns.take i) ls second ++ [ns[i]] := by rw [endedR_next hix, if_pos hany]
        refine ac_region (by kernel_rfl) ?_
        first | refine aops_val (av_move_sl (by first | assumption | rfl)) ?_ | refine aops_val (av_move (by first | assumption | rfl)) ?_
        first | refine aops_val (av_move_sl (by first | assumption | rfl)) ?_ | refine aops_val (av_move (by first | assumption | rfl)) ?_
        first | refine aops_val (av_move_int (by first | assumption | rfl)) ?_ | refine aops_val (av_move (by first | assumption | rfl)) ?_
        refine aops_val (av_indexAddr rfl rfl Try.underlying22 inf28.size t_idx t_idx) ?_
        refine aops_val (av_loadN (cs := [.int .i64 _, .int .i64 _, .int .i64 _, .int .u64 _]) rfl Try.underlying28 rfl inf28.size t_cells) ?_
        first | refine aops_make (am_buildSlice (r := [.int .i64 _, .int .i64 _, .int .i64 _, .int .u64 _]) Try.underlying22 inf28.size inf28.zero rfl (by decide) (by decide) (by decide) rfl) ?_
        refine aops_op (OwnP.append (ys := [ns[i]]) (hown.push _) Try.underlying22 inf28 rfl rfl rfl (sl_one (k := kLink) rfl rfl hown.size rfl) (by simp only [List.length_singleton]; omega) (by simp only [List.length_singleton]; omega) ?_)
        rintro v6 G6 H6 hle6 hown6
        rw [← hw1] at hown6
        obtain ⟨B', c', e6⟩ := hown6.shape
        subst e6
        first | refine aops_val (av_assign_sl rfl) ?_ | refine aops_val (av_assign rfl) ?_
        refine ac_region (by kernel_rfl) ?_
        first | refine aops_val (av_move_int (by first | assumption | rfl)) ?_ | refine aops_val (av_move (by first | assumption | rfl)) ?_
        first | refine aops_val (av_add64 rfl rfl t_fits) ?_ | refine aops_val (av_add rfl rfl) ?_
        first | refine aops_val (av_assign_int rfl) ?_ | refine aops_val (av_assign rfl) ?_
        first
        | exact ⟨ns.length - (i + 1), by omega, i + 1, G6, B', c', by omega, rfl, Hp.le_trans (Hp.le_push' hle _) hle6, hown6, e0, e1, e2, rfl, rfl⟩
        | exact ⟨ns.length - (i + 1), by omega, i + 1, G, B, c5, by omega, rfl, hle, by rw [hw2]; exact hown, e0, e1, e2, by rw [hw2]; exact e7, rfl⟩
      · intro hc8
        have hany : ¬ (ls.any fun y => decide ((if second then y.b else y.a) = ns[i].a)) = true := by have h := hc8; rw [List.take_of_length_le (by omega)] at h; rw [h]; simp
        have hw2 : endedR (ns.take (i + 1)) ls second = endedR (ns.take i) ls second := by rw [endedR_next hix, if_neg hany, List.append_nil]
        refine ac_skip ?_
        refine ac_region (by kernel_rfl) ?_
        first | refine aops_val (av_move_int (by first | assumption | rfl)) ?_ | refine aops_val (av_move (by first | assumption | rfl)) ?_
        first | refine aops_val (av_add64 rfl rfl t_fits) ?_ | refine aops_val (av_add rfl rfl) ?_
        first | refine aops_val (av_assign_int rfl) ?_ | refine aops_val (av_assign rfl) ?_
        first
        | exact ⟨ns.length - (i + 1), by omega, i + 1, G6, B', c', by omega, rfl, Hp.le_trans (Hp.le_push' hle _) hle6, hown6, e0, e1, e2, rfl, rfl⟩
        | exact ⟨ns.length - (i + 1), by omega, i + 1, G, B, c5, by omega, rfl, hle, by rw [hw2]; exact hown, e0, e1, e2, by rw [hw2]; exact e7, rfl⟩
  · intro hc1
    (try simp only [decide_eq_true_eq, decide_eq_false_iff_not, Bool.not_eq_true', Bool.not_eq_false'] at hc1)
    refine ac_exit ?_
    refine ac_seq ?_
    refine ac_region (by kernel_rfl) ?_
    first | refine aops_val (av_move_sl (by first | assumption | rfl)) ?_ | refine aops_val (av_move (by first | assumption | rfl)) ?_
    first | refine aops_val (av_assign_sl rfl) ?_ | refine aops_val (av_assign rfl) ?_
    refine ac_ret ?_
    have h2 : endedR (ns.take i) ls second = endedR ns ls second := by rw [List.take_of_length_le (by omega)]
    refine ⟨.slice B (endedR (ns.take i) ls second).length c5, aresult1 (ares_tmp rfl), G, hle, ?_⟩
    rw [← h2]; exact hown
end Go.Proofs.Ytnkjikpmgeknbaa.Am
namespace Go.Proofs.Ytnkjikpmgeknbaa.Am
open Go Go.RowKit
set_option maxRecDepth 100000
set_option linter.unusedVariables false
set_option linter.unusedSimpArgs false

structure Forest where
  vars : List ByteArray
  order : List Int
  parent : List Int
  links : List (List Int)
  loops : List (List Int)
def kForest : Kd Forest where
  sz := 5
  pos := by decide
  rep H f cs := ∃ v0 v1 v2 v3 v4, cs = [v0, v1, v2, v3, v4] ∧ Sl kStr H v0 f.vars ∧ Sl (kInt .i64) H v1 f.order ∧ Sl (kInt .i64) H v2 f.parent ∧ Sl (kSl (kInt .i64)) H v3 f.links ∧ Sl (kSl (kInt .i64)) H v4 f.loops
  len h := by obtain ⟨_, _, _, _, _, rfl, _⟩ := h; rfl
  mono he h := by obtain ⟨v0, v1, v2, v3, v4, rfl, h0, h1, h2, h3, h4⟩ := h; exact ⟨v0, v1, v2, v3, v4, rfl, h0.mono he, h1.mono he, h2.mono he, h3.mono he, h4.mono he⟩
  one h u hu := by
    obtain ⟨v0, v1, v2, v3, v4, rfl, h0, h1, h2, h3, h4⟩ := h
    obtain ⟨_, _, rfl⟩ := h0.shape
    obtain ⟨_, _, rfl⟩ := h1.shape
    obtain ⟨_, _, rfl⟩ := h2.shape
    obtain ⟨_, _, rfl⟩ := h3.shape
    obtain ⟨_, _, rfl⟩ := h4.shape
    simp at hu
    rcases hu with rfl | rfl | rfl | rfl | rfl <;> rfl
structure Parts where
  nodes : List (List Link)
  links : List (List Link)
def kParts : Kd Parts where
  sz := 2
  pos := by decide
  rep H p cs := ∃ v0 v1, cs = [v0, v1] ∧ Sl (kSl kLink) H v0 p.nodes ∧ Sl (kSl kLink) H v1 p.links
  len h := by obtain ⟨_, _, rfl, _⟩ := h; rfl
  mono he h := by obtain ⟨v0, v1, rfl, h0, h1⟩ := h; exact ⟨v0, v1, rfl, h0.mono he, h1.mono he⟩
  one h u hu := by
    obtain ⟨v0, v1, rfl, h0, h1⟩ := h
    obtain ⟨_, _, rfl⟩ := h0.shape
    obtain ⟨_, _, rfl⟩ := h1.shape
    simp at hu
    rcases hu with rfl | rfl <;> rfl
def cutS (s : ByteArray) (m : Nat) : ByteArray := if m < s.size then s.extract 0 m else s
theorem Cut_str (s : ByteArray) (m : Nat) (H : Hp) : ACalls Try.prog 54 #[.string s, .int .i64 m] H (fun r H' => r = .string (cutS s m) ∧ H' = H) := by
  refine acalls_of_code Try.func54 rfl rfl rfl (by simp) ?_
  refine ac_seq ?_
  refine ac_region (by kernel_rfl) ?_
  first | refine aops_val (av_assign_str rfl) ?_ | refine aops_val (av_assign rfl) ?_
  refine ac_seq ?_
  refine ac_seq ?_
  refine ac_region (by kernel_rfl) ?_
  first | refine aops_val (av_move_str rfl) ?_ | refine aops_val (av_move rfl) ?_
  refine aops_val (av_len_str rfl Try.underlying9) ?_
  first | refine aops_val (av_move_int rfl) ?_ | refine aops_val (av_move rfl) ?_
  refine aops_val (av_gt rfl rfl) ?_
  refine ac_split rfl rfl ?_ ?_
  · intro hc1
    (try simp only [decide_eq_true_eq, decide_eq_false_iff_not, Bool.not_eq_true', Bool.not_eq_false'] at hc1)
    refine ac_seq ?_
    refine ac_region (by kernel_rfl) ?_
    first | refine aops_val (av_move_str rfl) ?_ | refine aops_val (av_move rfl) ?_
    first | refine aops_val (av_move_int rfl) ?_ | refine aops_val (av_move rfl) ?_
    have hlt : m < s.size := by omega
    refine aops_val (av_substr (l := 0) (h := m) (by first | rfl | assumption) Try.underlying9 (.inl ⟨rfl, rfl⟩) (.inr ⟨_, _, rfl, by first | rfl | assumption⟩) (Nat.zero_le _) (by omega)) ?_
    first | refine aops_val (av_assign_str rfl) ?_ | refine aops_val (av_assign rfl) ?_
    refine ac_ret ?_
    exact ⟨.string (s.extract 0 m), aresult1 (ares_tmp rfl), by rw [cutS, if_pos hlt], rfl⟩
  · intro hc1
    (try simp only [decide_eq_true_eq, decide_eq_false_iff_not, Bool.not_eq_true', Bool.not_eq_false'] at hc1)
    refine ac_skip ?_
    refine ac_seq ?_
    refine ac_region (by kernel_rfl) ?_
    first | refine aops_val (av_move_str rfl) ?_ | refine aops_val (av_move rfl) ?_
    first | refine aops_val (av_assign_str rfl) ?_ | refine aops_val (av_assign rfl) ?_
    refine ac_ret ?_
    exact ⟨.string s, aresult1 (ares_tmp rfl), by rw [cutS, if_neg (by omega)], rfl⟩
def Forest.few (f : Forest) : Forest := ⟨(f.vars.take 8).map (cutS · 32), f.order.take 8, f.parent.take 8, (f.links.take 8).map (·.take 4), (f.loops.take 8).map (·.take 4)⟩
end Go.Proofs.Ytnkjikpmgeknbaa.Am
namespace Go.Proofs.Ytnkjikpmgeknbaa.Am
open Go Go.RowKit
set_option maxRecDepth 100000
set_option linter.unusedVariables false
set_option linter.unusedSimpArgs false

theorem pack_u64 {x y : Int} (h0 : 0 ≤ x) (h1 : x < 4294967296) (h2 : 0 ≤ y) (h3 : y < 4294967296) :
    IntKind.u64.wrap (BitVec.ofInt IntKind.u64.bits (IntKind.u64.wrap (x * 2 ^ min (32 : Int).toNat IntKind.u64.bits)) ||| BitVec.ofInt IntKind.u64.bits y).toNat = x * 4294967296 + y := by
  obtain ⟨m, rfl⟩ : ∃ m : Nat, x = m := ⟨x.toNat, by omega⟩
  obtain ⟨k, rfl⟩ : ∃ k : Nat, y = k := ⟨y.toNat, by omega⟩
  have e1 : IntKind.u64.wrap ((m : Int) * 2 ^ min (32 : Int).toNat IntKind.u64.bits) = ((m * 4294967296 : Nat) : Int) := by
    show IntKind.u64.wrap ((m : Int) * 4294967296) = _
    simp [IntKind.wrap, IntKind.bits, IntKind.signed]; omega
  rw [e1]
  have e2 : (BitVec.ofInt IntKind.u64.bits ((m * 4294967296 : Nat) : Int) ||| BitVec.ofInt IntKind.u64.bits (k : Int)).toNat = m * 4294967296 + k := by
    rw [BitVec.toNat_or]
    have a1 : (BitVec.ofInt IntKind.u64.bits ((m * 4294967296 : Nat) : Int)).toNat = m * 4294967296 := by
      show (BitVec.ofInt 64 _).toNat = _
      simp [BitVec.toNat_ofInt]; omega
    have a2 : (BitVec.ofInt IntKind.u64.bits (k : Int)).toNat = k := by
      show (BitVec.ofInt 64 _).toNat = _
      simp [BitVec.toNat_ofInt]; omega
    rw [a1, a2, Nat.mul_comm m, show 4294967296 = 2 ^ 32 from rfl, ← Nat.two_pow_add_eq_or_of_lt (by omega)]
  rw [e2]
  simp [IntKind.wrap, IntKind.bits, IntKind.signed]; omega
/-- A link's ends as one number. -/
def keyI (x : Link) : Int := x.a * 4294967296 + x.b
theorem conv_u32 {a : Int} (h0 : 0 ≤ a) (h1 : a < 4294967296) : IntKind.u32.wrap a = a := by simp [IntKind.wrap, IntKind.bits, IntKind.signed]; omega
theorem conv_u64 {a : Int} (h0 : 0 ≤ a) (h1 : a < 18446744073709551616) : IntKind.u64.wrap a = a := by simp [IntKind.wrap, IntKind.bits, IntKind.signed]; omega
theorem Pack_u32 (a b : Int) (ha : 0 ≤ a) (ha1 : a < 4294967296) (hb : 0 ≤ b) (hb1 : b < 4294967296) (H : Hp) : ACalls Try.prog 161 #[.int .u32 a, .int .u32 b] H (fun r H' => r = .int .u64 (a * 4294967296 + b) ∧ H' = H) := by
  refine acalls_of_code Try.func161 rfl rfl rfl (by simp) ?_
  refine ac_seq ?_
  refine ac_region (by kernel_rfl) ?_
  first | refine aops_val (av_assign_int rfl) ?_ | refine aops_val (av_assign rfl) ?_
  refine ac_seq ?_
  refine ac_region (by kernel_rfl) ?_
  first | refine aops_val (av_move_int rfl) ?_ | refine aops_val (av_move rfl) ?_
  refine aops_val (av_conv rfl (by rw [Try.underlying204]; rfl) Try.underlying26) ?_
  refine aops_val (av_shl rfl rfl (by omega)) ?_
  first | refine aops_val (av_move_int rfl) ?_ | refine aops_val (av_move rfl) ?_
  refine aops_val (av_conv rfl (by rw [Try.underlying204]; rfl) Try.underlying26) ?_
  refine aops_val (av_or rfl rfl) ?_
  first | refine aops_val (av_assign_int rfl) ?_ | refine aops_val (av_assign rfl) ?_
  refine ac_ret ?_
  refine ⟨.int .u64 (a * 4294967296 + b), aresult1 (ares_tmp ?_), rfl, rfl⟩
  show Value.int .u64 _ = _
  rw [← pack_u64 ha ha1 hb hb1]
  first | rfl | rw [conv_u64 ha (by omega), conv_u64 hb (by omega)]
theorem key_link (x : Link) (H : Hp) (ha : 0 ≤ x.a) (ha1 : x.a ≤ 9999) (hb : 0 ≤ x.b) (hb1 : x.b ≤ 9999) : ACalls Try.prog 126 #[.agg #[.int .i64 x.a, .int .i64 x.b, .int .i64 x.cost, .int .u64 x.n]] H (fun r H' => r = .int .u64 (keyI x) ∧ H' = H) := by
  refine ACalls.pure (R := fun r => r = .int .u64 (keyI x)) (fun v h => by rw [h]; rfl) ?_
  refine acalls_of_code Try.func126 rfl rfl rfl (by simp) ?_
  refine ac_seq ?_
  refine ac_region (by kernel_rfl) ?_
  refine aops_make (am_box_agg rfl) ?_
  first | refine aops_val (av_assign_int rfl) ?_ | refine aops_val (av_assign rfl) ?_
  refine ac_seq ?_
  refine ac_region (by kernel_rfl) ?_
  refine aops_val (av_fieldOff (off := 0) rfl Try.underlying28 rfl inf3.size (by decide) rfl) ?_
  refine aops_val (av_load1 rfl Try.underlying3 rfl t_cell) ?_
  refine aops_val (av_conv rfl (by rw [Try.underlying3]; rfl) Try.underlying204) ?_
  refine aops_val (av_fieldOff (off := 1) rfl Try.underlying28 rfl inf3.size (by decide) rfl) ?_
  refine aops_val (av_load1 rfl Try.underlying3 rfl t_cell) ?_
  refine aops_val (av_conv rfl (by rw [Try.underlying3]; rfl) Try.underlying204) ?_
  rw [conv_u32 ha (by omega), conv_u32 hb (by omega)]
  refine aops_op (aop_call (Pack_u32 _ _ (by omega) (by omega) (by omega) (by omega) _) rfl Try.func161 rfl rfl rfl ?_)
  rintro v H ⟨rfl, rfl⟩
  first | refine aops_val (av_assign_int rfl) ?_ | refine aops_val (av_assign rfl) ?_
  refine ac_ret ?_
  exact ⟨_, aresult1 (ares_tmp rfl), rfl⟩
def sumL (xs : List Link) : Int := xs.foldl (fun s x => addI s x.n) 0
theorem addI_nonneg {a b : Int} (ha : 0 ≤ a) (hb : 0 ≤ b) : 0 ≤ addI a b := by unfold addI mostI; omega
theorem Sum_raw (xs : List Link) (v : Value) (H : Hp) (hs : Sl kLink H v xs) (hl : xs.length ≤ 9223372036854775807) (hx : ∀ x ∈ xs, 0 ≤ x.n) :
    ACalls Try.prog 79 #[v] H (fun r _ => r = .int .u64 (sumL xs)) := by
  obtain ⟨A, c, rfl⟩ := hs.shape
  refine acalls_of_code Try.func79 rfl rfl rfl (by simp) ?_
  refine ac_seq ?_
  refine ac_region (by kernel_rfl) ?_
  first | refine aops_val (av_assign_int rfl) ?_ | refine aops_val (av_assign rfl) ?_
  refine ac_seq ?_
  refine ac_region (by kernel_rfl) ?_
  first | refine aops_val (av_assign_int rfl) ?_ | refine aops_val (av_assign rfl) ?_
  refine ac_seq ?_
  refine ac_seq ?_
  refine ac_region (by kernel_rfl) ?_
  first | refine aops_val (av_move_sl rfl) ?_ | refine aops_val (av_move rfl) ?_
  refine aops_val (av_len rfl Try.underlying22) ?_
  first | refine aops_val (av_move_int rfl) ?_ | refine aops_val (av_move rfl) ?_
  refine ac_block ?_
  refine ac_loop (fun n t H' => ∃ (i : Nat), i ≤ xs.length ∧ n = xs.length - i ∧ H.le H' ∧ 0 ≤ sumL (xs.take i) ∧ t 3 = .int .u64 (sumL (xs.take i)) ∧ t 6 = .slice A xs.length c ∧ t 7 = .int .i64 xs.length ∧ t 8 = .int .i64 i) (xs.length) (⟨0, by omega, rfl, Hp.le_refl _, by simp [sumL], rfl, rfl, rfl, rfl⟩) ?_
  rintro n t H1 ⟨i, hi, rfl, hle, h0, e3, e6, e7, e8⟩
  refine ac_seq ?_
  refine ac_region (by kernel_rfl) ?_
  refine aops_val (av_lt (by first | assumption | rfl) (by first | assumption | rfl)) ?_
  refine ac_seq ?_
  refine ac_split rfl rfl ?_ ?_
  · intro hc1
    (try simp only [decide_eq_true_eq, decide_eq_false_iff_not, Bool.not_eq_true', Bool.not_eq_false'] at hc1)
    refine ac_skip ?_
    refine ac_seq ?_
    refine ac_block ?_
    refine ac_seq ?_
    refine ac_region (by kernel_rfl) ?_
    have hix : i < xs.length := by omega
    obtain ⟨b, o, rfl, hb, hcell0⟩ := (hs.mono hle.sees).link_at hix
    have hbl : b < H1.size := hb
    have hxn := hx _ (List.getElem_mem hix)
    have hnext : addI (sumL (xs.take i)) xs[i].n = sumL (xs.take (i + 1)) := by rw [← take_next hix, sumL, sumL, List.foldl_append]; rfl
    refine aops_val (av_indexAddr (by first | assumption | rfl) (by first | assumption | rfl) Try.underlying22 inf28.size t_idx t_idx) ?_
    refine aops_val (av_loadN (cs := [.int .i64 _, .int .i64 _, .int .i64 _, .int .u64 _]) rfl Try.underlying28 rfl inf28.size t_cells) ?_
    refine aops_make (am_zero (l := [.int .i64 0, .int .i64 0, .int .i64 0, .int .u64 0]) inf28.zero rfl (by decide)) ?_
    first | refine aops_op (aop_putN (vs := [.int .i64 _, .int .i64 _, .int .i64 _, .int .u64 _]) rfl rfl inf28.size t_get t_room rfl rfl ?_)
    refine ac_region (by kernel_rfl) ?_
    first | refine aops_val (av_move_int (by first | assumption | rfl)) ?_ | refine aops_val (av_move (by first | assumption | rfl)) ?_
    refine aops_val (av_fieldOff (off := 3) rfl Try.underlying28 rfl inf26.size (by decide) rfl) ?_
    refine aops_val (av_load1 rfl Try.underlying26 rfl t_cell) ?_
    refine aops_op (aop_call (Add_u64 _ _ (by omega) (by omega) _) rfl Try.func130 rfl rfl rfl ?_)
    rintro v H ⟨rfl, rfl⟩
    first | refine aops_val (av_assign_int rfl) ?_ | refine aops_val (av_assign rfl) ?_
    refine ac_region (by kernel_rfl) ?_
    first | refine aops_val (av_add64 (by first | assumption | rfl) (by first | assumption | rfl) t_fits) ?_ | refine aops_val (av_add (by first | assumption | rfl) (by first | assumption | rfl)) ?_
    first | refine aops_val (av_move_int rfl) ?_ | refine aops_val (av_move rfl) ?_
    exact ⟨xs.length - (i + 1), by omega, i + 1, by omega, rfl, t_le, by rw [← hnext]; exact addI_nonneg h0 hxn, by rw [← hnext]; rfl, e6, e7, rfl⟩
  · intro hc1
    (try simp only [decide_eq_true_eq, decide_eq_false_iff_not, Bool.not_eq_true', Bool.not_eq_false'] at hc1)
    refine ac_exit ?_
    refine ac_seq ?_
    refine ac_region (by kernel_rfl) ?_
    first | refine aops_val (av_move_int (by first | assumption | rfl)) ?_ | refine aops_val (av_move (by first | assumption | rfl)) ?_
    first | refine aops_val (av_assign_int rfl) ?_ | refine aops_val (av_assign rfl) ?_
    refine ac_ret ?_
    refine ⟨.int .u64 (sumL (xs.take i)), aresult1 (ares_tmp (by first | assumption | rfl)), ?_⟩
    rw [List.take_of_length_le (by omega)]
theorem Sum_links (xs : List Link) (v : Value) (H : Hp) (hs : Sl kLink H v xs) (hl : xs.length ≤ 9223372036854775807) (hx : ∀ x ∈ xs, 0 ≤ x.n) :
    ACalls Try.prog 79 #[v] H (fun r H' => r = .int .u64 (sumL xs) ∧ H' = H) :=
  ACalls.pure (fun v h => by rw [h]; rfl) (Sum_raw xs v H.ro (hs.mono H.sees_ro) hl hx)
theorem one_link (c : Int) (H : Hp) : ACalls Try.prog 78 #[.int .i64 c] H (fun r H' => H.le H' ∧ Sl kLink H' r [⟨0, 1, c, 2⟩]) := by
  refine acalls_of_code Try.func78 rfl rfl rfl (by simp) ?_
  refine ac_seq ?_
  refine ac_region (by kernel_rfl) ?_
  first | refine aops_val (av_assign_sl rfl) ?_ | refine aops_val (av_assign rfl) ?_
  refine ac_seq ?_
  refine ac_region (by kernel_rfl) ?_
  first | refine aops_val (av_move_int rfl) ?_ | refine aops_val (av_move rfl) ?_
  refine aops_val (av_build (pl := [(0, 1), (1, 1), (2, 1), (3, 1)]) (r := [.int .i64 _, .int .i64 _, .int .i64 _, .int .u64 _]) Try.underlying28 inf28.zero (by decide) rfl rfl) ?_
  first | refine aops_make (am_buildSlice (r := [.int .i64 _, .int .i64 _, .int .i64 _, .int .u64 _]) Try.underlying22 inf28.size inf28.zero rfl (by decide) (by decide) (by decide) rfl) ?_
  first | refine aops_val (av_assign_sl rfl) ?_ | refine aops_val (av_assign rfl) ?_
  refine ac_ret ?_
  exact ⟨_, aresult1 (ares_tmp rfl), H.le_push _, sl_one (k := kLink) (G := H) rfl rfl rfl rfl⟩
end Go.Proofs.Ytnkjikpmgeknbaa.Am
namespace Go.Proofs.Ytnkjikpmgeknbaa.Am
open Go Go.RowKit
set_option maxRecDepth 100000
set_option linter.unusedVariables false
set_option linter.unusedSimpArgs false

theorem OwnP.box_put {α : Type} {k : Kd α} {G H : Hp} {v : Value} {xs : List α} (h : OwnP k G H v xs) {b1 : Nat} {cs : List Value} (hg : G.get b1 = .own 0 cs) (cs' : List Value) : OwnP k (G.put b1 (.own 0 cs')) (H.put b1 (.own 0 cs')) v xs :=
  h.put (by rw [hg]; intro e; cases e) _ (Hp.sees_box _ hg)
def bothF : Nat → List Link → List Link → List Link
  | 0, _, _ => []
  | n + 1, x :: a, y :: b => if keyI x < keyI y then bothF n a (y :: b) else if keyI y < keyI x then bothF n (x :: a) b else ⟨x.a, x.b, x.cost + y.cost, timesI x.n y.n⟩ :: bothF n a b
  | _ + 1, _, _ => []
def bothL (a b : List Link) : List Link := bothF (a.length + b.length) a b
theorem bothF_nil (n : Nat) (b : List Link) : bothF n [] b = [] := by cases n <;> rfl
theorem bothF_nil2 (n : Nat) (a : List Link) : bothF n a [] = [] := by cases n <;> cases a <;> rfl
theorem bothF_lt {n i j : Nat} {xs ys : List Link} (hn : 1 ≤ n) (hi : i < xs.length) (hj : j < ys.length) (h : keyI xs[i] < keyI ys[j]) : bothF n (xs.drop i) (ys.drop j) = bothF (n - 1) (xs.drop (i + 1)) (ys.drop j) := by
  obtain ⟨m, rfl⟩ : ∃ m, n = m + 1 := ⟨n - 1, by omega⟩
  rw [List.drop_eq_getElem_cons hi, List.drop_eq_getElem_cons hj, bothF, if_pos h]; rfl
theorem bothF_gt {n i j : Nat} {xs ys : List Link} (hn : 1 ≤ n) (hi : i < xs.length) (hj : j < ys.length) (h : keyI ys[j] < keyI xs[i]) : bothF n (xs.drop i) (ys.drop j) = bothF (n - 1) (xs.drop i) (ys.drop (j + 1)) := by
  obtain ⟨m, rfl⟩ : ∃ m, n = m + 1 := ⟨n - 1, by omega⟩
  rw [List.drop_eq_getElem_cons hi, List.drop_eq_getElem_cons hj, bothF, if_neg (by omega), if_pos h]; rfl
theorem bothF_eq {n i j : Nat} {xs ys : List Link} (hn : 1 ≤ n) (hi : i < xs.length) (hj : j < ys.length) (h : ¬ keyI ys[j] < keyI xs[i]) (h2 : ¬ keyI xs[i] < keyI ys[j]) :
    bothF n (xs.drop i) (ys.drop j) = ⟨xs[i].a, xs[i].b, xs[i].cost + ys[j].cost, timesI xs[i].n ys[j].n⟩ :: bothF (n - 1) (xs.drop (i + 1)) (ys.drop (j + 1)) := by
  obtain ⟨m, rfl⟩ : ∃ m, n = m + 1 := ⟨n - 1, by omega⟩
  rw [List.drop_eq_getElem_cons hi, List.drop_eq_getElem_cons hj, bothF, if_neg h2, if_neg h]; rfl
def OkB (x : Link) : Prop := 0 ≤ x.a ∧ x.a ≤ 9999 ∧ 0 ≤ x.b ∧ x.b ≤ 9999 ∧ 0 ≤ x.cost ∧ x.cost ≤ 1000000000000 ∧ 0 ≤ x.n
theorem Both_links (xs ys : List Link) (v u : Value) (H : Hp) (hs : Sl kLink H v xs) (hu : Sl kLink H u ys) (hx : ∀ x ∈ xs, OkB x) (hy : ∀ x ∈ ys, OkB x) (hl : xs.length ≤ 1000000) (hl2 : ys.length ≤ 1000000) :
    ACalls Try.prog 77 #[v, u] H (fun r H' => ∃ G, H.le G ∧ OwnP kLink G H' r (bothL xs ys)) := by
  obtain ⟨A, c, rfl⟩ := hs.shape
  obtain ⟨B, c2, rfl⟩ := hu.shape
  refine acalls_of_code Try.func77 rfl rfl rfl (by simp) ?_
  refine ac_seq ?_
  refine ac_region (by kernel_rfl) ?_
  first | refine aops_val (av_assign_sl rfl) ?_ | refine aops_val (av_assign rfl) ?_
  refine ac_seq ?_
  refine ac_region (by kernel_rfl) ?_
  first | refine aops_val (av_assign_sl rfl) ?_ | refine aops_val (av_assign rfl) ?_
  refine ac_seq ?_
  refine ac_block ?_
  refine ac_loop (fun n t H' => ∃ (i j : Nat) (out : List Link) (G : Hp) (A' : Option Addr) (c' : Nat) (B' : Option Addr) (c2' : Nat) (C : Option Addr) (c5 : Nat), i ≤ xs.length ∧ j ≤ ys.length ∧ (xs.length - i) + (ys.length - j) ≤ n ∧ out.length ≤ i ∧ out ++ bothF n (xs.drop i) (ys.drop j) = bothL xs ys ∧ H.le G ∧ OwnP kLink G H' (.slice C out.length c5) out ∧ Sl kLink G (.slice A' (xs.length - i) c') (xs.drop i) ∧ Sl kLink G (.slice B' (ys.length - j) c2') (ys.drop j) ∧ t 0 = .slice A' (xs.length - i) c' ∧ t 1 = .slice B' (ys.length - j) c2' ∧ t 5 = .slice C out.length c5) (xs.length + ys.length) (⟨0, 0, [], H, A, c, B, c2, _, _, by omega, by omega, by omega, by simp, rfl, Hp.le_refl _, OwnP.nil _ _, hs, hu, rfl, rfl, rfl⟩) ?_
  rintro n t H1 ⟨i, j, out, G, A', c', B', c2', C, c5, hi, hj, hn, hout, hboth, hle, hown, hsx, hsy, e0, e1, e5⟩
  have hz := hown.size
  refine ac_seq ?_
  refine ac_seq ?_
  refine ac_region (by kernel_rfl) ?_
  first | refine aops_val (av_move_sl (by first | assumption | rfl)) ?_ | refine aops_val (av_move (by first | assumption | rfl)) ?_
  refine aops_val (av_len rfl Try.underlying22) ?_
  refine aops_val (av_gt rfl rfl) ?_
  first | refine aops_val (av_move_bool rfl) ?_ | refine aops_val (av_move rfl) ?_
  refine aops_guard rfl rfl rfl ?_ ?_
  · intro hg1
    have hp1 := hg1; try simp only [decide_eq_true_eq, decide_eq_false_iff_not, Bool.not_eq_true', Bool.not_eq_false'] at hp1
    first | refine aops_wval (want_yes rfl rfl rfl hg1) (av_move_sl (by first | assumption | rfl)) ?_ | refine aops_wval (want_yes rfl rfl rfl hg1) (av_move (by first | assumption | rfl)) ?_
    refine aops_wval (want_yes rfl rfl rfl hg1) (av_len rfl Try.underlying22) ?_
    refine aops_wval (want_yes rfl rfl rfl hg1) (av_gt rfl rfl) ?_
    refine aops_val (av_pick_bool (congrArg Value.bool hg1) rfl) ?_
    refine ac_split rfl rfl ?_ ?_
    · intro hc2
      (try simp only [decide_eq_true_eq, decide_eq_false_iff_not, Bool.not_eq_true', Bool.not_eq_false'] at hc2)
      refine ac_skip ?_
      refine ac_block ?_
      refine ac_seq ?_
      have hix : i < xs.length := by omega
      have hjy : j < ys.length := by omega
      obtain ⟨b, o, rfl, hb, hcell0⟩ := hsx.link_at (i := 0) (by rw [List.length_drop]; omega)
      obtain ⟨b2, o2, rfl, hb2, hcell2⟩ := hsy.link_at (i := 0) (by rw [List.length_drop]; omega)
      rw [List.getElem_drop] at hcell0 hcell2
      have hcells0 := hown.le.cells hb hcell0
      have hcells2 := hown.le.cells hb2 hcell2
      simp only [Nat.add_zero] at hcells0 hcells2
      obtain ⟨x1, x2, x3, x4, x5, x6, x7⟩ := hx _ (List.getElem_mem hix)
      obtain ⟨y1, y2, y3, y4, y5, y6, y7⟩ := hy _ (List.getElem_mem hjy)
      refine ac_draw (by kernel_rfl) (reg_of (B := [0, 1, 3, 0, 8, 24, 0, 0, 199, 511]) (π := [0, 1, 2, 3, 4, 5, 6, 7, 8, 9]) (by kernel_rfl)) ?_
      first | refine adr_val rfl rfl (av_move_sl (by first | assumption | rfl)) t_lt ?_ | refine adr_val rfl rfl (av_move (by first | assumption | rfl)) t_lt ?_
      refine adr_val rfl rfl (av_indexAddr rfl rfl Try.underlying22 inf28.size t_idx t_idx) t_lt ?_
      refine adr_val rfl rfl (av_loadN (cs := [.int .i64 _, .int .i64 _, .int .i64 _, .int .u64 _]) rfl Try.underlying28 rfl inf28.size t_cells) t_lt ?_
      first | refine adr_val rfl rfl (av_move_sl (by first | assumption | rfl)) t_lt ?_ | refine adr_val rfl rfl (av_move (by first | assumption | rfl)) t_lt ?_
      refine adr_val rfl rfl (av_indexAddr rfl rfl Try.underlying22 inf28.size t_idx t_idx) t_lt ?_
      refine adr_val rfl rfl (av_loadN (cs := [.int .i64 _, .int .i64 _, .int .i64 _, .int .u64 _]) rfl Try.underlying28 rfl inf28.size t_cells) t_lt ?_
      refine adr_make rfl rfl (am_zero (l := [.int .i64 0, .int .i64 0, .int .i64 0, .int .u64 0]) inf28.zero rfl (by decide)) ?_
      refine adr_make rfl rfl (am_zero (l := [.int .i64 0, .int .i64 0, .int .i64 0, .int .u64 0]) inf28.zero rfl (by decide)) ?_
      first | refine adr_op rfl rfl (aop_putN (vs := [.int .i64 _, .int .i64 _, .int .i64 _, .int .u64 _]) rfl rfl inf28.size t_get t_room rfl rfl ?_)
      refine ⟨t_pend, ?_⟩
      first | refine adr_op rfl rfl (aop_putN (vs := [.int .i64 _, .int .i64 _, .int .i64 _, .int .u64 _]) rfl rfl inf28.size t_get t_room rfl rfl ?_)
      refine ⟨t_pend, ?_⟩
      refine ac_block ?_
      refine ac_seq ?_
      have hownB := (((hown.push (.own 0 [.int .i64 0, .int .i64 0, .int .i64 0, .int .u64 0])).push (.own 0 [.int .i64 0, .int .i64 0, .int .i64 0, .int .u64 0])).box_put (b1 := H1.size) (cs := [.int .i64 0, .int .i64 0, .int .i64 0, .int .u64 0]) (by rw [hz]; exact t_get) [.int .i64 xs[i].a, .int .i64 xs[i].b, .int .i64 xs[i].cost, .int .u64 xs[i].n]).box_put (b1 := H1.size + 1) (cs := [.int .i64 0, .int .i64 0, .int .i64 0, .int .u64 0]) (by rw [hz]; exact t_get) [.int .i64 ys[j].a, .int .i64 ys[j].b, .int .i64 ys[j].cost, .int .u64 ys[j].n]
      have hleG : G.le ((((G.push (.own 0 [.int .i64 0, .int .i64 0, .int .i64 0, .int .u64 0])).push (.own 0 [.int .i64 0, .int .i64 0, .int .i64 0, .int .u64 0])).put H1.size (.own 0 [.int .i64 xs[i].a, .int .i64 xs[i].b, .int .i64 xs[i].cost, .int .u64 xs[i].n])).put (H1.size + 1) (.own 0 [.int .i64 ys[j].a, .int .i64 ys[j].b, .int .i64 ys[j].cost, .int .u64 ys[j].n])) := Hp.le_put_new (Hp.le_put_new (Hp.le_push' (G.le_push _) _) (by rw [hz]; exact Nat.le_refl _) _) (by rw [hz]; omega) _
      have hleB := Hp.le_trans hle hleG
      refine ac_draw (by kernel_rfl) (reg_of (B := [0, 1, 0, 7, 15, 31]) (π := [0, 2, 1, 3, 4, 5]) (by kernel_rfl)) ?_
      refine adr_val rfl rfl (av_loadN (cs := [.int .i64 _, .int .i64 _, .int .i64 _, .int .u64 _]) rfl Try.underlying28 rfl inf28.size t_cells) t_lt ?_
      refine adr_val rfl rfl (av_loadN (cs := [.int .i64 _, .int .i64 _, .int .i64 _, .int .u64 _]) rfl Try.underlying28 rfl inf28.size t_cells) t_lt ?_
      refine adr_op rfl rfl (aop_call (key_link xs[i] _ x1 x2 x3 x4) rfl Try.func126 rfl rfl rfl ?_)
      rintro v H ⟨rfl, rfl⟩
      refine ⟨t_pend, ?_⟩
      refine adr_op rfl rfl (aop_call (key_link ys[j] _ y1 y2 y3 y4) rfl Try.func126 rfl rfl rfl ?_)
      rintro v H ⟨rfl, rfl⟩
      refine ⟨t_pend, ?_⟩
      refine adr_val rfl rfl (av_lt rfl rfl) t_lt ?_
      first | refine adr_val rfl rfl (av_assign_bool rfl) t_lt ?_ | refine adr_val rfl rfl (av_assign rfl) t_lt ?_
      refine ac_split rfl rfl ?_ ?_
      · intro hc3
        have hk : keyI xs[i] < keyI ys[j] := of_decide_eq_true hc3
        refine ac_region (by kernel_rfl) ?_
        first | refine aops_val (av_move_sl (by first | assumption | rfl)) ?_ | refine aops_val (av_move (by first | assumption | rfl)) ?_
        obtain ⟨A9, c9, S9, hsl9, hS9, hop9⟩ := hsx.drops (i := 1) (by rw [List.length_drop]; omega)
        rw [List.length_drop, List.drop_drop, show xs.length - i - 1 = xs.length - (i + 1) by omega] at hsl9
        rw [List.length_drop, show xs.length - i - 1 = xs.length - (i + 1) by omega] at hop9
        refine aops_val (hop9 _ _ _ _ _ _ _ _ _ _ _ _ _ (Hp.le_trans hleG hownB.le) (by first | rfl | assumption) Try.underlying22 inf28.size (by first | rfl | assumption)) ?_
        first | refine aops_val (av_assign_sl rfl) ?_ | refine aops_val (av_assign rfl) ?_
        exact ⟨n - 1, by omega, i + 1, j, out, _, A9, c9, _, c2', C, c5, by omega, hj, by omega, by omega, by rw [← hboth, bothF_lt (by omega) hix hjy hk], hleB, hownB, hsl9.mono hleG.sees, hsy.mono hleG.sees, rfl, e1, e5⟩
      · intro hc3
        have hk : ¬ keyI xs[i] < keyI ys[j] := of_decide_eq_false hc3
        refine ac_seq ?_
        refine ac_draw (by kernel_rfl) (reg_of (B := [0, 1, 0, 7, 15, 31]) (π := [0, 2, 1, 3, 4, 5]) (by kernel_rfl)) ?_
        refine adr_val rfl rfl (av_loadN (cs := [.int .i64 _, .int .i64 _, .int .i64 _, .int .u64 _]) rfl Try.underlying28 rfl inf28.size t_cells) t_lt ?_
        refine adr_val rfl rfl (av_loadN (cs := [.int .i64 _, .int .i64 _, .int .i64 _, .int .u64 _]) rfl Try.underlying28 rfl inf28.size t_cells) t_lt ?_
        refine adr_op rfl rfl (aop_call (key_link xs[i] _ x1 x2 x3 x4) rfl Try.func126 rfl rfl rfl ?_)
        rintro v H ⟨rfl, rfl⟩
        refine ⟨t_pend, ?_⟩
        refine adr_op rfl rfl (aop_call (key_link ys[j] _ y1 y2 y3 y4) rfl Try.func126 rfl rfl rfl ?_)
        rintro v H ⟨rfl, rfl⟩
        refine ⟨t_pend, ?_⟩
        refine adr_val rfl rfl (av_gt rfl rfl) t_lt ?_
        first | refine adr_val rfl rfl (av_assign_bool rfl) t_lt ?_ | refine adr_val rfl rfl (av_assign rfl) t_lt ?_
        refine ac_split rfl rfl ?_ ?_
        · intro hc4
          have hk2 : keyI ys[j] < keyI xs[i] := of_decide_eq_true hc4
          refine ac_region (by kernel_rfl) ?_
          first | refine aops_val (av_move_sl (by first | assumption | rfl)) ?_ | refine aops_val (av_move (by first | assumption | rfl)) ?_
          obtain ⟨A9, c9, S9, hsl9, hS9, hop9⟩ := hsy.drops (i := 1) (by rw [List.length_drop]; omega)
          rw [List.length_drop, List.drop_drop, show ys.length - j - 1 = ys.length - (j + 1) by omega] at hsl9
          rw [List.length_drop, show ys.length - j - 1 = ys.length - (j + 1) by omega] at hop9
          refine aops_val (hop9 _ _ _ _ _ _ _ _ _ _ _ _ _ (Hp.le_trans hleG hownB.le) (by first | rfl | assumption) Try.underlying22 inf28.size (by first | rfl | assumption)) ?_
          first | refine aops_val (av_assign_sl rfl) ?_ | refine aops_val (av_assign rfl) ?_
          exact ⟨n - 1, by omega, i, j + 1, out, _, _, c', A9, c9, C, c5, hi, by omega, by omega, by omega, by rw [← hboth, bothF_gt (by omega) hix hjy hk2], hleB, hownB, hsx.mono hleG.sees, hsl9.mono hleG.sees, e0, rfl, e5⟩
        · intro hc4
          have hk2 : ¬ keyI ys[j] < keyI xs[i] := of_decide_eq_false hc4
          refine ac_seq ?_
          refine ac_region (by kernel_rfl) ?_
          refine aops_val (av_fieldOff (off := 2) rfl Try.underlying28 rfl inf3.size (by decide) rfl) ?_
          refine aops_val (av_load1 rfl Try.underlying3 rfl t_cell) ?_
          refine aops_val (av_fieldOff (off := 2) rfl Try.underlying28 rfl inf3.size (by decide) rfl) ?_
          refine aops_val (av_load1 rfl Try.underlying3 rfl t_cell) ?_
          first | refine aops_val (av_add64 rfl rfl t_fits) ?_ | refine aops_val (av_add rfl rfl) ?_
          refine aops_val (av_fieldOff (off := 2) rfl Try.underlying28 rfl inf3.size (by decide) rfl) ?_
          first | refine aops_op (aop_put1 rfl rfl rfl inf3.size t_get t_room rfl ?_)
          refine ac_seq ?_
          refine ac_region (by kernel_rfl) ?_
          refine aops_val (av_fieldOff (off := 3) rfl Try.underlying28 rfl inf26.size (by decide) rfl) ?_
          refine aops_val (av_load1 rfl Try.underlying26 rfl t_cell) ?_
          refine aops_val (av_fieldOff (off := 3) rfl Try.underlying28 rfl inf26.size (by decide) rfl) ?_
          refine aops_val (av_load1 rfl Try.underlying26 rfl t_cell) ?_
          refine aops_op (aop_call (Times_u64 _ _ (by omega) (by omega) _) rfl Try.func129 rfl rfl rfl ?_)
          rintro v H ⟨rfl, rfl⟩
          refine aops_val (av_fieldOff (off := 3) rfl Try.underlying28 rfl inf26.size (by decide) rfl) ?_
          first | refine aops_op (aop_put1 rfl rfl rfl inf26.size t_get t_room rfl ?_)
          have hownE := (hownB.box_put (b1 := H1.size) (cs := [.int .i64 xs[i].a, .int .i64 xs[i].b, .int .i64 xs[i].cost, .int .u64 xs[i].n]) (by rw [hz]; exact t_get) [.int .i64 xs[i].a, .int .i64 xs[i].b, .int .i64 (xs[i].cost + ys[j].cost), .int .u64 xs[i].n]).box_put (b1 := H1.size) (cs := [.int .i64 xs[i].a, .int .i64 xs[i].b, .int .i64 (xs[i].cost + ys[j].cost), .int .u64 xs[i].n]) (Hp.put_same _ _ _) [.int .i64 xs[i].a, .int .i64 xs[i].b, .int .i64 (xs[i].cost + ys[j].cost), .int .u64 (timesI xs[i].n ys[j].n)]
          have hleE := Hp.le_put_new (Hp.le_put_new hleG (show G.size ≤ H1.size by omega) (.own 0 [.int .i64 xs[i].a, .int .i64 xs[i].b, .int .i64 (xs[i].cost + ys[j].cost), .int .u64 xs[i].n])) (show G.size ≤ H1.size by omega) (.own 0 [.int .i64 xs[i].a, .int .i64 xs[i].b, .int .i64 (xs[i].cost + ys[j].cost), .int .u64 (timesI xs[i].n ys[j].n)])
          obtain ⟨A9, c9, S9, hsl9, hS9, hop9⟩ := hsx.drops (i := 1) (by rw [List.length_drop]; omega)
          rw [List.length_drop, List.drop_drop, show xs.length - i - 1 = xs.length - (i + 1) by omega] at hsl9
          rw [List.length_drop, show xs.length - i - 1 = xs.length - (i + 1) by omega] at hop9
          obtain ⟨A10, c10, S10, hsl10, hS10, hop10⟩ := hsy.drops (i := 1) (by rw [List.length_drop]; omega)
          rw [List.length_drop, List.drop_drop, show ys.length - j - 1 = ys.length - (j + 1) by omega] at hsl10
          rw [List.length_drop, show ys.length - j - 1 = ys.length - (j + 1) by omega] at hop10
          have hleEH := Hp.le_trans (Hp.le_push' hleE (.own 4 [.int .i64 xs[i].a, .int .i64 xs[i].b, .int .i64 (xs[i].cost + ys[j].cost), .int .u64 (timesI xs[i].n ys[j].n)])) (hownE.push (.own 4 [.int .i64 xs[i].a, .int .i64 xs[i].b, .int .i64 (xs[i].cost + ys[j].cost), .int .u64 (timesI xs[i].n ys[j].n)])).le
          refine ac_draw (by kernel_rfl) (reg_of (B := [0, 0, 2, 7, 0, 16, 0, 64, 15, 319, 1023]) (π := [0, 1, 2, 4, 5, 6, 7, 3, 8, 9, 10]) (by kernel_rfl)) ?_
          first | refine adr_val rfl rfl (av_move_sl (by first | assumption | rfl)) t_lt ?_ | refine adr_val rfl rfl (av_move (by first | assumption | rfl)) t_lt ?_
          refine adr_val rfl rfl (av_loadN (cs := [.int .i64 _, .int .i64 _, .int .i64 _, .int .u64 _]) rfl Try.underlying28 rfl inf28.size t_cells) t_lt ?_
          first | refine adr_make rfl rfl (am_buildSlice (r := [.int .i64 _, .int .i64 _, .int .i64 _, .int .u64 _]) Try.underlying22 inf28.size inf28.zero rfl (by decide) (by decide) (by decide) rfl) ?_
          first | refine adr_val rfl rfl (av_move_sl (by first | assumption | rfl)) t_lt ?_ | refine adr_val rfl rfl (av_move (by first | assumption | rfl)) t_lt ?_
          refine adr_val rfl rfl (hop9 _ _ _ _ _ _ _ _ _ _ _ _ _ hleEH (by first | rfl | assumption) Try.underlying22 inf28.size (by first | rfl | assumption)) (fun b hb => by have := (hS9 b hb).1; have := hleEH.1; exact Nat.lt_of_lt_of_le (hS9 b hb).1 hleEH.1) ?_
          first | refine adr_val rfl rfl (av_move_sl (by first | assumption | rfl)) t_lt ?_ | refine adr_val rfl rfl (av_move (by first | assumption | rfl)) t_lt ?_
          refine adr_val rfl rfl (hop10 _ _ _ _ _ _ _ _ _ _ _ _ _ hleEH (by first | rfl | assumption) Try.underlying22 inf28.size (by first | rfl | assumption)) (fun b hb => Nat.lt_of_lt_of_le (hS10 b hb).1 hleEH.1) ?_
          refine adr_op rfl rfl (OwnP.append (ys := [⟨xs[i].a, xs[i].b, xs[i].cost + ys[j].cost, timesI xs[i].n ys[j].n⟩]) (hownE.push (.own 4 [.int .i64 xs[i].a, .int .i64 xs[i].b, .int .i64 (xs[i].cost + ys[j].cost), .int .u64 (timesI xs[i].n ys[j].n)])) Try.underlying22 inf28 rfl rfl rfl (sl_one (k := kLink) rfl rfl hownE.size rfl) (by simp; omega) (by simp; omega) ?_)
          rintro v6 G6 H6 hle6 hown6
          have hsame := OwnP.sameS (hownE.push (.own 4 [.int .i64 xs[i].a, .int .i64 xs[i].b, .int .i64 (xs[i].cost + ys[j].cost), .int .u64 (timesI xs[i].n ys[j].n)])) hle6 hown6 (H0 := G) (Hp.le_push' hleE _) hS9
          have hsame2 := OwnP.sameS (hownE.push (.own 4 [.int .i64 xs[i].a, .int .i64 xs[i].b, .int .i64 (xs[i].cost + ys[j].cost), .int .u64 (timesI xs[i].n ys[j].n)])) hle6 hown6 (H0 := G) (Hp.le_push' hleE _) hS10
          have hsameO := OwnP.sameO (hownE.push (.own 4 [.int .i64 xs[i].a, .int .i64 xs[i].b, .int .i64 (xs[i].cost + ys[j].cost), .int .u64 (timesI xs[i].n ys[j].n)])) hle6 hown6
          obtain ⟨C', c', e6⟩ := hown6.shape
          rw [List.length_append, List.length_singleton] at e6
          subst e6
          refine ⟨t_pend, ?_⟩
          first | refine adr_val rfl rfl (av_assign_sl rfl) t_lt ?_ | refine adr_val rfl rfl (av_assign rfl) t_lt ?_
          first | refine adr_val rfl rfl (av_assign_sl rfl) t_lt ?_ | refine adr_val rfl rfl (av_assign rfl) t_lt ?_
          first | refine adr_val rfl rfl (av_assign_sl rfl) t_lt ?_ | refine adr_val rfl rfl (av_assign rfl) t_lt ?_
          have hleG6 := Hp.le_trans (Hp.le_push' hleE (.own 4 [.int .i64 xs[i].a, .int .i64 xs[i].b, .int .i64 (xs[i].cost + ys[j].cost), .int .u64 (timesI xs[i].n ys[j].n)])) hle6
          exact ⟨n - 1, by omega, i + 1, j + 1, out ++ [⟨xs[i].a, xs[i].b, xs[i].cost + ys[j].cost, timesI xs[i].n ys[j].n⟩], G6, A9, c9, A10, c10, C', c', by omega, by omega, by omega, by simp; omega, by rw [← hboth, bothF_eq (by omega) hix hjy hk2 hk, List.append_assoc]; rfl, Hp.le_trans hle hleG6, (by rw [List.length_append, List.length_singleton]; exact hown6), hsl9.mono hleG6.sees, hsl10.mono hleG6.sees, rfl, rfl, (by rw [List.length_append, List.length_singleton]; rfl)⟩
    · intro hc2
      (try simp only [decide_eq_true_eq, decide_eq_false_iff_not, Bool.not_eq_true', Bool.not_eq_false'] at hc2)
      refine ac_exit ?_
      refine ac_seq ?_
      refine ac_region (by kernel_rfl) ?_
      first | refine aops_val (av_move_sl (by first | assumption | rfl)) ?_ | refine aops_val (av_move (by first | assumption | rfl)) ?_
      first | refine aops_val (av_assign_sl rfl) ?_ | refine aops_val (av_assign rfl) ?_
      refine ac_ret ?_
      refine ⟨.slice C out.length c5, aresult1 (ares_tmp rfl), G, hle, ?_⟩
      have : out = bothL xs ys := by
        rw [← hboth]
        rcases Nat.lt_or_ge i xs.length with h | h
        · rw [List.drop_of_length_le (by omega : ys.length ≤ j), bothF_nil2, List.append_nil]
        · rw [List.drop_of_length_le h, bothF_nil, List.append_nil]
      rw [← this]; exact hown
  · intro hg1
    have hp1 := hg1; try simp only [decide_eq_true_eq, decide_eq_false_iff_not, Bool.not_eq_true', Bool.not_eq_false'] at hp1
    refine aops_skip (want_no rfl rfl rfl hg1 rfl) ?_
    refine aops_skip (want_no rfl rfl rfl hg1 rfl) ?_
    refine aops_skip (want_no rfl rfl rfl hg1 rfl) ?_
    refine aops_val (av_pick_bool (congrArg Value.bool hg1) (by first | assumption | rfl)) ?_
    refine ac_cond_false rfl rfl ?_
    refine ac_exit ?_
    refine ac_seq ?_
    refine ac_region (by kernel_rfl) ?_
    first | refine aops_val (av_move_sl (by first | assumption | rfl)) ?_ | refine aops_val (av_move (by first | assumption | rfl)) ?_
    first | refine aops_val (av_assign_sl rfl) ?_ | refine aops_val (av_assign rfl) ?_
    refine ac_ret ?_
    refine ⟨.slice C out.length c5, aresult1 (ares_tmp rfl), G, hle, ?_⟩
    have : out = bothL xs ys := by
      rw [← hboth]
      rcases Nat.lt_or_ge i xs.length with h | h
      · rw [List.drop_of_length_le (by omega : ys.length ≤ j), bothF_nil2, List.append_nil]
      · rw [List.drop_of_length_le h, bothF_nil, List.append_nil]
    rw [← this]; exact hown
theorem both_one : bothL [⟨0, 1, 2, 2⟩] [⟨0, 1, 3, 2⟩] = [⟨0, 1, 5, 4⟩] := by decide
theorem lives22_ok (H : Hp) : ACalls Try.prog 16 #[] H (fun r H' => r = .bool true ∧ H.le H') := by
  refine acalls_of_code Try.func16 rfl rfl rfl (by simp) ?_
  refine ac_seq ?_
  refine ac_region (by kernel_rfl) ?_
  first | refine aops_val (av_assign_bool rfl) ?_ | refine aops_val (av_assign rfl) ?_
  refine ac_seq ?_
  refine ac_region (by kernel_rfl) ?_
  refine aops_op (aop_call (one_link 2 _) rfl Try.func78 rfl rfl rfl ?_)
  rintro v1 H1 ⟨hle1, hs1⟩
  refine aops_op (aop_call (one_link 3 _) rfl Try.func78 rfl rfl rfl ?_)
  rintro v2 H2 ⟨hle2, hs2⟩
  refine aops_op (aop_call (Both_links [⟨0, 1, 2, 2⟩] [⟨0, 1, 3, 2⟩] _ _ _ (hs1.mono hle2.sees) hs2 (by intro x hx; simp at hx; subst hx; simp [OkB]) (by intro x hx; simp at hx; subst hx; simp [OkB]) (by decide) (by decide)) rfl Try.func77 rfl rfl rfl ?_)
  rintro v3 H3 ⟨G3, hle3, hown3⟩; rw [both_one] at hown3; have hs3 := hown3.sl; obtain ⟨A3, c3, rfl⟩ := hs3.shape; have hle03 := Hp.le_trans (Hp.le_trans (Hp.le_trans hle1 hle2) hle3) hown3.le
  first | refine aops_val (av_assign_sl rfl) ?_ | refine aops_val (av_assign rfl) ?_
  refine ac_seq ?_
  refine ac_region (by kernel_rfl) ?_
  first | refine aops_val (av_move_sl rfl) ?_ | refine aops_val (av_move rfl) ?_
  refine aops_val (av_len rfl Try.underlying22) ?_
  refine aops_val (av_eq rfl rfl) ?_
  first | refine aops_val (av_move_bool rfl) ?_ | refine aops_val (av_move rfl) ?_
  refine aops_guard rfl rfl rfl ?_ ?_
  · intro hg1
    have hp1 := hg1; try simp only [decide_eq_true_eq, decide_eq_false_iff_not, Bool.not_eq_true', Bool.not_eq_false'] at hp1
    first | refine aops_wval (want_yes rfl rfl rfl hg1) (av_move_sl rfl) ?_ | refine aops_wval (want_yes rfl rfl rfl hg1) (av_move rfl) ?_
    obtain ⟨b, o, rfl, hb, hcell⟩ := hs3.link_at (i := 0) (by decide)
    refine aops_wval (want_yes rfl rfl rfl hg1) (av_indexAddr rfl rfl Try.underlying22 inf28.size t_idx t_idx) ?_
    refine aops_wval (want_yes rfl rfl rfl hg1) (av_loadN (cs := [.int .i64 _, .int .i64 _, .int .i64 _, .int .u64 _]) rfl Try.underlying28 rfl inf28.size t_cells) ?_
    refine aops_wval (want_yes rfl rfl rfl hg1) (av_build (pl := [(0, 1), (1, 1), (2, 1), (3, 1)]) (r := [.int .i64 _, .int .i64 _, .int .i64 _, .int .u64 _]) Try.underlying28 inf28.zero (by decide) rfl rfl) ?_
    refine aops_wval (want_yes rfl rfl rfl hg1) (av_link_eql (p := ⟨0, 1, 5, 4⟩) (q := ⟨0, 1, 5, 4⟩) rfl rfl) ?_
    refine aops_val (av_pick_bool (congrArg Value.bool hg1) rfl) ?_
    first | refine aops_val (av_move_bool rfl) ?_ | refine aops_val (av_move rfl) ?_
    refine aops_guard rfl rfl rfl ?_ ?_
    · intro hg2
      have hp2 := hg2; try simp only [decide_eq_true_eq, decide_eq_false_iff_not, Bool.not_eq_true', Bool.not_eq_false'] at hp2
      first | refine aops_wval (want_yes rfl rfl rfl hg2) (av_move_sl rfl) ?_ | refine aops_wval (want_yes rfl rfl rfl hg2) (av_move rfl) ?_
      refine aops_want (want_yes rfl rfl rfl hg2) (aop_call (Sum_links [⟨0, 1, 5, 4⟩] _ _ hs3 (by decide) (by intro x hx; simp at hx; subst hx; decide)) rfl Try.func79 rfl rfl rfl ?_)
      rintro v H ⟨rfl, rfl⟩
      refine aops_wval (want_yes rfl rfl rfl hg2) (av_eq rfl rfl) ?_
      refine aops_val (av_pick_bool (congrArg Value.bool hg2) rfl) ?_
      first | refine aops_val (av_assign_bool rfl) ?_ | refine aops_val (av_assign rfl) ?_
      refine ac_ret ?_
      exact ⟨.bool true, aresult1 (ares_tmp rfl), rfl, hle03⟩
    · intro hg2
      exact absurd hg2 (by decide)
  · intro hg1
    exact absurd hg1 (by decide)
end Go.Proofs.Ytnkjikpmgeknbaa.Am
