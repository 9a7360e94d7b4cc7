/- Numbers of ways, keys of links. -/
import Derived.Test.YtnkjikpmgeknbaaAmTy
import Derived.Test.YtnkjikpmgeknbaaAmBits
import Derived.Test.YtnkjikpmgeknbaaAmShelfLay
namespace Go.Proofs.Ytnkjikpmgeknbaa.Am
open Go Go.RowKit
set_option maxRecDepth 100000
set_option linter.unusedVariables false
set_option linter.unusedSimpArgs false

theorem Mul64_u64 (x y : Nat) (hx : x < 18446744073709551616) (hy : y < 18446744073709551616) (H : Hp) :
    ACalls Try.prog 162 #[.int .u64 x, .int .u64 y] H (fun r H' => r = .tuple #[.int .u64 ((x * y / 18446744073709551616 : Nat) : Int), .int .u64 ((x * y % 18446744073709551616 : Nat) : Int)] ∧ H' = H) :=
  mul64_real mul64Lay x y hx hy H
theorem times_high {m n : Nat} (hm : m ≤ 4611686018427387904) (hn : n ≤ 4611686018427387904) (h : m * n / 18446744073709551616 ≠ 0) : min ((m : Int) * n) mostI = mostI := by
  have : 18446744073709551616 ≤ m * n := by
    rcases Nat.lt_or_ge (m * n) 18446744073709551616 with h1 | h1
    · exact absurd (Nat.div_eq_of_lt h1) h
    · exact h1
  have h2 : ((m * n : Nat) : Int) = (m : Int) * n := by simp
  unfold mostI
  omega
theorem min_if (a M : Int) : (if M < a then M else a) = min a M := by rw [Int.min_def]; split <;> split <;> omega
theorem Times_u64 (a b : Int) (ha : 0 ≤ a) (hb : 0 ≤ b) (H : Hp) : ACalls Try.prog 129 #[.int .u64 a, .int .u64 b] H (fun r H' => r = .int .u64 (timesI a b) ∧ H' = H) := by
  obtain ⟨m, hm⟩ : ∃ m : Nat, (m : Int) = (if (4611686018427387904 : Int) < a then 4611686018427387904 else a) := ⟨(if (4611686018427387904 : Int) < a then 4611686018427387904 else a).toNat, by split <;> omega⟩
  obtain ⟨n, hn⟩ : ∃ n : Nat, (n : Int) = (if (4611686018427387904 : Int) < b then 4611686018427387904 else b) := ⟨(if (4611686018427387904 : Int) < b then 4611686018427387904 else b).toNat, by split <;> omega⟩
  have hm1 : m ≤ 4611686018427387904 := by split at hm <;> omega
  have hn1 : n ≤ 4611686018427387904 := by split at hn <;> omega
  have em : min a mostI = m := by unfold mostI; split at hm <;> omega
  have en : min b mostI = n := by unfold mostI; split at hn <;> omega
  refine acalls_of_code Try.func129 rfl rfl rfl (by simp) ?_
  refine ac_seq ?_
  refine ac_region (by kernel_rfl) ?_
  first | refine aops_val (av_assign_int rfl) ?_ | refine aops_val (av_assign rfl) ?_
  refine ac_seq ?_
  refine ac_region (by kernel_rfl) ?_
  first | refine aops_val (av_move_int rfl) ?_ | refine aops_val (av_move rfl) ?_
  refine aops_val (av_min2 rfl rfl) ?_
  first | refine aops_val (av_move_int rfl) ?_ | refine aops_val (av_move rfl) ?_
  refine aops_val (av_min2 rfl rfl) ?_
  rw [← hm, ← hn]
  refine aops_op (aop_call (Mul64_u64 m n (by omega) (by omega) H) rfl Try.func162 rfl rfl rfl ?_)
  rintro v H ⟨rfl, rfl⟩
  refine aops_val (av_move rfl) ?_
  refine aops_val (av_extract rfl rfl) ?_
  refine aops_val (av_extract rfl rfl) ?_
  first | refine aops_val (av_assign_int rfl) ?_ | refine aops_val (av_assign rfl) ?_
  first | refine aops_val (av_assign_int rfl) ?_ | refine aops_val (av_assign rfl) ?_
  refine ac_seq ?_
  refine ac_seq ?_
  refine ac_region (by kernel_rfl) ?_
  first | refine aops_val (av_move_int rfl) ?_ | refine aops_val (av_move rfl) ?_
  refine aops_val (av_ne rfl rfl) ?_
  refine ac_split rfl rfl ?_ ?_
  · intro hc1
    (try simp only [decide_eq_true_eq, decide_eq_false_iff_not, Bool.not_eq_true', Bool.not_eq_false'] at hc1)
    refine ac_seq ?_
    refine ac_region (by kernel_rfl) ?_
    first | refine aops_val (av_assign_int rfl) ?_ | refine aops_val (av_assign rfl) ?_
    refine ac_ret ?_
    refine ⟨.int .u64 4611686018427387904, aresult1 (ares_tmp rfl), ?_, rfl⟩
    rw [timesI, em, en, times_high hm1 hn1 (fun e => hc1 (by rw [e]; rfl))]; rfl
  · intro hc1
    (try simp only [decide_eq_true_eq, decide_eq_false_iff_not, Bool.not_eq_true', Bool.not_eq_false'] at hc1)
    refine ac_skip ?_
    refine ac_seq ?_
    refine ac_region (by kernel_rfl) ?_
    first | refine aops_val (av_move_int rfl) ?_ | refine aops_val (av_move rfl) ?_
    refine aops_val (av_min2 rfl rfl) ?_
    first | refine aops_val (av_assign_int rfl) ?_ | refine aops_val (av_assign rfl) ?_
    refine ac_ret ?_
    refine ⟨_, aresult1 (ares_tmp rfl), ?_, rfl⟩
    have h00 : m * n / 18446744073709551616 = 0 := by
      have h3 : ¬ ¬ ((m * n / 18446744073709551616 : Nat) : Int) = 0 := hc1
      have h4 := Decidable.not_not.1 h3
      exact Int.ofNat.inj h4
    have h0 : m * n < 18446744073709551616 := by omega
    rw [timesI, em, en, Nat.mod_eq_of_lt h0]
    show Value.int .u64 (if _ then _ else _) = _
    rw [min_if, show ((m * n : Nat) : Int) = (m : Int) * n by simp]
    rfl
theorem Add_u64 (a b : Int) (ha : 0 ≤ a) (hb : 0 ≤ b) (H : Hp) : ACalls Try.prog 130 #[.int .u64 a, .int .u64 b] H (fun r H' => r = .int .u64 (addI a b) ∧ H' = H) := by
  refine acalls_of_code Try.func130 rfl rfl rfl (by simp) ?_
  refine ac_seq ?_
  refine ac_region (by kernel_rfl) ?_
  first | refine aops_val (av_assign_int rfl) ?_ | refine aops_val (av_assign rfl) ?_
  refine ac_seq ?_
  refine ac_region (by kernel_rfl) ?_
  first | refine aops_val (av_move_int rfl) ?_ | refine aops_val (av_move rfl) ?_
  refine aops_val (av_min2 rfl rfl) ?_
  first | refine aops_val (av_move_int rfl) ?_ | refine aops_val (av_move rfl) ?_
  refine aops_val (av_min2 rfl rfl) ?_
  refine aops_val (av_add rfl rfl) ?_
  refine aops_val (av_min2 rfl rfl) ?_
  first | refine aops_val (av_assign_int rfl) ?_ | refine aops_val (av_assign rfl) ?_
  refine ac_ret ?_
  refine ⟨_, aresult1 (ares_tmp rfl), ?_, rfl⟩
  have hw : ∀ x : Int, 0 ≤ x → x < 18446744073709551616 → IntKind.u64.wrap x = x := fun x h1 h2 => by simp [IntKind.wrap, IntKind.bits, IntKind.signed]; omega
  have m1 : 0 ≤ min a mostI ∧ min a mostI ≤ 4611686018427387904 := by unfold mostI; rw [Int.min_def]; split <;> omega
  have m2 : 0 ≤ min b mostI ∧ min b mostI ≤ 4611686018427387904 := by unfold mostI; rw [Int.min_def]; split <;> omega
  show Value.int .u64 (if _ then _ else _) = _
  rw [min_if, min_if a 4611686018427387904, min_if b 4611686018427387904, show min a 4611686018427387904 = min a mostI from rfl, show min b 4611686018427387904 = min b mostI from rfl, hw _ (by omega) (by omega)]
  rfl
end Go.Proofs.Ytnkjikpmgeknbaa.Am
