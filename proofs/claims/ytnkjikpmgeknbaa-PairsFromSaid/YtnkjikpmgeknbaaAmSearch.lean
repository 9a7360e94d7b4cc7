/- The library's search for the first that is so. -/
import Derived.Test.YtnkjikpmgeknbaaAmTy
import Derived.Test.YtnkjikpmgeknbaaAmOwn
namespace Go.Proofs.Ytnkjikpmgeknbaa.Am
open Go Go.RowKit
set_option maxRecDepth 100000
set_option linter.unusedVariables false
set_option linter.unusedSimpArgs false

theorem mid_val {i j n : Nat} (h : i ≤ j) (h2 : j ≤ n) (hn : n ≤ 4611686018427387904) : Value.int .i64 (IntKind.i64.wrap ((IntKind.u64.wrap ((i : Int) + j)).fdiv (2 ^ min (1 : Int).toNat IntKind.u64.bits))) = .int .i64 (((i + j) / 2 : Nat) : Int) := by
  have e1 : IntKind.u64.wrap ((i : Int) + j) = ((i + j : Nat) : Int) := by simp [IntKind.wrap, IntKind.bits, IntKind.signed]; omega
  have e2 : (((i + j : Nat) : Int)).fdiv (2 ^ min (1 : Int).toNat IntKind.u64.bits) = (((i + j) / 2 : Nat) : Int) := by
    show (((i + j : Nat) : Int)).fdiv 2 = _
    rw [Int.fdiv_eq_ediv_of_nonneg _ (by omega)]
    omega
  rw [e1, e2]
  congr 1
  simp [IntKind.wrap, IntKind.bits, IntKind.signed]; omega
theorem Search_gen (n : Nat) (g : FuncId) (fn : Func) (binds : Array Value) (p : Nat → Bool) (H : Hp) (hf : Try.prog.funcs[g]? = some fn) (hb : fn.body.isSome = true) (hnm : (fn.name == "runtime.NumGoroutine") = false)
    (hp : ∀ i, i < n → ACalls Try.prog g (#[.int .i64 (i : Nat)] ++ binds) H (fun r H' => r = .bool (p i) ∧ H' = H)) (hmono : ∀ i j, i ≤ j → j < n → p i = true → p j = true) (hn : n ≤ 4611686018427387904) :
    ACalls Try.prog 82 #[.int .i64 n, .func (.func g) #[] binds] H (fun r H' => (∃ k : Nat, r = .int .i64 k ∧ k ≤ n ∧ (∀ i, i < k → p i = false) ∧ ∀ i, k ≤ i → i < n → p i = true) ∧ H' = H) := by
  refine acalls_of_code Try.func82 rfl rfl rfl (by simp) ?_
  refine ac_seq ?_
  refine ac_region (by kernel_rfl) ?_
  first | refine aops_val (av_assign_int rfl) ?_ | refine aops_val (av_assign rfl) ?_
  refine ac_seq ?_
  refine ac_region (by kernel_rfl) ?_
  first | refine aops_val (av_move_int rfl) ?_ | refine aops_val (av_move rfl) ?_
  first | refine aops_val (av_assign_int rfl) ?_ | refine aops_val (av_assign rfl) ?_
  first | refine aops_val (av_assign_int rfl) ?_ | refine aops_val (av_assign rfl) ?_
  refine ac_seq ?_
  refine ac_block ?_
  refine ac_loop (fun m t H' => ∃ (i j : Nat), i ≤ j ∧ j ≤ n ∧ m = j - i ∧ H' = H ∧ (∀ x, x < i → p x = false) ∧ (∀ x, j ≤ x → x < n → p x = true) ∧ t 1 = .func (.func g) #[] binds ∧ t 5 = .int .i64 i ∧ t 6 = .int .i64 j) (n) (⟨0, n, Nat.zero_le _, Nat.le_refl _, by omega, rfl, fun x h => by omega, fun x h h2 => by omega, rfl, rfl, rfl⟩) ?_
  rintro m t _ ⟨i, j, hij, hjn, rfl, rfl, hlo, hhi, e1, e5, e6⟩
  refine ac_seq ?_
  refine ac_seq ?_
  refine ac_region (by kernel_rfl) ?_
  first | refine aops_val (av_move_int (by first | assumption | rfl)) ?_ | refine aops_val (av_move (by first | assumption | rfl)) ?_
  first | refine aops_val (av_move_int (by first | assumption | rfl)) ?_ | refine aops_val (av_move (by first | assumption | rfl)) ?_
  refine aops_val (av_lt rfl rfl) ?_
  refine ac_split rfl rfl ?_ ?_
  · intro hc1
    (try simp only [decide_eq_true_eq, decide_eq_false_iff_not, Bool.not_eq_true', Bool.not_eq_false'] at hc1)
    refine ac_skip ?_
    refine ac_block ?_
    refine ac_seq ?_
    refine ac_region (by kernel_rfl) ?_
    first | refine aops_val (av_move_int (by first | assumption | rfl)) ?_ | refine aops_val (av_move (by first | assumption | rfl)) ?_
    first | refine aops_val (av_move_int (by first | assumption | rfl)) ?_ | refine aops_val (av_move (by first | assumption | rfl)) ?_
    first | refine aops_val (av_add64 rfl rfl (by (first | assumption | omega | (simp; omega)))) ?_ | refine aops_val (av_add rfl rfl) ?_
    refine aops_val (av_conv rfl (by rw [Try.underlying3]; rfl) Try.underlying179) ?_
    refine aops_val (av_shr rfl rfl (by omega)) ?_
    refine aops_val (av_conv rfl (by rw [Try.underlying179]; rfl) Try.underlying3) ?_
    refine aops_val (av_assign_int (n := (((i + j) / 2 : Nat) : Int)) (mid_val hij hjn hn)) ?_
    have hm1 : i ≤ (i + j) / 2 := by omega
    have hm2 : (i + j) / 2 < j := by omega
    refine ac_seq ?_
    refine ac_region (by kernel_rfl) ?_
    first | refine aops_val (av_move_func (by first | assumption | rfl)) ?_ | refine aops_val (av_move (by first | assumption | rfl)) ?_
    first | refine aops_val (av_move_int rfl) ?_ | refine aops_val (av_move rfl) ?_
    refine aops_op (aop_call (hp ((i + j) / 2) (by omega)) rfl hf hb hnm (by simp; rfl) ?_)
    rintro v H' ⟨rfl, rfl⟩
    refine aops_val (av_not rfl) ?_
    refine ac_split rfl rfl ?_ ?_
    · intro hc2
      have hc : p ((i + j) / 2) = false := by simpa using hc2
      refine ac_region (by kernel_rfl) ?_
      first | refine aops_val (av_move_int rfl) ?_ | refine aops_val (av_move rfl) ?_
      first | refine aops_val (av_add64 rfl rfl (by (first | assumption | omega | (simp; omega)))) ?_ | refine aops_val (av_add rfl rfl) ?_
      first | refine aops_val (av_assign_int rfl) ?_ | refine aops_val (av_assign rfl) ?_
      have hlo2 : ∀ x, x < (i + j) / 2 + 1 → p x = false := fun x h => by
        cases hx : p x with
        | false => rfl
        | true =>
          have := hmono x ((i + j) / 2) (by omega) (by omega) hx
          rw [hc] at this; cases this
      exact ⟨j - ((i + j) / 2 + 1), by omega, (i + j) / 2 + 1, j, by omega, hjn, rfl, rfl, hlo2, hhi, e1, rfl, e6⟩
    · intro hc2
      have hc : p ((i + j) / 2) = true := by simpa using hc2
      refine ac_region (by kernel_rfl) ?_
      first | refine aops_val (av_move_int rfl) ?_ | refine aops_val (av_move rfl) ?_
      first | refine aops_val (av_assign_int rfl) ?_ | refine aops_val (av_assign rfl) ?_
      exact ⟨(i + j) / 2 - i, by omega, i, (i + j) / 2, by omega, by omega, rfl, rfl, hlo, fun x h h2 => hmono _ x h h2 hc, e1, e5, rfl⟩
  · intro hc1
    (try simp only [decide_eq_true_eq, decide_eq_false_iff_not, Bool.not_eq_true', Bool.not_eq_false'] at hc1)
    refine ac_exit ?_
    refine ac_seq ?_
    refine ac_region (by kernel_rfl) ?_
    first | refine aops_val (av_move_int (by first | assumption | rfl)) ?_ | refine aops_val (av_move (by first | assumption | rfl)) ?_
    first | refine aops_val (av_assign_int rfl) ?_ | refine aops_val (av_assign rfl) ?_
    refine ac_ret ?_
    exact ⟨.int .i64 i, aresult1 (ares_tmp (by first | assumption | rfl)), ⟨i, rfl, by omega, hlo, fun x h h2 => hhi x (by omega) h2⟩, rfl⟩
end Go.Proofs.Ytnkjikpmgeknbaa.Am
