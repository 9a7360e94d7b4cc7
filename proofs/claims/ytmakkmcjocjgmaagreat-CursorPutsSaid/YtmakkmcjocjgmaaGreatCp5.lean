/- Texts that the proof rests on, part 5: lemmas for every heap that is related to a world, no condition beyond each lemma's own. -/
import Derived.Test.YtmakkmcjocjgmaaGreatCp4
import Derived.Test.YtmakkmcjocjgmaaGreatCp3
namespace Go.Proofs.YtmakkmcjocjgmaaGreat.Am
open Go Go.RowKit
set_option linter.unusedVariables false
set_option linter.unusedSimpArgs false
set_option maxRecDepth 100000
theorem av_andNot {P : Program} {t : Fr} {H : Hp} {d : Option Tmp} {ty : TypeId} {pos : String} {after : Array Edge} {guard : Option (Nat × Bool)} {x y : Operand} {xt yt : TypeId} {k : IntKind} {a b : Int} (hx : t.eval x = .int k a) (hy : t.eval y = .int k b) : AVal P ⟨d, .binOp .andNot xt x y yt, ty, pos, after, guard⟩ t [] H (.int k (k.wrap (BitVec.ofInt k.bits a &&& ~~~ BitVec.ofInt k.bits b).toNat)) := V1 hx hy rfl fun w => by simp [binOp, Op.intBits]
theorem andNot128 (w : Nat) (h : w < 256) : IntKind.u8.wrap ((BitVec.ofInt IntKind.u8.bits (w : Int) &&& ~~~ BitVec.ofInt IntKind.u8.bits 128).toNat : Int) = ((w % 128 : Nat) : Int) := by
 have h0 : ∀ a : Fin 256, (((BitVec.ofNat 8 a.val &&& ~~~ BitVec.ofNat 8 128).toNat % 256 : Nat) : Int) = ((a.val % 128 : Nat) : Int) := by decide
 have h1 := h0 ⟨w, h⟩
 have e2 : BitVec.ofInt IntKind.u8.bits ((w : Nat) : Int) = BitVec.ofNat 8 w := by
  show BitVec.ofInt 8 _ = _
  rw [BitVec.ofInt_natCast]
 have e3 : BitVec.ofInt IntKind.u8.bits 128 = BitVec.ofNat 8 128 := rfl
 have e4 : ∀ n : Nat, IntKind.u8.wrap (n : Int) = ((n % 256 : Nat) : Int) := fun n => by simp [IntKind.wrap, IntKind.bits, IntKind.signed]
 rw [e2, e3, e4]
 exact h1
theorem pow7 (i : Nat) : 2 ^ (7 * i) = 128 ^ i := by rw [Nat.pow_mul]
theorem shl7 (m i : Nat) (hi : i ≤ 9) (h : m * 128 ^ i < 18446744073709551616) : IntKind.u64.wrap ((m : Int) * 2 ^ min ((7 * i : Nat) : Int).toNat IntKind.u64.bits) = ((m * 128 ^ i : Nat) : Int) := by
 have e : min ((7 * i : Nat) : Int).toNat IntKind.u64.bits = 7 * i := by
  show min _ 64 = _
  rw [Int.toNat_natCast]; omega
 have e2 : (m : Int) * 2 ^ (7 * i) = ((m * 128 ^ i : Nat) : Int) := by rw [← pow7]; push_cast; rfl
 rw [e, e2]
 have e4 : ∀ n : Nat, n < 18446744073709551616 → IntKind.u64.wrap (n : Int) = (n : Int) := fun n hn => by simp [IntKind.wrap, IntKind.bits, IntKind.signed]; omega
 exact e4 _ h
theorem or_sum (a m i : Nat) (ha : a < 128 ^ i) (h : a + m * 128 ^ i < 18446744073709551616) : IntKind.u64.wrap ((BitVec.ofInt IntKind.u64.bits (a : Int) ||| BitVec.ofInt IntKind.u64.bits ((m * 128 ^ i : Nat) : Int)).toNat : Int) = ((a + m * 128 ^ i : Nat) : Int) := by
 have e4 : ∀ n : Nat, n < 18446744073709551616 → IntKind.u64.wrap (n : Int) = (n : Int) := fun n hn => by simp [IntKind.wrap, IntKind.bits, IntKind.signed]; omega
 have e2 : ∀ n : Nat, n < 18446744073709551616 → (BitVec.ofInt IntKind.u64.bits (n : Int)).toNat = n := fun n hn => by
  show (BitVec.ofInt 64 _).toNat = _
  rw [BitVec.ofInt_natCast, BitVec.toNat_ofNat]
  exact Nat.mod_eq_of_lt hn
 have e5 : a ||| m * 128 ^ i = a + m * 128 ^ i := by
  rw [← pow7] at ha ⊢
  rw [Nat.or_comm, Nat.mul_comm m, ← Nat.two_pow_add_eq_or_of_lt ha, Nat.add_comm]
 have e6 : (BitVec.ofInt IntKind.u64.bits (a : Int) ||| BitVec.ofInt IntKind.u64.bits ((m * 128 ^ i : Nat) : Int)).toNat = a + m * 128 ^ i := by
  rw [BitVec.toNat_or, e2 _ (by omega), e2 _ (by omega), e5]
 rw [e6]
 exact e4 _ h
theorem getL_over {i a : Nat} {r : List Int} (h : r = [] ∨ 10 ≤ i) : V6 i a r = (0, 0, 7) := by
 cases r with
 | nil => rfl
 | cons b r => rw [V6, if_pos (h.resolve_left (by simp))]
theorem get_s (s : ByteArray) (H : Hp) (hs : s.size ≤ 1000000) :
  ACalls Tryz.prog 101 #[.string s] H (fun r H' => r = .tuple #[.int .u64 ((V6 0 0 (bl s)).1 : Nat), .int .i64 ((V6 0 0 (bl s)).2.1 : Nat), .int .i64 (V6 0 0 (bl s)).2.2] ∧ H' = H) := by
 have hbl := bl_len s
 refine Xu Tryz.func101 rfl rfl rfl (by simp) ?_
 refine Xc ?_
 refine Xs ?_
 refine Xa (Xj rfl) ?_
 refine Xa (Xj rfl) ?_
 refine Xa (Xj rfl) ?_
 refine Xc ?_
 refine Xs ?_
 refine Xa (Xj rfl) ?_
 refine Xc ?_
 refine Xc ?_
 refine Xs ?_
 refine Xa (Xj rfl) ?_
 refine Yh ?_
 refine Y6 (fun n t H' => ∃ (i a : Nat), n = 10 - i ∧ i ≤ 10 ∧ i ≤ s.size ∧ a < 128 ^ i ∧ V6 i a ((bl s).drop i) = V6 0 0 (bl s) ∧ H' = H ∧ t 0 = .string s ∧ t 5 = .int .u64 a ∧ t 6 = .int .i64 i) (10) (⟨0, 0, rfl, by omega, by omega, by decide, rfl, rfl, rfl, rfl, rfl⟩) ?_
 rintro n t H1 ⟨i, a, rfl, hi, his, ha, hg, rfl, e0, e5, e6⟩
 refine Xc ?_
 refine Xc ?_
 refine Xs ?_
 refine Xa (Xb Xn) ?_
 refine Xa (Zo Xn) ?_
 refine Xa (av_len_str rfl Tryz.underlying9) ?_
 refine Xa (av_min2 rfl rfl) ?_
 refine Xa (Zf rfl rfl) ?_
 refine X4 rfl rfl ?_ ?_
 intro hc1
 have hlt := of_decide_eq_true hc1
 have hi9 : i < 10 := by split at hlt <;> omega
 have hil : i < s.size := by split at hlt <;> omega
 obtain ⟨w, hw⟩ : ∃ w : Nat, w = (s[i]'hil).toNat := ⟨_, rfl⟩
 have hw2 : w < 256 := by rw [hw]; exact (s[i]'hil).toNat_lt
 have hdr : (bl s).drop i = (w : Int) :: (bl s).drop (i + 1) := by rw [List.drop_eq_getElem_cons (by omega), bl_at s i hil, hw]
 rw [hdr] at hg
 rw [V6, if_neg (show ¬ 10 ≤ i by omega), Int.toNat_natCast] at hg
 refine X9 ?_
 refine Xc ?_
 refine Yh ?_
 refine Xc ?_
 refine Xs ?_
 refine Xa (Zo Xn) ?_
 refine Xa (Xb Xn) ?_
 refine Xa ((av_str_index rfl rfl Tryz.underlying9 (by omega) (by omega)).to (v' := .int .u8 w) (by rw [hw]; rfl)) ?_
 refine Xa (Xj rfl) ?_
 refine Xc ?_
 refine Xc ?_
 refine Xs ?_
 refine Xa (Xb Xn) ?_
 refine Xa (Zs rfl rfl) ?_
 refine Xa (Xq rfl) ?_
 refine Yb rfl rfl rfl ?_ ?_
 intro hg2
 have hi9' : i = 9 := by have := of_decide_eq_true hg2; omega
 refine Xk (Xh rfl rfl rfl hg2) (Xb rfl) ?_
 refine Xk (Xh rfl rfl rfl hg2) (av_gt rfl rfl) ?_
 refine Xa (Xm (Yu hg2) rfl) ?_
 refine X4 rfl rfl ?_ ?_
 intro hc3
 have h9 : i = 9 ∧ (1 : Int) < w := ⟨hi9', of_decide_eq_true hc3⟩
 rw [if_pos h9] at hg
 refine Xc ?_
 refine Xs ?_
 refine Xa (Xj rfl) ?_
 refine Xa (Xj rfl) ?_
 refine Xa (Xj rfl) ?_
 refine X2 ?_
 exact ⟨_, Z1 (Xp rfl) (Xp rfl) (Xp rfl), congrArg (fun g : Nat × Nat × Int => Value.tuple #[.int .u64 (g.1 : Nat), .int .i64 (g.2.1 : Nat), .int .i64 g.2.2]) hg, rfl⟩
 intro hc3
 have h9 : ¬ (i = 9 ∧ (1 : Int) < w) := fun h => of_decide_eq_false hc3 h.2
 rw [if_neg h9] at hg
 have hm : w % 128 * 128 ^ i < 18446744073709551616 ∧ a + w % 128 * 128 ^ i < 18446744073709551616 ∧ a + w % 128 * 128 ^ i < 128 ^ (i + 1) := by
  have h5 : (w % 128) * 128 ^ i ≤ 127 * 128 ^ i := Nat.mul_le_mul_right _ (by omega)
  have h6 : a + w % 128 * 128 ^ i < 128 ^ (i + 1) := by rw [Nat.pow_succ]; omega
  rcases Nat.lt_or_ge i 9 with h | h
  ·have h7 : 128 ^ (i + 1) ≤ 128 ^ 9 := Nat.pow_le_pow_right (by omega) (by omega)
   have h8 : (128 : Nat) ^ 9 = 9223372036854775808 := by decide
   omega
  ·obtain rfl : i = 9 := by omega
   have h8 : (128 : Nat) ^ 9 = 9223372036854775808 := by decide
   have h10 : w ≤ 1 := by omega
   rw [h8] at ha ⊢
   omega
 refine X9 ?_
 refine Xc ?_
 refine Xs ?_
 refine Xa (Xb Xn) ?_
 refine Xa (Xb rfl) ?_
 refine Xa ((av_andNot rfl rfl).to (congrArg (Value.int .u8) (andNot128 w hw2))) ?_
 refine Xa (Zm (show IntKind.u64.wrap ((w % 128 : Nat) : Int) = ((w % 128 : Nat) : Int) by simp [IntKind.wrap, IntKind.bits, IntKind.signed]; omega) rfl (by rw [Tryz.underlying5]; rfl) Tryz.underlying30) ?_
 refine Xa (Xb Xn) ?_
 refine Xa ((av_mul64 rfl rfl (by omega)).to (v' := .int .i64 ((7 * i : Nat) : Int)) (by rw [Int.natCast_mul]; rfl)) ?_
 refine Xa (Zm (v := ((7 * i : Nat) : Int)) (by simp [IntKind.wrap, IntKind.bits, IntKind.signed]; omega) rfl (by rw [Tryz.underlying3]; rfl) Tryz.underlying157) ?_
 refine Xa ((av_shl rfl rfl (by omega)).to (congrArg (Value.int .u64) (shl7 (w % 128) i (by omega) hm.1))) ?_
 refine Xa ((av_or rfl rfl).to (congrArg (Value.int .u64) (or_sum a (w % 128) i ha hm.2.1))) ?_
 refine Xa (Xj rfl) ?_
 refine Xc ?_
 refine Xc ?_
 refine Xs ?_
 refine Xa (Xb rfl) ?_
 refine Xa (av_ge rfl rfl) ?_
 refine X4 rfl rfl ?_ ?_
 intro hc4
 have h3 : (128 : Int) ≤ w := by have := of_decide_eq_true hc4; omega
 rw [if_pos h3] at hg
 refine Y3 ?_
 refine Xs ?_
 refine Xa (Xb Xn) ?_
 refine Xa (Yq rfl rfl Y2) ?_
 refine Xa (Xj rfl) ?_
 exact ⟨10 - (i + 1), by omega, i + 1, _, rfl, by omega, by omega, hm.2.2, hg, rfl, e0, rfl, rfl⟩
 intro hc4
 have h3 : ¬ (128 : Int) ≤ w := by have := of_decide_eq_false hc4; omega
 rw [if_neg h3] at hg
 refine X9 ?_
 refine Xc ?_
 refine Xc ?_
 refine Xs ?_
 refine Xa (Xb rfl) ?_
 refine Xa (Zs rfl rfl) ?_
 refine Xa (Xq rfl) ?_
 refine Yb rfl rfl rfl ?_ ?_
 intro hg5
 have hw0 : (w : Int) = 0 := of_decide_eq_true hg5
 refine Xk (Xh rfl rfl rfl hg5) (Xb Xn) ?_
 refine Xk (Xh rfl rfl rfl hg5) (av_gt rfl rfl) ?_
 refine Xa (Xm (Yu hg5) rfl) ?_
 refine X4 rfl rfl ?_ ?_
 intro hc6
 have h4 : (w : Int) = 0 ∧ 0 < i := ⟨hw0, by have := of_decide_eq_true hc6; omega⟩
 rw [if_pos h4] at hg
 refine Xc ?_
 refine Xs ?_
 refine Xa (Xj rfl) ?_
 refine Xa (Xj rfl) ?_
 refine Xa (Xj rfl) ?_
 refine X2 ?_
 exact ⟨_, Z1 (Xp rfl) (Xp rfl) (Xp rfl), congrArg (fun g : Nat × Nat × Int => Value.tuple #[.int .u64 (g.1 : Nat), .int .i64 (g.2.1 : Nat), .int .i64 g.2.2]) hg, rfl⟩
 intro hc6
 have h4 : ¬ ((w : Int) = 0 ∧ 0 < i) := fun h => of_decide_eq_false hc6 (by have := h.2; omega)
 rw [if_neg h4] at hg
 refine X9 ?_
 refine Xc ?_
 refine Xs ?_
 refine Xa (Xb rfl) ?_
 refine Xa (Xb Xn) ?_
 refine Xa (Yq rfl rfl Y2) ?_
 refine Xa (Xj rfl) ?_
 refine Xa (Xj rfl) ?_
 refine Xa (Xj rfl) ?_
 refine X2 ?_
 exact ⟨_, Z1 (Xp rfl) (Xp rfl) (Xp rfl), congrArg (fun g : Nat × Nat × Int => Value.tuple #[.int .u64 (g.1 : Nat), .int .i64 (g.2.1 : Nat), .int .i64 g.2.2]) hg, rfl⟩
 intro hg5
 have hnw : ¬ (w : Int) = 0 := of_decide_eq_false hg5
 rw [if_neg (fun h => hnw h.1)] at hg
 refine Xd (Xg rfl rfl rfl hg5 rfl) ?_
 refine Xd (Xg rfl rfl rfl hg5 rfl) ?_
 refine Xa (Xm (Yu hg5) Xn) ?_
 refine Zg rfl rfl ?_
 refine X9 ?_
 refine Xc ?_
 refine Xs ?_
 refine Xa (Xb rfl) ?_
 refine Xa (Xb Xn) ?_
 refine Xa (Yq rfl rfl Y2) ?_
 refine Xa (Xj rfl) ?_
 refine Xa (Xj rfl) ?_
 refine Xa (Xj rfl) ?_
 refine X2 ?_
 exact ⟨_, Z1 (Xp rfl) (Xp rfl) (Xp rfl), congrArg (fun g : Nat × Nat × Int => Value.tuple #[.int .u64 (g.1 : Nat), .int .i64 (g.2.1 : Nat), .int .i64 g.2.2]) hg, rfl⟩
 intro hg2
 have hn9 : ¬ i = 9 := by have := of_decide_eq_false hg2; omega
 have h9 : ¬ (i = 9 ∧ (1 : Int) < w) := fun h => hn9 h.1
 rw [if_neg h9] at hg
 have hm : w % 128 * 128 ^ i < 18446744073709551616 ∧ a + w % 128 * 128 ^ i < 18446744073709551616 ∧ a + w % 128 * 128 ^ i < 128 ^ (i + 1) := by
  have h5 : (w % 128) * 128 ^ i ≤ 127 * 128 ^ i := Nat.mul_le_mul_right _ (by omega)
  have h6 : a + w % 128 * 128 ^ i < 128 ^ (i + 1) := by rw [Nat.pow_succ]; omega
  rcases Nat.lt_or_ge i 9 with h | h
  ·have h7 : 128 ^ (i + 1) ≤ 128 ^ 9 := Nat.pow_le_pow_right (by omega) (by omega)
   have h8 : (128 : Nat) ^ 9 = 9223372036854775808 := by decide
   omega
  ·obtain rfl : i = 9 := by omega
   have h8 : (128 : Nat) ^ 9 = 9223372036854775808 := by decide
   have h10 : w ≤ 1 := by omega
   rw [h8] at ha ⊢
   omega
 refine Xd (Xg rfl rfl rfl hg2 rfl) ?_
 refine Xd (Xg rfl rfl rfl hg2 rfl) ?_
 refine Xa (Xm (Yu hg2) Xn) ?_
 refine Zg rfl rfl ?_
 refine X9 ?_
 refine Xc ?_
 refine Xs ?_
 refine Xa (Xb Xn) ?_
 refine Xa (Xb rfl) ?_
 refine Xa ((av_andNot rfl rfl).to (congrArg (Value.int .u8) (andNot128 w hw2))) ?_
 refine Xa (Zm (show IntKind.u64.wrap ((w % 128 : Nat) : Int) = ((w % 128 : Nat) : Int) by simp [IntKind.wrap, IntKind.bits, IntKind.signed]; omega) rfl (by rw [Tryz.underlying5]; rfl) Tryz.underlying30) ?_
 refine Xa (Xb Xn) ?_
 refine Xa ((av_mul64 rfl rfl (by omega)).to (v' := .int .i64 ((7 * i : Nat) : Int)) (by rw [Int.natCast_mul]; rfl)) ?_
 refine Xa (Zm (v := ((7 * i : Nat) : Int)) (by simp [IntKind.wrap, IntKind.bits, IntKind.signed]; omega) rfl (by rw [Tryz.underlying3]; rfl) Tryz.underlying157) ?_
 refine Xa ((av_shl rfl rfl (by omega)).to (congrArg (Value.int .u64) (shl7 (w % 128) i (by omega) hm.1))) ?_
 refine Xa ((av_or rfl rfl).to (congrArg (Value.int .u64) (or_sum a (w % 128) i ha hm.2.1))) ?_
 refine Xa (Xj rfl) ?_
 refine Xc ?_
 refine Xc ?_
 refine Xs ?_
 refine Xa (Xb rfl) ?_
 refine Xa (av_ge rfl rfl) ?_
 refine X4 rfl rfl ?_ ?_
 intro hc9
 have h3 : (128 : Int) ≤ w := by have := of_decide_eq_true hc9; omega
 rw [if_pos h3] at hg
 refine Y3 ?_
 refine Xs ?_
 refine Xa (Xb Xn) ?_
 refine Xa (Yq rfl rfl Y2) ?_
 refine Xa (Xj rfl) ?_
 exact ⟨10 - (i + 1), by omega, i + 1, _, rfl, by omega, by omega, hm.2.2, hg, rfl, e0, rfl, rfl⟩
 intro hc9
 have h3 : ¬ (128 : Int) ≤ w := by have := of_decide_eq_false hc9; omega
 rw [if_neg h3] at hg
 refine X9 ?_
 refine Xc ?_
 refine Xc ?_
 refine Xs ?_
 refine Xa (Xb rfl) ?_
 refine Xa (Zs rfl rfl) ?_
 refine Xa (Xq rfl) ?_
 refine Yb rfl rfl rfl ?_ ?_
 intro hg10
 have hw0 : (w : Int) = 0 := of_decide_eq_true hg10
 refine Xk (Xh rfl rfl rfl hg10) (Xb Xn) ?_
 refine Xk (Xh rfl rfl rfl hg10) (av_gt rfl rfl) ?_
 refine Xa (Xm (Yu hg10) rfl) ?_
 refine X4 rfl rfl ?_ ?_
 intro hc11
 have h4 : (w : Int) = 0 ∧ 0 < i := ⟨hw0, by have := of_decide_eq_true hc11; omega⟩
 rw [if_pos h4] at hg
 refine Xc ?_
 refine Xs ?_
 refine Xa (Xj rfl) ?_
 refine Xa (Xj rfl) ?_
 refine Xa (Xj rfl) ?_
 refine X2 ?_
 exact ⟨_, Z1 (Xp rfl) (Xp rfl) (Xp rfl), congrArg (fun g : Nat × Nat × Int => Value.tuple #[.int .u64 (g.1 : Nat), .int .i64 (g.2.1 : Nat), .int .i64 g.2.2]) hg, rfl⟩
 intro hc11
 have h4 : ¬ ((w : Int) = 0 ∧ 0 < i) := fun h => of_decide_eq_false hc11 (by have := h.2; omega)
 rw [if_neg h4] at hg
 refine X9 ?_
 refine Xc ?_
 refine Xs ?_
 refine Xa (Xb rfl) ?_
 refine Xa (Xb Xn) ?_
 refine Xa (Yq rfl rfl Y2) ?_
 refine Xa (Xj rfl) ?_
 refine Xa (Xj rfl) ?_
 refine Xa (Xj rfl) ?_
 refine X2 ?_
 exact ⟨_, Z1 (Xp rfl) (Xp rfl) (Xp rfl), congrArg (fun g : Nat × Nat × Int => Value.tuple #[.int .u64 (g.1 : Nat), .int .i64 (g.2.1 : Nat), .int .i64 g.2.2]) hg, rfl⟩
 intro hg10
 have hnw : ¬ (w : Int) = 0 := of_decide_eq_false hg10
 rw [if_neg (fun h => hnw h.1)] at hg
 refine Xd (Xg rfl rfl rfl hg10 rfl) ?_
 refine Xd (Xg rfl rfl rfl hg10 rfl) ?_
 refine Xa (Xm (Yu hg10) Xn) ?_
 refine Zg rfl rfl ?_
 refine X9 ?_
 refine Xc ?_
 refine Xs ?_
 refine Xa (Xb rfl) ?_
 refine Xa (Xb Xn) ?_
 refine Xa (Yq rfl rfl Y2) ?_
 refine Xa (Xj rfl) ?_
 refine Xa (Xj rfl) ?_
 refine Xa (Xj rfl) ?_
 refine X2 ?_
 exact ⟨_, Z1 (Xp rfl) (Xp rfl) (Xp rfl), congrArg (fun g : Nat × Nat × Int => Value.tuple #[.int .u64 (g.1 : Nat), .int .i64 (g.2.1 : Nat), .int .i64 g.2.2]) hg, rfl⟩
 intro hc1
 have hge := of_decide_eq_false hc1
 have hov : (bl s).drop i = [] ∨ 10 ≤ i := by
  rcases Nat.lt_or_ge i s.size with h | h
  ·exact .inr (by split at hge <;> omega)
  ·exact .inl (List.drop_eq_nil_of_le (by omega))
 rw [getL_over hov] at hg
 refine Y3 ?_
 refine Xc ?_
 refine Xs ?_
 refine Xa (Xj rfl) ?_
 refine Xa (Xj rfl) ?_
 refine Xa (Xj rfl) ?_
 refine X2 ?_
 exact ⟨_, Z1 (Xp rfl) (Xp rfl) (Xp rfl), congrArg (fun g : Nat × Nat × Int => Value.tuple #[.int .u64 (g.1 : Nat), .int .i64 (g.2.1 : Nat), .int .i64 g.2.2]) hg, rfl⟩
theorem bl_nil {s : ByteArray} : bl s = [] ↔ s = ByteArray.empty := by
 constructor
 ·intro h
  exact bl_inj h
 ·intro h; rw [h]; rfl
theorem All_s (s : ByteArray) (H : Hp) (hs : s.size ≤ 100000) :
  ACalls Tryz.prog 73 #[.string s] H (fun r H' => ∃ l e A c, r = .tuple #[.slice A l.length c, .int .i64 e] ∧ (l, e) = allF s.size (bl s) [] ∧ Sl (Yv .u64) H' (.slice A l.length c) l ∧ l.length ≤ s.size ∧ H.le H') := by
 refine Xu Tryz.func73 rfl rfl rfl (by simp) ?_
 refine Xc ?_
 refine Xs ?_
 refine Xa (X8 rfl) ?_
 refine Xa (Xj rfl) ?_
 refine Xc ?_
 refine Xs ?_
 refine Xa (X8 rfl) ?_
 refine Xc ?_
 refine Yh ?_
 refine Y6 (fun n t H' => ∃ (k : Nat) (s1 : ByteArray) (out : List Int) (G : Hp) (B : Option Addr) (cB : Nat), n = s1.size ∧ s1.size ≤ k ∧ out.length + s1.size ≤ s.size ∧ allF k (bl s1) out = allF s.size (bl s) [] ∧ H.le G ∧ OwnP (Yv .u64) G H' (.slice B out.length cB) out ∧ t 0 = .string s1 ∧ t 4 = .slice B out.length cB) (s.size) (⟨s.size, s, [], H, none, 0, rfl, Nat.le_refl _, by simp, rfl, Hp.le_refl _, OwnP.nil _ _, rfl, rfl⟩) ?_
 rintro n t H1 ⟨k, s1, out, G, B, cB, rfl, hk, hlen, hal, leG, hown, e0, e4⟩
 have hbl1 := bl_len s1
 refine Xc ?_
 refine Xc ?_
 refine Xs ?_
 refine Xa (Zo Xn) ?_
 refine Xa (av_str_neq rfl rfl) ?_
 refine X4 rfl rfl ?_ ?_
 intro hc1
 have hne : bl s1 ≠ [] := fun h => of_decide_eq_true hc1 (bl_nil.1 h)
 have hpos : 0 < s1.size := by
  rcases Nat.eq_zero_or_pos s1.size with h | h
  ·exact absurd (List.eq_nil_of_length_eq_zero (by omega)) hne
  ·exact h
 obtain ⟨k, rfl⟩ : ∃ k', k = k' + 1 := ⟨k - 1, by omega⟩
 rw [allF, if_neg hne] at hal
 refine X9 ?_
 refine Yh ?_
 refine Xc ?_
 refine Xs ?_
 refine Xa (Zo Xn) ?_
 refine Xv (Xy (get_s s1 _ (by omega)) rfl Tryz.func101 rfl rfl rfl ?_)
 rintro v12 H2 ⟨rfl, rfl⟩
 refine Xa (Zi rfl) ?_
 refine Xa (Yf rfl rfl) ?_
 refine Xa (Yf rfl rfl) ?_
 refine Xa (Yf rfl rfl) ?_
 refine Xa (Xj rfl) ?_
 refine Xa (Xj rfl) ?_
 refine Xa (Xj rfl) ?_
 refine Xc ?_
 refine Xc ?_
 refine Xs ?_
 refine Xa (Xb rfl) ?_
 refine Xa (Vb rfl rfl) ?_
 refine X4 rfl rfl ?_ ?_
 intro hc2
 have hbad : (V6 0 0 (bl s1)).2.2 ≠ 0 := of_decide_eq_true hc2
 rw [if_pos hbad] at hal
 refine Xc ?_
 refine Xs ?_
 refine Xa (Xb rfl) ?_
 refine Xa (X8 rfl) ?_
 refine Xa (Xj rfl) ?_
 refine X2 ?_
 exact ⟨_, Yt (Xp rfl) (Xp rfl), [], (V6 0 0 (bl s1)).2.2, none, 0, rfl, hal, Sl.nil _ _, Nat.zero_le _, Hp.le_trans leG hown.le⟩
 intro hc2
 have hok : (V6 0 0 (bl s1)).2.2 = 0 := Decidable.not_not.1 (of_decide_eq_false hc2)
 rw [if_neg (Decidable.not_not.2 hok)] at hal
 obtain ⟨j0, j1, j2, j3⟩ := getL_ok (bl s1) 0 0 (by decide) hok
 obtain ⟨u, hu⟩ : ∃ u, u = (V6 0 0 (bl s1)).1 := ⟨_, rfl⟩
 obtain ⟨j, hj⟩ : ∃ j, j = (V6 0 0 (bl s1)).2.1 := ⟨_, rfl⟩
 simp only [← hu, ← hj] at *
 have hjs : j ≤ s1.size := by omega
 have hsz : (s1.extract j s1.size).size = s1.size - j := by rw [ByteArray.size_extract]; omega
 refine X9 ?_
 refine Yy (by kernel_rfl) (Y4 (B := [0, 0, 2, 7, 0, 0, 48, 15, 255]) (π := [0, 1, 2, 4, 5, 6, 3, 7, 8]) (by kernel_rfl)) ?_
 refine Xe rfl rfl (X1 Xn) Xt ?_
 refine Xe rfl rfl (Xb rfl) Xt ?_
 first | refine Zd rfl rfl (Yg (r := [.int .u64 _]) Tryz.underlying109 inf30.size inf30.zero rfl (by decide) (by decide) (by decide) rfl) ?_
 refine Xe rfl rfl (Zo Xn) Xt ?_
 refine Xe rfl rfl (Xb rfl) Xt ?_
 refine Xe rfl rfl (av_substr (l := j) (h := s1.size) Xn Tryz.underlying9 (.inr ⟨_, _, rfl, by first | assumption | rfl⟩) (.inl ⟨rfl, rfl⟩) (by omega) (Nat.le_refl _)) Xt ?_
 refine Yk rfl rfl (OwnP.append (ys := [(u : Int)]) (hown.push _) Tryz.underlying109 inf30 Xn Xn rfl (Zw (k := Yv .u64) rfl rfl hown.size rfl) (by simp only [List.length_singleton]; omega) (by simp only [List.length_singleton]; omega) ?_)
 rintro v5 G5 H5 hle5 hown5
 have hsameO := OwnP.sameO (hown.push _) hle5 hown5
 obtain ⟨B5, c5, rfl⟩ := hown5.shape
 refine ⟨Yi, ?_⟩
 refine Xe rfl rfl (X8 rfl) Xt ?_
 refine Xe rfl rfl (Yx rfl) Xt ?_
 exact ⟨(s1.extract j s1.size).size, by rw [hsz]; omega, k, s1.extract j s1.size, out ++ [(u : Int)], G5, B5, c5, rfl, by rw [hsz]; omega, by rw [hsz, List.length_append]; simp only [List.length_singleton]; omega, by rw [bl_drop]; exact hal, Hp.le_trans (Hp.le_trans leG (G.le_push _)) hle5, hown5, rfl, rfl⟩
 intro hc1
 have hem : bl s1 = [] := bl_nil.2 (Decidable.not_not.1 (of_decide_eq_false hc1))
 rw [hem, allF_nil] at hal
 refine Y3 ?_
 refine Xc ?_
 refine Xs ?_
 refine Xa (X1 Xn) ?_
 refine Xa (X8 rfl) ?_
 refine Xa (Xj rfl) ?_
 refine X2 ?_
 exact ⟨_, Yt (Xp rfl) (Xp rfl), out, 0, B, cB, rfl, hal, hown.sl, by omega, Hp.le_trans leG hown.le⟩
theorem whole_int (u : Nat) (H : Hp) (hu : u < 18446744073709551616) : ACalls Tryz.prog 74 #[.int .u64 u] H (fun r H' => r = .int .i64 (if u ≤ 9007199254740992 then (u : Int) else -1) ∧ H' = H) := by
 refine Xu Tryz.func74 rfl rfl rfl (by simp) ?_
 refine Xc ?_
 refine Xs ?_
 refine Xa (Xj rfl) ?_
 refine Xc ?_
 refine Xc ?_
 refine Xs ?_
 refine Xa (Xb rfl) ?_
 refine Xa (av_gt rfl rfl) ?_
 refine X4 rfl rfl ?_ ?_
 intro hc1
 have hgt : ¬ u ≤ 9007199254740992 := by have := of_decide_eq_true hc1; omega
 refine Xc ?_
 refine Xs ?_
 refine Xa (Xj rfl) ?_
 refine X2 ?_
 exact ⟨_, X0 (Xp rfl), congrArg (Value.int .i64) (if_neg hgt).symm, rfl⟩
 intro hc1
 have hle : u ≤ 9007199254740992 := by have := of_decide_eq_false hc1; omega
 refine X9 ?_
 refine Xc ?_
 refine Xs ?_
 refine Xa (Xb rfl) ?_
 refine Xa (Zm (show IntKind.i64.wrap (u : Int) = (u : Int) by simp [IntKind.wrap, IntKind.bits, IntKind.signed]; omega) rfl (by rw [Tryz.underlying30]; rfl) Tryz.underlying3) ?_
 refine Xa (Xj rfl) ?_
 refine X2 ?_
 exact ⟨_, X0 (Xp rfl), congrArg (Value.int .i64) (if_pos hle).symm, rfl⟩
def headM (m : MarkT) : List Int := [1, m.told, if m.over then 1 else 0, (m.nodes.length : Int)]
def Zu (m : MarkT) : List Int := headM m ++ m.nodes ++ [m.rest]
theorem nums_ok {m : MarkT} (hg : Zv m) (hr : 0 ≤ m.rest ∧ m.rest < 18446744073709551616) : ∀ x ∈ Zu m, 0 ≤ x ∧ x < 18446744073709551616 := fun x hx => by
 have h0 := hg.t0
 have h1 := hg.t1
 have h2 := hg.n
 unfold Zu headM at hx
 rw [List.mem_append, List.mem_append] at hx
 rcases hx with (hx | hx) | hx
 ·simp only [List.mem_cons, List.not_mem_nil, or_false] at hx
  rcases hx with rfl | rfl | rfl | rfl
  ·omega
  ·omega
  ·split <;> omega
  ·omega
 ·have := hg.x x hx
  unfold oddI at this
  omega
 ·rw [List.mem_singleton] at hx; subst hx; exact hr
theorem nums_len (m : MarkT) : (Zu m).length = 5 + m.nodes.length := by
 unfold Zu headM
 simp only [List.length_append, List.length_cons, List.length_nil]
 omega
theorem wrapU {x : Int} (h : 0 ≤ x ∧ x < 18446744073709551616) : IntKind.u64.wrap x = x := by
 simp [IntKind.wrap, IntKind.bits, IntKind.signed]; omega
theorem heads_own (K : Hp) (a b c d : Int) : OwnP (Yv .u64) (K.push .dead) (K.push (.own 1 [.int .u64 a, .int .u64 b, .int .u64 c, .int .u64 d])) (.slice (some ⟨K.size, 0, none⟩) 4 4) [a, b, c, d] := by
 refine .inr ⟨K.size, [.int .u64 a, .int .u64 b, .int .u64 c, .int .u64 d], 4, rfl, by simp, Hp.push_new _ _, ?_, .inr (Nat.le_refl 4), ?_⟩
 ·rw [Hp.push_put]; rfl
 ·exact Els.cons (k := Yv .u64) (c := [.int .u64 a]) rfl (Els.cons (k := Yv .u64) (c := [.int .u64 b]) rfl (Els.cons (k := Yv .u64) (c := [.int .u64 c]) rfl (Els.cons (k := Yv .u64) (c := [.int .u64 d]) rfl (Els.nil _ _ []))))
theorem put_36 (m : MarkT) (cs : List Value) (H : Hp) (hm : kMark.rep H m cs) (hg : Zv m) (hr : 0 ≤ m.rest ∧ m.rest < 18446744073709551616) :
  ACalls Tryz.prog 76 #[.agg cs.toArray] H (fun r H' => r = .string (Y9 (Va (Zu m))) ∧ H.le H') := by
 obtain ⟨v, w, rfl, hv, hw⟩ := hm
 obtain ⟨A, c, rfl⟩ := hv.shape
 obtain ⟨W, cW, rfl⟩ := hw.shape
 obtain ⟨K, hK⟩ : ∃ K, K = H.push (.own 0 [.int .i64 m.told, .bool m.over, .slice A m.nodes.length c, .int .u64 m.rest, .slice W m.items.length cW]) := ⟨_, rfl⟩
 have kg : K.get H.size = .own 0 [.int .i64 m.told, .bool m.over, .slice A m.nodes.length c, .int .u64 m.rest, .slice W m.items.length cW] := by rw [hK]; exact Hp.push_new _ _
 have kz : K.size = H.size + 1 := by rw [hK]; simp
 have leK : H.le K := by rw [hK]; exact H.le_push _
 have hn := hg.n
 have htold := wrapU (x := m.told) (by have := hg.t0; have := hg.t1; omega)
 have hlenw := wrapU (x := (m.nodes.length : Int)) (by omega)
 refine Xu Tryz.func76 rfl rfl rfl (by simp) ?_
 refine Xc ?_
 refine Xs ?_
 refine Xz (Yp rfl) ?_
 refine Xa (Yx rfl) ?_
 refine Xc ?_
 refine Xs ?_
 refine Xa (Xj rfl) ?_
 refine Xc ?_
 refine Xc ?_
 refine Xs ?_
 refine Xa (Xf (off := 1) rfl Tryz.underlying33 rfl inf4.size (by decide) rfl) ?_
 refine Xa (Xl rfl Tryz.underlying4 rfl Xo) ?_
 refine ac_cut (fun t H' => H' = K ∧ t 1 = .pointer (some ⟨H.size, 0, none⟩) ∧ t 3 = .int .u64 (if m.over then 1 else 0)) ?_ ?_
 refine X4 rfl rfl ?_ ?_
 intro hc1
 have hov : m.over = true := hc1
 refine Xs ?_
 refine Xa (Xj rfl) ?_
 exact ⟨hK.symm, rfl, by rw [hov]; rfl⟩
 intro hc1
 have hov : m.over = false := hc1
 refine X9 ?_
 exact ⟨hK.symm, rfl, by rw [hov]; rfl⟩
 rintro t K2 ⟨hK2, e1, e3⟩
 subst hK2
 refine Xc ?_
 refine Xs ?_
 refine Xa (Xf (off := 0) Xn Tryz.underlying33 Xn inf3.size (by decide) Xn) ?_
 refine Xa (Xl rfl Tryz.underlying3 rfl Xo) ?_
 refine Xa (Zm htold rfl (by rw [Tryz.underlying3]; rfl) Tryz.underlying30) ?_
 refine Xa (Xb Xn) ?_
 refine Xa (Xf (off := 2) Xn Tryz.underlying33 Xn inf23.size (by decide) Xn) ?_
 refine Xa (Xl rfl Tryz.underlying23 rfl Xo) ?_
 refine Xa (Yo rfl Tryz.underlying23) ?_
 refine Xa (Zm hlenw rfl (by rw [Tryz.underlying3]; rfl) Tryz.underlying30) ?_
 first | refine Xz (Yg (r := [.int .u64 _, .int .u64 _, .int .u64 _, .int .u64 _]) Tryz.underlying109 inf30.size inf30.zero rfl (by decide) (by decide) (by decide) rfl) ?_
 refine Xa (X8 rfl) ?_
 refine Xc ?_
 refine Xc ?_
 refine Xs ?_
 refine Xa (Xf (off := 2) Xn Tryz.underlying33 Xn inf23.size (by decide) Xn) ?_
 refine Xa (Xl rfl Tryz.underlying23 rfl Xo) ?_
 refine Xa (Yo rfl Tryz.underlying23) ?_
 refine Xa (Xb rfl) ?_
 refine Yh ?_
 refine Y6 (fun n t H' => ∃ (i : Nat) (G : Hp) (B : Option Addr) (cB : Nat) (E : Option Addr), n = m.nodes.length - i ∧ i ≤ m.nodes.length ∧ K2.le G ∧ OwnP (Yv .u64) G H' (.slice B (headM m ++ m.nodes.take i).length cB) (headM m ++ m.nodes.take i) ∧ Sl (Yv .i64) H (.slice E m.nodes.length c) m.nodes ∧ t 1 = .pointer (some ⟨H.size, 0, none⟩) ∧ t 4 = .slice B (headM m ++ m.nodes.take i).length cB ∧ t 19 = .slice E m.nodes.length c ∧ t 20 = .int .i64 m.nodes.length ∧ t 21 = .int .i64 i) (m.nodes.length) (⟨0, K2.push .dead, some ⟨K2.size, 0, none⟩, 4, _, rfl, Nat.zero_le _, K2.le_push _, heads_own K2 1 m.told (if m.over then 1 else 0) m.nodes.length, hv, e1, rfl, rfl, rfl, rfl⟩) ?_
 rintro n t H1 ⟨i, G, B, cB, E, rfl, hi, leG, hown, hv, e1, e4, e19, e20, e21⟩
 have g0 := Xr hown.le (by have := leG.1; omega) (by intro e; cases e) (Xr leG (by omega) (by intro e; cases e) kg)
 have hhl : (headM m ++ m.nodes.take i).length = 4 + i := by rw [List.length_append, List.length_take]; show 4 + _ = _; omega
 refine Xc ?_
 refine Xs ?_
 refine Xa (Zf Xn Xn) ?_
 refine Xc ?_
 refine X4 rfl rfl ?_ ?_
 intro hc2
 have hil : i < m.nodes.length := by have := of_decide_eq_true hc2; omega
 obtain ⟨b, o, eE, hbE, hcell⟩ := ((hv.mono leK.sees).mono (Hp.le_trans leG hown.le).sees).int_at (i := (i : Int)) (by omega) (by omega)
 rw [Int.toNat_natCast, Za hil] at hcell
 subst eE
 have hnw := wrapU (x := m.nodes[i]) (by have := hg.x _ (List.getElem_mem hil); unfold oddI at this; omega)
 refine X9 ?_
 refine Xc ?_
 refine Yh ?_
 refine Xc ?_
 refine Xs ?_
 refine Xa (Xx Xn Xn Tryz.underlying23 inf3.size Yc Yc) ?_
 refine Xa (Xl rfl Tryz.underlying3 rfl Xo) ?_
 refine Xa (Xj rfl) ?_
 refine Xs ?_
 refine Xa (X1 Xn) ?_
 refine Xa (Xb rfl) ?_
 refine Xa (Zm hnw rfl (by rw [Tryz.underlying3]; rfl) Tryz.underlying30) ?_
 first | refine Xz (Yg (r := [.int .u64 _]) Tryz.underlying109 inf30.size inf30.zero rfl (by decide) (by decide) (by decide) rfl) ?_
 refine Xv (OwnP.append (ys := [m.nodes[i]]) (hown.push _) Tryz.underlying109 inf30 rfl rfl rfl (Zw (k := Yv .u64) rfl rfl hown.size rfl) (by rw [hhl]; simp only [List.length_singleton]; omega) (by rw [hhl]; simp only [List.length_singleton]; omega) ?_)
 rintro v5 G5 H5 hle5 hown5
 rw [List.append_assoc, Zb hil] at hown5
 obtain ⟨B5, c5, rfl⟩ := hown5.shape
 refine Xa (X8 rfl) ?_
 refine Xs ?_
 refine Xa (Yq Xn Xn Y2) ?_
 refine Xa (Xb rfl) ?_
 exact ⟨m.nodes.length - (i + 1), by omega, i + 1, G5, B5, c5, _, rfl, by omega, Hp.le_trans (Hp.le_trans leG (G.le_push _)) hle5, hown5, hv, e1, rfl, e19, e20, rfl⟩
 intro hc2
 have hil : i = m.nodes.length := by have := of_decide_eq_false hc2; omega
 refine Y3 ?_
 refine Xc ?_
 refine Xs ?_
 refine Xa (X1 Xn) ?_
 refine Xa (Xf (off := 3) Xn Tryz.underlying33 Xn inf30.size (by decide) Xn) ?_
 refine Xa (Xl rfl Tryz.underlying30 rfl Xo) ?_
 first | refine Xz (Yg (r := [.int .u64 _]) Tryz.underlying109 inf30.size inf30.zero rfl (by decide) (by decide) (by decide) rfl) ?_
 refine Xv (OwnP.append (ys := [m.rest]) (hown.push _) Tryz.underlying109 inf30 rfl rfl rfl (Zw (k := Yv .u64) rfl rfl hown.size rfl) (by rw [hhl]; simp only [List.length_singleton]; omega) (by rw [hhl]; simp only [List.length_singleton]; omega) ?_)
 rintro v5 G5 H5 hle5 hown5
 rw [hil, List.take_length] at hown5
 refine Xv (Xy (Put_u64 (Zu m) _ _ hown5.sl (nums_ok hg hr) (by rw [nums_len]; omega) (by rw [nums_len]; omega)) rfl Tryz.func104 rfl rfl rfl ?_)
 rintro v36 H6 ⟨rfl, le6⟩
 refine Xa (Yx rfl) ?_
 refine X2 ?_
 exact ⟨_, X0 (Xp rfl), rfl, Hp.le_trans leK (Hp.le_trans (Hp.le_trans (Hp.le_trans leG (G.le_push _)) (Hp.le_trans hle5 hown5.le)) le6)⟩
theorem putR_36 (m : MarkT) (cs : List Value) (H : Hp) (hm : kMark.rep H m cs) (hg : Zv m) (hr : 0 ≤ m.rest ∧ m.rest < 18446744073709551616) :
  ACalls Tryz.prog 40 #[.agg cs.toArray] H (fun r H' => r = .string (Y9 (Va (Zu m))) ∧ H.le H') := by
 obtain ⟨v, w, rfl, hv, hw⟩ := hm
 obtain ⟨A, c, rfl⟩ := hv.shape
 obtain ⟨W, cW, rfl⟩ := hw.shape
 obtain ⟨K, hK⟩ : ∃ K, K = H.push (.own 0 [.int .i64 m.told, .bool m.over, .slice A m.nodes.length c, .int .u64 m.rest, .slice W m.items.length cW]) := ⟨_, rfl⟩
 have kg : K.get H.size = .own 0 [.int .i64 m.told, .bool m.over, .slice A m.nodes.length c, .int .u64 m.rest, .slice W m.items.length cW] := by rw [hK]; exact Hp.push_new _ _
 have kz : K.size = H.size + 1 := by rw [hK]; simp
 have leK : H.le K := by rw [hK]; exact H.le_push _
 have hn := hg.n
 have htold := wrapU (x := m.told) (by have := hg.t0; have := hg.t1; omega)
 have hlenw := wrapU (x := (m.nodes.length : Int)) (by omega)
 refine Xu Tryz.func40 rfl rfl rfl (by simp) ?_
 refine Xc ?_
 refine Xs ?_
 refine Xz (Yp rfl) ?_
 refine Xa (Yx rfl) ?_
 refine Xc ?_
 refine Xs ?_
 refine Xa (Xj rfl) ?_
 refine Xc ?_
 refine Xc ?_
 refine Xs ?_
 refine Xa (Xf (off := 1) rfl Tryz.underlying33 rfl inf4.size (by decide) rfl) ?_
 refine Xa (Xl rfl Tryz.underlying4 rfl Xo) ?_
 refine ac_cut (fun t H' => H' = K ∧ t 1 = .pointer (some ⟨H.size, 0, none⟩) ∧ t 3 = .int .u64 (if m.over then 1 else 0)) ?_ ?_
 refine X4 rfl rfl ?_ ?_
 intro hc1
 have hov : m.over = true := hc1
 refine Xs ?_
 refine Xa (Xj rfl) ?_
 exact ⟨hK.symm, rfl, by rw [hov]; rfl⟩
 intro hc1
 have hov : m.over = false := hc1
 refine X9 ?_
 exact ⟨hK.symm, rfl, by rw [hov]; rfl⟩
 rintro t K2 ⟨hK2, e1, e3⟩
 subst hK2
 refine Xc ?_
 refine Xs ?_
 refine Xa (Xf (off := 0) Xn Tryz.underlying33 Xn inf3.size (by decide) Xn) ?_
 refine Xa (Xl rfl Tryz.underlying3 rfl Xo) ?_
 refine Xa (Zm htold rfl (by rw [Tryz.underlying3]; rfl) Tryz.underlying30) ?_
 refine Xa (Xb Xn) ?_
 refine Xa (Xf (off := 2) Xn Tryz.underlying33 Xn inf23.size (by decide) Xn) ?_
 refine Xa (Xl rfl Tryz.underlying23 rfl Xo) ?_
 refine Xa (Yo rfl Tryz.underlying23) ?_
 refine Xa (Zm hlenw rfl (by rw [Tryz.underlying3]; rfl) Tryz.underlying30) ?_
 first | refine Xz (Yg (r := [.int .u64 _, .int .u64 _, .int .u64 _, .int .u64 _]) Tryz.underlying109 inf30.size inf30.zero rfl (by decide) (by decide) (by decide) rfl) ?_
 refine Xa (X8 rfl) ?_
 refine Xc ?_
 refine Xc ?_
 refine Xs ?_
 refine Xa (Xj rfl) ?_
 refine Yh ?_
 refine Y6 (fun n t H' => ∃ (i : Nat) (G : Hp) (B : Option Addr) (cB : Nat) (E : Option Addr), n = m.nodes.length - i ∧ i ≤ m.nodes.length ∧ K2.le G ∧ OwnP (Yv .u64) G H' (.slice B (headM m ++ m.nodes.take i).length cB) (headM m ++ m.nodes.take i) ∧ Sl (Yv .i64) H (.slice E m.nodes.length c) m.nodes ∧ K2.get H.size = .own 0 [.int .i64 m.told, .bool m.over, .slice E m.nodes.length c, .int .u64 m.rest, .slice W m.items.length cW] ∧ t 1 = .pointer (some ⟨H.size, 0, none⟩) ∧ t 4 = .slice B (headM m ++ m.nodes.take i).length cB ∧ t 5 = .int .i64 i) (m.nodes.length) (⟨0, K2.push .dead, some ⟨K2.size, 0, none⟩, 4, _, rfl, Nat.zero_le _, K2.le_push _, heads_own K2 1 m.told (if m.over then 1 else 0) m.nodes.length, hv, kg, e1, rfl, rfl⟩) ?_
 rintro n t H1 ⟨i, G, B, cB, E, rfl, hi, leG, hown, hv, kg, e1, e4, e5⟩
 have g0 := Xr hown.le (by have := leG.1; omega) (by intro e; cases e) (Xr leG (by omega) (by intro e; cases e) kg)
 have hhl : (headM m ++ m.nodes.take i).length = 4 + i := by rw [List.length_append, List.length_take]; show 4 + _ = _; omega
 refine Xc ?_
 refine Xc ?_
 refine Xs ?_
 refine Xa (Xb Xn) ?_
 refine Xa (Xf (off := 2) Xn Tryz.underlying33 Xn inf23.size (by decide) Xn) ?_
 refine Xa (Xl rfl Tryz.underlying23 rfl Xo) ?_
 refine Xa (Yo rfl Tryz.underlying23) ?_
 refine Xa (Zf rfl rfl) ?_
 refine X4 rfl rfl ?_ ?_
 intro hc2
 have hil : i < m.nodes.length := by have := of_decide_eq_true hc2; omega
 obtain ⟨b, o, eE, hbE, hcell⟩ := ((hv.mono leK.sees).mono (Hp.le_trans leG hown.le).sees).int_at (i := (i : Int)) (by omega) (by omega)
 rw [Int.toNat_natCast, Za hil] at hcell
 subst eE
 have hnw := wrapU (x := m.nodes[i]) (by have := hg.x _ (List.getElem_mem hil); unfold oddI at this; omega)
 refine X9 ?_
 refine Xc ?_
 refine Yh ?_
 refine Xs ?_
 refine Xa (X1 Xn) ?_
 refine Xa (Xf (off := 2) Xn Tryz.underlying33 Xn inf23.size (by decide) Xn) ?_
 refine Xa (Xl rfl Tryz.underlying23 rfl Xo) ?_
 refine Xa (Xb Xn) ?_
 refine Xa (Xx rfl rfl Tryz.underlying23 inf3.size Yc Yc) ?_
 refine Xa (Xl rfl Tryz.underlying3 rfl Xo) ?_
 refine Xa (Zm hnw rfl (by rw [Tryz.underlying3]; rfl) Tryz.underlying30) ?_
 first | refine Xz (Yg (r := [.int .u64 _]) Tryz.underlying109 inf30.size inf30.zero rfl (by decide) (by decide) (by decide) rfl) ?_
 refine Xv (OwnP.append (ys := [m.nodes[i]]) (hown.push _) Tryz.underlying109 inf30 rfl rfl rfl (Zw (k := Yv .u64) rfl rfl hown.size rfl) (by rw [hhl]; simp only [List.length_singleton]; omega) (by rw [hhl]; simp only [List.length_singleton]; omega) ?_)
 rintro v5 G5 H5 hle5 hown5
 rw [List.append_assoc, Zb hil] at hown5
 obtain ⟨B5, c5, rfl⟩ := hown5.shape
 refine Xa (X8 rfl) ?_
 refine Xs ?_
 refine Xa (Xb Xn) ?_
 refine Xa (Yq rfl rfl Y2) ?_
 refine Xa (Xj rfl) ?_
 exact ⟨m.nodes.length - (i + 1), by omega, i + 1, G5, B5, c5, _, rfl, by omega, Hp.le_trans (Hp.le_trans leG (G.le_push _)) hle5, hown5, hv, kg, e1, rfl, rfl⟩
 intro hc2
 have hil : i = m.nodes.length := by have := of_decide_eq_false hc2; omega
 refine Y3 ?_
 refine Xc ?_
 refine Xs ?_
 refine Xa (X1 Xn) ?_
 refine Xa (Xf (off := 3) Xn Tryz.underlying33 Xn inf30.size (by decide) Xn) ?_
 refine Xa (Xl rfl Tryz.underlying30 rfl Xo) ?_
 first | refine Xz (Yg (r := [.int .u64 _]) Tryz.underlying109 inf30.size inf30.zero rfl (by decide) (by decide) (by decide) rfl) ?_
 refine Xv (OwnP.append (ys := [m.rest]) (hown.push _) Tryz.underlying109 inf30 rfl rfl rfl (Zw (k := Yv .u64) rfl rfl hown.size rfl) (by rw [hhl]; simp only [List.length_singleton]; omega) (by rw [hhl]; simp only [List.length_singleton]; omega) ?_)
 rintro v5 G5 H5 hle5 hown5
 rw [hil, List.take_length] at hown5
 refine Xv (Xy (PutAllR_u64 (Zu m) _ _ hown5.sl (nums_ok hg hr) (by rw [nums_len]; omega)) rfl Tryz.func77 rfl rfl rfl ?_)
 rintro v38 H6 ⟨rfl, le6⟩
 refine Xa (Yx rfl) ?_
 refine X2 ?_
 exact ⟨_, X0 (Xp rfl), rfl, Hp.le_trans leK (Hp.le_trans (Hp.le_trans (Hp.le_trans leG (G.le_push _)) (Hp.le_trans hle5 hown5.le)) le6)⟩
theorem Put_36 (m : MarkT) (cs : List Value) (H : Hp) (hm : kMark.rep H m cs) (hb : BigM m) (hr : 0 ≤ m.rest ∧ m.rest < 18446744073709551616) :
  ACalls Tryz.prog 42 #[.agg cs.toArray] H (fun r H' => ((Zv m ∧ r = .tuple #[.string (Y9 (Va (Zu m))), .int .i64 0]) ∨ (¬ Zv m ∧ r = .tuple #[.string ByteArray.empty, .int .i64 1])) ∧ H.le H') := by
 have hm0 := hm
 obtain ⟨v, w, rfl, hv, hw⟩ := hm
 obtain ⟨A, c, rfl⟩ := hv.shape
 obtain ⟨W, cW, rfl⟩ := hw.shape
 refine Xu Tryz.func42 rfl rfl rfl (by simp) ?_
 refine Xc ?_
 refine Xs ?_
 refine Xz (Yp rfl) ?_
 refine Xa (Yx rfl) ?_
 refine Xa (Xj rfl) ?_
 refine Xc ?_
 refine Xc ?_
 refine Xs ?_
 refine Xa (Yj (cs := [.int .i64 _, .bool _, .slice _ _ _, .int .u64 _, .slice _ _ _]) rfl Tryz.underlying33 rfl inf33.size X5) ?_
 refine Xv (Xy (good_36 m _ _ (kMark.mono Zh hm0) hb) rfl Tryz.func75 rfl rfl rfl ?_)
 rintro v5 H1 ⟨⟨g, rfl, hg⟩, hH1⟩; subst hH1
 refine Xa (Z3 rfl) ?_
 refine X4 rfl rfl ?_ ?_
 intro hc1
 have hno : ¬ Zv m := fun h => by have h2 := hc1; rw [hg.2 h] at h2; cases h2
 refine Xc ?_
 refine Xs ?_
 refine Xa (Yx rfl) ?_
 refine Xa (Xj rfl) ?_
 refine X2 ?_
 exact ⟨_, Yt (Xp rfl) (Xp rfl), .inr ⟨hno, rfl⟩, H.le_push _⟩
 intro hc1
 have hyes : Zv m := hg.1 (by have h := hc1; simpa using h)
 refine X9 ?_
 refine Xc ?_
 refine Xs ?_
 refine Xa (Yj (cs := [.int .i64 _, .bool _, .slice _ _ _, .int .u64 _, .slice _ _ _]) rfl Tryz.underlying33 rfl inf33.size X5) ?_
 refine Xv (Xy (put_36 m _ _ (kMark.mono Zh hm0) hyes hr) rfl Tryz.func76 rfl rfl rfl ?_)
 rintro v8 H2 ⟨rfl, le2⟩
 refine Xa (Yx rfl) ?_
 refine Xa (Xj rfl) ?_
 refine X2 ?_
 exact ⟨_, Yt (Xp rfl) (Xp rfl), .inl ⟨hyes, rfl⟩, Hp.le_trans (H.le_push _) le2⟩
def Z9 (u : Int) : Int := if u ≤ 9007199254740992 then u else -1
theorem wholeI_of {u : Int} (h : u ≤ 9007199254740992) : Z9 u = u := if_pos h
theorem whole_36 (u : Int) (H : Hp) (h0 : 0 ≤ u) (hu : u < 18446744073709551616) : ACalls Tryz.prog 74 #[.int .u64 u] H (fun r H' => r = .int .i64 (Z9 u) ∧ H' = H) := by
 obtain ⟨w, rfl⟩ : ∃ w : Nat, u = w := ⟨u.toNat, by omega⟩
 refine (whole_int w H (by omega)).mono fun r H' h => ⟨?_, h.2⟩
 rw [h.1]
 unfold Z9
 congr 1
 by_cases h1 : w ≤ 9007199254740992
 ·rw [if_pos h1, if_pos (by omega)]
 ·rw [if_neg h1, if_neg (by omega)]
theorem five {l : List Int} (h : 5 ≤ l.length) : ∃ (x0 x1 x2 x3 : Int) (mid : List Int) (xr : Int), l = x0 :: x1 :: x2 :: x3 :: (mid ++ [xr]) := by
 match l, h with
 | x0 :: x1 :: x2 :: x3 :: y :: r, _ =>
  refine ⟨x0, x1, x2, x3, (y :: r).dropLast, (y :: r).getLast (by simp), ?_⟩
  have h := List.dropLast_concat_getLast (l := y :: r) (by simp)
  rw [h]
theorem nums_of {m : MarkT} {x0 x1 x2 x3 : Int} {mid : List Int} {xr : Int} (h : x0 :: x1 :: x2 :: x3 :: (mid ++ [xr]) = Zu m) : x1 = m.told ∧ x2 = (if m.over then 1 else 0) ∧ x3 = m.nodes.length ∧ mid = m.nodes ∧ xr = m.rest := by
 have h2 : x0 :: x1 :: x2 :: x3 :: (mid ++ [xr]) = 1 :: m.told :: (if m.over then 1 else 0) :: (m.nodes.length : Int) :: (m.nodes ++ [m.rest]) := h
 simp only [List.cons.injEq] at h2
 obtain ⟨_, h3, h4, h5, h6⟩ := h2
 have h7 := List.append_inj' h6 rfl
 simp only [List.cons.injEq, and_true] at h7
 exact ⟨h3, h4, h5, h7.1, h7.2⟩
theorem nums_inj {a b : MarkT} (h : Zu a = Zu b) : SameM a b := by
 obtain ⟨h1, h2, h3, h4, h5⟩ := nums_of (m := b) (x0 := 1) (show 1 :: a.told :: (if a.over then 1 else 0) :: (a.nodes.length : Int) :: (a.nodes ++ [a.rest]) = _ from h)
 refine ⟨h1, ?_, h5, h4⟩
 cases ha : a.over <;> cases hb : b.over <;> simp_all
theorem all_bytes {m : MarkT} {s : ByteArray} (hg : Zv m) (hr : 0 ≤ m.rest ∧ m.rest < 18446744073709551616) (h : s = Y9 (Va (Zu m))) : allF s.size (bl s) [] = (Zu m, 0) := by
 have h1 : bl s = Va (Zu m) := by rw [h, bl_bytes _ (putA_byte _)]
 have h2 := allF_put (Zu m) s.size [] (nums_ok hg hr) (by rw [← h1, bl_len]; exact Nat.le_refl _)
 rw [h1, h2]; rfl
theorem put_inj {a b : MarkT} (ha : Zv a) (hra : 0 ≤ a.rest ∧ a.rest < 18446744073709551616) (hb : Zv b) (hrb : 0 ≤ b.rest ∧ b.rest < 18446744073709551616) (h : Y9 (Va (Zu a)) = Y9 (Va (Zu b))) : SameM a b := by
 have h1 := all_bytes ha hra rfl
 have h2 := all_bytes hb hrb h
 rw [h1] at h2
 exact nums_inj (Prod.mk.inj h2).1
def decM (x1 x2 : Int) (mid : List Int) (xr : Int) : MarkT := ⟨Z9 x1, decide (x2 = 1), mid.map Z9, xr, []⟩
theorem dec_good {y : MarkT} {x0 x1 x2 x3 : Int} {mid : List Int} {xr : Int} (hy : Zv y) (h : x0 :: x1 :: x2 :: x3 :: (mid ++ [xr]) = Zu y) : Zv (decM x1 x2 mid xr) ∧ Zu (decM x1 x2 mid xr) = Zu y := by
 obtain ⟨h1, h2, h3, h4, h5⟩ := nums_of h
 have e1 : Z9 x1 = y.told := by rw [h1]; exact wholeI_of hy.t1
 have e2 : decide (x2 = 1) = y.over := by rw [h2]; cases y.over <;> decide
 have e4 : mid.map Z9 = y.nodes := by
  rw [h4]
  refine (List.map_congr_left fun n hn => ?_).trans (List.map_id _)
  have := hy.x n hn
  unfold oddI at this
  exact wholeI_of (by omega)
 have e : decM x1 x2 mid xr = ⟨y.told, y.over, y.nodes, y.rest, []⟩ := by unfold decM; rw [e1, e2, e4, h5]
 rw [e]
 exact ⟨⟨rfl, hy.t0, hy.t1, hy.n, hy.x, hy.e⟩, rfl⟩
theorem getD_last {x0 x1 x2 x3 : Int} {mid : List Int} {xr : Int} : (x0 :: x1 :: x2 :: x3 :: (mid ++ [xr])).getD (mid.length + 4) 0 = xr := by
 simp [List.getD_eq_getElem?_getD]
theorem mid_of {x0 x1 x2 x3 : Int} {mid : List Int} {xr : Int} : ((x0 :: x1 :: x2 :: x3 :: (mid ++ [xr])).take (mid.length + 4)).drop 4 = mid := by
 simp
set_option maxHeartbeats 8000000 in
theorem Get_s (s : ByteArray) (H : Hp) (hs : s.size ≤ 60000) :
  ACalls Tryz.prog 39 #[.string s] H (fun r H' => (∃ x ds e, r = .tuple #[.agg ds.toArray, .int .i64 e] ∧ kMark.rep H' x ds ∧ BigM x ∧ (0 ≤ x.rest ∧ x.rest < 18446744073709551616) ∧ x.items = [] ∧ ((e = 0 ∧ Zv x ∧ s = Y9 (Va (Zu x))) ∨ (e = 12 ∧ x = Ub ∧ ∀ y, Zv y → (0 ≤ y.rest ∧ y.rest < 18446744073709551616) → s ≠ Y9 (Va (Zu y))))) ∧ H.le H') := by
 refine Xu Tryz.func39 rfl rfl rfl (by simp) ?_
 refine Xc ?_
 refine Xs ?_
 refine Xz (Ys (l := [.int .i64 0, .bool false, .slice none 0 0, .int .u64 0, .slice none 0 0]) inf33.zero rfl (by decide)) ?_
 refine Xa (Xj rfl) ?_
 refine Xc ?_
 refine Xc ?_
 refine Xs ?_
 refine Xa (Zo rfl) ?_
 refine Xa (av_len_str rfl Tryz.underlying9) ?_
 refine Xa (av_gt rfl rfl) ?_
 refine X4 rfl rfl ?_ ?_
 intro hc1
 (have h := of_decide_eq_true hc1; omega)
 intro hc1
 (try simp only [Y5] at hc1)
 refine X9 ?_
 refine Xc ?_
 refine Xs ?_
 refine Xa (Zo rfl) ?_
 refine Xv (Xy (All_s s _ (by omega)) rfl Tryz.func73 rfl rfl rfl ?_)
 rintro v15 H5 ⟨l, e, A, c, rfl, hal, hl, hll, hle5⟩; have hz5 := hle5.1; simp only [Hp.push_size] at hz5; have h50 : H5.get H.size = .own 0 [.int .i64 0, .bool false, .slice none 0 0, .int .u64 0, .slice none 0 0] := Xr hle5 (by simp <;> omega) (by intro e; cases e) Ya; have hbd := allF_bound s.size (bl s) [] (fun x h => (by cases h)); rw [← hal] at hbd; have leH5 := Hp.le_trans (H.le_push _) hle5
 refine Xa (Zi rfl) ?_
 refine Xa (Yf rfl rfl) ?_
 refine Xa (Yf rfl rfl) ?_
 refine Xa (X8 rfl) ?_
 refine Xa (Xj rfl) ?_
 refine Xc ?_
 refine Xc ?_
 refine Xs ?_
 refine Xa (Xb rfl) ?_
 refine Xa (Vb rfl rfl) ?_
 refine Xa (Xq rfl) ?_
 refine Yb rfl rfl rfl ?_ ?_
 intro hg2
 have hee : ¬ e = 0 := of_decide_eq_true hg2
 have hbad : ¬ (e = 0 ∧ 5 ≤ l.length) := fun h => hee h.1
 refine Xd (Xg rfl rfl rfl hg2 rfl) ?_
 refine Xd (Xg rfl rfl rfl hg2 rfl) ?_
 refine Xd (Xg rfl rfl rfl hg2 rfl) ?_
 refine Xa (Xm (Yu hg2) rfl) ?_
 refine Yw rfl rfl ?_
 refine Xc ?_
 refine Xs ?_
 refine Xa (Y0 (pl := [(0, 1), (1, 1), (2, 1), (3, 1), (4, 1)]) (r := [.int .i64 _, .bool _, .slice _ _ _, .int .u64 _, .slice _ _ _]) Tryz.underlying33 inf33.zero (by decide) rfl rfl) ?_
 refine Xv (Ye (vs := [.int .i64 _, .bool _, .slice _ _ _, .int .u64 _, .slice _ _ _]) rfl rfl inf33.size Ya Yd rfl rfl ?_)
 refine Xa (Xj rfl) ?_
 refine X2 ?_
 exact ⟨_, Yt (Ym Xn (Yl (cs := [_, _, _, _, _]) Tryz.underlying33 rfl inf33.size X5)) (Xp rfl), ⟨Ub, _, 12, rfl, V3 _, V4, by decide, rfl, .inr ⟨rfl, rfl, fun y hy hry hsy => hbad (by have h := all_bytes hy hry hsy; rw [← hal] at h; obtain ⟨h1, h2⟩ := Prod.mk.inj h; exact ⟨h2, by rw [h1, nums_len]; omega⟩)⟩⟩, Hp.le_put_new leH5 (Nat.le_refl _) _⟩
 intro hg2
 have hee : e = 0 := Decidable.not_not.1 (of_decide_eq_false hg2)
 refine Xk (Xh rfl rfl rfl hg2) (X1 rfl) ?_
 refine Xk (Xh rfl rfl rfl hg2) (Yo rfl Tryz.underlying109) ?_
 refine Xk (Xh rfl rfl rfl hg2) (Zf rfl rfl) ?_
 refine Xa (Xm (Yu hg2) rfl) ?_
 refine X4 rfl rfl ?_ ?_
 intro hc4
 have hbad : ¬ (e = 0 ∧ 5 ≤ l.length) := fun h => by have := of_decide_eq_true hc4; omega
 refine Xc ?_
 refine Xs ?_
 refine Xa (Y0 (pl := [(0, 1), (1, 1), (2, 1), (3, 1), (4, 1)]) (r := [.int .i64 _, .bool _, .slice _ _ _, .int .u64 _, .slice _ _ _]) Tryz.underlying33 inf33.zero (by decide) rfl rfl) ?_
 refine Xv (Ye (vs := [.int .i64 _, .bool _, .slice _ _ _, .int .u64 _, .slice _ _ _]) rfl rfl inf33.size Ya Yd rfl rfl ?_)
 refine Xa (Xj rfl) ?_
 refine X2 ?_
 exact ⟨_, Yt (Ym Xn (Yl (cs := [_, _, _, _, _]) Tryz.underlying33 rfl inf33.size X5)) (Xp rfl), ⟨Ub, _, 12, rfl, V3 _, V4, by decide, rfl, .inr ⟨rfl, rfl, fun y hy hry hsy => hbad (by have h := all_bytes hy hry hsy; rw [← hal] at h; obtain ⟨h1, h2⟩ := Prod.mk.inj h; exact ⟨h2, by rw [h1, nums_len]; omega⟩)⟩⟩, Hp.le_put_new leH5 (Nat.le_refl _) _⟩
 intro hc4
 have hlen : 5 ≤ l.length := by have := of_decide_eq_false hc4; omega
 obtain ⟨x0, x1, x2, x3, mid, xr, hle⟩ := five hlen
 have hll5 : l.length = mid.length + 5 := by rw [hle]; simp
 have hb1 := hbd x1 (by show x1 ∈ l; rw [hle]; simp)
 have hbr := hbd xr (by show xr ∈ l; rw [hle]; simp)
 have hbm : ∀ x ∈ mid, 0 ≤ x ∧ x < 18446744073709551616 := fun x hx => hbd x (by show x ∈ l; rw [hle]; simp [hx])
 obtain ⟨A9, c9, S9, hsl9, hS9, hop9⟩ := hl.mids (l := 4) (h := l.length - 1) (by omega) (by omega)
 have hq9 : l.length - 1 - 4 = mid.length := by omega
 have hm9 : (l.take (l.length - 1)).drop 4 = mid := by rw [show l.length - 1 = mid.length + 4 by omega, hle]; exact mid_of
 rw [hq9] at hop9
 rw [hq9, hm9] at hsl9
 obtain ⟨b, o, eA, hb, hcx1⟩ := hl.int_at (i := 1) (by omega) (by omega)
 obtain ⟨b2, o2, eA2, _, hcx2⟩ := hl.int_at (i := 2) (by omega) (by omega)
 obtain ⟨b3, o3, eA3, _, hcx3⟩ := hl.int_at (i := (l.length : Int) - 1) (by omega) (by omega)
 subst eA
 simp only [Option.some.injEq, Addr.mk.injEq, and_true] at eA2 eA3
 obtain ⟨rfl, rfl⟩ := eA2
 obtain ⟨rfl, rfl⟩ := eA3
 rw [show l.getD (1 : Int).toNat 0 = x1 by rw [hle]; rfl] at hcx1
 rw [show l.getD (2 : Int).toNat 0 = x2 by rw [hle]; rfl] at hcx2
 rw [show l.getD ((l.length : Int) - 1).toNat 0 = xr by rw [show ((l.length : Int) - 1).toNat = mid.length + 4 by omega, hle]; exact getD_last] at hcx3
 refine X9 ?_
 refine Xc ?_
 refine Yy (by kernel_rfl) (Y4 (B := [0, 1, 3, 7, 0, 16, 48, 112, 0, 0, 512, 1536, 3840, 7936, 16383, 0, 65535]) (π := [0, 1, 2, 4, 5, 6, 7, 8, 9, 10, 11, 12, 13, 15, 3, 14, 16]) (by kernel_rfl)) ?_
 refine Xe rfl rfl (X1 rfl) Xt ?_
 refine Xe rfl rfl (Xx rfl rfl Tryz.underlying109 inf30.size Yc Yc) Xt ?_
 refine Xe rfl rfl (Xl rfl Tryz.underlying30 rfl Xo) Xt ?_
 refine Xe rfl rfl (X1 rfl) Xt ?_
 refine Xe rfl rfl (Xx rfl rfl Tryz.underlying109 inf30.size Yc Yc) Xt ?_
 refine Xe rfl rfl (Xl rfl Tryz.underlying30 rfl Xo) Xt ?_
 refine Xe rfl rfl (Zs rfl rfl) Xt ?_
 refine Xe rfl rfl (X1 rfl) Xt ?_
 refine Xe rfl rfl (X1 rfl) Xt ?_
 refine Xe rfl rfl (Yo rfl Tryz.underlying109) Xt ?_
 refine Xe rfl rfl (av_sub64 rfl rfl Y2) Xt ?_
 refine Xe rfl rfl (Xx rfl rfl Tryz.underlying109 inf30.size Yc Yc) Xt ?_
 refine Xe rfl rfl (Xl rfl Tryz.underlying30 rfl Xo) Xt ?_
 refine Zd rfl rfl (Ys (l := [.int .i64 0, .bool false, .slice none 0 0, .int .u64 0, .slice none 0 0]) inf33.zero rfl (by decide)) ?_
 refine Yk rfl rfl (Xy (whole_36 x1 _ hb1.1 hb1.2) rfl Tryz.func74 rfl rfl rfl ?_)
 rintro v29 H6 ⟨rfl, rfl⟩
 refine ⟨Yi, ?_⟩
 refine Xe rfl rfl (Y0 (pl := [(0, 1), (1, 1), (2, 1), (3, 1), (4, 1)]) (r := [.int .i64 _, .bool _, .slice _ _ _, .int .u64 _, .slice _ _ _]) Tryz.underlying33 inf33.zero (by decide) rfl rfl) Xt ?_
 refine Yk rfl rfl (Ye (vs := [.int .i64 _, .bool _, .slice _ _ _, .int .u64 _, .slice _ _ _]) rfl rfl inf33.size Ya Yd rfl rfl ?_)
 refine ⟨Yi, ?_⟩
 refine Xc ?_
 refine Xc ?_
 obtain ⟨K, hK⟩ : ∃ K, K = (H5.push (.own 0 [.int .i64 0, .bool false, .slice none 0 0, .int .u64 0, .slice none 0 0])).put H5.size (.own 0 [.int .i64 (Z9 x1), .bool (decide (x2 = 1)), .slice none 0 0, .int .u64 xr, .slice none 0 0]) := ⟨_, rfl⟩
 have k0 : K.get H.size = .own 0 [.int .i64 0, .bool false, .slice none 0 0, .int .u64 0, .slice none 0 0] := by rw [hK, Hp.put_other _ _ (by omega), Hp.push_old _ _ (by omega)]; exact h50
 have k2 : K.get H5.size = .own 0 [.int .i64 (Z9 x1), .bool (decide (x2 = 1)), .slice none 0 0, .int .u64 xr, .slice none 0 0] := by rw [hK]; exact Hp.put_same _ _ _
 have le5K : H5.le K := by rw [hK]; exact Hp.le_put_new (H5.le_push _) (Nat.le_refl _) _
 have zK : K.size = H5.size + 1 := by rw [hK]; simp
 have leK := Hp.le_trans leH5 le5K
 change ACode true _ _ _ _ _ ((H5.push (.own 0 [.int .i64 0, .bool false, .slice none 0 0, .int .u64 0, .slice none 0 0])).put H5.size (.own 0 [.int .i64 (Z9 x1), .bool (decide (x2 = 1)), .slice none 0 0, .int .u64 xr, .slice none 0 0]))
 rw [← hK]
 clear hK
 refine Xs ?_
 refine Xa (X1 rfl) ?_
 refine Xa (X1 rfl) ?_
 refine Xa (Yo rfl Tryz.underlying109) ?_
 refine Xa ((av_sub64 rfl rfl (by omega)).to (congrArg (Value.int .i64) (show (l.length : Int) - 1 = ((l.length - 1 : Nat) : Int) by omega))) ?_
 refine Xa (hop9 _ _ _ _ _ _ _ _ _ _ _ _ _ _ _ le5K (by first | rfl | assumption) Tryz.underlying109 inf30.size (by first | rfl | assumption) (by first | rfl | assumption)) ?_
 refine Xa (Yo rfl Tryz.underlying109) ?_
 refine Xa (Xb rfl) ?_
 refine Yh ?_
 refine Y6 (fun n t H' => ∃ (i : Nat) (G : Hp) (B : Option Addr) (cB : Nat) (E : Option Addr), n = mid.length - i ∧ i ≤ mid.length ∧ Away H5.size K G ∧ G.get H5.size = .own 0 [.int .i64 (Z9 x1), .bool (decide (x2 = 1)), .slice B i cB, .int .u64 xr, .slice none 0 0] ∧ OwnP (Yv .i64) G H' (.slice B i cB) ((mid.take i).map Z9) ∧ Sl (Yv .u64) K (.slice E mid.length c9) mid ∧ t 0 = .string s ∧ t 2 = .pointer (some ⟨H.size, 0, none⟩) ∧ t 6 = .pointer (some ⟨H5.size, 0, none⟩) ∧ t 45 = .slice E mid.length c9 ∧ t 46 = .int .i64 mid.length ∧ t 47 = .int .i64 i) (mid.length) (⟨0, K, none, 0, _, rfl, Nat.zero_le _, .refl _ _, k2, OwnP.nil _ _, hsl9.mono le5K.sees, rfl, rfl, rfl, rfl, rfl, rfl⟩) ?_
 rintro n t H1 ⟨i, G, B, cB, E, rfl, hi, aw, g2, hown, hE, e0, e2, e6, e45, e46, e47⟩
 have zG := aw.size
 have zz := hown.size
 have g0 := aw.keep (b := H.size) (by omega) (by omega) (by intro e; cases e) k0
 have h0 := Xr hown.le (by omega) (by intro e; cases e) g0
 have h2 := Xr hown.le (by omega) (by intro e; cases e) g2
 have sGK := aw.sees k2
 have hlenT : ((mid.take i).map Z9).length = i := by rw [List.length_map, List.length_take]; omega
 refine Xc ?_
 refine Xs ?_
 refine Xa (Zf Xn Xn) ?_
 refine Xc ?_
 refine X4 rfl rfl ?_ ?_
 intro hc5
 have hil : i < mid.length := by have := of_decide_eq_true hc5; omega
 obtain ⟨bb, oo, eE, hbE, hcell0⟩ := (((hE.mono sGK).mono hown.le.sees)).int_at (i := (i : Int)) (by omega) (by omega)
 rw [Int.toNat_natCast, Za hil] at hcell0
 subst eE
 have hbi := hbm _ (List.getElem_mem hil)
 refine X9 ?_
 refine Xc ?_
 refine Yh ?_
 refine Xc ?_
 refine Xs ?_
 refine Xa (Xx Xn Xn Tryz.underlying109 inf30.size Yc Yc) ?_
 refine Xa (Xl rfl Tryz.underlying30 rfl Xo) ?_
 refine Xa (Xj rfl) ?_
 refine Yy (by kernel_rfl) (Y4 (B := [0, 1, 0, 4, 12, 31, 63, 127]) (π := [0, 1, 2, 3, 4, 5, 6, 7]) (by kernel_rfl)) ?_
 refine Xe rfl rfl (Xf (off := 2) Xn Tryz.underlying33 Xn inf23.size (by decide) Xn) Xt ?_
 refine Xe rfl rfl (Xl rfl Tryz.underlying23 rfl Xo) Xt ?_
 refine Xe rfl rfl (Xb rfl) Xt ?_
 refine Yk rfl rfl (Xy (whole_36 mid[i] _ hbi.1 hbi.2) rfl Tryz.func74 rfl rfl rfl ?_)
 rintro v54 H6 ⟨rfl, rfl⟩
 refine ⟨Yi, ?_⟩
 first | refine Zd rfl rfl (Yg (r := [.int .i64 _]) Tryz.underlying23 inf3.size inf3.zero rfl (by decide) (by decide) (by decide) rfl) ?_
 refine Yk rfl rfl (OwnP.append (ys := [Z9 mid[i]]) (hown.push _) Tryz.underlying23 inf3 Xn Xn rfl (Zw (k := Yv .i64) rfl rfl hown.size rfl) (by rw [hlenT]; simp only [List.length_singleton]; omega) (by rw [hlenT]; simp only [List.length_singleton]; omega) ?_)
 rintro v35 G6 H6 hle6 hown6
 have hsameO := OwnP.sameO (hown.push _) hle6 hown6
 have le56 := Hp.le_trans (Hp.le_push _ _) hle6
 have z6 := le56.1
 have zz6 := hown6.size
 have g60 := Xr le56 (by omega) (by intro e; cases e) g0
 have g62 := Xr le56 (by omega) (by intro e; cases e) g2
 have h60 := Xr hown6.le (by omega) (by intro e; cases e) g60
 have h62 := Xr hown6.le (by omega) (by intro e; cases e) g62
 obtain ⟨B', c', rfl⟩ := hown6.shape
 rw [show (mid.take i).map Z9 ++ [Z9 mid[i]] = (mid.take (i + 1)).map Z9 by rw [← Zb hil, List.map_append]; rfl] at hown6 ⊢
 have hlen2 : ((mid.take (i + 1)).map Z9).length = i + 1 := by rw [List.length_map, List.length_take]; omega
 rw [hlen2] at hown6 ⊢
 refine ⟨Yi, ?_⟩
 refine Xe rfl rfl (Xf (off := 2) Xn Tryz.underlying33 Xn inf23.size (by decide) Xn) Xt ?_
 first | refine Yk rfl rfl (Yz rfl rfl rfl inf23.size Ya Yd rfl ?_)
 refine ⟨Yi, ?_⟩
 refine Xs ?_
 refine Xa (Yq Xn Xn Y2) ?_
 refine Xa (Xb rfl) ?_
 exact ⟨mid.length - (i + 1), by omega, i + 1, G6.put H5.size (.own 0 [.int .i64 (Z9 x1), .bool (decide (x2 = 1)), .slice B' (i + 1) c', .int .u64 xr, .slice none 0 0]), B', c', _, rfl, by omega, (aw.trans (.of_le le56)).put _, Hp.put_same _ _ _, hown6.put (by rw [g62]; intro e; cases e) _ (Hp.sees_box _ g62), hE, e0, e2, e6, e45, e46, rfl⟩
 intro hc5
 have hil : i = mid.length := by have := of_decide_eq_false hc5; omega
 rw [hil, List.take_length] at hown
 rw [hil] at h2 g2
 have hX : kMark.rep H1 (decM x1 x2 mid xr) [.int .i64 (Z9 x1), .bool (decide (x2 = 1)), .slice B mid.length cB, .int .u64 xr, .slice none 0 0] := ⟨_, _, rfl, hown.sl, Sl.nil _ _⟩
 have hbX : BigM (decM x1 x2 mid xr) := ⟨by show (mid.map Z9).length ≤ _; rw [List.length_map]; omega, Nat.zero_le _, fun x hx => by cases hx⟩
 have leH1 := Hp.le_trans (aw.base leK (by omega)) hown.le
 have h12 : ∀ y, Zv y → (0 ≤ y.rest ∧ y.rest < 18446744073709551616) → s = Y9 (Va (Zu y)) → Zv (decM x1 x2 mid xr) ∧ s = Y9 (Va (Zu (decM x1 x2 mid xr))) := fun y hy hry hsy => by
  have h := all_bytes hy hry hsy
  rw [← hal] at h
  have h1 := (Prod.mk.inj h).1
  rw [hle] at h1
  obtain ⟨h3, h4⟩ := dec_good hy h1
  exact ⟨h3, by rw [h4]; exact hsy⟩
 refine Y3 ?_
 refine Xc ?_
 refine Xc ?_
 refine Xs ?_
 refine Xa (Yj (cs := [.int .i64 _, .bool _, .slice _ _ _, .int .u64 _, .slice _ _ _]) Xn Tryz.underlying33 Xn inf33.size X5) ?_
 refine Xv (Xy (good_36 (decM x1 x2 mid xr) _ _ hX hbX) rfl Tryz.func75 rfl rfl rfl ?_)
 rintro v60 H6 ⟨⟨g, rfl, hgX⟩, hH6⟩; subst hH6
 refine Xa (Z3 rfl) ?_
 refine Xa (Xq rfl) ?_
 refine Yb rfl rfl rfl ?_ ?_
 intro hg6
 have hng : ¬ Zv (decM x1 x2 mid xr) := fun h => by have h9 := hg6; rw [hgX.2 h] at h9; cases h9
 have hno : ∀ y, Zv y → (0 ≤ y.rest ∧ y.rest < 18446744073709551616) → s ≠ Y9 (Va (Zu y)) := fun y hy hry hsy => hng (h12 y hy hry hsy).1
 refine Xd (Xg rfl rfl rfl hg6 rfl) ?_
 refine Xd (Xg rfl rfl rfl hg6 rfl) ?_
 refine Xd (Xg rfl rfl rfl hg6 rfl) ?_
 refine Xd (Xg rfl rfl rfl hg6 rfl) ?_
 refine Xa (Xm (Yu hg6) Xn) ?_
 refine Yw rfl rfl ?_
 refine Xc ?_
 refine Xs ?_
 refine Xa (Y0 (pl := [(0, 1), (1, 1), (2, 1), (3, 1), (4, 1)]) (r := [.int .i64 _, .bool _, .slice _ _ _, .int .u64 _, .slice _ _ _]) Tryz.underlying33 inf33.zero (by decide) rfl rfl) ?_
 refine Xv (Ye (vs := [.int .i64 _, .bool _, .slice _ _ _, .int .u64 _, .slice _ _ _]) Xn Xn inf33.size Ya Yd Xn Xn ?_)
 refine Xa (Xj rfl) ?_
 refine X2 ?_
 first
  | exact ⟨_, Yt (Ym Xn (Yl (cs := [_, _, _, _, _]) Tryz.underlying33 rfl inf33.size X5)) (Xp rfl), ⟨Ub, _, 12, rfl, V3 _, V4, by decide, rfl, .inr ⟨rfl, rfl, hno⟩⟩, Hp.le_put_new (Hp.le_trans leH1 le7) (Nat.le_refl _) _⟩
  | exact ⟨_, Yt (Ym Xn (Yl (cs := [_, _, _, _, _]) Tryz.underlying33 rfl inf33.size X5)) (Xp rfl), ⟨Ub, _, 12, rfl, V3 _, V4, by decide, rfl, .inr ⟨rfl, rfl, hno⟩⟩, Hp.le_put_new leH1 (Nat.le_refl _) _⟩
 intro hg6
 have hyg : Zv (decM x1 x2 mid xr) := hgX.1 (by have h := hg6; simpa using h)
 refine Xk (Xh rfl rfl rfl hg6) (Yj (cs := [.int .i64 _, .bool _, .slice _ _ _, .int .u64 _, .slice _ _ _]) Xn Tryz.underlying33 Xn inf33.size X5) ?_
 refine Vg (Xh rfl rfl rfl hg6) (Xy (put_36 (decM x1 x2 mid xr) _ _ hX hyg hbr) rfl Tryz.func76 rfl rfl rfl ?_)
 rintro v64 H7 ⟨rfl, le7⟩; have y0 := Xr le7 (by omega) (by intro e; cases e) h0; have y2 := Xr le7 (by omega) (by intro e; cases e) h2
 refine Xk (Xh rfl rfl rfl hg6) (Zo Xn) ?_
 refine Xk (Xh rfl rfl rfl hg6) (av_str_neq rfl rfl) ?_
 refine Xa (Xm (Yu hg6) rfl) ?_
 refine X4 rfl rfl ?_ ?_
 intro hc8
 have hno : ∀ y, Zv y → (0 ≤ y.rest ∧ y.rest < 18446744073709551616) → s ≠ Y9 (Va (Zu y)) := fun y hy hry hsy => (of_decide_eq_true hc8) (h12 y hy hry hsy).2.symm
 refine Xc ?_
 refine Xs ?_
 refine Xa (Y0 (pl := [(0, 1), (1, 1), (2, 1), (3, 1), (4, 1)]) (r := [.int .i64 _, .bool _, .slice _ _ _, .int .u64 _, .slice _ _ _]) Tryz.underlying33 inf33.zero (by decide) rfl rfl) ?_
 refine Xv (Ye (vs := [.int .i64 _, .bool _, .slice _ _ _, .int .u64 _, .slice _ _ _]) Xn Xn inf33.size Ya Yd Xn Xn ?_)
 refine Xa (Xj rfl) ?_
 refine X2 ?_
 first
  | exact ⟨_, Yt (Ym Xn (Yl (cs := [_, _, _, _, _]) Tryz.underlying33 rfl inf33.size X5)) (Xp rfl), ⟨Ub, _, 12, rfl, V3 _, V4, by decide, rfl, .inr ⟨rfl, rfl, hno⟩⟩, Hp.le_put_new (Hp.le_trans leH1 le7) (Nat.le_refl _) _⟩
  | exact ⟨_, Yt (Ym Xn (Yl (cs := [_, _, _, _, _]) Tryz.underlying33 rfl inf33.size X5)) (Xp rfl), ⟨Ub, _, 12, rfl, V3 _, V4, by decide, rfl, .inr ⟨rfl, rfl, hno⟩⟩, Hp.le_put_new leH1 (Nat.le_refl _) _⟩
 intro hc8
 have hse : Y9 (Va (Zu (decM x1 x2 mid xr))) = s := Decidable.not_not.1 (of_decide_eq_false hc8)
 refine X9 ?_
 refine Xc ?_
 refine Xs ?_
 refine Xa (Yj (cs := [.int .i64 _, .bool _, .slice _ _ _, .int .u64 _, .slice _ _ _]) Xn Tryz.underlying33 Xn inf33.size X5) ?_
 refine Xv (Ye (vs := [.int .i64 _, .bool _, .slice _ _ _, .int .u64 _, .slice _ _ _]) Xn Xn inf33.size Ya Yd Xn Xn ?_)
 refine Xa (Xj rfl) ?_
 refine X2 ?_
 exact ⟨_, Yt (Ym Xn (Yl (cs := [_, _, _, _, _]) Tryz.underlying33 rfl inf33.size X5)) (Xp rfl), ⟨decM x1 x2 mid xr, _, 0, rfl, kMark.mono (Hp.sees_box _ y0) (kMark.mono le7.sees hX), hbX, hbr, rfl, .inl ⟨rfl, hyg, hse.symm⟩⟩, Hp.le_put_new (Hp.le_trans leH1 le7) (Nat.le_refl _) _⟩
theorem EqualI_raw (xs ys : List Int) (v u : Value) (H : Hp) (hs : Sl (Yv .i64) H v xs) (hu : Sl (Yv .i64) H u ys) (hl : xs.length ≤ 9223372036854775807) :
  ACalls Tryz.prog 78 #[v, u] H (fun r _ => r = .bool (decide (xs = ys))) := by
 obtain ⟨A, c, rfl⟩ := hs.shape
 obtain ⟨B, c2, rfl⟩ := hu.shape
 refine Xu Tryz.func78 rfl rfl rfl (by simp) ?_
 refine Xc ?_
 refine Xs ?_
 refine Xa (Xi rfl) ?_
 refine Xc ?_
 refine Xc ?_
 refine Xs ?_
 refine Xa (X1 rfl) ?_
 refine Xa (Yo rfl Tryz.underlying23) ?_
 refine Xa (X1 rfl) ?_
 refine Xa (Yo rfl Tryz.underlying23) ?_
 refine Xa (Vb rfl rfl) ?_
 refine X4 rfl rfl ?_ ?_
 intro hc1
 have hne : xs.length ≠ ys.length := by have := of_decide_eq_true hc1; omega
 refine Xc ?_
 refine Xs ?_
 refine Xa (Xi rfl) ?_
 refine X2 ?_
 exact ⟨.bool false, X0 (Xp rfl), by rw [decide_eq_false (fun e => hne (by rw [e]))]⟩
 intro hc1
 have hlen : xs.length = ys.length := by have := of_decide_eq_false hc1; omega
 refine X9 ?_
 refine Xc ?_
 refine Xc ?_
 refine Xs ?_
 refine Xa (X1 rfl) ?_
 refine Xa (Yo rfl Tryz.underlying23) ?_
 refine Xa (Xb rfl) ?_
 refine Yh ?_
 refine Y6 (fun n t H' => ∃ (i : Nat) (A B : Option Addr), i ≤ xs.length ∧ n = xs.length - i ∧ H' = H ∧ xs.take i = ys.take i ∧ Sl (Yv .i64) H (.slice A xs.length c) xs ∧ Sl (Yv .i64) H (.slice B ys.length c2) ys ∧ t 0 = .slice A xs.length c ∧ t 1 = .slice B ys.length c2 ∧ t 12 = .int .i64 xs.length ∧ t 13 = .int .i64 i) (xs.length) (⟨0, _, _, by omega, rfl, rfl, by simp, hs, hu, rfl, rfl, rfl, rfl⟩) ?_
 rintro n t H ⟨i, A, B, hi, rfl, rfl, hok, hs, hu, e0, e1, e12, e13⟩
 refine Xc ?_
 refine Xs ?_
 refine Xa (Zf Xn Xn) ?_
 refine Xc ?_
 refine X4 rfl rfl ?_ ?_
 intro hc2
 have hix : i < xs.length := by have := of_decide_eq_true hc2; omega
 have hiy : i < ys.length := by omega
 obtain ⟨b, o, eA, hb, hcell1⟩ := hs.int_at (i := (i : Int)) (by omega) (by omega)
 obtain ⟨b2, o2, eB, hb2, hcell2⟩ := hu.int_at (i := (i : Int)) (by omega) (by omega)
 rw [Int.toNat_natCast, Za hix] at hcell1
 rw [Int.toNat_natCast, Za hiy] at hcell2
 subst eA
 subst eB
 refine X9 ?_
 refine Xc ?_
 refine Yh ?_
 refine Xc ?_
 refine Xs ?_
 refine Xa (Xb Xn) ?_
 refine Xa (Xj rfl) ?_
 refine Xc ?_
 refine Yy (by kernel_rfl) (Y4 (B := [0, 0, 3, 7, 0, 0, 48, 112, 255]) (π := [0, 1, 2, 3, 4, 5, 6, 7, 8]) (by kernel_rfl)) ?_
 refine Xe rfl rfl (X1 Xn) Xt ?_
 refine Xe rfl rfl (Xb rfl) Xt ?_
 refine Xe rfl rfl (Xx rfl rfl Tryz.underlying23 inf3.size Yc Yc) Xt ?_
 refine Xe rfl rfl (Xl rfl Tryz.underlying3 rfl Xo) Xt ?_
 refine Xe rfl rfl (X1 Xn) Xt ?_
 refine Xe rfl rfl (Xb rfl) Xt ?_
 refine Xe rfl rfl (Xx rfl rfl Tryz.underlying23 inf3.size Yc Yc) Xt ?_
 refine Xe rfl rfl (Xl rfl Tryz.underlying3 rfl Xo) Xt ?_
 refine Xe rfl rfl (Vb rfl rfl) Xt ?_
 refine X4 rfl rfl ?_ ?_
 intro hc3
 have hne : xs[i] ≠ ys[i] := of_decide_eq_true hc3
 refine Xc ?_
 refine Xs ?_
 refine Xa (Xi rfl) ?_
 refine X2 ?_
 refine ⟨.bool false, X0 (Xp rfl), ?_⟩
 rw [decide_eq_false]
 intro e; subst e; exact hne rfl
 intro hc3
 have heq : xs[i] = ys[i] := Decidable.not_not.1 (of_decide_eq_false hc3)
 refine X9 ?_
 refine Xs ?_
 refine Xa (Yq Xn Xn Y2) ?_
 refine Xa (Xb rfl) ?_
 exact ⟨xs.length - (i + 1), by omega, i + 1, _, _, by omega, rfl, rfl, by rw [← Zb hix, ← Zb hiy, hok, heq], hs, hu, e0, e1, e12, rfl⟩
 intro hc2
 have hend : i = xs.length := by have := of_decide_eq_false hc2; omega
 refine Y3 ?_
 refine Xc ?_
 refine Xs ?_
 refine Xa (Xi rfl) ?_
 refine X2 ?_
 refine ⟨.bool true, X0 (Xp rfl), ?_⟩
 rw [decide_eq_true]
 rw [List.take_of_length_le (by omega), List.take_of_length_le (by omega)] at hok
 exact hok
theorem EqualI_ints (xs ys : List Int) (v u : Value) (H : Hp) (hs : Sl (Yv .i64) H v xs) (hu : Sl (Yv .i64) H u ys) (hl : xs.length ≤ 9223372036854775807) :
  ACalls Tryz.prog 78 #[v, u] H (fun r H' => r = .bool (decide (xs = ys)) ∧ H' = H) :=
 ACalls.pure (R := fun r => r = .bool (decide (xs = ys))) (fun v h => by rw [h]; rfl) (EqualI_raw xs ys v u H.ro (hs.mono H.sees_ro) (hu.mono H.sees_ro) hl)
theorem Same_raw (a b : MarkT) (cs ds : List Value) (H : Hp) (ha : kMark.rep H a cs) (hb : kMark.rep H b ds) (hba : BigM a) (hbb : BigM b) :
  ACalls Tryz.prog 44 #[.agg cs.toArray, .agg ds.toArray] H (fun r _ => ∃ g, r = .bool g ∧ (g = true ↔ SameM a b)) := by
 obtain ⟨v, w, rfl, hv, hw⟩ := ha
 obtain ⟨A, c, rfl⟩ := hv.shape
 obtain ⟨W, cW, rfl⟩ := hw.shape
 obtain ⟨v2, w2, rfl, hv2, hw2⟩ := hb
 obtain ⟨A2, c2, rfl⟩ := hv2.shape
 obtain ⟨W2, cW2, rfl⟩ := hw2.shape
 have hbn := hba.n
 refine Xu Tryz.func44 rfl rfl rfl (by simp) ?_
 refine Xc ?_
 refine Xs ?_
 refine Xz (Yp rfl) ?_
 refine Xz (Yp rfl) ?_
 refine Xa (Xi rfl) ?_
 refine Xc ?_
 refine Xs ?_
 refine Xa (Xf (off := 0) rfl Tryz.underlying33 rfl inf3.size (by decide) rfl) ?_
 refine Xa (Xl rfl Tryz.underlying3 rfl Xo) ?_
 refine Xa (Xf (off := 0) rfl Tryz.underlying33 rfl inf3.size (by decide) rfl) ?_
 refine Xa (Xl rfl Tryz.underlying3 rfl Xo) ?_
 refine Xa (Zs rfl rfl) ?_
 refine Xa (Xq rfl) ?_
 refine Yb rfl rfl rfl ?_ ?_
 intro hg1
 have p1 : a.told = b.told := of_decide_eq_true hg1
 refine Xk (Xh rfl rfl rfl hg1) (Xf (off := 1) rfl Tryz.underlying33 rfl inf4.size (by decide) rfl) ?_
 refine Xk (Xh rfl rfl rfl hg1) (Xl rfl Tryz.underlying4 rfl Xo) ?_
 refine Xk (Xh rfl rfl rfl hg1) (Xf (off := 1) rfl Tryz.underlying33 rfl inf4.size (by decide) rfl) ?_
 refine Xk (Xh rfl rfl rfl hg1) (Xl rfl Tryz.underlying4 rfl Xo) ?_
 refine Xk (Xh rfl rfl rfl hg1) (av_beq rfl rfl Tryz.underlying4) ?_
 refine Xa (Xm (Yu hg1) rfl) ?_
 refine Xa (Xq rfl) ?_
 refine Yb rfl rfl rfl ?_ ?_
 intro hg2
 have p2 : a.over = b.over := by have h := hg2; simpa using h
 refine Xk (Xh rfl rfl rfl hg2) (Xf (off := 2) rfl Tryz.underlying33 rfl inf23.size (by decide) rfl) ?_
 refine Xk (Xh rfl rfl rfl hg2) (Xl rfl Tryz.underlying23 rfl Xo) ?_
 refine Xk (Xh rfl rfl rfl hg2) (Xf (off := 2) rfl Tryz.underlying33 rfl inf23.size (by decide) rfl) ?_
 refine Xk (Xh rfl rfl rfl hg2) (Xl rfl Tryz.underlying23 rfl Xo) ?_
 refine Vg (Xh rfl rfl rfl hg2) (Xy (EqualI_ints a.nodes b.nodes _ _ _ (hv.mono Zh) (hv2.mono Zh) hbn) rfl Tryz.func78 rfl rfl rfl ?_)
 rintro v22 H5 ⟨rfl, hH5⟩; subst hH5
 refine Xa (Xm (Yu hg2) rfl) ?_
 refine Xa (Xq rfl) ?_
 refine Yb rfl rfl rfl ?_ ?_
 intro hg3
 have p3 : a.nodes = b.nodes := of_decide_eq_true hg3
 refine Xk (Xh rfl rfl rfl hg3) (Xf (off := 3) rfl Tryz.underlying33 rfl inf30.size (by decide) rfl) ?_
 refine Xk (Xh rfl rfl rfl hg3) (Xl rfl Tryz.underlying30 rfl Xo) ?_
 refine Xk (Xh rfl rfl rfl hg3) (Xf (off := 3) rfl Tryz.underlying33 rfl inf30.size (by decide) rfl) ?_
 refine Xk (Xh rfl rfl rfl hg3) (Xl rfl Tryz.underlying30 rfl Xo) ?_
 refine Xk (Xh rfl rfl rfl hg3) (Zs rfl rfl) ?_
 refine Xa (Xm (Yu hg3) rfl) ?_
 refine Xa (Xi rfl) ?_
 refine X2 ?_
 refine ⟨_, X0 (Xp rfl), _, rfl, ?_⟩
 first
  | exact ⟨fun h => (by cases h), fun h => absurd h.1 p1⟩
  | exact ⟨fun h => (by cases h), fun h => absurd h.2.1 p2⟩
  | exact ⟨fun h => (by cases h), fun h => absurd h.2.2.2 p3⟩
  | exact ⟨fun h => ⟨p1, p2, of_decide_eq_true h, p3⟩, fun h => decide_eq_true h.2.2.1⟩
 intro hg3
 have p3 : a.nodes ≠ b.nodes := of_decide_eq_false hg3
 refine Xd (Xg rfl rfl rfl hg3 rfl) ?_
 refine Xd (Xg rfl rfl rfl hg3 rfl) ?_
 refine Xd (Xg rfl rfl rfl hg3 rfl) ?_
 refine Xd (Xg rfl rfl rfl hg3 rfl) ?_
 refine Xd (Xg rfl rfl rfl hg3 rfl) ?_
 refine Xa (Xm (Yu hg3) rfl) ?_
 refine Xa (Xi rfl) ?_
 refine X2 ?_
 refine ⟨_, X0 (Xp rfl), _, rfl, ?_⟩
 first
  | exact ⟨fun h => (by cases h), fun h => absurd h.1 p1⟩
  | exact ⟨fun h => (by cases h), fun h => absurd h.2.1 p2⟩
  | exact ⟨fun h => (by cases h), fun h => absurd h.2.2.2 p3⟩
  | exact ⟨fun h => ⟨p1, p2, of_decide_eq_true h, p3⟩, fun h => decide_eq_true h.2.2.1⟩
 intro hg2
 have p2 : a.over ≠ b.over := by have h := hg2; simpa using h
 refine Xd (Xg rfl rfl rfl hg2 rfl) ?_
 refine Xd (Xg rfl rfl rfl hg2 rfl) ?_
 refine Xd (Xg rfl rfl rfl hg2 rfl) ?_
 refine Xd (Xg rfl rfl rfl hg2 rfl) ?_
 refine Xd (Xg rfl rfl rfl hg2 rfl) ?_
 refine Xa (Xm (Yu hg2) rfl) ?_
 refine Xa (Xq rfl) ?_
 refine Xd (Xg rfl rfl rfl rfl rfl) ?_
 refine Xd (Xg rfl rfl rfl rfl rfl) ?_
 refine Xd (Xg rfl rfl rfl rfl rfl) ?_
 refine Xd (Xg rfl rfl rfl rfl rfl) ?_
 refine Xd (Xg rfl rfl rfl rfl rfl) ?_
 refine Xa (Xm (congrArg Value.bool rfl) rfl) ?_
 refine Xa (Xi rfl) ?_
 refine X2 ?_
 refine ⟨_, X0 (Xp rfl), _, rfl, ?_⟩
 first
  | exact ⟨fun h => (by cases h), fun h => absurd h.1 p1⟩
  | exact ⟨fun h => (by cases h), fun h => absurd h.2.1 p2⟩
  | exact ⟨fun h => (by cases h), fun h => absurd h.2.2.2 p3⟩
  | exact ⟨fun h => ⟨p1, p2, of_decide_eq_true h, p3⟩, fun h => decide_eq_true h.2.2.1⟩
 intro hg1
 have p1 : a.told ≠ b.told := of_decide_eq_false hg1
 refine Xd (Xg rfl rfl rfl hg1 rfl) ?_
 refine Xd (Xg rfl rfl rfl hg1 rfl) ?_
 refine Xd (Xg rfl rfl rfl hg1 rfl) ?_
 refine Xd (Xg rfl rfl rfl hg1 rfl) ?_
 refine Xd (Xg rfl rfl rfl hg1 rfl) ?_
 refine Xa (Xm (Yu hg1) rfl) ?_
 refine Xa (Xq rfl) ?_
 refine Xd (Xg rfl rfl rfl rfl rfl) ?_
 refine Xd (Xg rfl rfl rfl rfl rfl) ?_
 refine Xd (Xg rfl rfl rfl rfl rfl) ?_
 refine Xd (Xg rfl rfl rfl rfl rfl) ?_
 refine Xd (Xg rfl rfl rfl rfl rfl) ?_
 refine Xa (Xm (congrArg Value.bool rfl) rfl) ?_
 refine Xa (Xq rfl) ?_
 refine Xd (Xg rfl rfl rfl rfl rfl) ?_
 refine Xd (Xg rfl rfl rfl rfl rfl) ?_
 refine Xd (Xg rfl rfl rfl rfl rfl) ?_
 refine Xd (Xg rfl rfl rfl rfl rfl) ?_
 refine Xd (Xg rfl rfl rfl rfl rfl) ?_
 refine Xa (Xm (congrArg Value.bool rfl) rfl) ?_
 refine Xa (Xi rfl) ?_
 refine X2 ?_
 refine ⟨_, X0 (Xp rfl), _, rfl, ?_⟩
 first
  | exact ⟨fun h => (by cases h), fun h => absurd h.1 p1⟩
  | exact ⟨fun h => (by cases h), fun h => absurd h.2.1 p2⟩
  | exact ⟨fun h => (by cases h), fun h => absurd h.2.2.2 p3⟩
  | exact ⟨fun h => ⟨p1, p2, of_decide_eq_true h, p3⟩, fun h => decide_eq_true h.2.2.1⟩
theorem Same_36 (a b : MarkT) (cs ds : List Value) (H : Hp) (ha : kMark.rep H a cs) (hb : kMark.rep H b ds) (hba : BigM a) (hbb : BigM b) :
  ACalls Tryz.prog 44 #[.agg cs.toArray, .agg ds.toArray] H (fun r H' => (∃ g, r = .bool g ∧ (g = true ↔ SameM a b)) ∧ H' = H) :=
 ACalls.pure (fun v ⟨g, h, _⟩ => by rw [h]; rfl) (Same_raw a b cs ds H.ro (kMark.mono H.sees_ro ha) (kMark.mono H.sees_ro hb) hba hbb)
theorem GoodC_raw (m : MarkT) (cs : List Value) (H : Hp) (hm : kMark.rep H m cs) (hb : BigM m) :
  ACalls Tryz.prog 43 #[.agg cs.toArray] H (fun r _ => ∃ g, r = .bool g ∧ (g = true ↔ Zv m)) := by
 have hm0 := hm
 obtain ⟨v, w, rfl, hv, hw⟩ := hm
 obtain ⟨A, c, rfl⟩ := hv.shape
 obtain ⟨W, cW, rfl⟩ := hw.shape
 refine Xu Tryz.func43 rfl rfl rfl (by simp) ?_
 refine Xc ?_
 refine Xs ?_
 refine Xz (Yp rfl) ?_
 refine Xa (Xi rfl) ?_
 refine Xc ?_
 refine Xs ?_
 refine Xa (Yj (cs := [.int .i64 _, .bool _, .slice _ _ _, .int .u64 _, .slice _ _ _]) rfl Tryz.underlying33 rfl inf33.size X5) ?_
 refine Xv (Xy (good_36 m _ _ (kMark.mono Zh hm0) hb) rfl Tryz.func75 rfl rfl rfl ?_)
 rintro v5 H1 ⟨⟨g, rfl, hg⟩, hH1⟩; subst hH1
 refine Xa (Xi rfl) ?_
 refine X2 ?_
 exact ⟨_, X0 (Xp rfl), g, rfl, hg⟩
theorem GoodC_36 (m : MarkT) (cs : List Value) (H : Hp) (hm : kMark.rep H m cs) (hb : BigM m) :
  ACalls Tryz.prog 43 #[.agg cs.toArray] H (fun r H' => (∃ g, r = .bool g ∧ (g = true ↔ Zv m)) ∧ H' = H) :=
 ACalls.pure (fun v ⟨g, h, _⟩ => by rw [h]; rfl) (GoodC_raw m cs H.ro (kMark.mono H.sees_ro hm) hb)


end Go.Proofs.YtmakkmcjocjgmaaGreat.Am
namespace Go.Proofs.YtmakkmcjocjgmaaGreat.Am
open Go Go.RowKit
set_option maxRecDepth 100000
set_option linter.unusedVariables false
set_option linter.unusedSimpArgs false

def behN (T : TreeT) (ns : List Int) : List (List Int) := (extN T T.vars.length []).filter fun x => decide (0 < cmpZ x ns)
theorem cmp_app : ∀ (p xs ys : List Int), cmpZ (p ++ xs) (p ++ ys) = cmpZ xs ys
 | [], _, _ => rfl
 | a :: p, xs, ys => by
  show cmpZ (a :: (p ++ xs)) (a :: (p ++ ys)) = _
  rw [cmpZ, if_neg (by omega), if_neg (by omega), cmp_app p]
theorem ext_pre {T : TreeT} : ∀ (d : Nat) (p x : List Int), x ∈ extN T d p → ∃ s, x = p ++ s
 | 0, p, x, h => ⟨[], by rw [List.append_nil]; exact List.mem_singleton.1 h⟩
 | d + 1, p, x, h => by
  obtain ⟨l, _, h2⟩ := List.mem_flatMap.1 h
  obtain ⟨s, rfl⟩ := ext_pre d _ x h2
  exact ⟨l.b :: s, by simp⟩
theorem split_list {ns : List Int} {i : Nat} (h : i < ns.length) : ns = ns.take i ++ ns.getD i 0 :: ns.drop (i + 1) := by
 conv => lhs; rw [← List.take_append_drop i ns, List.drop_eq_getElem_cons h]
 rw [Za h]
theorem take_more {ns : List Int} {i : Nat} (h : i < ns.length) : ns.take i ++ [ns.getD i 0] = ns.take (i + 1) := by
 rw [Za h, List.take_append_getElem]
theorem cut_group {F : Link → List (List Int)} {P : List Int → Bool} {x : Int} : ∀ {g : List Link}, g.Pairwise (fun y z => y.b < z.b) → (∀ l : Link, l.b < x → (F l).filter P = []) → (∀ l : Link, x < l.b → (F l).filter P = F l) →
    (g.flatMap F).filter P = (match Zq g x with | some l => (F l).filter P | none => []) ++ (g.filter fun l => decide (x < l.b)).flatMap F
  | [], _, _, _ => rfl
  | y :: g, hs, h1, h2 => by
    obtain ⟨hy, hg⟩ := List.pairwise_cons.1 hs
    have ih := cut_group hg h1 h2
    rw [List.flatMap_cons, List.filter_append, ih]
    rcases Int.lt_trichotomy y.b x with h | h | h
    · rw [h1 y h, List.nil_append, List.filter_cons, if_neg (by simp; omega)]
      have : Zq (y :: g) x = Zq g x := by unfold Zq; rw [List.find?_cons, decide_eq_false (by omega)]
      rw [this]
    · have hf : Zq (y :: g) x = some y := by unfold Zq; rw [List.find?_cons, decide_eq_true h]
      have hn : Zq g x = none := findB_none fun l hl => by have := hy l hl; omega
      rw [hf, hn, List.filter_cons, if_neg (by simp; omega), List.nil_append]
    · have hf : Zq (y :: g) x = none := findB_none fun l hl => by
        rcases List.mem_cons.1 hl with rfl | hl
        · omega
        · have := hy l hl; omega
      have hn : Zq g x = none := findB_none fun l hl => by have := hy l hl; omega
      rw [hf, hn, h2 y h, List.nil_append, List.nil_append, List.filter_cons, if_pos (by simpa using h), List.flatMap_cons]
section
variable {T : TreeT} (hT : GoodT T)
include hT
theorem beh_step {ns : List Int} (hl : ns.length = T.vars.length) {i : Nat} (hi : i < ns.length) :
  (extN T (T.vars.length - i) (ns.take i)).filter (fun x => decide (0 < cmpZ x ns)) = (match Zq (T.group i (Yn T ns i)) (ns.getD i 0) with
   | some _ => (extN T (T.vars.length - (i + 1)) (ns.take (i + 1))).filter fun x => decide (0 < cmpZ x ns)
   | none => []) ++ ((T.group i (Yn T ns i)).filter fun l => decide (ns.getD i 0 < l.b)).flatMap (fun l => extN T (T.vars.length - (i + 1)) (ns.take i ++ [l.b])) := by
 have e : T.vars.length - i = (T.vars.length - (i + 1)) + 1 := by omega
 have hlp : (ns.take i).length = i := by rw [List.length_take]; omega
 have ha : Yn T (ns.take i) i = Yn T ns i := Z4 hT (by omega) (fun j hj => Vl hj)
 rw [e, extN, hlp, ha, cut_group (x := ns.getD i 0) (hT.sort i (Yn T ns i))]
 ·congr 1
  cases hf : Zq (T.group i (Yn T ns i)) (ns.getD i 0) with
  | none => rfl
  | some l =>
   have := ((findB_iff (hT.sort i (Yn T ns i))).1 hf).2
   simp only
   rw [this, take_more hi]
 ·intro l h
  refine List.filter_eq_nil_iff.2 fun x hx => ?_
  obtain ⟨s, rfl⟩ := ext_pre _ _ x hx
  have : cmpZ (ns.take i ++ [l.b] ++ s) ns = -1 := by
   conv => lhs; rhs; rw [split_list hi]
   rw [List.append_assoc, cmp_app]
   show cmpZ (l.b :: s) _ = _
   rw [cmpZ, if_pos h]
  rw [this]; decide
 ·intro l h
  refine List.filter_eq_self.2 fun x hx => ?_
  obtain ⟨s, rfl⟩ := ext_pre _ _ x hx
  have : cmpZ (ns.take i ++ [l.b] ++ s) ns = 1 := by
   conv => lhs; rhs; rw [split_list hi]
   rw [List.append_assoc, cmp_app]
   show cmpZ (l.b :: s) _ = _
   rw [cmpZ, if_neg (by omega), if_pos h]
  rw [this]; decide
theorem beh_aft {ns : List Int} (hl : ns.length = T.vars.length) {g : Nat} (hg : g < ns.length) (hp : Path T (ns.take g)) (hend : g + 1 = ns.length ∨ Zq (T.group g (Yn T ns g)) (ns.getD g 0) = none) :
  ∀ d i : Nat, i + d = g → (extN T (T.vars.length - i) (ns.take i)).filter (fun x => decide (0 < cmpZ x ns)) ++ aftK T ns i = aftK T ns (g + 1)
 | 0, i, h => by
  obtain rfl : i = g := by omega
  rw [beh_step hT hl hg, List.append_assoc]
  have : (match Zq (T.group i (Yn T ns i)) (ns.getD i 0) with
   | some _ => (extN T (T.vars.length - (i + 1)) (ns.take (i + 1))).filter fun x => decide (0 < cmpZ x ns)
   | none => []) = [] := by
   rcases hend with h1 | h1
   ·have e : T.vars.length - (i + 1) = 0 := by omega
    rw [e, List.take_of_length_le (by omega)]
    cases Zq (T.group i (Yn T ns i)) (ns.getD i 0) with
    | none => rfl
    | some l => show [ns].filter _ = []; rw [List.filter_cons, cmpZ_self]; rfl
   ·rw [h1]
  rw [this]; rfl
 | d + 1, i, h => by
  have hi : i < ns.length := by omega
  obtain ⟨l, h1, h2⟩ := hp i (by rw [List.length_take]; omega)
  have ha : Yn T (ns.take g) i = Yn T ns i := Z4 hT (by omega) (fun j hj => Vl (by omega))
  rw [ha] at h1
  rw [Vl (by omega)] at h2
  rw [beh_step hT hl hi, (findB_iff (hT.sort i (Yn T ns i))).2 ⟨h1, h2⟩, List.append_assoc]
  exact beh_aft hl hg hp hend d (i + 1) (by omega)
theorem beh_is {ns : List Int} (hl : ns.length = T.vars.length) {g : Nat} (hg : g < ns.length) (hp : Path T (ns.take g)) (hend : g + 1 = ns.length ∨ Zq (T.group g (Yn T ns g)) (ns.getD g 0) = none) : behN T ns = aftK T ns (g + 1) := by
 have := beh_aft hT hl hg hp hend g 0 (by omega)
 rw [List.take_zero, Nat.sub_zero] at this
 exact (List.append_nil _).symm.trans this
omit hT in
theorem ext_ne (hA : Alive T) : ∀ (d : Nat) (p : List Int), Path T p → 0 < p.length → p.length + d = T.vars.length → GoodT T → extN T d p ≠ []
 | 0, p, _, _, _, _ => by intro h; cases h
 | d + 1, p, hp, h0, hd, hT => by
  have hne := hA p hp h0 (by omega)
  obtain ⟨l, ls, hls⟩ : ∃ l ls, T.group p.length (Yn T p p.length) = l :: ls := by
   cases h : T.group p.length (Yn T p p.length) with
   | nil => exact absurd h hne
   | cons l ls => exact ⟨l, ls, rfl⟩
  intro h
  rw [extN, hls, List.flatMap_cons] at h
  exact ext_ne hA d (p ++ [l.b]) (path_snoc hT hp (by omega) (by rw [hls]; exact List.mem_cons_self ..)) (by simp) (by simp; omega) hT (List.append_eq_nil_iff.1 h).1
theorem aft_head (hA : Alive T) {ns : List Int} (hl : ns.length = T.vars.length) {i : Nat} (hi : i < ns.length) (hp : Path T (ns.take i)) {l : Link} (hn : Ua (T.group i (Yn T ns i)) (ns.getD i 0) = some l) :
  Path T (ns.take i ++ [l.b]) ∧ (aftK T ns (i + 1)).head? = (extN T (T.vars.length - (i + 1)) (ns.take i ++ [l.b])).head? := by
 have hlp : (ns.take i).length = i := by rw [List.length_take]; omega
 have hm : l ∈ T.group i (Yn T ns i) := List.mem_of_find?_eq_some hn
 have ha : Yn T (ns.take i) i = Yn T ns i := Z4 hT (by omega) (fun j hj => Vl hj)
 have hp2 : Path T (ns.take i ++ [l.b]) := path_snoc hT hp (by omega) (by rw [hlp, ha]; exact hm)
 refine ⟨hp2, ?_⟩
 have hne := ext_ne hA (T.vars.length - (i + 1)) (ns.take i ++ [l.b]) hp2 (by simp) (by rw [List.length_append, hlp, List.length_singleton]; omega) hT
 show (((T.group i (Yn T ns i)).filter _).flatMap _ ++ aftK T ns i).head? = _
 rw [next_filter (hT.sort i (Yn T ns i)) hn, List.flatMap_cons, List.append_assoc]
 cases h : extN T (T.vars.length - (i + 1)) (ns.take i ++ [l.b]) with
 | nil => exact absurd h hne
 | cons a tl => rfl
omit hT in
theorem aft_none {ns : List Int} {i : Nat} (hn : Ua (T.group i (Yn T ns i)) (ns.getD i 0) = none) : aftK T ns (i + 1) = aftK T ns i := by
 show ((T.group i (Yn T ns i)).filter _).flatMap _ ++ aftK T ns i = _
 rw [next_none hn]; rfl
def TellsH (T : TreeT) (o : Option RowT) (l : List (List Int)) : Prop := o.map RowT.nodes = l.head? ∧ ∀ r, o = some r → V0 T r.nodes = some r
theorem least_is (hA : Alive T) {p : List Int} (hp : Path T p) (h0 : 0 < p.length) (hl : p.length ≤ T.vars.length) : TellsH T (if p.length = T.vars.length then V0 T p else (Vu T ⟨p, false, false, 0⟩).2) (extN T (T.vars.length - p.length) p) := by
 by_cases h : p.length = T.vars.length
 ·rw [if_pos h]
  obtain ⟨r, h1, h2⟩ := rowT_path hT h hp
  rw [h1, h, Nat.sub_self]
  exact ⟨by show some r.nodes = some p; rw [h2], fun r' e => by injection e with e; subst e; rw [h2]; exact h1⟩
 ·rw [if_neg h]
  have ht := (next_tells hT hA _ ⟨p, false, false, 0⟩ ⟨hl, hp⟩ (Nat.le_refl _)).2.1
  have hr : Vc T ⟨p, false, false, 0⟩ = extN T (T.vars.length - p.length) p ++ aftK T p p.length := rfl
  have hne := ext_ne hA (T.vars.length - p.length) p hp h0 (by omega) hT
  rw [hr] at ht
  cases hn : (Vu T ⟨p, false, false, 0⟩).2 with
  | none => rw [hn] at ht; exact absurd (List.append_eq_nil_iff.1 ht.1).1 hne
  | some r =>
   rw [hn] at ht
   have h1 : _ = r.nodes :: _ ∧ _ := ht
   refine ⟨?_, fun r' e => by injection e with e; subst e; exact h1.2⟩
   cases hx : extN T (T.vars.length - p.length) p with
   | nil => exact absurd hx hne
   | cons a tl =>
    rw [hx] at h1
    have h2 := h1.1
    rw [List.cons_append, List.cons.injEq] at h2
    show some r.nodes = some a
    rw [h2.1]
end
end Go.Proofs.YtmakkmcjocjgmaaGreat.Am
namespace Go.Proofs.YtmakkmcjocjgmaaGreat.Am
open Go Go.RowKit
set_option linter.unusedVariables false
set_option linter.unusedSimpArgs false
set_option maxRecDepth 100000
theorem least_walk {T : TreeT} (hT : GoodT T) (hA : Alive T) {tb : Nat} {u : Value} {p : List Int} {H : Hp} (ht : TreeR H (.pointer (some ⟨tb, 0, none⟩)) T) (hu : Sl (Yv .i64) H u p) (hp : Path T p) (h0 : 0 < p.length) (hl : p.length ≤ T.vars.length) :
  ACalls Tryz.prog 120 #[.pointer (some ⟨tb, 0, none⟩), u] H (fun r H' => H.le H' ∧ ∃ o, TellsH T o (extN T (T.vars.length - p.length) p) ∧ RowO H' r o) := by
 have hfew := hT.few
 have hleast := least_is hT hA hp h0 hl
 refine Xu Tryz.func120 rfl rfl rfl (by simp) ?_
 refine Xc ?_
 refine Xs ?_
 refine Xz (Ys (l := [.slice none 0 0, .int .i64 0, .int .u64 0]) inf46.zero rfl (by decide)) ?_
 refine Xa (Xi rfl) ?_
 refine Xc ?_
 refine Xs ?_
 refine Xa (Xw rfl) ?_
 refine Xv (Xy (fresh_tree tb _) rfl Tryz.func115 rfl rfl rfl ?_)
 rintro v3 H3 ⟨rfl, hle3, ⟨B3, c3, hwb3, gw3, hown3⟩⟩; have z3 := hle3.1; simp only [Hp.push_size] at z3; have hz3 : H3.get H.size = .own 0 [.slice none 0 0, .int .i64 0, .int .u64 0] := Xr hle3 (by simp) (by intro e; cases e) Ya; have ht3 := (ht.mono (H.le_push (.own 0 [.slice none 0 0, .int .i64 0, .int .u64 0]))).mono hle3; have hu3 := (hu.mono (H.le_push (.own 0 [.slice none 0 0, .int .i64 0, .int .u64 0])).sees).mono hle3.sees; simp only [Hp.push_size] at gw3 hwb3
 refine Xa (Zp rfl) ?_
 refine Xc ?_
 refine Xs ?_
 refine Xa (Xw rfl) ?_
 refine Xa (Xw rfl) ?_
 refine Xa (X7 rfl) ?_
 refine Xa (Xf (off := 1) rfl Tryz.underlying167 rfl inf23.size (by decide) rfl) ?_
 refine Xa (Xl rfl Tryz.underlying23 rfl Xo) ?_
 refine Xa (Zi rfl) ?_
 refine Xv (OwnP.append (ys := p) hown3 Tryz.underlying23 inf3 Xn Xn rfl hu3 (by simp only [List.length_nil]; omega) (by simp only [List.length_nil]; omega) ?_)
 rintro v9 G5 H5 hle5 hown5
 rw [List.nil_append] at hown5
 have hsameO := OwnP.sameO hown3 hle5 hown5
 obtain ⟨B5, c5, rfl⟩ := hown5.shape
 have z5 := hle5.1
 have zz5 := hown5.size
 have gw5 := Xr hle5 (by omega) (by intro e; cases e) gw3
 have gz5 := Xr hle5 (by omega) (by intro e; cases e) hz3
 have hw5 := Xr hown5.le (by omega) (by intro e; cases e) gw5
 have hz5 := Xr hown5.le (by omega) (by intro e; cases e) gz5
 have ht5 := ht3.mono hle5
 have hu5 := hu3.mono hle5.sees
 refine Xa (X7 rfl) ?_
 refine Xa (Xf (off := 1) rfl Tryz.underlying167 rfl inf23.size (by decide) rfl) ?_
 first | refine Xv (Yz rfl rfl rfl inf23.size Ya Yd rfl ?_)
 refine Xc ?_
 refine Xc ?_
 obtain ⟨H6, hH6⟩ : ∃ H6, H6 = H5.put (H.size + 1) (.own 0 [.pointer (some ⟨tb, 0, none⟩), .slice B5 p.length c5, .bool false, .bool false, .int .i64 0]) := ⟨_, rfl⟩
 obtain ⟨G6, hG6⟩ : ∃ G6, G6 = G5.put (H.size + 1) (.own 0 [.pointer (some ⟨tb, 0, none⟩), .slice B5 p.length c5, .bool false, .bool false, .int .i64 0]) := ⟨_, rfl⟩
 have hown6 : OwnP (Yv .i64) G6 H6 (.slice B5 p.length c5) p := by rw [hG6, hH6]; exact hown5.put (by rw [gw5]; intro e; cases e) _ (Hp.sees_box _ gw5)
 have aw56 : Away (H.size + 1) G5 G6 := by rw [hG6]; exact Away.put (.refl _ _) _
 have gw6 : G6.get (H.size + 1) = .own 0 [.pointer (some ⟨tb, 0, none⟩), .slice B5 p.length c5, .bool false, .bool false, .int .i64 0] := by rw [hG6]; exact Hp.put_same _ _ _
 have gz6 : G6.get H.size = .own 0 [.slice none 0 0, .int .i64 0, .int .u64 0] := aw56.keep (by omega) (by omega) (by intro e; cases e) gz5
 have z6 := aw56.size
 have zz6 := hown6.size
 have hW6 : Vo G6 H6 (H.size + 1) (.pointer (some ⟨tb, 0, none⟩)) ⟨p, false, false, 0⟩ := ⟨B5, c5, by omega, gw6, hown6⟩
 have ht6 := aw56.tree gw5 ht5
 have leG6 : H.le G6 := aw56.base (Hp.le_trans (Hp.le_trans (H.le_push _) hle3) hle5) (by omega)
 have leH6 := Hp.le_trans leG6 hown6.le
 have hu6 := hu.mono leH6.sees
 have htH6 := ht6.mono hown6.le
 change ACode true _ _ _ _ _ (H5.put (H.size + 1) (.own 0 [.pointer (some ⟨tb, 0, none⟩), .slice B5 p.length c5, .bool false, .bool false, .int .i64 0]))
 rw [← hH6]
 clear hH6 hG6 hsameO
 obtain ⟨AU, cU, rfl⟩ := hu6.shape
 refine Xs ?_
 refine Xa (X1 rfl) ?_
 refine Xa (Yo rfl Tryz.underlying23) ?_
 refine Xa (Xw rfl) ?_
 refine Xv (Xy (Len_tree htH6) rfl Tryz.func62 rfl rfl rfl ?_)
 rintro v10 H6 ⟨rfl, rfl⟩
 refine Xa (Zs rfl rfl) ?_
 refine X4 rfl rfl ?_ ?_
 intro hc1
 have hfull : p.length = T.vars.length := by have := of_decide_eq_true hc1; omega
 rw [if_pos hfull] at hleast
 refine Xc ?_
 refine Xs ?_
 refine Xa (Xw rfl) ?_
 refine Xv (Xy (row_walk hT hW6 ht6 (by show p.length ≤ _; omega)) rfl Tryz.func138 rfl rfl rfl ?_)
 rintro v11 H9 ⟨G9, le69, ⟨B9, c9, hwb9, gw9, hown9⟩, A9, k9, rfl, sl9⟩; have aw9 := Away.of_le (wb := H.size + 1) le69; have z9 := aw9.size; have gz9 := aw9.keep (by omega) (by omega) (by intro e; cases e) gz6; have hz9 := Xr hown9.le (by omega) (by intro e; cases e) gz9; have leG9 := aw9.base leG6 (by omega)
 refine Xa (Yf rfl rfl) ?_
 refine Xa (Yf rfl rfl) ?_
 refine Xv (Ye (vs := [.slice _ _ _, .int .i64 _, .int .u64 _]) rfl rfl inf46.size Ya Yd rfl rfl ?_)
 refine Xa (Xi rfl) ?_
 refine X2 ?_
 exact ⟨_, Yt (Ym Xn (Yl (cs := [_, _, _]) Tryz.underlying46 rfl inf46.size X5)) (Xp rfl), Hp.le_put_new (Hp.le_trans leG9 hown9.le) (Nat.le_refl _) _, _, hleast, A9, k9, rfl, (sl9.mono hown9.le.sees).mono (Hp.sees_box _ hz9)⟩
 intro hc1
 have hfull : ¬ p.length = T.vars.length := by have := of_decide_eq_false hc1; omega
 rw [if_neg hfull] at hleast
 refine X9 ?_
 refine Xc ?_
 refine Xs ?_
 refine Xa (Xw rfl) ?_
 refine Xv (Xy (next_walk hT hA hW6 (fun _ => ht6) ⟨hl, hp⟩ (Int.le_refl 0) (by show (0 : Int) ≤ 100000000000; decide) ⟨_, rfl⟩) rfl Tryz.func116 rfl rfl rfl ?_)
 rintro v11 H9 ⟨G9, aw9, ⟨B9, c9, hwb9, gw9, hown9⟩, A9, k9, rfl, sl9⟩; have z9 := aw9.size; have gz9 := aw9.keep (by omega) (by omega) (by intro e; cases e) gz6; have hz9 := Xr hown9.le (by omega) (by intro e; cases e) gz9; have leG9 := aw9.base leG6 (by omega)
 refine Xa (Yf rfl rfl) ?_
 refine Xa (Yf rfl rfl) ?_
 refine Xv (Ye (vs := [.slice _ _ _, .int .i64 _, .int .u64 _]) rfl rfl inf46.size Ya Yd rfl rfl ?_)
 refine Xa (Xi rfl) ?_
 refine X2 ?_
 exact ⟨_, Yt (Ym Xn (Yl (cs := [_, _, _]) Tryz.underlying46 rfl inf46.size X5)) (Xp rfl), Hp.le_put_new (Hp.le_trans leG9 hown9.le) (Nat.le_refl _) _, _, hleast, A9, k9, rfl, (sl9.mono hown9.le.sees).mono (Hp.sees_box _ hz9)⟩
theorem Sl.caps {α : Type} {k : Kd α} {H0 : Hp} {v : Value} {xs : List α} (hs : Sl k H0 v xs) {i : Nat} (hi : i < xs.length) : ∃ A S, Sl k H0 (.slice (some A) i i) (xs.take i) ∧ (∀ b ∈ S, b < H0.size ∧ H0.get b ≠ .dead) ∧
  ∀ (P : Program) (H : Hp) (t : Fr) (d : Option Tmp) (ty : TypeId) (pos : String) (after : Array Edge) (guard : Option (Nat × Bool)) (x y z : Operand) (xt e : TypeId) (k1 k2 : IntKind), H0.le H → t.eval x = v → P.underlying xt = some (.slice e) → (P.info? e).map (·.size) = some k.sz → t.eval y = .int k1 i → t.eval z = .int k2 i →
   AVal P ⟨d, .slice xt x none (some y) (some z), ty, pos, after, guard⟩ t S H (.slice (some A) i i) := by
 rcases hs with ⟨rfl, rfl⟩ | ⟨b, o, c, rfl, hb, hk, hx⟩
 ·exact absurd hi (Nat.not_lt_zero _)
 ·refine ⟨⟨b, o, none⟩, [b], .inr ⟨b, o, i, by rw [List.length_take, Nat.min_eq_left (Nat.le_of_lt hi)], hb, hk, fun j z hz => ?_⟩, fun u hu => by simp at hu; subst hu; exact ⟨hb, Blk.cut_ne hk⟩, fun P H t d ty pos after guard x y z xt e k1 k2 hle h1 h2 h3 h4 h5 => ?_⟩
  ·rw [List.getElem?_take] at hz
   split at hz
   ·exact hx j z hz
   ·cases hz
  ·have := av_slice3 (P := P) (t := t) (H := H) (d := d) (ty := ty) (pos := pos) (after := after) (guard := guard) (lo := none) (l := 0) (h := i) (m := i) h1 h2 h3 (.inl ⟨rfl, rfl⟩) h4 h5 (Nat.zero_le _) (Nat.le_refl _) (Nat.le_of_lt hi) (by rw [hle.2 b hb (Blk.cut_ne hk)]; exact Blk.cut_or hk)
   have e1 : (if i = 0 then o else o + 0 * k.sz) = o := by split <;> simp
   rwa [e1, Nat.sub_zero] at this
theorem Sl.grow {P : Program} {t : Fr} {d : Option Tmp} {ty : TypeId} {pos : String} {after : Array Edge} {guard : Option (Nat × Bool)} {K : Value → Hp → Prop} {H : Hp} {A : Addr} {xs : List Int} {i : Nat} {b2 c2 : Nat} {m : Int} {at_ e : TypeId} {x y : Operand} {by_ : Nat} {z : Value} (hs : Sl (Yv .i64) H (.slice (some A) i i) xs) (hu : P.underlying at_ = some (.slice e)) (hi : (P.info? e).map (fun i => (i.zero, i.size, i.bytes)) = some (some z, 1, by_)) (hzs : z.cells.size = 1)
  (hx : t.eval x = .slice (some A) i i) (hy : t.eval y = .slice (some ⟨b2, 0, none⟩) 1 c2) (hg : H.get b2 = .own 1 [.int .i64 m]) (hb1 : i + 1 ≤ 1000000) (hb2 : (i + 1) * by_ ≤ 140737488355328)
  (hk : ∀ H', H' = H.push (.own 1 ((xs ++ [m]).map (Value.int .i64))) → Sl (Yv .i64) H' (.slice (some ⟨H.size, 0, none⟩) (i + 1) unk) (xs ++ [m]) → K (.slice (some ⟨H.size, 0, none⟩) (i + 1) unk) H') : AOp P ⟨d, .call ⟨.builtin .append, #[x, y], #[at_, at_]⟩, ty, pos, after, guard⟩ t H K := by
 obtain ⟨b, o, eA, hlen⟩ : ∃ b o, A = ⟨b, o, none⟩ ∧ i = xs.length := by
  rcases hs with ⟨h, _⟩ | ⟨b, o, c, h, _⟩
  ·cases h
  ·injection h with h1 h2 h3
   injection h1 with h1
   exact ⟨b, o, h1, h2⟩
 subst eA
 have hcells : Cells H b o (xs.map (Value.int .i64)) := fun j v hj => by
  rw [List.getElem?_map] at hj
  cases hxj : xs[j]? with
  | none => rw [hxj] at hj; cases hj
  | some a =>
   rw [hxj] at hj
   injection hj with hj
   subst hj
   have hjl := (List.getElem?_eq_some_iff.1 hxj).1
   obtain ⟨b', o', e', hb', hc'⟩ := hs.int_at (i := (j : Int)) (by omega) (by omega)
   simp only [Option.some.injEq, Addr.mk.injEq, and_true] at e'
   obtain ⟨rfl, rfl⟩ := e'
   rw [Int.toNat_natCast, Nat.mul_one, List.getD_eq_getElem?_getD, hxj] at hc'
   exact hc'
 refine aop_append_new (olds := xs.map (Value.int .i64)) (news := [.int .i64 m]) hu hi hzs hx (.inr ⟨b, o, rfl, by unfold unk; omega, hcells, by rw [List.length_map, hlen, Nat.mul_one]⟩) (by omega) hy ?_ rfl (by decide) (by omega) hb2 ?_
 ·intro j v hj
  cases j with
  | zero => injection hj with hj; subst hj; unfold Hp.cell?; rw [hg]; rfl
  | succ j => simp at hj
 ·have e : xs.map (Value.int .i64) ++ [.int .i64 m] = (xs ++ [m]).map (Value.int .i64) := by rw [List.map_append]; rfl
  rw [e]
  have hl2 : i + 1 = (xs ++ [m]).length := by rw [List.length_append, hlen]; rfl
  exact hk _ rfl (by rw [hl2]; exact sl_ints (by simp) (Hp.push_new _ _))
theorem above_read {T : TreeT} (hT : GoodT T) {tv : Value} {wb : Nat} {H : Hp} {A : Option Addr} {c : Nat} {ns : List Int} {x y z : Value} (hw : H.get wb = .own 0 [tv, .slice A ns.length c, x, y, z]) (hs : Sl (Yv .i64) H (.slice A ns.length c) ns) (ht : TreeR H tv T) (i : Nat) (hi : i < T.vars.length) (hl : i ≤ ns.length) :
  ACalls Tryz.prog 118 #[.pointer (some ⟨wb, 0, none⟩), .int .i64 i] H (fun r H' => r = .int .i64 (Yn T ns i) ∧ H' = H) := by
 have hp := hT.par i hi
 obtain ⟨tb, _, _, _, _, _, etv, _⟩ := id ht
 subst etv
 refine Xu Tryz.func118 rfl rfl rfl (by simp) ?_
 refine Xc ?_
 refine Xs ?_
 refine Xa (Xj rfl) ?_
 refine Xc ?_
 refine Xc ?_
 refine Xs ?_
 refine Xa (Xw rfl) ?_
 refine Xa (X7 rfl) ?_
 refine Xa (Xf (off := 0) rfl Tryz.underlying167 rfl inf37.size (by decide) rfl) ?_
 refine Xa (Xl rfl Tryz.underlying37 rfl Xo) ?_
 refine Xa (Xb rfl) ?_
 refine Xv (Xy (Parent_tree ht hT.l1 (i : Int)) rfl Tryz.func121 rfl rfl rfl ?_)
 rintro v6 H ⟨rfl, rfl⟩; rw [if_pos ⟨by omega, by omega⟩, Int.toNat_natCast]
 refine Xa (Xj rfl) ?_
 refine Xc ?_
 refine Xs ?_
 refine Xa (Xb rfl) ?_
 refine Xa (Vb rfl rfl) ?_
 refine X4 rfl rfl ?_ ?_
 intro hc1
 have hne : T.parent.getD i 0 ≠ -1 := of_decide_eq_true hc1
 have hpr := hp.resolve_left hne
 obtain ⟨b, o, rfl, hb, hcell⟩ := hs.int_at (i := T.parent.getD i 0) hpr.1 (by omega)
 refine Xc ?_
 refine Xs ?_
 refine Xa (Xw rfl) ?_
 refine Xa (X7 rfl) ?_
 refine Xa (Xf (off := 1) rfl Tryz.underlying167 rfl inf23.size (by decide) rfl) ?_
 refine Xa (Xl rfl Tryz.underlying23 rfl Xo) ?_
 refine Xa (Xb rfl) ?_
 refine Xa (Xx rfl rfl Tryz.underlying23 inf3.size Yc Yc) ?_
 refine Xa (Xl rfl Tryz.underlying3 rfl Xo) ?_
 refine Xa (Xj rfl) ?_
 refine X2 ?_
 exact ⟨.int .i64 (ns.getD (T.parent.getD i 0).toNat 0), X0 (Xp rfl), by unfold Yn; rw [if_neg hne], rfl⟩
 intro hc1
 have hne : T.parent.getD i 0 = -1 := Decidable.not_not.1 (of_decide_eq_false hc1)
 refine X9 ?_
 refine Xc ?_
 refine Xs ?_
 refine Xa (Xj rfl) ?_
 refine X2 ?_
 exact ⟨.int .i64 (-1), X0 (Xp rfl), by unfold Yn; rw [if_pos hne], rfl⟩
theorem behind1_raw (xs : List Link) (ns : List Int) (A B : Option Addr) (c c2 i j : Nat) (b1 b2 b3 : Nat) (H : Hp) (h1 : H.cell? b1 0 = some (.slice A xs.length c)) (h2 : H.cell? b2 0 = some (.slice B ns.length c2)) (h3 : H.cell? b3 0 = some (.int .i64 j)) (hs : Sl kLink H (.slice A xs.length c) xs) (hn : Sl (Yv .i64) H (.slice B ns.length c2) ns) (hi : i < xs.length) (hj : j < ns.length) (hb1 : b1 < H.size) (hb2 : b2 < H.size) (hb3 : b3 < H.size) :
  ACalls Tryz.prog 119 #[.int .i64 i, .pointer (some ⟨b1, 0, none⟩), .pointer (some ⟨b2, 0, none⟩), .pointer (some ⟨b3, 0, none⟩)] H (fun r _ => r = .bool (decide (ns.getD j 0 < xs[i].b))) := by
 obtain ⟨b, o, rfl, hb, hcell⟩ := hs.link_at hi
 have hcellb := hcell 1 _ rfl
 obtain ⟨b', o', rfl, hb', hcell'⟩ := hn.int_at (i := (j : Int)) (by omega) (by omega)
 rw [Int.toNat_natCast] at hcell'
 refine Xu Tryz.func119 rfl rfl rfl (by simp) ?_
 refine Xc ?_
 refine Xs ?_
 refine Xa (Xi rfl) ?_
 refine Xc ?_
 refine Yy (by kernel_rfl) (Y4 (B := [0, 0, 3, 7, 15, 0, 0, 96, 224, 511, 1023]) (π := [0, 1, 2, 3, 4, 5, 6, 7, 8, 9, 10]) (by kernel_rfl)) ?_
 refine Xe rfl rfl (Xl rfl Tryz.underlying83 rfl Xo) Xt ?_
 refine Xe rfl rfl (Xb rfl) Xt ?_
 refine Xe rfl rfl (Xx rfl rfl Tryz.underlying83 inf96.size Yc Yc) Xt ?_
 refine Xe rfl rfl (Xf (off := 1) rfl Tryz.underlying96 rfl inf3.size (by decide) rfl) Xt ?_
 refine Xe rfl rfl (Xl rfl Tryz.underlying3 rfl Xo) Xt ?_
 refine Xe rfl rfl (Xl rfl Tryz.underlying23 rfl Xo) Xt ?_
 refine Xe rfl rfl (Xl rfl Tryz.underlying3 rfl Xo) Xt ?_
 refine Xe rfl rfl (Xx rfl rfl Tryz.underlying23 inf3.size Yc Yc) Xt ?_
 refine Xe rfl rfl (Xl rfl Tryz.underlying3 rfl Xo) Xt ?_
 refine Xe rfl rfl (av_gt rfl rfl) Xt ?_
 refine Xe rfl rfl (Xi rfl) Xt ?_
 refine X2 ?_
 exact ⟨_, X0 (Xp rfl), rfl⟩
theorem av_func0 {P : Program} {t : Fr} {H : Hp} {d : Option Tmp} {ty : TypeId} {pos : String} {after : Array Edge} {guard : Option (Nat × Bool)} {f : FuncId} {cap : Array Operand} {cs : Array Value} (h : cap.toList.map t.eval = cs.toList) : AVal P ⟨d, .makeFunc (.func f) #[] cap, ty, pos, after, guard⟩ t [] H (.func (.func f) #[] cs) := by
 have := av_makeFunc (P := P) (t := t) (H := H) (d := d) (ty := ty) (pos := pos) (after := after) (guard := guard) (f := f) (first := #[]) (cap := cap)
 rw [h] at this
 exact this
set_option maxHeartbeats 2000000 in
theorem Behind_walk {T : TreeT} (hT : GoodT T) (hA : Alive T) {tb : Nat} {AU : Option Addr} {cU : Nat} {ns : List Int} {H : Hp} (ht : TreeR H (.pointer (some ⟨tb, 0, none⟩)) T) (hu : Sl (Yv .i64) H (.slice AU ns.length cU) ns) (hul : ns.length ≤ 1000000) :
  ACalls Tryz.prog 89 #[.pointer (some ⟨tb, 0, none⟩), .slice AU ns.length cU] H (fun r H' => H.le H' ∧ ∃ o, (ns.length = T.vars.length → TellsH T o (behN T ns)) ∧ (ns.length ≠ T.vars.length → o = none) ∧ RowO H' r o) := by
 have hfew := hT.few
 refine Xu Tryz.func89 rfl rfl rfl (by simp) ?_
 refine Xc ?_
 refine Xs ?_
 refine Xz (am_box_sl rfl) ?_
 refine Xz (Ys (l := [.slice none 0 0, .int .i64 0, .int .u64 0]) inf46.zero rfl (by decide)) ?_
 refine Xa (Xi rfl) ?_
 refine Xc ?_
 refine Xc ?_
 refine Yy (by kernel_rfl) (Y4 (B := [0, 1, 3, 7, 15, 7, 39, 127, 255]) (π := [0, 1, 2, 3, 4, 5, 6, 7, 8]) (by kernel_rfl)) ?_
 refine Xe rfl rfl (Xw rfl) Xt ?_
 refine Xe rfl rfl (Vy rfl t_spot rfl Tryz.underlying37) Xt ?_
 refine Xe rfl rfl (Xq rfl) Xt ?_
 refine Vk rfl rfl rfl rfl ?_ ?_
 intro hg1
 cases hg1
 intro hg1
 have hp1 := hg1; try simp only [Y5] at hp1
 refine Yr rfl (Xh rfl rfl rfl hg1) rfl (Xl rfl Tryz.underlying23 rfl Xo) Xt ?_
 refine Yr rfl (Xh rfl rfl rfl hg1) rfl (Yo rfl Tryz.underlying23) Xt ?_
 refine Yr rfl (Xh rfl rfl rfl hg1) rfl (Xw rfl) Xt ?_
 refine adr_wop rfl (Xh rfl rfl rfl hg1) rfl (Xy (Len_tree (ht.mono t_le)) rfl Tryz.func62 rfl rfl rfl ?_)
 rintro v10 H1 ⟨rfl, rfl⟩
 refine ⟨Yi, ?_⟩
 refine Yr rfl (Xh rfl rfl rfl hg1) rfl (Vb rfl rfl) Xt ?_
 refine Xe rfl rfl (Xm (Yu hg1) rfl) Xt ?_
 refine X4 rfl rfl ?_ ?_
 intro hc2
 have hne : ns.length ≠ T.vars.length := by have := of_decide_eq_true hc2; omega
 refine Xc ?_
 refine Xs ?_
 refine Xa (Y0 (pl := [(0, 1), (1, 1), (2, 1)]) (r := [.slice _ _ _, .int .i64 _, .int .u64 _]) Tryz.underlying46 inf46.zero (by decide) rfl rfl) ?_
 refine Xv (Ye (vs := [.slice _ _ _, .int .i64 _, .int .u64 _]) rfl rfl inf46.size Ya Yd rfl rfl ?_)
 refine Xa (Xi rfl) ?_
 refine X2 ?_
 exact ⟨_, Yt (Ym Xn (Yl (cs := [_, _, _]) Tryz.underlying46 rfl inf46.size X5)) (Xp rfl), t_le, none, fun h => absurd h hne, fun _ => rfl, Vt _⟩
 intro hc2
 have hlen : ns.length = T.vars.length := by have := of_decide_eq_false hc2; omega
 refine X9 ?_
 refine Xc ?_
 refine Xs ?_
 refine Xa (Xw rfl) ?_
 refine Xv (Xy (fresh_tree tb _) rfl Tryz.func115 rfl rfl rfl ?_)
 rintro v3 H3 ⟨rfl, hle3, hW3⟩; simp only [Hp.push_size] at hW3; have z3 := hle3.1; simp only [Hp.push_size] at z3; have gu3 : H3.get H.size = .own 0 [.slice AU ns.length cU] := Xr hle3 (by simp; omega) (by intro e; cases e) Ya; have gz3 : H3.get (H.size + 1) = .own 0 [.slice none 0 0, .int .i64 0, .int .u64 0] := Xr hle3 (by simp) (by intro e; cases e) Ya; have leH3 : H.le H3 := Hp.le_trans (Hp.le_push' (H.le_push _) _) hle3
 refine Xa (Zp rfl) ?_
 refine Xa (Xj rfl) ?_
 refine Xc ?_
 refine ac_cut (fun t H' => ∃ (g : Nat) (B : Option Addr) (c : Nat), g ≤ ns.length ∧ H.le H' ∧ H.size + 2 < H'.size ∧ H'.get H.size = .own 0 [.slice AU ns.length cU] ∧ H'.get (H.size + 1) = .own 0 [.slice none 0 0, .int .i64 0, .int .u64 0] ∧ H'.get (H.size + 2) = .own 0 [.pointer (some ⟨tb, 0, none⟩), .slice B g c, .bool false, .bool false, .int .i64 0] ∧ (g < ns.length → Zq (T.group g (Yn T ns g)) (ns.getD g 0) = none) ∧ Path T (ns.take g) ∧ t 0 = .pointer (some ⟨tb, 0, none⟩) ∧ t 3 = .pointer (some ⟨H.size, 0, none⟩) ∧ t 4 = .pointer (some ⟨H.size + 1, 0, none⟩) ∧ t 6 = .pointer (some ⟨H.size + 2, 0, none⟩) ∧ t 7 = .int .i64 g) ?_ ?_
 refine Yh ?_
 refine Y6 (fun n t H' => ∃ (g : Nat) (G : Hp), n = ns.length - g ∧ g ≤ ns.length ∧ H.le G ∧ Vo G H' (H.size + 2) (.pointer (some ⟨tb, 0, none⟩)) ⟨ns.take g, false, false, 0⟩ ∧ Path T (ns.take g) ∧ G.get H.size = .own 0 [.slice AU ns.length cU] ∧ G.get (H.size + 1) = .own 0 [.slice none 0 0, .int .i64 0, .int .u64 0] ∧ t 0 = .pointer (some ⟨tb, 0, none⟩) ∧ t 3 = .pointer (some ⟨H.size, 0, none⟩) ∧ t 4 = .pointer (some ⟨H.size + 1, 0, none⟩) ∧ t 6 = .pointer (some ⟨H.size + 2, 0, none⟩) ∧ t 7 = .int .i64 g) (ns.length) (⟨0, H3, rfl, Nat.zero_le _, leH3, hW3, fun i h => absurd h (Nat.not_lt_zero _), gu3, gz3, rfl, rfl, rfl, rfl, rfl⟩) ?_
 rintro n t H1 ⟨g, G, rfl, hg, leG, hW, hpath, gu, gz, e0, e3, e4, e6, e7⟩
 obtain ⟨B, c, hwb, gw, hown⟩ := id hW
 have hw := Xr hown.le hwb (by intro e; cases e) gw
 have hgu := Xr hown.le (by omega) (by intro e; cases e) gu
 have hgz := Xr hown.le (by omega) (by intro e; cases e) gz
 have zz := hown.size
 have hlt : (ns.take g).length = g := by rw [List.length_take]; omega
 have htG := ht.mono leG
 have huG := hu.mono leG.sees
 refine Xc ?_
 refine Xc ?_
 refine Xs ?_
 refine Xa (Xb Xn) ?_
 refine Xa (Xl Xn Tryz.underlying23 Xn Xo) ?_
 refine Xa (Yo rfl Tryz.underlying23) ?_
 refine Xa (Zf rfl rfl) ?_
 refine X4 rfl rfl ?_ ?_
 intro hc3
 have hgl : g < ns.length := by have := of_decide_eq_true hc3; omega
 obtain ⟨bu, ou, eU, hbu, hcu⟩ := (huG.mono hown.le.sees).int_at (i := (g : Int)) (by omega) (by omega)
 rw [Int.toNat_natCast] at hcu
 obtain ⟨x, hx⟩ : ∃ x, x = ns.getD g 0 := ⟨_, rfl⟩
 rw [← hx] at hcu
 have hWp : ∀ y, Vo (G.push y) (H1.push y) (H.size + 2) (.pointer (some ⟨tb, 0, none⟩)) ⟨ns.take g, false, false, 0⟩ := fun y => ⟨B, c, by simp; omega, (Hp.push_old _ _ hwb).trans gw, hown.push _⟩
 subst eU
 refine X9 ?_
 refine Yh ?_
 refine Xc ?_
 refine Xc ?_
 refine Yy (by kernel_rfl) (Y4 (B := [0, 0, 0, 0, 12, 0, 0, 96, 224, 511, 1023, 2047, 2047, 0, 12287, 32767]) (π := [0, 1, 2, 3, 5, 6, 7, 8, 13, 4, 9, 10, 11, 12, 14, 15]) (by kernel_rfl)) ?_
 refine Xe rfl rfl (Xw Xn) Xt ?_
 refine Xe rfl rfl (Xb Xn) Xt ?_
 refine Xe rfl rfl (Xw Xn) Xt ?_
 refine Xe rfl rfl (Xb Xn) Xt ?_
 refine Xe rfl rfl (Xl Xn Tryz.underlying23 Xn Xo) Xt ?_
 refine Xe rfl rfl (Xb Xn) Xt ?_
 refine Xe rfl rfl (Xx rfl rfl Tryz.underlying23 inf3.size Yc Yc) Xt ?_
 refine Xe rfl rfl (Xl rfl Tryz.underlying3 rfl Xo) Xt ?_
 refine Zd rfl rfl (Ys (l := [.int .i64 0, .int .i64 0, .int .i64 0, .int .u64 0]) inf96.zero rfl (by decide)) ?_
 refine Yk rfl rfl (Xy (above_walk hT (hWp _) (htG.mono (G.le_push _)) g (by omega) (by rw [hlt]; exact Nat.le_refl _)) rfl Tryz.func118 rfl rfl rfl ?_)
 rintro v7 H4 ⟨rfl, rfl⟩
 refine ⟨Yi, ?_⟩
 refine Yk rfl rfl (Xy (Find_tree ((htG.mono hown.le).mono (H1.le_push _)) hT.l1 hT.l2 hT.lens (g : Int) _ _ (hT.sort _ _)) rfl Tryz.func117 rfl rfl rfl ?_)
 rintro v8 H5 ⟨le15, rfl⟩; have z15 := le15.1; simp only [Hp.push_size] at z15; have hq5 : H5.get H1.size = .own 0 [.int .i64 0, .int .i64 0, .int .i64 0, .int .u64 0] := Xr le15 (by simp) (by intro e; cases e) Ya; obtain ⟨f, hf⟩ : ∃ f, f = Zq (T.group g (Yn T (ns.take g) g)) x := ⟨_, rfl⟩; rw [← hf]; obtain ⟨G5, le5, hown5⟩ := (hown.push (.own 0 [.int .i64 0, .int .i64 0, .int .i64 0, .int .u64 0])).later le15; have z5 := le5.1; simp only [Hp.push_size] at z5; have zz5 := hown5.size
 refine ⟨Yi, ?_⟩
 refine Xe rfl rfl (Zi rfl) Xt ?_
 refine Xe rfl rfl (Yf rfl rfl) Xt ?_
 refine Xe rfl rfl (Yf rfl rfl) Xt ?_
 first | refine Yk rfl rfl (Ye (vs := [.int .i64 _, .int .i64 _, .int .i64 _, .int .u64 _]) rfl rfl inf96.size Ya Yd rfl rfl ?_)
 refine ⟨Yi, ?_⟩
 refine Xe rfl rfl (Xi rfl) Xt ?_
 refine Xc ?_
 have gq5 : G5.get H1.size = .own 0 [.int .i64 0, .int .i64 0, .int .i64 0, .int .u64 0] := Xr le5 (by simp; omega) (by intro e; cases e) (by rw [zz]; exact Hp.push_new _ _)
 have leG5 := Hp.le_trans (Hp.le_push G _) le5
 obtain ⟨H6, hH6⟩ : ∃ H6, H6 = H5.put H1.size (.own 0 [.int .i64 (f.getD Z2).a, .int .i64 (f.getD Z2).b, .int .i64 (f.getD Z2).cost, .int .u64 (f.getD Z2).n]) := ⟨_, rfl⟩
 obtain ⟨G6, hG6⟩ : ∃ G6, G6 = G5.put H1.size (.own 0 [.int .i64 (f.getD Z2).a, .int .i64 (f.getD Z2).b, .int .i64 (f.getD Z2).cost, .int .u64 (f.getD Z2).n]) := ⟨_, rfl⟩
 have hown6 : OwnP (Yv .i64) G6 H6 (.slice B (ns.take g).length c) (ns.take g) := by rw [hG6, hH6]; exact hown5.put (by rw [gq5]; intro e; cases e) _ (Hp.sees_box _ gq5)
 have leG6 : G.le G6 := by rw [hG6]; exact Hp.le_put_new leG5 (by omega) _
 have gw6 := Xr leG6 hwb (by intro e; cases e) gw
 have gu6 := Xr leG6 (by omega) (by intro e; cases e) gu
 have gz6 := Xr leG6 (by omega) (by intro e; cases e) gz
 have z6 := leG6.1
 have zz6 := hown6.size
 have hw6 := Xr hown6.le (by omega) (by intro e; cases e) gw6
 have hgu6 := Xr hown6.le (by omega) (by intro e; cases e) gu6
 have hgz6 := Xr hown6.le (by omega) (by intro e; cases e) gz6
 have leHG6 := Hp.le_trans leG leG6
 have leH6 := Hp.le_trans leHG6 hown6.le
 obtain ⟨bu, ou, eU, hbu6, hcu6⟩ := (hu.mono leH6.sees).int_at (i := (g : Int)) (by omega) (by omega)
 rw [Int.toNat_natCast, ← hx] at hcu6
 simp only [Option.some.injEq, Addr.mk.injEq, and_true] at eU
 obtain ⟨rfl, rfl⟩ := eU
 change ACode true _ _ _ _ _ (H5.put H1.size (.own 0 [.int .i64 (f.getD Z2).a, .int .i64 (f.getD Z2).b, .int .i64 (f.getD Z2).cost, .int .u64 (f.getD Z2).n]))
 rw [← hH6]
 clear hH6 hG6
 have habv : Yn T ns g = Yn T (ns.take g) g := Z4 hT (by omega) (fun j hj => (Vl hj).symm)
 refine Xs ?_
 refine Xa (Xq rfl) ?_
 refine Xa (Z3 rfl) ?_
 refine X4 rfl rfl ?_ ?_
 intro hc4
 have hfn : f = none := by have h := hc4; cases f with | none => rfl | some r => cases h
 refine Y3 ?_
 first
  | exact ⟨g, B, c, hg, Hp.le_trans leG hown.le, by omega, hgu, hgz, by rw [hlt] at hw; exact hw, fun h => absurd h hgl, hpath, e0, e3, e4, e6, e7⟩
  | exact ⟨g, B, c, hg, leH6, by omega, hgu6, hgz6, by rw [hlt] at hw6; exact hw6, fun _ => by rw [habv, ← hx, ← hf]; exact hfn, hpath, e0, e3, e4, e6, e7⟩
 intro hc4
 obtain ⟨l, hfl⟩ : ∃ l, f = some l := by have h := hc4; cases f with | none => cases h | some r => exact ⟨r, rfl⟩
 have hlm := (findB_iff (hT.sort _ _)).1 (hf.symm.trans hfl)
 have hpath2 : Path T (ns.take (g + 1)) := by
  rw [← take_more hgl, ← hx, ← hlm.2]
  exact path_snoc hT hpath (by omega) (by rw [hlt]; exact hlm.1)
 refine X9 ?_
 refine Yy (by kernel_rfl) (Y4 (B := [0, 0, 2, 6, 14, 0, 0, 96, 224, 480, 1022, 0, 2048, 2047, 10239, 26623, 65535]) (π := [0, 1, 2, 3, 4, 5, 6, 7, 8, 9, 11, 12, 10, 13, 14, 15, 16]) (by kernel_rfl)) ?_
 refine Xe rfl rfl (Xw Xn) Xt ?_
 refine Xe rfl rfl (Xw Xn) Xt ?_
 refine Xe rfl rfl (X7 rfl) Xt ?_
 refine Xe rfl rfl (Xf (off := 1) rfl Tryz.underlying167 rfl inf23.size (by decide) rfl) Xt ?_
 refine Xe rfl rfl (Xl rfl Tryz.underlying23 rfl Xo) Xt ?_
 refine Xe rfl rfl (Xl Xn Tryz.underlying23 Xn Xo) Xt ?_
 refine Xe rfl rfl (Xb Xn) Xt ?_
 refine Xe rfl rfl (Xx rfl rfl Tryz.underlying23 inf3.size Yc Yc) Xt ?_
 refine Xe rfl rfl (Xl rfl Tryz.underlying3 rfl Xo) Xt ?_
 first | refine Zd rfl rfl (Yg (r := [.int .i64 _]) Tryz.underlying23 inf3.size inf3.zero rfl (by decide) (by decide) (by decide) rfl) ?_
 refine Xe rfl rfl (Xb Xn) Xt ?_
 refine Xe rfl rfl (Yq rfl rfl Y2) Xt ?_
 refine Yk rfl rfl (OwnP.append (ys := [x]) (hown6.push _) Tryz.underlying23 inf3 rfl rfl rfl (Zw (k := Yv .i64) rfl rfl hown6.size rfl) (by simp only [List.length_singleton]; omega) (by simp only [List.length_singleton]; omega) ?_)
 rintro v9 G7 H7 hle7 hown7
 have hsameO := OwnP.sameO (hown6.push _) hle7 hown7
 obtain ⟨B7, c7, rfl⟩ := hown7.shape
 have le67 := Hp.le_trans (Hp.le_push _ _) hle7
 have z7 := le67.1
 have zz7 := hown7.size
 have gw7 := Xr le67 (by omega) (by intro e; cases e) gw6
 have gz7 := Xr le67 (by omega) (by intro e; cases e) gz6
 have gu7 := Xr le67 (by omega) (by intro e; cases e) gu6
 have hw7 := Xr hown7.le (by omega) (by intro e; cases e) gw7
 have hz7 := Xr hown7.le (by omega) (by intro e; cases e) gz7
 refine ⟨Yi, ?_⟩
 refine Xe rfl rfl (X7 rfl) Xt ?_
 refine Xe rfl rfl (Xf (off := 1) rfl Tryz.underlying167 rfl inf23.size (by decide) rfl) Xt ?_
 first | refine Yk rfl rfl (Yz rfl rfl rfl inf23.size Ya Yd rfl ?_)
 refine ⟨Yi, ?_⟩
 refine Xe rfl rfl (Xj rfl) Xt ?_
 rw [hx, take_more hgl] at hown7
 have eq7 : (ns.take g ++ [x]).length = (ns.take (g + 1)).length := by rw [hx, take_more hgl]
 exact ⟨ns.length - (g + 1), by omega, g + 1, G7.put (H.size + 2) (.own 0 [.pointer (some ⟨tb, 0, none⟩), .slice B7 (ns.take g ++ [x]).length c7, .bool false, .bool false, .int .i64 0]), rfl, by omega, Hp.le_put_new (Hp.le_trans leHG6 le67) (by omega) _, ⟨B7, c7, by simp; omega, by rw [eq7]; exact Hp.put_same _ _ _, hown7.put (by rw [gw7]; intro e; cases e) _ (Hp.sees_box _ gw7)⟩, hpath2, by rw [Hp.put_other _ _ (by omega)]; exact gu7, by rw [Hp.put_other _ _ (by omega)]; exact gz7, e0, e3, e4, e6, rfl⟩
 intro hc3
 have hgl : ¬ g < ns.length := by have := of_decide_eq_false hc3; omega
 refine Y3 ?_
 first
  | exact ⟨g, B, c, hg, Hp.le_trans leG hown.le, by omega, hgu, hgz, by rw [hlt] at hw; exact hw, fun h => absurd h hgl, hpath, e0, e3, e4, e6, e7⟩
  | exact ⟨g, B, c, hg, leH6, by omega, hgu6, hgz6, by rw [hlt] at hw6; exact hw6, fun _ => by rw [habv, ← hx, ← hf]; exact hfn, hpath, e0, e3, e4, e6, e7⟩
 rintro t H1 ⟨g, B, c, hg, leH1, z1, gu1, gz1, gw1, hend, hpath, e0, e3, e4, e6, e7⟩
 obtain ⟨m0, hm0⟩ : ∃ m0, m0 = (if g = ns.length then ns.length else g + 1) := ⟨_, rfl⟩
 have hm1 : m0 ≤ ns.length := by rw [hm0]; split <;> omega
 have hmin : (if (ns.length : Int) - 1 < (g : Int) then (ns.length : Int) - 1 else (g : Int)) = (m0 : Int) - 1 := by rw [hm0]; split <;> split <;> omega
 have hbeh : behN T ns = aftK T ns m0 := by
  rcases Nat.eq_zero_or_pos ns.length with h0 | h0
  ·have e1 : m0 = 0 := by omega
   rw [e1]
   obtain rfl : ns = [] := List.eq_nil_of_length_eq_zero h0
   unfold behN
   rw [← hlen]; rfl
  ·by_cases hgl : g = ns.length
   ·rw [if_pos hgl] at hm0
    have e1 : m0 = (ns.length - 1) + 1 := by omega
    rw [e1]
    refine beh_is hT hlen (by omega) (fun i hi => ?_) (.inl (by omega))
    rw [hgl, List.take_of_length_le (Nat.le_refl _)] at hpath
    exact path_take hT hpath (by omega) i hi
   ·rw [if_neg hgl] at hm0
    rw [hm0]
    exact beh_is hT hlen (by omega) hpath (.inr (hend (by omega)))
 have hpm : ∀ j, j < m0 → Path T (ns.take j) := fun j hj => by
  have hjg : j ≤ g := by rw [hm0] at hj; split at hj <;> omega
  have := path_take hT (k := j) hpath (by rw [List.length_take]; omega)
  rwa [List.take_take, Nat.min_eq_left hjg] at this
 refine Xc ?_
 refine Xc ?_
 refine Xs ?_
 refine Xa (Xb Xn) ?_
 refine Xa (Xl Xn Tryz.underlying23 Xn Xo) ?_
 refine Xa (Yo rfl Tryz.underlying23) ?_
 refine Xa (av_sub64 rfl rfl Y2) ?_
 refine Xa (av_min2 rfl rfl) ?_
 refine Xz (Ys (l := [.int .i64 0]) inf3.zero rfl (by decide)) ?_
 first | refine Xv (Yz rfl rfl rfl inf3.size Ya Yd rfl ?_)
 refine Yh ?_
 refine Y6 (fun n t H' => ∃ (m : Nat) (bI : Nat) (X : Value), m = n ∧ m ≤ m0 ∧ (behN T ns).head? = (aftK T ns m).head? ∧ H.le H' ∧ H.size + 2 < bI ∧ bI < H'.size ∧ H'.get H.size = .own 0 [.slice AU ns.length cU] ∧ H'.get (H.size + 1) = .own 0 [.slice none 0 0, .int .i64 0, .int .u64 0] ∧ H'.get (H.size + 2) = .own 0 [.pointer (some ⟨tb, 0, none⟩), X, .bool false, .bool false, .int .i64 0] ∧ H'.get bI = .own 0 [.int .i64 ((m : Int) - 1)] ∧ t 0 = .pointer (some ⟨tb, 0, none⟩) ∧ t 3 = .pointer (some ⟨H.size, 0, none⟩) ∧ t 4 = .pointer (some ⟨H.size + 1, 0, none⟩) ∧ t 6 = .pointer (some ⟨H.size + 2, 0, none⟩) ∧ t 10 = .pointer (some ⟨bI, 0, none⟩)) (m0) (⟨m0, H1.size, _, rfl, Nat.le_refl _, by rw [hbeh], t_le, by omega, by simp, Ya, Ya, Ya, by rw [← hmin]; exact Hp.put_same _ _ _, e0, e3, e4, e6, rfl⟩) ?_
 rintro n t H2 ⟨m, bI, X, rfl, hm, hhead, leH2, zI, zI2, gu2, gz2, gw2, gI2, e0, e3, e4, e6, e10⟩
 refine Xc ?_
 refine Xc ?_
 refine Xs ?_
 refine Xa (Xl Xn Tryz.underlying3 Xn Xo) ?_
 refine Xa (av_ge rfl rfl) ?_
 refine X4 rfl rfl ?_ ?_
 intro hc5
 have hpos : 1 ≤ m := by have := of_decide_eq_true hc5; omega
 obtain ⟨j, hj⟩ : ∃ j, m = j + 1 := ⟨m - 1, by omega⟩
 subst hj
 have ej : ((j + 1 : Nat) : Int) - 1 = (j : Int) := by omega
 rw [ej] at gI2
 obtain ⟨AS, SS, slS, hSS, hcap⟩ := hu.caps (i := j) (by omega)
 have hlj : (ns.take j).length = j := by rw [List.length_take]; omega
 obtain ⟨x, hx⟩ : ∃ x, x = ns.getD j 0 := ⟨_, rfl⟩
 refine X9 ?_
 refine Xc ?_
 refine Yh ?_
 refine Xc ?_
 refine Xs ?_
 refine Xa (Xw Xn) ?_
 refine Xa (Xl Xn Tryz.underlying23 Xn Xo) ?_
 refine Xa (Xl Xn Tryz.underlying3 Xn Xo) ?_
 refine Xa (Xl Xn Tryz.underlying3 Xn Xo) ?_
 refine Xa (hcap _ _ _ _ _ _ _ _ _ _ _ _ _ _ _ leH2 Xn Tryz.underlying23 inf3.size Xn Xn) ?_
 refine Xa (X7 rfl) ?_
 refine Xa (Xf (off := 1) rfl Tryz.underlying167 rfl inf23.size (by decide) rfl) ?_
 first | refine Xv (Yz rfl rfl rfl inf23.size Ya Yd rfl ?_)
 refine Xc ?_
 obtain ⟨H3, hH3⟩ : ∃ H3, H3 = H2.put (H.size + 2) (.own 0 [.pointer (some ⟨tb, 0, none⟩), .slice (some AS) j j, .bool false, .bool false, .int .i64 0]) := ⟨_, rfl⟩
 have leH3 : H.le H3 := by rw [hH3]; exact Hp.le_put_new leH2 (by omega) _
 have gu3 : H3.get H.size = .own 0 [.slice AU ns.length cU] := by rw [hH3, Hp.put_other _ _ (by omega)]; exact gu2
 have gz3 : H3.get (H.size + 1) = .own 0 [.slice none 0 0, .int .i64 0, .int .u64 0] := by rw [hH3, Hp.put_other _ _ (by omega)]; exact gz2
 have gw3 : H3.get (H.size + 2) = .own 0 [.pointer (some ⟨tb, 0, none⟩), .slice (some AS) j j, .bool false, .bool false, .int .i64 0] := by rw [hH3]; exact Hp.put_same _ _ _
 have gI3 : H3.get bI = .own 0 [.int .i64 j] := by rw [hH3, Hp.put_other _ _ (by omega)]; exact gI2
 have z3 : H3.size = H2.size := by rw [hH3]; simp
 change ACode true _ _ _ _ _ (H2.put (H.size + 2) (.own 0 [.pointer (some ⟨tb, 0, none⟩), .slice (some AS) j j, .bool false, .bool false, .int .i64 0]))
 rw [← hH3]
 clear hH3
 have leP : ∀ y, H.le (H3.push y) := fun y => Hp.le_push' leH3 y
 have gwP : ∀ y, (H3.push y).get (H.size + 2) = .own 0 [.pointer (some ⟨tb, 0, none⟩), .slice (some AS) (ns.take j).length j, .bool false, .bool false, .int .i64 0] := fun y => by rw [hlj, Hp.push_old _ _ (by omega)]; exact gw3
 have slP : ∀ y, Sl (Yv .i64) (H3.push y) (.slice (some AS) (ns.take j).length j) (ns.take j) := fun y => by rw [hlj]; exact slS.mono (leP y).sees
 have habv : Yn T (ns.take j) j = Yn T ns j := Z4 hT (by omega) (fun i hi => Vl hi)
 refine Yy (by kernel_rfl) (Y4 (B := [0, 0, 0, 0, 12, 31, 0, 127]) (π := [0, 1, 2, 3, 6, 4, 5, 7]) (by kernel_rfl)) ?_
 refine Xe rfl rfl (Xw Xn) Xt ?_
 refine Xe rfl rfl (Xl Xn Tryz.underlying3 Xn Xo) Xt ?_
 refine Xe rfl rfl (Xw Xn) Xt ?_
 refine Xe rfl rfl (Xl Xn Tryz.underlying3 Xn Xo) Xt ?_
 refine Zd rfl rfl (Ys (l := [.slice none 0 0]) inf83.zero rfl (by decide)) ?_
 refine Yk rfl rfl (Xy (above_read hT (gwP _) (slP _) (ht.mono (leP _)) j (by omega) (by rw [hlj]; exact Nat.le_refl _)) rfl Tryz.func118 rfl rfl rfl ?_)
 rintro v7 H4 ⟨rfl, rfl⟩; rw [habv]
 refine ⟨Yi, ?_⟩
 refine Yk rfl rfl (Xy (Group_tree (ht.mono (leP _)) hT.l1 hT.l2 hT.lens (j : Int) _) rfl Tryz.func91 rfl rfl rfl ?_)
 rintro v8 H5 ⟨GL, leL, hownL⟩; obtain ⟨L, hL⟩ : ∃ L, L = T.group j (Yn T ns j) := ⟨_, rfl⟩; rw [← hL] at hownL; have slL := hownL.sl; obtain ⟨AL, cL, rfl⟩ := slL.shape; have le35 := Hp.le_trans leL hownL.le; have z5 := le35.1; simp only [Hp.push_size] at z5; have gq5 : H5.get H3.size = .own 0 [.slice none 0 0] := Xr le35 (by simp) (by intro e; cases e) Ya; have le5 := Hp.le_trans (H3.le_push _) le35
 refine ⟨Yi, ?_⟩
 first | refine Yk rfl rfl (Yz rfl rfl rfl inf83.size Ya Yd rfl ?_)
 refine ⟨Yi, ?_⟩
 refine Xc ?_
 obtain ⟨H6, hH6⟩ : ∃ H6, H6 = H5.put H3.size (.own 0 [.slice AL L.length cL]) := ⟨_, rfl⟩
 have le6 : H3.le H6 := by rw [hH6]; exact Hp.le_put_new le5 (by omega) _
 have slH6 : Sl kLink H6 (.slice AL L.length cL) L := by rw [hH6]; exact slL.mono (Hp.sees_box _ gq5)
 have gq6 : H6.get H3.size = .own 0 [.slice AL L.length cL] := by rw [hH6]; exact Hp.put_same _ _ _
 have z6 : H6.size = H5.size := by rw [hH6]; simp
 have gu6 := Xr le6 (by omega) (by intro e; cases e) gu3
 have gz6 := Xr le6 (by omega) (by intro e; cases e) gz3
 have gw6 := Xr le6 (by omega) (by intro e; cases e) gw3
 have gI6 := Xr le6 (by omega) (by intro e; cases e) gI3
 have leH6 := Hp.le_trans leH3 le6
 have huH6 := hu.mono leH6.sees
 change ACode true _ _ _ _ _ (H5.put H3.size (.own 0 [.slice AL L.length cL]))
 rw [← hH6]
 clear hH6
 have hLl : L.length ≤ 1000000 := by rw [hL]; exact group_len hT.lens _ _
 have hLs : L.Pairwise fun x y => x.b < y.b := by rw [hL]; exact hT.sort _ _
 have hmono : ∀ (a b : Nat) (ha : a < L.length) (hb : b < L.length), a < b → L[a].b < L[b].b := fun a b ha hb h => List.pairwise_iff_getElem.1 hLs a b ha hb h
 have c1' : H6.cell? H3.size 0 = some (.slice AL L.length cL) := Zt (cs := [.slice AL L.length cL]) gq6
 have c2' : H6.cell? H.size 0 = some (.slice AU ns.length cU) := Zt (cs := [.slice AU ns.length cU]) gu6
 have c3' : H6.cell? bI 0 = some (.int .i64 j) := Zt (cs := [.int .i64 j]) gI6
 have call1 : ∀ k, k < L.length → ACalls Tryz.prog 119 (#[.int .i64 (k : Nat)] ++ #[.pointer (some ⟨H3.size, 0, none⟩), .pointer (some ⟨H.size, 0, none⟩), .pointer (some ⟨bI, 0, none⟩)]) H6 (fun r H' => r = .bool (if h : k < L.length then decide (x < L[k].b) else true) ∧ H' = H6) := fun k hk =>
  ACalls.pure (R := fun r => r = .bool (if h : k < L.length then decide (x < L[k].b) else true)) (fun v h => by rw [h]; rfl) ((behind1_raw L ns AL AU cL cU k j H3.size H.size bI H6.ro (cell_ro c1') (cell_ro c2') (cell_ro c3') (slH6.mono H6.sees_ro) (huH6.mono H6.sees_ro) hk (by omega) (by show H3.size < H6.size; omega) (by show H.size < H6.size; omega) (by show bI < H6.size; omega)).mono fun r _ h => by rw [h, dif_pos hk, hx])
 have mono1 : ∀ a b, a ≤ b → b < L.length → (if h : a < L.length then decide (x < L[a].b) else true) = true → (if h : b < L.length then decide (x < L[b].b) else true) = true := fun a b hab hb h => by
  rw [dif_pos (by omega)] at h ⊢
  rcases Nat.lt_or_eq_of_le hab with h1 | h1
  ·have := hmono a b (by omega) hb h1
   have := of_decide_eq_true h
   exact decide_eq_true (by omega)
  ·subst h1; exact h
 refine Xs ?_
 refine Xa (Xl rfl Tryz.underlying83 rfl Xo) ?_
 refine Xa (Yo rfl Tryz.underlying83) ?_
 refine Xa (av_func0 (cs := #[.pointer (some ⟨H3.size, 0, none⟩), .pointer (some ⟨H.size, 0, none⟩), .pointer (some ⟨bI, 0, none⟩)]) (by show [Value.pointer (some ⟨H3.size, 0, none⟩), t 3, t 10] = [_, _, _]; rw [e3, e10])) ?_
 refine Xv (Xy (Search_gen L.length 119 _ #[.pointer (some ⟨H3.size, 0, none⟩), .pointer (some ⟨H.size, 0, none⟩), .pointer (some ⟨bI, 0, none⟩)] (fun k => if h : k < L.length then decide (x < L[k].b) else true) H6 Tryz.func119 rfl rfl call1 mono1 (by omega)) rfl Tryz.func82 rfl rfl rfl ?_)
 rintro v9 H6 ⟨⟨lo, rfl, hlo, hlo1, hlo2⟩, rfl⟩
 refine Xa (Xj rfl) ?_
 refine Xc ?_
 refine Xs ?_
 refine Xa (Xb rfl) ?_
 refine Xa (Xl rfl Tryz.underlying83 rfl Xo) ?_
 refine Xa (Yo rfl Tryz.underlying83) ?_
 refine Xa (Zf rfl rfl) ?_
 refine X4 rfl rfl ?_ ?_
 intro hc6
 have hlt : lo < L.length := by have := of_decide_eq_true hc6; omega
 obtain ⟨bl, ol, el, hbl, hcl⟩ := slH6.link_at hlt
 subst el
 obtain ⟨l, hl'⟩ : ∃ l, l = L[lo] := ⟨_, rfl⟩
 rw [← hl'] at hcl
 have hclb := hcl 1 _ rfl
 have hnb : Ua L x = some l := by
  rw [hl']
  exact nextB_at hlt (by have := hlo2 lo (Nat.le_refl _) hlt; rw [dif_pos hlt] at this; exact of_decide_eq_true this) fun j hj h => by
   have := hlo1 j hj
   rw [dif_pos h] at this
   exact of_decide_eq_false this
 rw [hL, hx] at hnb
 obtain ⟨hp2, hh2⟩ := aft_head hT hA hlen (by omega) (hpm j (by omega)) hnb
 have slB := slS.mono leH6.sees
 have hl2 : (ns.take j ++ [l.b]).length = j + 1 := by rw [List.length_append, hlj]; rfl
 refine Xc ?_
 refine Yy (by kernel_rfl) (Y4 (B := [0, 0, 2, 6, 14, 0, 0, 96, 224, 480, 992, 2046, 4095, 8191, 8191, 32767, 65535]) (π := [0, 1, 2, 3, 4, 5, 6, 7, 8, 9, 10, 11, 12, 13, 14, 15, 16]) (by kernel_rfl)) ?_
 refine Xe rfl rfl (Xw Xn) Xt ?_
 refine Xe rfl rfl (Xw Xn) Xt ?_
 refine Xe rfl rfl (X7 rfl) Xt ?_
 refine Xe rfl rfl (Xf (off := 1) rfl Tryz.underlying167 rfl inf23.size (by decide) rfl) Xt ?_
 refine Xe rfl rfl (Xl rfl Tryz.underlying23 rfl Xo) Xt ?_
 refine Xe rfl rfl (Xl rfl Tryz.underlying83 rfl Xo) Xt ?_
 refine Xe rfl rfl (Xb rfl) Xt ?_
 refine Xe rfl rfl (Xx rfl rfl Tryz.underlying83 inf96.size Yc Yc) Xt ?_
 refine Xe rfl rfl (Xf (off := 1) rfl Tryz.underlying96 rfl inf3.size (by decide) rfl) Xt ?_
 refine Xe rfl rfl (Xl rfl Tryz.underlying3 rfl Xo) Xt ?_
 first | refine Zd rfl rfl (Yg (r := [.int .i64 _]) Tryz.underlying23 inf3.size inf3.zero rfl (by decide) (by decide) (by decide) rfl) ?_
 refine Yk rfl rfl (Sl.grow (m := l.b) (slB.mono (Hp.le_push _ _).sees) Tryz.underlying23 inf3 rfl rfl rfl (Hp.push_new _ _) (by omega) (by omega) ?_)
 rintro H7 eH7 slG
 have le67 : H6.le H7 := by rw [eH7]; exact Hp.le_push' (H6.le_push _) _
 refine ⟨by rw [eH7]; exact Yi, ?_⟩
 have gz7 := Xr le67 (by omega) (by intro e; cases e) gz6
 have leH7 := Hp.le_trans leH6 le67
 have z7 := le67.1
 clear eH7
 refine Yk rfl rfl (Xy (least_walk hT hA (ht.mono leH7) slG hp2 (by omega) (by omega)) rfl Tryz.func120 rfl rfl rfl ?_)
 rintro v12 H8 ⟨le78, o, htl, A8, k8, rfl, sl8⟩; have gz8 := Xr le78 (by omega) (by intro e; cases e) gz7; have z8 := le78.1; have leH8 := Hp.le_trans leH7 le78
 refine ⟨Yi, ?_⟩
 refine Xe rfl rfl (Yf rfl rfl) Xt ?_
 refine Xe rfl rfl (Yf rfl rfl) Xt ?_
 refine Yk rfl rfl (Ye (vs := [.slice _ _ _, .int .i64 _, .int .u64 _]) Xn Xn inf46.size Ya Yd Xn Xn ?_)
 refine ⟨Yi, ?_⟩
 refine Xe rfl rfl (Xi rfl) Xt ?_
 refine X2 ?_
 rw [hl2, ] at htl
 exact ⟨_, Yt (Ym Xn (Yl (cs := [_, _, _]) Tryz.underlying46 rfl inf46.size X5)) (Xp rfl), Hp.le_put_new leH8 (by omega) _, o, fun _ => ⟨by rw [htl.1, hhead, hh2], htl.2⟩, fun h => absurd hlen h, A8, k8, rfl, sl8.mono (Hp.sees_box _ gz8)⟩
 intro hc6
 have heq : lo = L.length := by have := of_decide_eq_false hc6; omega
 have hnb : Ua L x = none := nextB_no fun l hl => by
  obtain ⟨j, hj, rfl⟩ := List.getElem_of_mem hl
  have := hlo1 j (by omega)
  rw [dif_pos hj] at this
  exact of_decide_eq_false this
 rw [hL, hx] at hnb
 have haft := aft_none hnb
 refine X9 ?_
 refine Xc ?_
 refine Xc ?_
 refine Xs ?_
 refine Xa (Xl Xn Tryz.underlying3 Xn Xo) ?_
 refine Xs ?_
 refine Xz (Ys (l := [.int .i64 0]) inf3.zero rfl (by decide)) ?_
 first | refine Xv (Yz rfl rfl rfl inf3.size Ya Yd rfl ?_)
 refine Xs ?_
 refine Xa (Xl rfl Tryz.underlying3 rfl Xo) ?_
 refine Xa (av_sub64 rfl rfl Y2) ?_
 first | refine Xv (Yz rfl rfl rfl inf3.size Ya Yd rfl ?_)
 exact ⟨j, by omega, j, H6.size, _, rfl, by omega, by rw [hhead, haft], t_le, by omega, by simp, Ya, Ya, Ya, by rw [show (j : Int) - 1 = (j : Int) - 1 from rfl]; exact Ya, e0, e3, e4, e6, rfl⟩
 intro hc5
 have hpos : m = 0 := by have := of_decide_eq_false hc5; omega
 subst hpos
 refine Y3 ?_
 refine Xc ?_
 refine Xs ?_
 refine Xa (Y0 (pl := [(0, 1), (1, 1), (2, 1)]) (r := [.slice _ _ _, .int .i64 _, .int .u64 _]) Tryz.underlying46 inf46.zero (by decide) rfl rfl) ?_
 refine Xv (Ye (vs := [.slice _ _ _, .int .i64 _, .int .u64 _]) Xn Xn inf46.size Ya Yd Xn Xn ?_)
 refine Xa (Xi rfl) ?_
 refine X2 ?_
 exact ⟨_, Yt (Ym Xn (Yl (cs := [_, _, _]) Tryz.underlying46 rfl inf46.size X5)) (Xp rfl), t_le, none, fun _ => ⟨by rw [hhead]; rfl, fun r h => (by cases h)⟩, fun _ => rfl, Vt _⟩
theorem acc_most {T : TreeT} {ns : List Int} : ∀ i {c n : Int}, Vi T ns i = some (c, n) → n ≤ 4611686018427387904
 | 0, c, n, h => by
  rw [Vi] at h
  injection h with h
  injection h with h1 h2
  omega
 | i + 1, c, n, h => by
  rw [Vi] at h
  obtain ⟨cn, _, h2⟩ := Option.bind_eq_some_iff.1 h
  obtain ⟨y, _, h4⟩ := Option.map_eq_some_iff.1 h2
  simp only [Prod.mk.injEq] at h4
  rw [← h4.2]
  unfold Zy
  have : Uc = 4611686018427387904 := rfl
  omega
theorem row_most {T : TreeT} {ns : List Int} {r : RowT} (h : V0 T ns = some r) : r.n ≤ 4611686018427387904 ∧ r.nodes = ns ∧ ns.length = T.vars.length := by
 unfold V0 at h
 split at h
 ·rename_i hl
  obtain ⟨cn, h1, h2⟩ := Option.map_eq_some_iff.1 h
  rw [← h2]
  exact ⟨acc_most _ h1, rfl, hl⟩
 ·cases h
def FitsT (T : TreeT) (m : MarkT) : Prop := Zv m ∧ (m.nodes.length = 0 ∨ ∃ r, V0 T m.nodes = some r ∧ m.rest < r.n)
def NextIs (T : TreeT) (m : MarkT) (o : Option RowT) (rest : Int) : Prop :=
 (m.over = true → o = none ∧ rest = 0) ∧ (m.over = false → m.nodes.length = 0 → o = (Vu T w0).2 ∧ rest = 0) ∧
 (m.over = false → m.nodes.length ≠ 0 → ∀ r, V0 T m.nodes = some r → (m.rest + 1 < r.n → o = some r ∧ rest = m.rest + 1) ∧ (¬ m.rest + 1 < r.n → TellsH T o (behN T m.nodes) ∧ rest = 0))
theorem fits_T {T : TreeT} (hT : GoodT T) {tb : Nat} (m : MarkT) (cs : List Value) (H : Hp) (ht : TreeR H (.pointer (some ⟨tb, 0, none⟩)) T) (hm : kMark.rep H m cs) (hb : BigM m) :
    ACalls Tryz.prog 58 #[.pointer (some ⟨tb, 0, none⟩), .agg cs.toArray] H (fun r H' => (∃ g, r = .bool g ∧ (g = true ↔ FitsT T m)) ∧ H.le H') := by
  have hm0 := hm
  obtain ⟨v, w, rfl, hv, hw⟩ := hm
  obtain ⟨A, c, rfl⟩ := hv.shape
  obtain ⟨W, cW, rfl⟩ := hw.shape
  have hbn := hb.n
  refine Xu Tryz.func58 rfl rfl rfl (by simp) ?_
  refine Xc ?_
  refine Xs ?_
  refine Xz (Yp rfl) ?_
  refine Xa (Xi rfl) ?_
  refine Xc ?_
  refine Xc ?_
  refine Xs ?_
  refine Xa (Yj (cs := [.int .i64 _, .bool _, .slice _ _ _, .int .u64 _, .slice _ _ _]) rfl Tryz.underlying33 rfl inf33.size X5) ?_
  refine Xv (Xy (good_36 m _ _ (kMark.mono (H.le_push _).sees hm0) hb) rfl Tryz.func75 rfl rfl rfl ?_)
  rintro v8 H1 ⟨⟨g, rfl, hg⟩, hH1⟩; subst hH1
  refine Xa (Z3 rfl) ?_
  refine Xa (Xq rfl) ?_
  refine Yb rfl rfl rfl ?_ ?_
  intro hg1
  have hgf : g = false := by have h := hg1; simpa using h
  refine Xd (Xg rfl rfl rfl hg1 rfl) ?_
  refine Xd (Xg rfl rfl rfl hg1 rfl) ?_
  refine Xd (Xg rfl rfl rfl hg1 rfl) ?_
  refine Xd (Xg rfl rfl rfl hg1 rfl) ?_
  refine Xa (Xm (Yu hg1) rfl) ?_
  refine Yw rfl rfl ?_
  refine Xc ?_
  refine Xs ?_
  refine Xa (Yj (cs := [.int .i64 _, .bool _, .slice _ _ _, .int .u64 _, .slice _ _ _]) rfl Tryz.underlying33 rfl inf33.size X5) ?_
  refine Xv (Xy (good_36 m _ _ (kMark.mono (H.le_push _).sees hm0) hb) rfl Tryz.func75 rfl rfl rfl ?_)
  rintro v17 H1 ⟨⟨g2, rfl, hg2⟩, hH1⟩; subst hH1
  refine Xa (Xi rfl) ?_
  refine X2 ?_
  refine ⟨_, X0 (Xp rfl), ⟨g2, rfl, ?_⟩, H.le_push _⟩
  first
    | exact ⟨fun h => ⟨hg2.1 h, .inl hn0⟩, fun h => hg2.2 h.1⟩
    | exact ⟨fun h => (by have := hg.2 (hg2.1 h); rw [hgf] at this; cases this), fun h => hg2.2 h.1⟩
  intro hg1
  have hgt : g = true := by have h := hg1; simpa using h
  have hn12 := (hg.1 hgt).n
  refine Xk (Xh rfl rfl rfl hg1) (Xf (off := 2) rfl Tryz.underlying33 rfl inf23.size (by decide) rfl) ?_
  refine Xk (Xh rfl rfl rfl hg1) (Xl rfl Tryz.underlying23 rfl Xo) ?_
  refine Xk (Xh rfl rfl rfl hg1) (Yo rfl Tryz.underlying23) ?_
  refine Xk (Xh rfl rfl rfl hg1) (Zs rfl rfl) ?_
  refine Xa (Xm (Yu hg1) rfl) ?_
  refine X4 rfl rfl ?_ ?_
  intro hc3
  have hn0 : m.nodes.length = 0 := by have := of_decide_eq_true hc3; omega
  refine Xc ?_
  refine Xs ?_
  refine Xa (Yj (cs := [.int .i64 _, .bool _, .slice _ _ _, .int .u64 _, .slice _ _ _]) rfl Tryz.underlying33 rfl inf33.size X5) ?_
  refine Xv (Xy (good_36 m _ _ (kMark.mono (H.le_push _).sees hm0) hb) rfl Tryz.func75 rfl rfl rfl ?_)
  rintro v17 H1 ⟨⟨g2, rfl, hg2⟩, hH1⟩; subst hH1
  refine Xa (Xi rfl) ?_
  refine X2 ?_
  refine ⟨_, X0 (Xp rfl), ⟨g2, rfl, ?_⟩, H.le_push _⟩
  first
    | exact ⟨fun h => ⟨hg2.1 h, .inl hn0⟩, fun h => hg2.2 h.1⟩
    | exact ⟨fun h => (by have := hg.2 (hg2.1 h); rw [hgf] at this; cases this), fun h => hg2.2 h.1⟩
  intro hc3
  have hn0 : ¬ m.nodes.length = 0 := by have := of_decide_eq_false hc3; omega
  refine X9 ?_
  refine Xc ?_
  refine Xs ?_
  refine Xa (Xw rfl) ?_
  refine Xa (Xf (off := 2) rfl Tryz.underlying33 rfl inf23.size (by decide) rfl) ?_
  refine Xa (Xl rfl Tryz.underlying23 rfl Xo) ?_
  refine Xv (Xy (Row_rowT (ht.mono (H.le_push _)) hT (hv.mono (H.le_push _).sees) (by omega)) rfl Tryz.func72 rfl rfl rfl ?_)
  rintro v22 H2 ⟨G2, A2, c2, le2, rfl, hown2⟩; have le12 := Hp.le_trans le2 hown2.le; have z2 := le12.1; simp only [Hp.push_size] at z2; have g20 := Xr le12 (by simp) (by intro e; cases e) (Hp.push_new H (.own 0 [.int .i64 m.told, .bool m.over, .slice A m.nodes.length c, .int .u64 m.rest, .slice W m.items.length cW]))
  refine Xa (Zi rfl) ?_
  refine Xa (Yf rfl rfl) ?_
  refine Xa (Yf rfl rfl) ?_
  refine Xz (Ys (l := [.slice none 0 0, .int .i64 0, .int .u64 0]) inf46.zero rfl (by decide)) ?_
  refine Xv (Ye (vs := [.slice _ _ _, .int .i64 _, .int .u64 _]) rfl rfl inf46.size Ya Yd rfl rfl ?_)
  refine Xa (Xi rfl) ?_
  refine Xc ?_
  refine Xs ?_
  refine Xa (Xq rfl) ?_
  refine Xa (Xq rfl) ?_
  refine Yb rfl rfl rfl ?_ ?_
  intro hg4
  have hok : (V0 T m.nodes).isSome = true := hg4
  obtain ⟨r, hr⟩ := Option.isSome_iff_exists.1 hok
  refine Xk (Xh rfl rfl rfl hg4) (Xf (off := 3) rfl Tryz.underlying33 rfl inf30.size (by decide) rfl) ?_
  refine Xk (Xh rfl rfl rfl hg4) (Xl rfl Tryz.underlying30 rfl Xo) ?_
  refine Xk (Xh rfl rfl rfl hg4) (Xf (off := 2) rfl Tryz.underlying46 rfl inf30.size (by decide) rfl) ?_
  refine Xk (Xh rfl rfl rfl hg4) (Xl rfl Tryz.underlying30 rfl Xo) ?_
  refine Xk (Xh rfl rfl rfl hg4) (Zf rfl rfl) ?_
  refine Xa (Xm (Yu hg4) rfl) ?_
  refine Xa (Xi rfl) ?_
  refine X2 ?_
  · refine ⟨_, X0 (Xp rfl), ⟨_, rfl, ?_⟩, Hp.le_put_new (Hp.le_push' (Hp.le_trans (H.le_push _) le12) _) (by first | omega | (simp; done) | (simp; omega)) _⟩
    first
      | exact ⟨fun h => ⟨hg.1 hgt, .inr ⟨r, hr, by have h2 := of_decide_eq_true h; rw [hr] at h2; exact h2⟩⟩, fun h => decide_eq_true (by
          rcases h.2 with h2 | ⟨r2, h2, h3⟩
          · exact absurd h2 hn0
          · rw [h2]; exact h3)⟩
      | exact ⟨fun h => (by cases h), fun h => (by
          rcases h.2 with h2 | ⟨r2, h2, h3⟩
          · exact absurd h2 hn0
          · rw [hr] at h2; cases h2)⟩
  intro hg4
  have hok : (V0 T m.nodes).isSome = false := hg4
  have hr : V0 T m.nodes = none := by cases h : V0 T m.nodes with | none => rfl | some r => rw [h] at hok; cases hok
  refine Xd (Xg rfl rfl rfl hg4 rfl) ?_
  refine Xd (Xg rfl rfl rfl hg4 rfl) ?_
  refine Xd (Xg rfl rfl rfl hg4 rfl) ?_
  refine Xd (Xg rfl rfl rfl hg4 rfl) ?_
  refine Xd (Xg rfl rfl rfl hg4 rfl) ?_
  refine Xa (Xm (Yu hg4) rfl) ?_
  refine Xa (Xi rfl) ?_
  refine X2 ?_
  · refine ⟨_, X0 (Xp rfl), ⟨_, rfl, ?_⟩, Hp.le_put_new (Hp.le_push' (Hp.le_trans (H.le_push _) le12) _) (by first | omega | (simp; done) | (simp; omega)) _⟩
    first
      | exact ⟨fun h => ⟨hg.1 hgt, .inr ⟨r, hr, by have h2 := of_decide_eq_true h; rw [hr] at h2; exact h2⟩⟩, fun h => decide_eq_true (by
          rcases h.2 with h2 | ⟨r2, h2, h3⟩
          · exact absurd h2 hn0
          · rw [h2]; exact h3)⟩
      | exact ⟨fun h => (by cases h), fun h => (by
          rcases h.2 with h2 | ⟨r2, h2, h3⟩
          · exact absurd h2 hn0
          · rw [hr] at h2; cases h2)⟩
set_option maxHeartbeats 2000000 in
theorem behind_T {T : TreeT} (hT : GoodT T) (hA : Alive T) {tb : Nat} (m : MarkT) (cs : List Value) (H : Hp) (ht : TreeR H (.pointer (some ⟨tb, 0, none⟩)) T) (hm : kMark.rep H m cs) (hf : FitsT T m) (hr0 : 0 ≤ m.rest) :
    ACalls Tryz.prog 59 #[.pointer (some ⟨tb, 0, none⟩), .agg cs.toArray] H (fun r H' => (∃ (o : Option RowT) (rest : Int) (A : Option Addr) (c : Nat), r = .tuple #[.agg #[.slice A (rowN o).length c, .int .i64 (rowC o), .int .u64 (rowM o)], .int .u64 rest, .bool o.isSome] ∧ Sl (Yv .i64) H' (.slice A (rowN o).length c) (rowN o) ∧ NextIs T m o rest) ∧ H.le H') := by
  obtain ⟨v, w, rfl, hv, hw⟩ := hm
  obtain ⟨A, c, rfl⟩ := hv.shape
  obtain ⟨W, cW, rfl⟩ := hw.shape
  have hn12 := hf.1.n
  refine Xu Tryz.func59 rfl rfl rfl (by simp) ?_
  refine Xc ?_
  refine Xs ?_
  refine Xz (Yp rfl) ?_
  refine Xz (Ys (l := [.slice none 0 0, .int .i64 0, .int .u64 0]) inf46.zero rfl (by decide)) ?_
  refine Xa (Xj rfl) ?_
  refine Xa (Xi rfl) ?_
  refine Xc ?_
  refine Xc ?_
  refine Xs ?_
  refine Xa (Xf (off := 1) rfl Tryz.underlying33 rfl inf4.size (by decide) rfl) ?_
  refine Xa (Xl rfl Tryz.underlying4 rfl Xo) ?_
  refine X4 rfl rfl ?_ ?_
  intro hc1
  have ho : m.over = true := hc1
  refine Xc ?_
  refine Xs ?_
  refine Xa (Y0 (pl := [(0, 1), (1, 1), (2, 1)]) (r := [.slice _ _ _, .int .i64 _, .int .u64 _]) Tryz.underlying46 inf46.zero (by decide) rfl rfl) ?_
  refine Xv (Ye (vs := [.slice _ _ _, .int .i64 _, .int .u64 _]) rfl rfl inf46.size Ya Yd rfl rfl ?_)
  refine Xa (Xj rfl) ?_
  refine Xa (Xi rfl) ?_
  refine X2 ?_
  · exact ⟨_, Z1 (Ym Xn (Yl (cs := [_, _, _]) Tryz.underlying46 rfl inf46.size X5)) (Xp rfl) (Xp rfl), ⟨none, 0, none, 0, rfl, Sl.nil _ _, fun _ => ⟨rfl, rfl⟩, fun h => (by rw [ho] at h; cases h), fun h => (by rw [ho] at h; cases h)⟩, Hp.le_put_new (Hp.le_push' (H.le_push _) _) (by first | omega | (simp; done) | (simp; omega)) _⟩
  intro hc1
  have ho : m.over = false := hc1
  refine X9 ?_
  refine Xc ?_
  refine Xc ?_
  refine Xs ?_
  refine Xa (Xf (off := 2) rfl Tryz.underlying33 rfl inf23.size (by decide) rfl) ?_
  refine Xa (Xl rfl Tryz.underlying23 rfl Xo) ?_
  refine Xa (Yo rfl Tryz.underlying23) ?_
  refine Xa (Zs rfl rfl) ?_
  refine X4 rfl rfl ?_ ?_
  intro hc2
  have hn0 : m.nodes.length = 0 := by have := of_decide_eq_true hc2; omega
  refine Xc ?_
  refine Xs ?_
  refine Xa (Xw rfl) ?_
  refine Xv (Xy (First_gen hT hA (some ⟨tb, 0, none⟩) w0 (.inl rfl) (fun H => fresh_tree tb H) _ (fun _ => ht.mono t_le)) rfl Tryz.func88 rfl rfl rfl ?_)
  rintro v22 H1 ⟨le1, A1, c1', rfl, hs1⟩; have z1 := le1.1; simp only [Hp.push_size] at z1; have g1 : H1.get (H.size + 1) = .own 0 [.slice none 0 0, .int .i64 0, .int .u64 0] := Xr le1 (by simp) (by intro e; cases e) Ya
  refine Xa (Zi rfl) ?_
  refine Xa (Yf rfl rfl) ?_
  refine Xa (Yf rfl rfl) ?_
  refine Xz (Ys (l := [.slice none 0 0, .int .i64 0, .int .u64 0]) inf46.zero rfl (by decide)) ?_
  refine Xv (Ye (vs := [.slice _ _ _, .int .i64 _, .int .u64 _]) rfl rfl inf46.size Ya Yd rfl rfl ?_)
  refine Xa (Xi rfl) ?_
  refine Xc ?_
  refine Xs ?_
  refine Xa (Yj (cs := [.slice _ _ _, .int .i64 _, .int .u64 _]) rfl Tryz.underlying46 rfl inf46.size X5) ?_
  refine Xa (Xq rfl) ?_
  refine Xv (Ye (vs := [.slice _ _ _, .int .i64 _, .int .u64 _]) rfl rfl inf46.size Ya Yd rfl rfl ?_)
  refine Xa (Xj rfl) ?_
  refine Xa (Xi rfl) ?_
  refine X2 ?_
  · refine ⟨_, Z1 (Ym Xn (Yl (cs := [_, _, _]) Tryz.underlying46 rfl inf46.size X5)) (Xp rfl) (Xp rfl), ⟨_, 0, A1, c1', rfl, ?_, fun h => (by rw [ho] at h; cases h), fun _ _ => ⟨rfl, rfl⟩, fun _ h => absurd hn0 h⟩, Hp.le_put_new (Hp.le_put_new (Hp.le_push' (Hp.le_trans (Hp.le_push' (H.le_push _) _) le1) _) (by first | omega | (simp; done) | (simp; omega)) _) (by first | omega | (simp; done) | (simp; omega)) _⟩
    refine ((hs1.mono (H1.le_push (.own 0 [.slice none 0 0, .int .i64 0, .int .u64 0])).sees).mono (Hp.sees_box (cs := [.slice none 0 0, .int .i64 0, .int .u64 0]) _ (Hp.push_new _ _))).mono (Hp.sees_box (cs := [.slice none 0 0, .int .i64 0, .int .u64 0]) _ ?_)
    rw [Hp.put_other _ _ (by first | omega | (simp; done) | (simp; omega))]
    exact (Hp.push_old _ _ (by first | omega | (simp; done) | (simp; omega))).trans g1
  intro hc2
  have hn0 : ¬ m.nodes.length = 0 := by have := of_decide_eq_false hc2; omega
  obtain ⟨r, hrow, hrr⟩ := hf.2.resolve_left hn0
  obtain ⟨hrm, hrn, hrl⟩ := row_most hrow
  have hwr : IntKind.u64.wrap (m.rest + 1) = m.rest + 1 := wrap_u64a (by omega) (by omega)
  refine X9 ?_
  refine Xc ?_
  refine Xc ?_
  refine Xs ?_
  refine Xa (Xw rfl) ?_
  refine Xa (Xf (off := 2) rfl Tryz.underlying33 rfl inf23.size (by decide) rfl) ?_
  refine Xa (Xl rfl Tryz.underlying23 rfl Xo) ?_
  refine Xv (Xy (Row_rowT (ht.mono t_le) hT (hv.mono Zh) (by omega)) rfl Tryz.func72 rfl rfl rfl ?_)
  rintro v31 H2 ⟨G2, A2, c2, le2, rfl, hown2⟩; rw [hrow] at hown2 ⊢; have le12 := Hp.le_trans le2 hown2.le; have z2 := le12.1; simp only [Hp.push_size] at z2; have sl2 := hown2.sl; have g20 : H2.get H.size = .own 0 [.int .i64 m.told, .bool m.over, .slice A m.nodes.length c, .int .u64 m.rest, .slice W m.items.length cW] := Xr le12 (by simp <;> omega) (by intro e; cases e) Ya; have g21 : H2.get (H.size + 1) = .own 0 [.slice none 0 0, .int .i64 0, .int .u64 0] := Xr le12 (by simp) (by intro e; cases e) Ya; have leH2 : H.le H2 := Hp.le_trans (Hp.le_push' (H.le_push _) _) le12
  refine Xa (Zi rfl) ?_
  refine Xa (Yf rfl rfl) ?_
  refine Xa (Yf rfl rfl) ?_
  refine Xz (Ys (l := [.slice none 0 0, .int .i64 0, .int .u64 0]) inf46.zero rfl (by decide)) ?_
  refine Xv (Ye (vs := [.slice _ _ _, .int .i64 _, .int .u64 _]) rfl rfl inf46.size Ya Yd rfl rfl ?_)
  refine Xa (Xi rfl) ?_
  refine Xc ?_
  obtain ⟨H3, hH3⟩ : ∃ H3, H3 = (H2.push (.own 0 [.slice none 0 0, .int .i64 0, .int .u64 0])).put H2.size (.own 0 [.slice A2 (rowN (some r)).length c2, .int .i64 (rowC (some r)), .int .u64 (rowM (some r))]) := ⟨_, rfl⟩
  have le23 : H2.le H3 := by rw [hH3]; exact Hp.le_put_new (H2.le_push _) (Nat.le_refl _) _
  have g3 : H3.get H2.size = .own 0 [.slice A2 (rowN (some r)).length c2, .int .i64 (rowC (some r)), .int .u64 (rowM (some r))] := by rw [hH3]; exact Hp.put_same _ _ _
  have z3 : H3.size = H2.size + 1 := by rw [hH3]; simp
  change ACode true _ _ _ _ _ ((H2.push (.own 0 [.slice none 0 0, .int .i64 0, .int .u64 0])).put H2.size (.own 0 [.slice A2 (rowN (some r)).length c2, .int .i64 (rowC (some r)), .int .u64 (rowM (some r))]))
  rw [← hH3]
  clear hH3
  have g30 := Xr le23 (by omega) (by intro e; cases e) g20
  have g31 := Xr le23 (by omega) (by intro e; cases e) g21
  have sl3 := sl2.mono le23.sees
  have leH3 := Hp.le_trans leH2 le23
  refine Xs ?_
  refine Xa (Xf (off := 3) rfl Tryz.underlying33 rfl inf30.size (by decide) rfl) ?_
  refine Xa (Xl rfl Tryz.underlying30 rfl Xo) ?_
  refine Xa (av_addn_is hwr rfl rfl) ?_
  refine Xa (Xf (off := 2) rfl Tryz.underlying46 rfl inf30.size (by decide) rfl) ?_
  refine Xa (Xl rfl Tryz.underlying30 rfl Xo) ?_
  refine Xa (Zf rfl rfl) ?_
  refine X4 rfl rfl ?_ ?_
  intro hc3
  have hlt : m.rest + 1 < r.n := of_decide_eq_true hc3
  refine Xc ?_
  refine Yy (by kernel_rfl) (Y4 (B := [0, 0, 2, 6, 1, 31, 63]) (π := [0, 1, 2, 3, 4, 5, 6]) (by kernel_rfl)) ?_
  refine Xe rfl rfl (Yj (cs := [.slice _ _ _, .int .i64 _, .int .u64 _]) rfl Tryz.underlying46 rfl inf46.size X5) Xt ?_
  refine Xe rfl rfl (Xf (off := 3) rfl Tryz.underlying33 rfl inf30.size (by decide) rfl) Xt ?_
  refine Xe rfl rfl (Xl rfl Tryz.underlying30 rfl Xo) Xt ?_
  refine Xe rfl rfl (av_addn_is hwr rfl rfl) Xt ?_
  refine Yk rfl rfl (Ye (vs := [.slice _ _ _, .int .i64 _, .int .u64 _]) rfl rfl inf46.size Ya Yd rfl rfl ?_)
  refine ⟨Yi, ?_⟩
  refine Xe rfl rfl (Xj rfl) Xt ?_
  refine Xe rfl rfl (Xi rfl) Xt ?_
  refine X2 ?_
  · exact ⟨_, Z1 (Ym Xn (Yl (cs := [_, _, _]) Tryz.underlying46 rfl inf46.size X5)) (Xp rfl) (Xp rfl), ⟨some r, m.rest + 1, A2, c2, rfl, sl3.mono (Hp.sees_box _ g31), fun h => (by rw [ho] at h; cases h), fun _ h => absurd h hn0, fun _ _ r' hr' => (by
      rw [hrow] at hr'
      injection hr' with hr'
      subst hr'
      exact ⟨fun _ => ⟨rfl, rfl⟩, fun h => absurd hlt h⟩)⟩, Hp.le_put_new leH3 (by first | omega | (simp; done) | (simp; omega)) _⟩
  intro hc3
  have hlt : ¬ m.rest + 1 < r.n := of_decide_eq_false hc3
  refine X9 ?_
  refine Xc ?_
  refine Xs ?_
  refine Xa (Xw rfl) ?_
  refine Xa (Xf (off := 2) rfl Tryz.underlying33 rfl inf23.size (by decide) rfl) ?_
  refine Xa (Xl rfl Tryz.underlying23 rfl Xo) ?_
  refine Xv (Xy (Behind_walk hT hA (ht.mono leH3) (hv.mono leH3.sees) (by omega)) rfl Tryz.func89 rfl rfl rfl ?_)
  rintro v48 H4 ⟨le4, o, ho1, ho2, A4, c4, rfl, sl4⟩; have z4 := le4.1; have g41 := Xr le4 (by omega) (by intro e; cases e) g31; have leH4 := Hp.le_trans leH3 le4
  refine Xa (Zi rfl) ?_
  refine Xa (Yf rfl rfl) ?_
  refine Xa (Yf rfl rfl) ?_
  refine Xz (Ys (l := [.slice none 0 0, .int .i64 0, .int .u64 0]) inf46.zero rfl (by decide)) ?_
  refine Xv (Ye (vs := [.slice _ _ _, .int .i64 _, .int .u64 _]) rfl rfl inf46.size Ya Yd rfl rfl ?_)
  refine Xa (Xi rfl) ?_
  refine Xc ?_
  refine Xs ?_
  refine Xa (Yj (cs := [.slice _ _ _, .int .i64 _, .int .u64 _]) rfl Tryz.underlying46 rfl inf46.size X5) ?_
  refine Xa (Xq rfl) ?_
  refine Xv (Ye (vs := [.slice _ _ _, .int .i64 _, .int .u64 _]) rfl rfl inf46.size Ya Yd rfl rfl ?_)
  refine Xa (Xj rfl) ?_
  refine Xa (Xi rfl) ?_
  refine X2 ?_
  · refine ⟨_, Z1 (Ym Xn (Yl (cs := [_, _, _]) Tryz.underlying46 rfl inf46.size X5)) (Xp rfl) (Xp rfl), ⟨o, 0, A4, c4, rfl, ?_, fun h => (by rw [ho] at h; cases h), fun _ h => absurd h hn0, fun _ _ r' hr' => ?_⟩, Hp.le_put_new (Hp.le_put_new (Hp.le_push' leH4 _) (by first | omega | (simp; done) | (simp; omega)) _) (by first | omega | (simp; done) | (simp; omega)) _⟩
    · refine ((sl4.mono (H4.le_push (.own 0 [.slice none 0 0, .int .i64 0, .int .u64 0])).sees).mono (Hp.sees_box (cs := [.slice none 0 0, .int .i64 0, .int .u64 0]) _ (Hp.push_new _ _))).mono (Hp.sees_box (cs := [.slice none 0 0, .int .i64 0, .int .u64 0]) _ ?_)
      rw [Hp.put_other _ _ (by first | omega | (simp; done) | (simp; omega))]
      exact (Hp.push_old _ _ (by first | omega | (simp; done) | (simp; omega))).trans g41
    · rw [hrow] at hr'
      injection hr' with hr'
      subst hr'
      exact ⟨fun h => absurd h hlt, fun _ => ⟨ho1 hrl, rfl⟩⟩
set_option maxHeartbeats 2000000 in
theorem Next_T {T : TreeT} (hT : GoodT T) (hA : Alive T) {tb : Nat} (m : MarkT) (cs : List Value) (H : Hp) (ht : TreeR H (.pointer (some ⟨tb, 0, none⟩)) T) (hm : kMark.rep H m cs) (hb : BigM m) (hr0 : 0 ≤ m.rest) :
  ACalls Tryz.prog 17 #[.pointer (some ⟨tb, 0, none⟩), .agg cs.toArray] H (fun r H' => (∃ (o : Option RowT) (rest : Int) (A : Option Addr) (c : Nat) (x : MarkT) (B : Option Addr) (k : Nat), r = .tuple #[.agg #[.slice A (rowN o).length c, .int .i64 (rowC o), .int .u64 (rowM o)], .agg #[.int .i64 x.told, .bool x.over, .slice B x.nodes.length k, .int .u64 x.rest, .slice none 0 0], .bool o.isSome] ∧ Sl (Yv .i64) H' (.slice A (rowN o).length c) (rowN o) ∧ Sl (Yv .i64) H' (.slice B x.nodes.length k) x.nodes ∧
   (¬ FitsT T m → o = none ∧ x = Ub) ∧ (FitsT T m → NextIs T m o rest ∧ (o = none → x = ⟨m.told, true, [], 0, []⟩) ∧ ∀ r, o = some r → x = ⟨(if 9007199254740992 < m.told + 1 then 9007199254740992 else m.told + 1), false, r.nodes, rest, []⟩)) ∧ H.le H') := by
 have hm0 := hm
 obtain ⟨v, w, rfl, hv, hw⟩ := hm
 obtain ⟨A, c, rfl⟩ := hv.shape
 obtain ⟨W, cW, rfl⟩ := hw.shape
 refine Xu Tryz.func17 rfl rfl rfl (by simp) ?_
 refine Xc ?_
 refine Xs ?_
 refine Xz (Yp rfl) ?_
 refine Xz (Ys (l := [.slice none 0 0, .int .i64 0, .int .u64 0]) inf46.zero rfl (by decide)) ?_
 refine Xz (Ys (l := [.int .i64 0, .bool false, .slice none 0 0, .int .u64 0, .slice none 0 0]) inf33.zero rfl (by decide)) ?_
 refine Xa (Xi rfl) ?_
 refine Xc ?_
 refine Xc ?_
 refine Xs ?_
 refine Xa (Xw rfl) ?_
 refine Xa (Yj (cs := [.int .i64 _, .bool _, .slice _ _ _, .int .u64 _, .slice _ _ _]) rfl Tryz.underlying33 rfl inf33.size X5) ?_
 refine Xv (Xy (fits_T hT m _ _ (ht.mono t_le) (kMark.mono Zh hm0) hb) rfl Tryz.func58 rfl rfl rfl ?_)
 rintro v12 H1 ⟨⟨g, rfl, hg⟩, le1⟩; have z1 := le1.1; simp only [Hp.push_size] at z1; have g10 : H1.get H.size = .own 0 [.int .i64 m.told, .bool m.over, .slice A m.nodes.length c, .int .u64 m.rest, .slice W m.items.length cW] := Xr le1 (by simp <;> omega) (by intro e; cases e) Ya; have g11 : H1.get (H.size + 1) = .own 0 [.slice none 0 0, .int .i64 0, .int .u64 0] := Xr le1 (by simp <;> omega) (by intro e; cases e) Ya; have g12 : H1.get (H.size + 1 + 1) = .own 0 [.int .i64 0, .bool false, .slice none 0 0, .int .u64 0, .slice none 0 0] := Xr le1 (by simp <;> omega) (by intro e; cases e) Ya; have leH1 : H.le H1 := Hp.le_trans (Hp.le_push' (Hp.le_push' (H.le_push _) _) _) le1
 refine Xa (Z3 rfl) ?_
 refine X4 rfl rfl ?_ ?_
 intro hc1
 have hno : ¬ FitsT T m := fun h => by have h2 := hc1; rw [hg.2 h] at h2; cases h2
 refine Xc ?_
 refine Xs ?_
 refine Xa (Y0 (pl := [(0, 1), (1, 1), (2, 1)]) (r := [.slice _ _ _, .int .i64 _, .int .u64 _]) Tryz.underlying46 inf46.zero (by decide) rfl rfl) ?_
 refine Xa (Y0 (pl := [(0, 1), (1, 1), (2, 1), (3, 1), (4, 1)]) (r := [.int .i64 _, .bool _, .slice _ _ _, .int .u64 _, .slice _ _ _]) Tryz.underlying33 inf33.zero (by decide) rfl rfl) ?_
 refine Xv (Ye (vs := [.slice _ _ _, .int .i64 _, .int .u64 _]) rfl rfl inf46.size Ya Yd rfl rfl ?_)
 refine Xv (Ye (vs := [.int .i64 _, .bool _, .slice _ _ _, .int .u64 _, .slice _ _ _]) rfl rfl inf33.size Ya Yd rfl rfl ?_)
 refine Xa (Xi rfl) ?_
 refine X2 ?_
 ·exact ⟨_, Z1 (Ym Xn (Yl (cs := [_, _, _]) Tryz.underlying46 rfl inf46.size X5)) (Ym Xn (Yl (cs := [_, _, _, _, _]) Tryz.underlying33 rfl inf33.size X5)) (Xp rfl), ⟨none, 0, none, 0, Ub, none, 0, rfl, Sl.nil _ _, Sl.nil _ _, fun _ => ⟨rfl, rfl⟩, fun h => absurd h hno⟩, Hp.le_put_new (Hp.le_put_new leH1 (by first | omega | (simp; done) | (simp; omega)) _) (by first | omega | (simp; done) | (simp; omega)) _⟩
 intro hc1
 have hyes : FitsT T m := hg.1 (by have h := hc1; simpa using h)
 have htold := hyes.1.t1
 have htold0 := hyes.1.t0
 refine X9 ?_
 refine Xc ?_
 refine Xs ?_
 refine Xa (Xw rfl) ?_
 refine Xa (Yj (cs := [.int .i64 _, .bool _, .slice _ _ _, .int .u64 _, .slice _ _ _]) rfl Tryz.underlying33 rfl inf33.size X5) ?_
 refine Xv (Xy (behind_T hT hA m _ _ (ht.mono leH1) (kMark.mono leH1.sees hm0) hyes hr0) rfl Tryz.func59 rfl rfl rfl ?_)
 rintro v19 H2 ⟨⟨o, rest, A2, c2, rfl, sl2, hnx⟩, le2⟩; have z2 := le2.1; have g20 := Xr le2 (by omega) (by intro e; cases e) g10; have g21 := Xr le2 (by omega) (by intro e; cases e) g11; have g22 := Xr le2 (by omega) (by intro e; cases e) g12; have leH2 := Hp.le_trans leH1 le2
 refine Xa (Zi rfl) ?_
 refine Xa (Yf rfl rfl) ?_
 refine Xa (Yf rfl rfl) ?_
 refine Xa (Yf rfl rfl) ?_
 refine Xz (Ys (l := [.slice none 0 0, .int .i64 0, .int .u64 0]) inf46.zero rfl (by decide)) ?_
 refine Xv (Ye (vs := [.slice _ _ _, .int .i64 _, .int .u64 _]) rfl rfl inf46.size Ya Yd rfl rfl ?_)
 refine Xa (Xj rfl) ?_
 refine Xa (Xi rfl) ?_
 refine Xc ?_
 refine Xc ?_
 obtain ⟨H3, hH3⟩ : ∃ H3, H3 = (H2.push (.own 0 [.slice none 0 0, .int .i64 0, .int .u64 0])).put H2.size (.own 0 [.slice A2 (rowN o).length c2, .int .i64 (rowC o), .int .u64 (rowM o)]) := ⟨_, rfl⟩
 have le23 : H2.le H3 := by rw [hH3]; exact Hp.le_put_new (H2.le_push _) (Nat.le_refl _) _
 have g3 : H3.get H2.size = .own 0 [.slice A2 (rowN o).length c2, .int .i64 (rowC o), .int .u64 (rowM o)] := by rw [hH3]; exact Hp.put_same _ _ _
 have z3 : H3.size = H2.size + 1 := by rw [hH3]; simp
 change ACode true _ _ _ _ _ ((H2.push (.own 0 [.slice none 0 0, .int .i64 0, .int .u64 0])).put H2.size (.own 0 [.slice A2 (rowN o).length c2, .int .i64 (rowC o), .int .u64 (rowM o)]))
 rw [← hH3]
 clear hH3
 have g30 := Xr le23 (by omega) (by intro e; cases e) g20
 have g31 := Xr le23 (by omega) (by intro e; cases e) g21
 have g32 := Xr le23 (by omega) (by intro e; cases e) g22
 have sl3 := sl2.mono le23.sees
 have leH3 := Hp.le_trans leH2 le23
 refine Xs ?_
 refine Xa (Xq rfl) ?_
 refine Xa (Z3 rfl) ?_
 refine X4 rfl rfl ?_ ?_
 intro hc2
 obtain rfl : o = none := by cases o with | none => rfl | some r => exact absurd hc2 (by simp)
 refine Xc ?_
 refine Yy (by kernel_rfl) (Y4 (B := [0, 0, 2, 6, 1, 31, 63]) (π := [0, 1, 2, 3, 4, 5, 6]) (by kernel_rfl)) ?_
 refine Xe rfl rfl (Y0 (pl := [(0, 1), (1, 1), (2, 1)]) (r := [.slice _ _ _, .int .i64 _, .int .u64 _]) Tryz.underlying46 inf46.zero (by decide) rfl rfl) Xt ?_
 refine Xe rfl rfl (Xf (off := 0) rfl Tryz.underlying33 rfl inf3.size (by decide) rfl) Xt ?_
 refine Xe rfl rfl (Xl rfl Tryz.underlying3 rfl Xo) Xt ?_
 refine Xe rfl rfl (Y0 (pl := [(0, 1), (1, 1), (2, 1), (3, 1), (4, 1)]) (r := [.int .i64 _, .bool _, .slice _ _ _, .int .u64 _, .slice _ _ _]) Tryz.underlying33 inf33.zero (by decide) rfl rfl) Xt ?_
 refine Yk rfl rfl (Ye (vs := [.slice _ _ _, .int .i64 _, .int .u64 _]) rfl rfl inf46.size Ya Yd rfl rfl ?_)
 refine ⟨Yi, ?_⟩
 refine Yk rfl rfl (Ye (vs := [.int .i64 _, .bool _, .slice _ _ _, .int .u64 _, .slice _ _ _]) rfl rfl inf33.size Ya Yd rfl rfl ?_)
 refine ⟨Yi, ?_⟩
 refine Xe rfl rfl (Xi rfl) Xt ?_
 refine X2 ?_
 ·exact ⟨_, Z1 (Ym Xn (Yl (cs := [_, _, _]) Tryz.underlying46 rfl inf46.size X5)) (Ym Xn (Yl (cs := [_, _, _, _, _]) Tryz.underlying33 rfl inf33.size X5)) (Xp rfl), ⟨none, rest, none, 0, ⟨m.told, true, [], 0, []⟩, none, 0, rfl, Sl.nil _ _, Sl.nil _ _, fun h => absurd hyes h, fun _ => ⟨hnx, fun _ => rfl, fun r h => (by cases h)⟩⟩, Hp.le_put_new (Hp.le_put_new leH3 (by first | omega | (simp; done) | (simp; omega)) _) (by first | omega | (simp; done) | (simp; omega)) _⟩
 intro hc2
 obtain ⟨r, rfl⟩ : ∃ r, o = some r := by cases o with | none => exact absurd hc2 (by simp) | some r => exact ⟨r, rfl⟩
 have hnl : r.nodes.length ≤ 1000000000 := by
  rcases Nat.lt_or_ge 1000000000 r.nodes.length with h | h
  ·exfalso
   have hfew := hT.few
   have hrl : r.nodes.length = T.vars.length := by
    cases ho : m.over with
    | true => exact absurd (hnx.1 ho).1 (by simp)
    | false =>
     by_cases hn0 : m.nodes.length = 0
     ·have h1 := (hnx.2.1 ho hn0).1
      have h2 := (next_tells hT hA _ w0 (val_w0 T) (Nat.le_refl _)).2.1
      rw [← h1] at h2
      have h3 : Vc T w0 = r.nodes :: _ ∧ V0 T r.nodes = some r := h2
      exact (row_most h3.2).2.2
     ·obtain ⟨q, hq, _⟩ := hyes.2.resolve_left hn0
      obtain ⟨h1, h2⟩ := hnx.2.2 ho hn0 q hq
      by_cases hlt : m.rest + 1 < q.n
      ·have h3 := (h1 hlt).1
       injection h3 with h3
       rw [h3]
       have h4 := row_most hq
       rw [h4.2.1]; exact h4.2.2
      ·have h3 := (h2 hlt).1.2 r rfl
       exact (row_most h3).2.2
   omega
  ·exact h
 refine X9 ?_
 refine Xc ?_
 refine Yy (by kernel_rfl) (Y4 (B := [0, 0, 2, 6, 14, 0, 32, 96, 0, 510, 225, 2047, 4095]) (π := [0, 1, 2, 3, 4, 5, 6, 8, 7, 9, 10, 11, 12]) (by kernel_rfl)) ?_
 refine Xe rfl rfl (Yj (cs := [.slice _ _ _, .int .i64 _, .int .u64 _]) rfl Tryz.underlying46 rfl inf46.size X5) Xt ?_
 refine Xe rfl rfl (Xf (off := 0) rfl Tryz.underlying33 rfl inf3.size (by decide) rfl) Xt ?_
 refine Xe rfl rfl (Xl rfl Tryz.underlying3 rfl Xo) Xt ?_
 refine Xe rfl rfl (Yq rfl rfl Y2) Xt ?_
 refine Xe rfl rfl (av_min2 rfl rfl) Xt ?_
 refine Xe rfl rfl (Xf (off := 0) rfl Tryz.underlying46 rfl inf23.size (by decide) rfl) Xt ?_
 refine Xe rfl rfl (Xl rfl Tryz.underlying23 rfl Xo) Xt ?_
 refine Xe rfl rfl (Xb rfl) Xt ?_
 refine Yk rfl rfl (Xy (Clone_ints r.nodes _ _ sl3 hnl) rfl Tryz.func60 rfl rfl rfl ?_)
 rintro v36 H4 ⟨le4, sl4⟩; have z4 := le4.1; have g41 := Xr le4 (by omega) (by intro e; cases e) g31; have g42 := Xr le4 (by omega) (by intro e; cases e) g32; have leH4 := Hp.le_trans leH3 le4; obtain ⟨A4, c4, rfl⟩ := sl4.shape; have sl34 := sl3.mono le4.sees; have hsame : ∀ b ∈ [H2.size], H4.get b = H3.get b := (fun b hb => by rw [List.mem_singleton] at hb; subst hb; exact le4.2 _ (by omega) (by rw [g3]; intro e; cases e))
 refine ⟨Yi, ?_⟩
 refine Xe rfl rfl (Y0 (pl := [(0, 1), (1, 1), (2, 1), (3, 1), (4, 1)]) (r := [.int .i64 _, .bool _, .slice _ _ _, .int .u64 _, .slice _ _ _]) Tryz.underlying33 inf33.zero (by decide) rfl rfl) Xt ?_
 refine Yk rfl rfl (Ye (vs := [.slice _ _ _, .int .i64 _, .int .u64 _]) rfl rfl inf46.size Ya Yd rfl rfl ?_)
 refine ⟨Yi, ?_⟩
 refine Yk rfl rfl (Ye (vs := [.int .i64 _, .bool _, .slice _ _ _, .int .u64 _, .slice _ _ _]) rfl rfl inf33.size Ya Yd rfl rfl ?_)
 refine ⟨Yi, ?_⟩
 refine Xe rfl rfl (Xi rfl) Xt ?_
 refine X2 ?_
 ·refine ⟨_, Z1 (Ym Xn (Yl (cs := [_, _, _]) Tryz.underlying46 rfl inf46.size X5)) (Ym Xn (Yl (cs := [_, _, _, _, _]) Tryz.underlying33 rfl inf33.size X5)) (Xp rfl), ?_⟩
  refine ⟨⟨some r, rest, A2, c2, ⟨(if 9007199254740992 < m.told + 1 then 9007199254740992 else m.told + 1), false, r.nodes, rest, []⟩, A4, c4, rfl, ?_, ?_, fun h => absurd hyes h, fun _ => ⟨hnx, fun h => (by cases h), fun r' h => (by injection h with h; rw [h])⟩⟩, Hp.le_put_new (Hp.le_put_new leH4 (by first | omega | (simp; done) | (simp; omega)) _) (by first | omega | (simp; done) | (simp; omega)) _⟩
  ·exact (sl34.mono (Hp.sees_box _ g41)).mono (Hp.sees_box (cs := [.int .i64 0, .bool false, .slice none 0 0, .int .u64 0, .slice none 0 0]) _ (by rw [Hp.put_other _ _ (by first | omega | (simp; done) | (simp; omega))]; exact g42))
  ·exact (sl4.mono (Hp.sees_box _ g41)).mono (Hp.sees_box (cs := [.int .i64 0, .bool false, .slice none 0 0, .int .u64 0, .slice none 0 0]) _ (by rw [Hp.put_other _ _ (by first | omega | (simp; done) | (simp; omega))]; exact g42))
def oneF : Forest := apartF 1
def oneP : Parts := apartP 2 [2]
def oneT : TreeT := ⟨[⟨#[120]⟩], [-1], [[⟨0, 0, 0, 2⟩, ⟨1, 1, 1, 2⟩]]⟩
theorem good_one : GoodP oneF oneP := by
 refine ⟨⟨rfl, rfl, rfl, rfl, fun i hi => ?_⟩, rfl, rfl, fun v hv => ?_⟩
 ·have hi' : i < 1 := hi
  obtain rfl : i = 0 := by omega
  unfold OkF; decide
 ·have hv' : v < 1 := hv
  obtain rfl : v = 0 := by omega
  unfold OkP; rw [goodL_iff, goodL_iff]; unfold OkL; decide
theorem small_one : Small oneF oneP := ⟨by decide, by decide, by decide, by decide, by decide, by decide, by decide⟩
theorem cheap_one : Cheap oneP := by
 refine ⟨fun v => ?_, fun v => ?_⟩
 ·match v with
  | 0 => decide
  | v + 1 => intro x hx; cases hx
 ·match v with
  | 0 => decide
  | v + 1 => intro x hx; cases hx
theorem of_one : ofP oneF oneP = oneP := by
 refine ofP_fix good_one.gf good_one.lens good_one.nb (fun v hv hp => ?_) (fun h => ?_)
 ·have hv' : v < 1 := hv
  obtain rfl : v = 0 := by omega
  exact absurd rfl hp
 ·have : oneF.order.any (Vs oneF oneP) = false := by decide
  rw [this] at h; cases h
theorem tree_one : Z0 oneF (ofP oneF oneP) = oneT := by rw [of_one]; rfl
theorem goodT_one : GoodT oneT := by
 have h := ofP_all good_one
 have := good_tree (ofP_good good_one) (by rw [of_one]; exact small_one) (cheap_one.sub h.2.1) (by decide)
 rwa [tree_one] at this
theorem alive_one : Alive oneT := by have := alive_tree good_one; rwa [tree_one] at this
theorem first_one : (Vu oneT w0).2 = some ⟨[0], 0, 2⟩ := rfl
set_option maxHeartbeats 2000000 in
theorem lives36_ok (H : Hp) : ACalls Tryz.prog 15 #[] H (fun r H' => r = .bool true ∧ H.le H') := by
 refine Xu Tryz.func15 rfl rfl rfl (by simp) ?_
 refine Xc ?_
 refine Xs ?_
 refine Xa (Xi rfl) ?_
 refine Xc ?_
 refine Xs ?_
 refine Xv (Xy (Start_36 _) rfl Tryz.func41 rfl rfl rfl ?_)
 rintro v11 H0 ⟨rfl, le0⟩
 refine Xv (Xy (Put_start _) rfl Tryz.func42 rfl rfl rfl ?_)
 rintro v12 H1 ⟨rfl, le1⟩; have leH1 := Hp.le_trans le0 le1
 refine Xa (Zi rfl) ?_
 refine Xa (Yf rfl rfl) ?_
 refine Xa (Yf rfl rfl) ?_
 refine Xa (Yx rfl) ?_
 refine Xa (Xj rfl) ?_
 refine Xc ?_
 refine Xs ?_
 first | refine Xz (Yg (r := [.int .i64 _]) Tryz.underlying23 inf3.size inf3.zero rfl (by decide) (by decide) (by decide) rfl) ?_
 refine Xv (Xy (Apart_ok 2 [2] (.slice (some ⟨H1.size, 0, none⟩) 1 1) _ (sl_one1 (k := Yv .i64) Ya (by simp) rfl rfl) (by decide) (by decide)) rfl Tryz.func54 rfl rfl rfl ?_)
 rintro v17 H2 ⟨cs1, ds1, rfl, hf1, hp1, hle2⟩; have hf10 := hf1; have hp10 := hp1; obtain ⟨a0, a1, a2, a3, a4, rfl, hs0, hs1, hs2, hs3, hs4⟩ := hf1; obtain ⟨A0, c0, rfl⟩ := hs0.shape; obtain ⟨B1', c1', rfl⟩ := hs1.shape; obtain ⟨A2, c2, rfl⟩ := hs2.shape; obtain ⟨A3, c3, rfl⟩ := hs3.shape; obtain ⟨A4, c4, rfl⟩ := hs4.shape; obtain ⟨u0, u1, rfl, hn0, hn1⟩ := hp1; obtain ⟨B0, d0, rfl⟩ := hn0.shape; obtain ⟨B1, d1, rfl⟩ := hn1.shape; have hz2 := hle2.1; simp only [Hp.push_size] at hz2; have leH2 := Hp.le_trans leH1 (Hp.le_trans (H1.le_push _) hle2)
 refine Xa (Zi rfl) ?_
 refine Xa (Yf rfl rfl) ?_
 refine Xa (Yf rfl rfl) ?_
 refine Xz (Ys (l := [.slice none 0 0, .slice none 0 0, .slice none 0 0, .slice none 0 0, .slice none 0 0]) inf26.zero rfl (by decide)) ?_
 refine Xz (Ys (l := [.slice none 0 0, .slice none 0 0]) inf29.zero rfl (by decide)) ?_
 refine Xv (Ye (vs := [.slice _ _ _, .slice _ _ _, .slice _ _ _, .slice _ _ _, .slice _ _ _]) rfl rfl inf26.size Ya Yd rfl rfl ?_)
 refine Xv (Ye (vs := [.slice _ _ _, .slice _ _ _]) rfl rfl inf29.size Ya Yd rfl rfl ?_)
 refine Xc ?_
 refine Xs ?_
 refine Xa (Yj (cs := [.slice _ _ _, .slice _ _ _, .slice _ _ _, .slice _ _ _, .slice _ _ _]) rfl Tryz.underlying26 rfl inf26.size X5) ?_
 refine Xa (Yj (cs := [.slice _ _ _, .slice _ _ _]) rfl Tryz.underlying29 rfl inf29.size X5) ?_
 refine Xv (Xy (New_good oneF oneP _ _ _ (kForest.mono Zh hf10) (kParts.mono Zh hp10) small_one cheap_one good_one) rfl Tryz.func13 rfl rfl rfl ?_)
 rintro v23 H3 ⟨hle3, tb, rfl, htr⟩; rw [tree_one] at htr
 refine Xa (Zi rfl) ?_
 refine Xa (Yf rfl rfl) ?_
 refine Xa (Yf rfl rfl) ?_
 refine Xa (Zp rfl) ?_
 refine Xa (Xj rfl) ?_
 refine Xc ?_
 have leH3 : H.le H3 := Hp.le_trans leH2 (Hp.le_trans t_le hle3)
 clear hle3
 refine Xs ?_
 refine Xa (Xw rfl) ?_
 refine Xv (Xy (Start_36 _) rfl Tryz.func41 rfl rfl rfl ?_)
 rintro v28 H4 ⟨rfl, le4⟩
 refine Xv (Xy (Next_T goodT_one alive_one Ub _ _ (htr.mono le4) (V3 _) V4 (by decide)) rfl Tryz.func17 rfl rfl rfl ?_)
 rintro v29 H5 ⟨⟨o, rest, A5, k5, x, B5, k6, rfl, sl5, sx5, _, hnx⟩, le5⟩; obtain ⟨hn1, hn2, hn3⟩ := hnx ⟨start_good, .inl rfl⟩; have ho1 := (hn1.2.1 rfl rfl).1; rw [first_one] at ho1; subst ho1; have hx := hn3 _ rfl; subst hx; have leH5 := Hp.le_trans leH3 (Hp.le_trans le4 le5); have z5 := leH5.1
 refine Xa (Zi rfl) ?_
 refine Xa (Yf rfl rfl) ?_
 refine Xa (Yf rfl rfl) ?_
 refine Xa (Yf rfl rfl) ?_
 refine Xz (Ys (l := [.slice none 0 0, .int .i64 0, .int .u64 0]) inf46.zero rfl (by decide)) ?_
 refine Xz (Ys (l := [.int .i64 0, .bool false, .slice none 0 0, .int .u64 0, .slice none 0 0]) inf33.zero rfl (by decide)) ?_
 refine Xv (Ye (vs := [.slice _ _ _, .int .i64 _, .int .u64 _]) rfl rfl inf46.size Ya Yd rfl rfl ?_)
 refine Xv (Ye (vs := [.int .i64 _, .bool _, .slice _ _ _, .int .u64 _, .slice _ _ _]) rfl rfl inf33.size Ya Yd rfl rfl ?_)
 refine Xa (Xi rfl) ?_
 refine Xc ?_
 refine Xs ?_
 refine Xa (Xb rfl) ?_
 refine Xa (Zs rfl rfl) ?_
 refine Xa (Xq rfl) ?_
 refine Yb rfl rfl rfl ?_ ?_
 intro hg1
 have hp1 := hg1; try simp only [Y5] at hp1
 refine Xk (Xh rfl rfl rfl hg1) (Zo rfl) ?_
 refine Xk (Xh rfl rfl rfl hg1) (av_str_eql rfl rfl) ?_
 refine Xa (Xm (Yu hg1) rfl) ?_
 refine Xa (Xq rfl) ?_
 refine Yb rfl rfl rfl ?_ ?_
 intro hg2
 have hp2 := hg2; try simp only [Y5] at hp2
 refine Xk (Xh rfl rfl rfl hg2) (Xb rfl) ?_
 refine Xk (Xh rfl rfl rfl hg2) (Zs rfl rfl) ?_
 refine Xa (Xm (Yu hg2) rfl) ?_
 refine Xa (Xq rfl) ?_
 refine Yb rfl rfl rfl ?_ ?_
 intro hg3
 have hp3 := hg3; try simp only [Y5] at hp3
 refine Xk (Xh rfl rfl rfl hg3) (Xq rfl) ?_
 refine Xa (Xm (Yu hg3) rfl) ?_
 refine Xa (Xq rfl) ?_
 refine Yb rfl rfl rfl ?_ ?_
 intro hg4
 have hp4 := hg4; try simp only [Y5] at hp4
 refine Xk (Xh rfl rfl rfl hg4) (Xf (off := 2) rfl Tryz.underlying46 rfl inf30.size (by decide) rfl) ?_
 refine Xk (Xh rfl rfl rfl hg4) (Xl rfl Tryz.underlying30 rfl Xo) ?_
 refine Xk (Xh rfl rfl rfl hg4) (Zs rfl rfl) ?_
 refine Xa (Xm (Yu hg4) rfl) ?_
 refine Xa (Xq rfl) ?_
 refine Yb rfl rfl rfl ?_ ?_
 intro hg5
 have hp5 := hg5; try simp only [Y5] at hp5
 refine Xk (Xh rfl rfl rfl hg5) (Xf (off := 0) rfl Tryz.underlying33 rfl inf3.size (by decide) rfl) ?_
 refine Xk (Xh rfl rfl rfl hg5) (Xl rfl Tryz.underlying3 rfl Xo) ?_
 refine Xk (Xh rfl rfl rfl hg5) (Zs rfl rfl) ?_
 refine Xa (Xm (Yu hg5) rfl) ?_
 refine Xa (Xq rfl) ?_
 refine Yb rfl rfl rfl ?_ ?_
 intro hg6
 have hp6 := hg6; try simp only [Y5] at hp6
 refine Xk (Xh rfl rfl rfl hg6) (Xf (off := 2) rfl Tryz.underlying33 rfl inf23.size (by decide) rfl) ?_
 refine Xk (Xh rfl rfl rfl hg6) (Xl rfl Tryz.underlying23 rfl Xo) ?_
 refine Xk (Xh rfl rfl rfl hg6) (Yo rfl Tryz.underlying23) ?_
 refine Xk (Xh rfl rfl rfl hg6) (Zs rfl rfl) ?_
 refine Xa (Xm (Yu hg6) rfl) ?_
 refine Xa (Xi rfl) ?_
 refine X2 ?_
 ·exact ⟨.bool true, X0 (Xp rfl), rfl, Hp.le_put_new (Hp.le_put_new (Hp.le_push' (Hp.le_push' leH5 _) _) (by first | omega | (simp; done) | (simp; omega)) _) (by first | omega | (simp; done) | (simp; omega)) _⟩
 intro hg6
 exact absurd rfl (of_decide_eq_false hg6)
 intro hg5
 exact absurd rfl (of_decide_eq_false hg5)
 intro hg4
 exact absurd hg4 (by decide)
 intro hg3
 exact absurd hg3 (by decide)
 intro hg2
 exact absurd hg2 (by decide)
 intro hg1
 exact absurd hg1 (by decide)
end Go.Proofs.YtmakkmcjocjgmaaGreat.Am
