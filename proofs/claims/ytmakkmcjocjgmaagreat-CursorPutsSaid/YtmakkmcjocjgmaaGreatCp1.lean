/- Texts that the proof rests on, part 1: lemmas for every heap that is related to a world, no condition beyond each lemma's own. -/
import Derived.Test.YtmakkmcjocjgmaaGreatCpTy
import Derived.Test.YtmakkmcjocjgmaaGreatCpBits
import Derived.Test.YtmakkmcjocjgmaaGreatCpShelfLay
import Derived.Test.YtmakkmcjocjgmaaGreatCpOwn
import Derived.Test.YtmakkmcjocjgmaaGreatCpStructEq
import Derived.Test.YtmakkmcjocjgmaaGreatCpSortInt
import Derived.Test.YtmakkmcjocjgmaaGreatCpBack
namespace Go.Proofs.YtmakkmcjocjgmaaGreat.Am
open Go Go.RowKit
set_option linter.unusedVariables false
set_option linter.unusedSimpArgs false
set_option maxRecDepth 100000
theorem Mul64_u64 (x y : Nat) (hx : x < 18446744073709551616) (hy : y < 18446744073709551616) (H : Hp) :
  ACalls Tryz.prog 112 #[.int .u64 x, .int .u64 y] H (fun r H' => r = .tuple #[.int .u64 ((x * y / 18446744073709551616 : Nat) : Int), .int .u64 ((x * y % 18446744073709551616 : Nat) : Int)] ∧ H' = H) :=
 mul64_real mul64Lay x y hx hy H
theorem times_high {m n : Nat} (hm : m ≤ 4611686018427387904) (hn : n ≤ 4611686018427387904) (h : m * n / 18446744073709551616 ≠ 0) : min ((m : Int) * n) Uc = Uc := by
 have : 18446744073709551616 ≤ m * n := by
  rcases Nat.lt_or_ge (m * n) 18446744073709551616 with h1 | h1
  ·exact absurd (Nat.div_eq_of_lt h1) h
  ·exact h1
 have h2 : ((m * n : Nat) : Int) = (m : Int) * n := by simp
 unfold Uc
 omega
theorem min_if (a M : Int) : (if M < a then M else a) = min a M := by rw [Int.min_def]; split <;> split <;> omega
theorem Times_u64 (a b : Int) (ha : 0 ≤ a) (hb : 0 ≤ b) (H : Hp) : ACalls Tryz.prog 84 #[.int .u64 a, .int .u64 b] H (fun r H' => r = .int .u64 (Zy a b) ∧ H' = H) := by
 obtain ⟨m, hm⟩ : ∃ m : Nat, (m : Int) = (if (4611686018427387904 : Int) < a then 4611686018427387904 else a) := ⟨(if (4611686018427387904 : Int) < a then 4611686018427387904 else a).toNat, by split <;> omega⟩
 obtain ⟨n, hn⟩ : ∃ n : Nat, (n : Int) = (if (4611686018427387904 : Int) < b then 4611686018427387904 else b) := ⟨(if (4611686018427387904 : Int) < b then 4611686018427387904 else b).toNat, by split <;> omega⟩
 have hm1 : m ≤ 4611686018427387904 := by split at hm <;> omega
 have hn1 : n ≤ 4611686018427387904 := by split at hn <;> omega
 have em : min a Uc = m := by unfold Uc; split at hm <;> omega
 have en : min b Uc = n := by unfold Uc; split at hn <;> omega
 refine Xu Tryz.func84 rfl rfl rfl (by simp) ?_
 refine Xc ?_
 refine Xs ?_
 refine Xa (Xj rfl) ?_
 refine Xc ?_
 refine Xs ?_
 refine Xa (Xb rfl) ?_
 refine Xa (av_min2 rfl rfl) ?_
 refine Xa (Xb rfl) ?_
 refine Xa (av_min2 rfl rfl) ?_
 rw [← hm, ← hn]
 refine Xv (Xy (Mul64_u64 m n (by omega) (by omega) H) rfl Tryz.func112 rfl rfl rfl ?_)
 rintro v H ⟨rfl, rfl⟩
 refine Xa (Zi rfl) ?_
 refine Xa (Yf rfl rfl) ?_
 refine Xa (Yf rfl rfl) ?_
 refine Xa (Xj rfl) ?_
 refine Xa (Xj rfl) ?_
 refine Xc ?_
 refine Xc ?_
 refine Xs ?_
 refine Xa (Xb rfl) ?_
 refine Xa (Vb rfl rfl) ?_
 refine X4 rfl rfl ?_ ?_
 intro hc1
 (try simp only [Y5] at hc1)
 refine Xc ?_
 refine Xs ?_
 refine Xa (Xj rfl) ?_
 refine X2 ?_
 refine ⟨.int .u64 4611686018427387904, X0 (Xp rfl), ?_, rfl⟩
 rw [Zy, em, en, times_high hm1 hn1 (fun e => hc1 (by rw [e]; rfl))]; rfl
 intro hc1
 (try simp only [Y5] at hc1)
 refine X9 ?_
 refine Xc ?_
 refine Xs ?_
 refine Xa (Xb rfl) ?_
 refine Xa (av_min2 rfl rfl) ?_
 refine Xa (Xj rfl) ?_
 refine X2 ?_
 refine ⟨_, X0 (Xp rfl), ?_, rfl⟩
 have h00 : m * n / 18446744073709551616 = 0 := by
  have h3 : ¬ ¬ ((m * n / 18446744073709551616 : Nat) : Int) = 0 := hc1
  have h4 := Decidable.not_not.1 h3
  exact Int.ofNat.inj h4
 have h0 : m * n < 18446744073709551616 := by omega
 rw [Zy, em, en, Nat.mod_eq_of_lt h0]
 show Value.int .u64 (if _ then _ else _) = _
 rw [min_if, show ((m * n : Nat) : Int) = (m : Int) * n by simp]
 rfl
theorem Zb {α : Type} {xs : List α} {i : Nat} (h : i < xs.length) : xs.take i ++ [xs[i]] = xs.take (i + 1) := (List.take_succ_eq_append_getElem h).symm
theorem Few_ints (xs : List Int) (v : Value) (m : Int) (H : Hp) (hs : Sl (Yv .i64) H v xs) (hl : xs.length ≤ 9223372036854775807) (h0 : 0 ≤ m) (h1 : m ≤ 1000000) :
  ACalls Tryz.prog 25 #[v, .int .i64 m] H (fun r H' => H.le H' ∧ Sl (Yv .i64) H' r (xs.take m.toNat)) := by
 obtain ⟨A, c, rfl⟩ := hs.shape
 refine Xu Tryz.func25 rfl rfl rfl (by simp) ?_
 refine Xc ?_
 refine Xs ?_
 refine Xa (X8 rfl) ?_
 refine Xc ?_
 refine Xs ?_
 first | refine Xz (Yg (r := []) Tryz.underlying23 inf3.size inf3.zero rfl (by decide) (by decide) (by decide) rfl) ?_
 refine Xa (X8 rfl) ?_
 refine Xc ?_
 refine Xc ?_
 refine Xs ?_
 refine Xa (Xj rfl) ?_
 refine Yh ?_
 refine Y6 (fun n t H' => ∃ (i : Nat) (G : Hp) (B : Option Addr) (c5 : Nat), i ≤ xs.length ∧ (i : Int) ≤ m ∧ n = xs.length - i ∧ H.le G ∧ OwnP (Yv .i64) G H' (.slice B i c5) (xs.take i) ∧ t 0 = .slice A xs.length c ∧ t 1 = .int .i64 m ∧ t 5 = .slice B i c5 ∧ t 6 = .int .i64 i) (_) (⟨0, H.push .dead, _, _, by omega, h0, rfl, H.le_push _, OwnP.lit (Yv .i64) H, rfl, rfl, rfl, rfl⟩) ?_
 rintro n t H1 ⟨i, G, B, c5, hi, him, rfl, hle, hown, e0, e1, e5, e6⟩
 refine Xc ?_
 refine Xc ?_
 refine Xs ?_
 refine Xa (Xb e6) ?_
 refine Xa (X1 e0) ?_
 refine Xa (Yo rfl Tryz.underlying23) ?_
 refine Xa (Zf rfl rfl) ?_
 refine Xa (Xq rfl) ?_
 refine Yb rfl rfl rfl ?_ ?_
 intro hg1
 have hp1 := hg1; try simp only [Y5] at hp1
 refine Xk (Xh rfl rfl rfl hg1) (Xb e6) ?_
 refine Xk (Xh rfl rfl rfl hg1) (Xb e1) ?_
 refine Xk (Xh rfl rfl rfl hg1) (Zf rfl rfl) ?_
 refine Xa (Xm (Yu hg1) rfl) ?_
 refine X4 rfl rfl ?_ ?_
 intro hc2
 (try simp only [Y5] at hc2)
 refine X9 ?_
 refine Xc ?_
 refine Yh ?_
 refine Xs ?_
 refine Xa (X1 e5) ?_
 refine Xa (X1 e0) ?_
 refine Xa (Xb e6) ?_
 obtain ⟨b, o, rfl, hb, hcell⟩ := (hs.mono (hle.sees.trans hown.le.sees)).int_at (i := (i : Int)) (by omega) (by omega)
 refine Xa (Xx rfl rfl Tryz.underlying23 inf3.size Yc Yc) ?_
 refine Xa (Xl rfl Tryz.underlying3 rfl Xo) ?_
 first | refine Xz (Yg (r := [.int .i64 _]) Tryz.underlying23 inf3.size inf3.zero rfl (by decide) (by decide) (by decide) rfl) ?_
 have hlen : (xs.take i).length = i := by rw [List.length_take]; omega
 refine Xv (OwnP.append (ys := [xs.getD (i : Int).toNat 0]) (hown.push _) Tryz.underlying23 inf3 rfl rfl rfl (by rw [hown.size]; exact sl_int1) (by simp; omega) (by simp; omega) ?_)
 rintro v5 G' H2 hle' hown'
 obtain ⟨B', c', rfl⟩ := hown'.shape
 refine Xa (X8 rfl) ?_
 refine Xs ?_
 refine Xa (Xb e6) ?_
 refine Xa (Yq rfl rfl Y2) ?_
 refine Xa (Xj rfl) ?_
 rw [Int.toNat_natCast, Za (show i < xs.length by omega), Zb (by omega)] at hown'
 have hlen2 : (xs.take (i + 1)).length = i + 1 := by rw [List.length_take]; omega
 rw [hlen2] at hown'
 refine ⟨xs.length - (i + 1), by omega, i + 1, G', B', c', by omega, by omega, rfl, Hp.le_trans (Hp.le_push' hle _) hle', hown', e0, e1, ?_, ?_⟩
 ·show Value.slice B' _ c' = _
  congr 1
  simp; omega
 ·rfl
 intro hc2
 (try simp only [Y5] at hc2)
 refine Y3 ?_
 refine Xc ?_
 refine Xs ?_
 refine Xa (X1 e5) ?_
 refine Xa (X8 rfl) ?_
 refine X2 ?_
 refine ⟨.slice B i c5, X0 (Xp rfl), Hp.le_trans hle hown.le, ?_⟩
 have : xs.take m.toNat = xs.take i := by
  rcases Nat.lt_or_ge i xs.length with h | h
  ·have : ¬ (i : Int) < m := by simp_all
   rw [show m.toNat = i by omega]
  ·rw [List.take_of_length_le (by omega), List.take_of_length_le (by omega)]
 rw [this]; exact hown.sl
 intro hg1
 have hp1 := hg1; try simp only [Y5] at hp1
 refine Xd (Xg rfl rfl rfl hg1 rfl) ?_
 refine Xd (Xg rfl rfl rfl hg1 rfl) ?_
 refine Xd (Xg rfl rfl rfl hg1 rfl) ?_
 refine Xa (Xm (Yu hg1) Xn) ?_
 refine Zg rfl rfl ?_
 refine Y3 ?_
 refine Xc ?_
 refine Xs ?_
 refine Xa (X1 e5) ?_
 refine Xa (X8 rfl) ?_
 refine X2 ?_
 refine ⟨.slice B i c5, X0 (Xp rfl), Hp.le_trans hle hown.le, ?_⟩
 have : xs.take m.toNat = xs.take i := by
  rcases Nat.lt_or_ge i xs.length with h | h
  ·have : ¬ (i : Int) < m := by simp_all
   rw [show m.toNat = i by omega]
  ·rw [List.take_of_length_le (by omega), List.take_of_length_le (by omega)]
 rw [this]; exact hown.sl
theorem Clone_own (xs : List Int) (v : Value) (H : Hp) (hs : Sl (Yv .i64) H v xs) (hl : xs.length ≤ 1000000000) :
  ACalls Tryz.prog 60 #[v] H (fun r H' => ∃ G', H.le G' ∧ OwnP (Yv .i64) G' H' r xs) := by
 rcases hs with ⟨rfl, rfl⟩ | ⟨b, o, c, rfl, hb, hk, hx⟩
 ·skip
  refine Xu Tryz.func60 rfl rfl rfl (by simp) ?_
  refine Xc ?_
  refine Xs ?_
  refine Xa (X8 rfl) ?_
  refine Xc ?_
  refine Xc ?_
  refine Xs ?_
  refine Xa (X1 rfl) ?_
  refine Xa (av_sl_eq_nil rfl rfl Tryz.underlying23) ?_
  refine Yw (rfl) rfl ?_
  refine Xc ?_
  refine Xs ?_
  refine Xa (X8 rfl) ?_
  refine X2 ?_
  exact ⟨.slice none 0 0, X0 (Xp rfl), H, Hp.le_refl _, OwnP.nil _ _⟩
 ·have hs : Sl (Yv .i64) H (.slice (some ⟨b, o, none⟩) xs.length c) xs := .inr ⟨b, o, c, rfl, hb, hk, hx⟩
  skip
  refine Xu Tryz.func60 rfl rfl rfl (by simp) ?_
  refine Xc ?_
  refine Xs ?_
  refine Xa (X8 rfl) ?_
  refine Xc ?_
  refine Xc ?_
  refine Xs ?_
  refine Xa (X1 rfl) ?_
  refine Xa (av_sl_eq_nil rfl rfl Tryz.underlying23) ?_
  refine Zg (rfl) rfl ?_
  refine X9 ?_
  refine Xc ?_
  refine Xs ?_
  first | refine Xz (Yg (r := []) Tryz.underlying23 inf3.size inf3.zero rfl (by decide) (by decide) (by decide) rfl) ?_
  refine Xa (X1 rfl) ?_
  refine Xv (OwnP.append (ys := xs) (OwnP.lit (Yv .i64) H) Tryz.underlying23 inf3 rfl rfl rfl (hs.mono (H.le_push _).sees) (by simp; omega) (by simp; omega) ?_)
  rintro v5 G' H2 hle' hown'
  rw [List.nil_append] at hown'
  obtain ⟨B', c', rfl⟩ := hown'.shape
  refine Xa (X8 rfl) ?_
  refine X2 ?_
  exact ⟨.slice B' xs.length c', X0 (Xp rfl), G', Hp.le_trans (H.le_push _) hle', hown'⟩
theorem Clone_ints (xs : List Int) (v : Value) (H : Hp) (hs : Sl (Yv .i64) H v xs) (hl : xs.length ≤ 1000000000) :
  ACalls Tryz.prog 60 #[v] H (fun r H' => H.le H' ∧ Sl (Yv .i64) H' r xs) :=
 (Clone_own xs v H hs hl).mono fun r H' ⟨G, hle, hown⟩ => ⟨Hp.le_trans hle hown.le, hown.sl⟩
end Go.Proofs.YtmakkmcjocjgmaaGreat.Am
namespace Go.Proofs.YtmakkmcjocjgmaaGreat.Am
open Go Go.RowKit
set_option maxRecDepth 100000
set_option linter.unusedVariables false
set_option linter.unusedSimpArgs false

structure Link where
 a : Int
 b : Int
 cost : Int
 n : Int
theorem Link.ext' {x y : Link} (h1 : x.a = y.a) (h2 : x.b = y.b) (h3 : x.cost = y.cost) (h4 : x.n = y.n) : x = y := by
 cases x; cases y; simp only at h1 h2 h3 h4; subst h1 h2 h3 h4; rfl
instance : DecidableEq Link := fun x y => decidable_of_iff (x.a = y.a ∧ x.b = y.b ∧ x.cost = y.cost ∧ x.n = y.n) ⟨fun ⟨h1, h2, h3, h4⟩ => Link.ext' h1 h2 h3 h4, fun h => by rw [h]; exact ⟨rfl, rfl, rfl, rfl⟩⟩
def Link.cells (x : Link) : List Value := [.int .i64 x.a, .int .i64 x.b, .int .i64 x.cost, .int .u64 x.n]
def kLink : Kd Link where
 sz := 4
 pos := by decide
 rep _ x cs := cs = [.int .i64 x.a, .int .i64 x.b, .int .i64 x.cost, .int .u64 x.n]
 len h := by rw [h]; rfl
 mono _ h := h
 one h v hv := by rw [h] at hv; simp at hv; rcases hv with rfl | rfl | rfl | rfl <;> rfl
theorem Sl.link_at {H : Hp} {A : Option Addr} {n c : Nat} {xs : List Link} (h : Sl kLink H (.slice A n c) xs) {i : Nat} (hi : i < xs.length) :
  ∃ b o, A = some ⟨b, o, none⟩ ∧ b < H.size ∧ Cells H b (o + i * 4) [.int .i64 xs[i].a, .int .i64 xs[i].b, .int .i64 xs[i].cost, .int .u64 xs[i].n] := by
 obtain ⟨b, o, cs, e, hb, hr, hc⟩ := h.elem_at hi
 have : cs = [.int .i64 xs[i].a, .int .i64 xs[i].b, .int .i64 xs[i].cost, .int .u64 xs[i].n] := hr
 subst this
 exact ⟨b, o, e, hb, hc⟩
section
variable {t : Fr} {H : Hp} {d : Option Tmp} {ty : TypeId} {pos : String} {after : Array Edge} {guard : Option (Nat × Bool)} {x y : Operand} {yt : TypeId} {p q : Link}
end
def lessL (x y : Link) : Bool := decide (x.a < y.a) || (decide (x.a = y.a) && decide (x.b < y.b))
end Go.Proofs.YtmakkmcjocjgmaaGreat.Am
namespace Go.Proofs.YtmakkmcjocjgmaaGreat.Am
open Go Go.RowKit
set_option linter.unusedVariables false
set_option linter.unusedSimpArgs false
set_option maxRecDepth 100000
def Link.few (x : Link) : Link := if 1000000000 < x.cost then ⟨x.a, x.b, 1000000000, x.n⟩ else x
def fewL (xs : List Link) : List Link := (xs.take 25).map Link.few
def OkL (x : Link) : Prop := 0 ≤ x.a ∧ x.a ≤ 9999 ∧ 0 ≤ x.b ∧ x.b ≤ 9999 ∧ 0 ≤ x.cost ∧ 1 ≤ x.n ∧ x.n ≤ 4611686018427387904
def GoodL (xs : List Link) : Prop := ∀ (i : Nat) (h : i < xs.length), OkL xs[i] ∧ (0 < i → lessL (xs[i - 1]'(by omega)) xs[i] = true)
structure Forest where
 vars : List ByteArray
 order : List Int
 parent : List Int
 links : List (List Int)
 loops : List (List Int)
def kForest : Kd Forest where
 sz := 5
 pos := by decide
 rep H f cs := ∃ v0 v1 v2 v3 v4, cs = [v0, v1, v2, v3, v4] ∧ Sl kStr H v0 f.vars ∧ Sl (Yv .i64) H v1 f.order ∧ Sl (Yv .i64) H v2 f.parent ∧ Sl (kSl (Yv .i64)) H v3 f.links ∧ Sl (kSl (Yv .i64)) H v4 f.loops
 len h := by obtain ⟨_, _, _, _, _, rfl, _⟩ := h; rfl
 mono he h := by obtain ⟨v0, v1, v2, v3, v4, rfl, h0, h1, h2, h3, h4⟩ := h; exact ⟨v0, v1, v2, v3, v4, rfl, h0.mono he, h1.mono he, h2.mono he, h3.mono he, h4.mono he⟩
 one h u hu := by
  obtain ⟨v0, v1, v2, v3, v4, rfl, h0, h1, h2, h3, h4⟩ := h
  obtain ⟨_, _, rfl⟩ := h0.shape
  obtain ⟨_, _, rfl⟩ := h1.shape
  obtain ⟨_, _, rfl⟩ := h2.shape
  obtain ⟨_, _, rfl⟩ := h3.shape
  obtain ⟨_, _, rfl⟩ := h4.shape
  simp at hu
  rcases hu with rfl | rfl | rfl | rfl | rfl <;> rfl
structure Parts where
 nodes : List (List Link)
 links : List (List Link)
def kParts : Kd Parts where
 sz := 2
 pos := by decide
 rep H p cs := ∃ v0 v1, cs = [v0, v1] ∧ Sl (kSl kLink) H v0 p.nodes ∧ Sl (kSl kLink) H v1 p.links
 len h := by obtain ⟨_, _, rfl, _⟩ := h; rfl
 mono he h := by obtain ⟨v0, v1, rfl, h0, h1⟩ := h; exact ⟨v0, v1, rfl, h0.mono he, h1.mono he⟩
 one h u hu := by
  obtain ⟨v0, v1, rfl, h0, h1⟩ := h
  obtain ⟨_, _, rfl⟩ := h0.shape
  obtain ⟨_, _, rfl⟩ := h1.shape
  simp at hu
  rcases hu with rfl | rfl <;> rfl
def cutS (s : ByteArray) (m : Nat) : ByteArray := if m < s.size then s.extract 0 m else s
def Forest.few (f : Forest) : Forest := ⟨(f.vars.take 8).map (cutS · 32), f.order.take 8, f.parent.take 8, (f.links.take 8).map (·.take 4), (f.loops.take 8).map (·.take 4)⟩
theorem pack_u64 {x y : Int} (h0 : 0 ≤ x) (h1 : x < 4294967296) (h2 : 0 ≤ y) (h3 : y < 4294967296) :
  IntKind.u64.wrap (BitVec.ofInt IntKind.u64.bits (IntKind.u64.wrap (x * 2 ^ min (32 : Int).toNat IntKind.u64.bits)) ||| BitVec.ofInt IntKind.u64.bits y).toNat = x * 4294967296 + y := by
 obtain ⟨m, rfl⟩ : ∃ m : Nat, x = m := ⟨x.toNat, by omega⟩
 obtain ⟨k, rfl⟩ : ∃ k : Nat, y = k := ⟨y.toNat, by omega⟩
 have e1 : IntKind.u64.wrap ((m : Int) * 2 ^ min (32 : Int).toNat IntKind.u64.bits) = ((m * 4294967296 : Nat) : Int) := by
  show IntKind.u64.wrap ((m : Int) * 4294967296) = _
  simp [IntKind.wrap, IntKind.bits, IntKind.signed]; omega
 rw [e1]
 have e2 : (BitVec.ofInt IntKind.u64.bits ((m * 4294967296 : Nat) : Int) ||| BitVec.ofInt IntKind.u64.bits (k : Int)).toNat = m * 4294967296 + k := by
  rw [BitVec.toNat_or]
  have a1 : (BitVec.ofInt IntKind.u64.bits ((m * 4294967296 : Nat) : Int)).toNat = m * 4294967296 := by
   show (BitVec.ofInt 64 _).toNat = _
   simp [BitVec.toNat_ofInt]; omega
  have a2 : (BitVec.ofInt IntKind.u64.bits (k : Int)).toNat = k := by
   show (BitVec.ofInt 64 _).toNat = _
   simp [BitVec.toNat_ofInt]; omega
  rw [a1, a2, Nat.mul_comm m, show 4294967296 = 2 ^ 32 from rfl, ← Nat.two_pow_add_eq_or_of_lt (by omega)]
 rw [e2]
 simp [IntKind.wrap, IntKind.bits, IntKind.signed]; omega
def keyI (x : Link) : Int := x.a * 4294967296 + x.b
theorem conv_u32 {a : Int} (h0 : 0 ≤ a) (h1 : a < 4294967296) : IntKind.u32.wrap a = a := by simp [IntKind.wrap, IntKind.bits, IntKind.signed]; omega
theorem conv_u64 {a : Int} (h0 : 0 ≤ a) (h1 : a < 18446744073709551616) : IntKind.u64.wrap a = a := by simp [IntKind.wrap, IntKind.bits, IntKind.signed]; omega
theorem Pack_u32 (a b : Int) (ha : 0 ≤ a) (ha1 : a < 4294967296) (hb : 0 ≤ b) (hb1 : b < 4294967296) (H : Hp) : ACalls Tryz.prog 140 #[.int .u32 a, .int .u32 b] H (fun r H' => r = .int .u64 (a * 4294967296 + b) ∧ H' = H) := by
 refine Xu Tryz.func140 rfl rfl rfl (by simp) ?_
 refine Xc ?_
 refine Xs ?_
 refine Xa (Xj rfl) ?_
 refine Xc ?_
 refine Xs ?_
 refine Xa (Xb rfl) ?_
 refine Xa (av_conv rfl (by rw [Tryz.underlying184]; rfl) Tryz.underlying30) ?_
 refine Xa (av_shl rfl rfl (by omega)) ?_
 refine Xa (Xb rfl) ?_
 refine Xa (av_conv rfl (by rw [Tryz.underlying184]; rfl) Tryz.underlying30) ?_
 refine Xa (av_or rfl rfl) ?_
 refine Xa (Xj rfl) ?_
 refine X2 ?_
 refine ⟨.int .u64 (a * 4294967296 + b), X0 (Xp ?_), rfl, rfl⟩
 show Value.int .u64 _ = _
 rw [← pack_u64 ha ha1 hb hb1]
 first | rfl | rw [conv_u64 ha (by omega), conv_u64 hb (by omega)]
theorem key_link (x : Link) (H : Hp) (ha : 0 ≤ x.a) (ha1 : x.a ≤ 9999) (hb : 0 ≤ x.b) (hb1 : x.b ≤ 9999) : ACalls Tryz.prog 130 #[.agg #[.int .i64 x.a, .int .i64 x.b, .int .i64 x.cost, .int .u64 x.n]] H (fun r H' => r = .int .u64 (keyI x) ∧ H' = H) := by
 refine ACalls.pure (R := fun r => r = .int .u64 (keyI x)) (fun v h => by rw [h]; rfl) ?_
 refine Xu Tryz.func130 rfl rfl rfl (by simp) ?_
 refine Xc ?_
 refine Xs ?_
 refine Xz (Yp rfl) ?_
 refine Xa (Xj rfl) ?_
 refine Xc ?_
 refine Xs ?_
 refine Xa (Xf (off := 0) rfl Tryz.underlying96 rfl inf3.size (by decide) rfl) ?_
 refine Xa (Xl rfl Tryz.underlying3 rfl Xo) ?_
 refine Xa (av_conv rfl (by rw [Tryz.underlying3]; rfl) Tryz.underlying184) ?_
 refine Xa (Xf (off := 1) rfl Tryz.underlying96 rfl inf3.size (by decide) rfl) ?_
 refine Xa (Xl rfl Tryz.underlying3 rfl Xo) ?_
 refine Xa (av_conv rfl (by rw [Tryz.underlying3]; rfl) Tryz.underlying184) ?_
 rw [conv_u32 ha (by omega), conv_u32 hb (by omega)]
 refine Xv (Xy (Pack_u32 _ _ (by omega) (by omega) (by omega) (by omega) _) rfl Tryz.func140 rfl rfl rfl ?_)
 rintro v H ⟨rfl, rfl⟩
 refine Xa (Xj rfl) ?_
 refine X2 ?_
 exact ⟨_, X0 (Xp rfl), rfl⟩
theorem OwnP.box_put {α : Type} {k : Kd α} {G H : Hp} {v : Value} {xs : List α} (h : OwnP k G H v xs) {b1 : Nat} {cs : List Value} (hg : G.get b1 = .own 0 cs) (cs' : List Value) : OwnP k (G.put b1 (.own 0 cs')) (H.put b1 (.own 0 cs')) v xs :=
 h.put (by rw [hg]; intro e; cases e) _ (Hp.sees_box _ hg)
def Hp.les (H H' : Hp) : Prop := H.size ≤ H'.size ∧ ∀ b, b < H.size → H.get b ≠ .dead → (∀ cs, H.get b ≠ .own 0 cs) → H'.get b = H.get b
theorem Hp.le.les {H H' : Hp} (h : H.le H') : H.les H' := ⟨h.1, fun b hb hd _ => h.2 b hb hd⟩
theorem Hp.les.trans {H H1 H2 : Hp} (h : H.les H1) (k : H1.les H2) : H.les H2 :=
 ⟨Nat.le_trans h.1 k.1, fun b hb hd hn => by
  have e := h.2 b hb hd hn
  rw [k.2 b (Nat.lt_of_lt_of_le hb h.1) (by rw [e]; exact hd) (fun cs => by rw [e]; exact hn cs), e]⟩
theorem Hp.les.box {H H1 : Hp} (h : H.les H1) {b : Nat} {cs : List Value} (hb : H1.get b = .own 0 cs) (x : Blk) : H.les (H1.put b x) :=
 ⟨h.1, fun c hc hd hn => by
  have e := h.2 c hc hd hn
  have : c ≠ b := fun e2 => by subst e2; rw [hb] at e; exact hn cs e.symm
  rw [Hp.put_other _ _ this, e]⟩
theorem Hp.les.push {H H1 : Hp} (h : H.les H1) (x : Blk) : H.les (H1.push x) := h.trans (H1.le_push x).les
theorem Hp.les.sees {H H' : Hp} (h : H.les H') : H.sees H' where
 size := h.1
 cell b o v sz hb hz hk hc := by
  unfold Hp.cell? at *
  rw [h.2 b hb (Blk.cut_ne hk) (fun cs e => by rw [e] at hk; exact hz hk.symm)]
  exact hc
 cut b sz hb hz hk := by rw [h.2 b hb (Blk.cut_ne hk) (fun cs e => by rw [e] at hk; exact hz hk.symm)]; exact hk
theorem Sl.links_put {G : Hp} {v : Value} {xs : List Link} (h : Sl kLink G v xs) {b1 : Nat} {cs : List Value} (hb : G.get b1 = .own 1 cs) (x : Blk) : Sl kLink (G.put b1 x) v xs := by
 rcases h with h | ⟨b, o, c, e, h1, h2, h3⟩
 ·exact .inl h
 ·have hne : b ≠ b1 := fun e => by subst e; rw [hb] at h2; cases h2
  refine .inr ⟨b, o, c, e, h1, by rw [Hp.put_other _ _ hne]; exact h2, fun i y hy => ?_⟩
  obtain ⟨d, r, hc⟩ := h3 i y hy
  exact ⟨d, r, fun j u hj => by have := hc j u hj; rw [cell_put_old hne]; exact this⟩
theorem Els.lists_put {G : Hp} {xs : List (List Link)} {ds : List Value} (h : Els (kSl kLink) G xs ds) {b1 : Nat} {cs : List Value} (hb : G.get b1 = .own 1 cs) (x : Blk) : Els (kSl kLink) (G.put b1 x) xs ds :=
 ⟨h.1, fun i y hy => by
  obtain ⟨c, ⟨v, e, hs⟩, h2⟩ := h.2 i y hy
  exact ⟨c, ⟨v, e, hs.links_put hb x⟩, h2⟩⟩
theorem OwnP.other {G Gm Gm' H : Hp} {vn vl : Value} {ns ls : List (List Link)} (h1 : OwnP (kSl kLink) G Gm vn ns) (h2 : OwnP (kSl kLink) Gm' H vl ls) (hle : Gm.les Gm') : ∃ G', (∀ H0 : Hp, H0.le G → H0.le H → H0.le G') ∧ OwnP (kSl kLink) G' H vn ns ∧ Sl (kSl kLink) G' vl ls := by
  rcases h1 with ⟨rfl, rfl, rfl⟩ | ⟨b, cs, c, rfl, hb, hd, rfl, hcap, he⟩
  · exact ⟨H, fun H0 _ h => h, .inl ⟨rfl, rfl, rfl⟩, h2.sl⟩
  · have hgm : Gm'.get b = .own 1 cs := by
      rw [hle.2 b (by simpa using hb) (by rw [Hp.put_same]; intro e; cases e) (fun cs => by rw [Hp.put_same]; intro e; cases e), Hp.put_same]; rfl
    have hbs : b < Gm'.size := Nat.lt_of_lt_of_le hb hle.1
    have hgH : H.get b = .own 1 cs := by rw [h2.le.2 b hbs (by rw [hgm]; intro e; cases e), hgm]
    have hG : G.les (H.put b .dead) := ⟨by have := hle.1; have := h2.le.1; simp at *; omega, fun i hi hn hn2 => by
      have hne : i ≠ b := fun e => by subst e; exact hn hd
      have e1 : Gm'.get i = G.get i := by rw [hle.2 i (by simpa using hi) (by rw [Hp.put_other _ _ hne]; exact hn) (fun cs => by rw [Hp.put_other _ _ hne]; exact hn2 cs), Hp.put_other _ _ hne]
      rw [Hp.put_other _ _ hne, h2.le.2 i (by have := hle.1; simp at this; omega) (by rw [e1]; exact hn), e1]⟩
    refine ⟨H.put b .dead, fun H0 k1 k2 => ⟨by simpa using k2.1, fun i hi hn => by
      have e1 := k1.2 i hi hn
      have hne : i ≠ b := fun e => by subst e; rw [hd] at e1; exact hn e1.symm
      rw [Hp.put_other _ _ hne]; exact k2.2 i hi hn⟩, .inr ⟨b, cs, c, rfl, by have := h2.le.1; simp; omega, Hp.put_same _ _ _, by rw [Hp.put_put]; exact (Hp.put_self _ hgH).symm, hcap, he.mono hG.sees⟩, ?_⟩
    rcases h2 with ⟨rfl, rfl, rfl⟩ | ⟨b2, cs2, c2, rfl, hb2, hd2, rfl, hcap2, he2⟩
    · exact .inl ⟨rfl, rfl⟩
    · have hne : b2 ≠ b := fun e => by subst e; rw [hgm] at hd2; cases hd2
      refine Els.sl (he2.lists_put hgm .dead) ?_ (by simpa using hb2) (by rw [Hp.put_other _ _ hne, Hp.put_same]) rfl
      have : (Gm'.put b .dead).le ((Gm'.put b2 (.own 1 cs2)).put b .dead) := by
        rw [Hp.put_comm _ hne]; exact (Gm'.put b .dead).le_put (by rw [Hp.put_other _ _ hne]; exact hd2) _
      exact this.sees
def Parts.few (p : Parts) : Parts := ⟨(p.nodes.take 8).map fewL, (p.links.take 8).map fewL⟩
def cutTo (ns : List (List Link)) (i : Nat) : List (List Link) := (ns.take i).map (·.take 4) ++ ns.drop i
theorem cutTo_get? (ns : List (List Link)) {i : Nat} (h : i < ns.length) : (cutTo ns i)[i]? = some ns[i] := by
 have hl : ((ns.take i).map (·.take 4)).length = i := by rw [List.length_map, List.length_take]; omega
 unfold cutTo
 rw [List.getElem?_append_right (by omega), hl, Nat.sub_self, List.getElem?_drop, Nat.add_zero, List.getElem?_eq_getElem h]
theorem cutTo_get (ns : List (List Link)) {i : Nat} (h : i < ns.length) (h2 : i < (cutTo ns i).length) : (cutTo ns i)[i] = ns[i] := by
 have := cutTo_get? ns h
 rw [List.getElem?_eq_getElem h2] at this
 injection this

def OkF (f : Forest) (i : Nat) : Prop := 0 ≤ f.order.getD i 0 ∧ f.order.getD i 0 < f.vars.length ∧ f.order.getD i 0 ∉ f.order.take i ∧ (f.parent.getD (f.order.getD i 0).toNat 0 = -1 ∨ f.parent.getD (f.order.getD i 0).toNat 0 ∈ f.order.take i)
structure GoodF (f : Forest) : Prop where
 l1 : f.order.length = f.vars.length
 l2 : f.parent.length = f.vars.length
 l3 : f.links.length = f.vars.length
 l4 : f.loops.length = f.vars.length
 ok : ∀ i, i < f.vars.length → OkF f i
def Seen (n : Nat) (l : List Int) (seen : List Bool) : Prop := seen.length = n ∧ ∀ v, v < n → seen[v]? = some (decide ((v : Int) ∈ l))
theorem Seen.at {n : Nat} {l : List Int} {seen : List Bool} (h : Seen n l seen) {m : Int} (h0 : 0 ≤ m) (h1 : m < n) : seen[m.toNat]? = some (decide (m ∈ l)) := by
 have := h.2 m.toNat (by omega)
 rwa [show ((m.toNat : Nat) : Int) = m by omega] at this
theorem Seen.set {n : Nat} {l : List Int} {seen : List Bool} (h : Seen n l seen) {m : Int} (h0 : 0 ≤ m) (h1 : m < n) : Seen n (l ++ [m]) (seen.set m.toNat true) := by
 refine ⟨by rw [List.length_set]; exact h.1, fun v hv => ?_⟩
 have hl := h.1
 rw [List.getElem?_set]
 by_cases e : m.toNat = v
 ·rw [if_pos e, if_pos (by omega)]
  congr 1
  symm
  rw [decide_eq_true]
  simp; right; omega
 ·rw [if_neg e, h.2 v hv]
  congr 1
  have : (v : Int) ≠ m := by omega
  simp [this]
set_option maxHeartbeats 1000000 in
theorem GoodF_for_raw (f : Forest) (cs : List Value) (H : Hp) (hp : kForest.rep H f cs) (hl0 : f.vars.length ≤ 1000000) (hl1 : f.order.length ≤ 1000000) (hl2 : f.parent.length ≤ 1000000) :
  ACalls Tryz.prog 128 #[.agg cs.toArray] H (fun r _ => ∃ g, r = .bool g ∧ (g = true ↔ GoodF f)) := by
 obtain ⟨v0, v1, v2, v3, v4, rfl, hs0, hs1, hs2, hs3, hs4⟩ := hp
 obtain ⟨A0, c0, rfl⟩ := hs0.shape
 obtain ⟨A1, c1, rfl⟩ := hs1.shape
 obtain ⟨A2, c2, rfl⟩ := hs2.shape
 obtain ⟨A3, c3, rfl⟩ := hs3.shape
 obtain ⟨A4, c4, rfl⟩ := hs4.shape
 refine Xu Tryz.func128 rfl rfl rfl (by simp) ?_
 refine Xc ?_
 refine Xs ?_
 refine Xz (Yp rfl) ?_
 refine Xa (Xi rfl) ?_
 refine Xc ?_
 refine Xs ?_
 refine Xa (Xf (off := 0) rfl Tryz.underlying26 rfl inf22.size (by decide) rfl) ?_
 refine Xa (Xl rfl Tryz.underlying22 rfl Xo) ?_
 refine Xa (Yo rfl Tryz.underlying22) ?_
 refine Xa (Xj rfl) ?_
 refine Xc ?_
 refine Xc ?_
 refine Xs ?_
 refine Xa (Xf (off := 1) rfl Tryz.underlying26 rfl inf23.size (by decide) rfl) ?_
 refine Xa (Xl rfl Tryz.underlying23 rfl Xo) ?_
 refine Xa (Yo rfl Tryz.underlying23) ?_
 refine Xa (Xb rfl) ?_
 refine Xa (Vb rfl rfl) ?_
 refine Xa (Xq rfl) ?_
 refine Yb rfl rfl rfl ?_ ?_
 intro hg1
 have hp1 := hg1; try simp only [Y5] at hp1
 refine Xd (Xg rfl rfl rfl hg1 rfl) ?_
 refine Xd (Xg rfl rfl rfl hg1 rfl) ?_
 refine Xd (Xg rfl rfl rfl hg1 rfl) ?_
 refine Xd (Xg rfl rfl rfl hg1 rfl) ?_
 refine Xd (Xg rfl rfl rfl hg1 rfl) ?_
 refine Xa (Xm (Yu hg1) rfl) ?_
 refine Xa (Xq rfl) ?_
 refine Xd (Xg rfl rfl rfl rfl rfl) ?_
 refine Xd (Xg rfl rfl rfl rfl rfl) ?_
 refine Xd (Xg rfl rfl rfl rfl rfl) ?_
 refine Xd (Xg rfl rfl rfl rfl rfl) ?_
 refine Xd (Xg rfl rfl rfl rfl rfl) ?_
 refine Xa (Xm (congrArg Value.bool rfl) rfl) ?_
 refine Xa (Xq rfl) ?_
 refine Xd (Xg rfl rfl rfl rfl rfl) ?_
 refine Xd (Xg rfl rfl rfl rfl rfl) ?_
 refine Xd (Xg rfl rfl rfl rfl rfl) ?_
 refine Xd (Xg rfl rfl rfl rfl rfl) ?_
 refine Xd (Xg rfl rfl rfl rfl rfl) ?_
 refine Xa (Xm (congrArg Value.bool rfl) rfl) ?_
 refine Yw rfl rfl ?_
 refine Xc ?_
 refine Xs ?_
 refine Xa (Xi rfl) ?_
 refine X2 ?_
 refine ⟨.bool false, X0 (Xp rfl), false, rfl, fun h => (by cases h), fun hG => ?_⟩
 exfalso
 have q1 := hG.l1; have q2 := hG.l2; have q3 := hG.l3; have q4 := hG.l4
 first | omega | simp_all
 intro hg1
 have hp1 := hg1; try simp only [Y5] at hp1
 refine Xk (Xh rfl rfl rfl hg1) (Xf (off := 2) rfl Tryz.underlying26 rfl inf23.size (by decide) rfl) ?_
 refine Xk (Xh rfl rfl rfl hg1) (Xl rfl Tryz.underlying23 rfl Xo) ?_
 refine Xk (Xh rfl rfl rfl hg1) (Yo rfl Tryz.underlying23) ?_
 refine Xk (Xh rfl rfl rfl hg1) (Xb rfl) ?_
 refine Xk (Xh rfl rfl rfl hg1) (Vb rfl rfl) ?_
 refine Xa (Xm (Yu hg1) rfl) ?_
 refine Xa (Xq rfl) ?_
 refine Yb rfl rfl rfl ?_ ?_
 intro hg3
 have hp3 := hg3; try simp only [Y5] at hp3
 refine Xd (Xg rfl rfl rfl hg3 rfl) ?_
 refine Xd (Xg rfl rfl rfl hg3 rfl) ?_
 refine Xd (Xg rfl rfl rfl hg3 rfl) ?_
 refine Xd (Xg rfl rfl rfl hg3 rfl) ?_
 refine Xd (Xg rfl rfl rfl hg3 rfl) ?_
 refine Xa (Xm (Yu hg3) rfl) ?_
 refine Xa (Xq rfl) ?_
 refine Xd (Xg rfl rfl rfl rfl rfl) ?_
 refine Xd (Xg rfl rfl rfl rfl rfl) ?_
 refine Xd (Xg rfl rfl rfl rfl rfl) ?_
 refine Xd (Xg rfl rfl rfl rfl rfl) ?_
 refine Xd (Xg rfl rfl rfl rfl rfl) ?_
 refine Xa (Xm (congrArg Value.bool rfl) rfl) ?_
 refine Yw rfl rfl ?_
 refine Xc ?_
 refine Xs ?_
 refine Xa (Xi rfl) ?_
 refine X2 ?_
 refine ⟨.bool false, X0 (Xp rfl), false, rfl, fun h => (by cases h), fun hG => ?_⟩
 exfalso
 have q1 := hG.l1; have q2 := hG.l2; have q3 := hG.l3; have q4 := hG.l4
 first | omega | simp_all
 intro hg3
 have hp3 := hg3; try simp only [Y5] at hp3
 refine Xk (Xh rfl rfl rfl hg3) (Xf (off := 3) rfl Tryz.underlying26 rfl inf24.size (by decide) rfl) ?_
 refine Xk (Xh rfl rfl rfl hg3) (Xl rfl Tryz.underlying24 rfl Xo) ?_
 refine Xk (Xh rfl rfl rfl hg3) (Yo rfl Tryz.underlying24) ?_
 refine Xk (Xh rfl rfl rfl hg3) (Xb rfl) ?_
 refine Xk (Xh rfl rfl rfl hg3) (Vb rfl rfl) ?_
 refine Xa (Xm (Yu hg3) rfl) ?_
 refine Xa (Xq rfl) ?_
 refine Yb rfl rfl rfl ?_ ?_
 intro hg5
 have hp5 := hg5; try simp only [Y5] at hp5
 refine Xd (Xg rfl rfl rfl hg5 rfl) ?_
 refine Xd (Xg rfl rfl rfl hg5 rfl) ?_
 refine Xd (Xg rfl rfl rfl hg5 rfl) ?_
 refine Xd (Xg rfl rfl rfl hg5 rfl) ?_
 refine Xd (Xg rfl rfl rfl hg5 rfl) ?_
 refine Xa (Xm (Yu hg5) rfl) ?_
 refine Yw rfl rfl ?_
 refine Xc ?_
 refine Xs ?_
 refine Xa (Xi rfl) ?_
 refine X2 ?_
 refine ⟨.bool false, X0 (Xp rfl), false, rfl, fun h => (by cases h), fun hG => ?_⟩
 exfalso
 have q1 := hG.l1; have q2 := hG.l2; have q3 := hG.l3; have q4 := hG.l4
 first | omega | simp_all
 intro hg5
 have hp5 := hg5; try simp only [Y5] at hp5
 refine Xk (Xh rfl rfl rfl hg5) (Xf (off := 4) rfl Tryz.underlying26 rfl inf24.size (by decide) rfl) ?_
 refine Xk (Xh rfl rfl rfl hg5) (Xl rfl Tryz.underlying24 rfl Xo) ?_
 refine Xk (Xh rfl rfl rfl hg5) (Yo rfl Tryz.underlying24) ?_
 refine Xk (Xh rfl rfl rfl hg5) (Xb rfl) ?_
 refine Xk (Xh rfl rfl rfl hg5) (Vb rfl rfl) ?_
 refine Xa (Xm (Yu hg5) rfl) ?_
 refine X4 rfl rfl ?_ ?_
 intro hc7
 (try simp only [Y5] at hc7)
 refine Xc ?_
 refine Xs ?_
 refine Xa (Xi rfl) ?_
 refine X2 ?_
 refine ⟨.bool false, X0 (Xp rfl), false, rfl, fun h => (by cases h), fun hG => ?_⟩
 exfalso
 have q1 := hG.l1; have q2 := hG.l2; have q3 := hG.l3; have q4 := hG.l4
 first | omega | simp_all
 intro hc7
 have hlens : f.order.length = f.vars.length ∧ f.parent.length = f.vars.length ∧ f.links.length = f.vars.length ∧ f.loops.length = f.vars.length := by
  have hc7' := of_decide_eq_false hc7
  refine ⟨?_, ?_, ?_, ?_⟩ <;> omega
 refine X9 ?_
 refine Xc ?_
 refine Xs ?_
 refine Xa (Xb rfl) ?_
 refine Xz (am_makeSlice Tryz.underlying182 inf4 rfl (by decide) (by decide) rfl rfl (by omega) (by omega) (by omega)) ?_
 refine Xa (X8 rfl) ?_
 refine Xc ?_
 refine Xc ?_
 refine Xs ?_
 refine Xa (Xf (off := 1) rfl Tryz.underlying26 rfl inf23.size (by decide) rfl) ?_
 refine Xa (Xl rfl Tryz.underlying23 rfl Xo) ?_
 refine Xa (Yo rfl Tryz.underlying23) ?_
 refine Xa (Xb rfl) ?_
 refine Yh ?_
 refine Y6 (fun n t H' => ∃ (i : Nat) (seen : List Bool), i ≤ f.order.length ∧ n = f.order.length - i ∧ Seen f.vars.length (f.order.take i) seen ∧ H' = (H.push (.own 0 [.slice A0 f.vars.length c0, .slice A1 f.order.length c1, .slice A2 f.parent.length c2, .slice A3 f.links.length c3, .slice A4 f.loops.length c4])).push (.own 1 (seen.map Value.bool)) ∧ (∀ j, j < i → OkF f j) ∧ t 1 = .pointer (some ⟨H.size, 0, none⟩) ∧ t 3 = .int .i64 f.vars.length ∧ t 4 = .slice (some ⟨H.size + 1, 0, none⟩) f.vars.length f.vars.length ∧ t 40 = .slice A1 f.order.length c1 ∧ t 41 = .int .i64 f.order.length ∧ t 42 = .int .i64 i) (f.order.length) (⟨0, List.replicate f.vars.length false, by omega, rfl, ⟨by simp, fun v hv => by simp [hv]⟩, by congr 2; simp [Value.cells, List.flatten_replicate_singleton], fun j h => by omega, rfl, rfl, rfl, rfl, rfl, rfl⟩) ?_
 rintro n t _ ⟨i, seen, hi, rfl, hseen, rfl, hok, e1, e3, e4, e40, e41, e42⟩
 have hsl := hseen.1
 have hg0 : ((H.push (.own 0 [.slice A0 f.vars.length c0, .slice A1 f.order.length c1, .slice A2 f.parent.length c2, .slice A3 f.links.length c3, .slice A4 f.loops.length c4])).push (.own 1 (seen.map Value.bool))).get H.size = .own 0 [.slice A0 f.vars.length c0, .slice A1 f.order.length c1, .slice A2 f.parent.length c2, .slice A3 f.links.length c3, .slice A4 f.loops.length c4] := Ya
 have kg1 : ((H.push (.own 0 [.slice A0 f.vars.length c0, .slice A1 f.order.length c1, .slice A2 f.parent.length c2, .slice A3 f.links.length c3, .slice A4 f.loops.length c4])).push (.own 1 (seen.map Value.bool))).get (H.size + 1) = .own 1 (seen.map Value.bool) := Hp.push_new _ _
 have hleS := Hp.le_push' (H.le_push (.own 0 [.slice A0 f.vars.length c0, .slice A1 f.order.length c1, .slice A2 f.parent.length c2, .slice A3 f.links.length c3, .slice A4 f.loops.length c4])) (.own 1 (seen.map Value.bool))
 refine Xc ?_
 refine Xs ?_
 refine Xa (Zf Xn Xn) ?_
 refine Xc ?_
 refine X4 rfl rfl ?_ ?_
 intro hc8
 (try simp only [Y5] at hc8)
 refine X9 ?_
 refine Xc ?_
 refine Yh ?_
 refine Xc ?_
 have hix : i < f.vars.length := by omega
 have hix1 : i < f.order.length := by omega
 have hs1' := hs1.mono hleS.sees
 have hs2' := hs2.mono hleS.sees
 obtain ⟨b, o, rfl, hb, hcell1⟩ := hs1'.int_at (i := (i : Int)) (by omega) (by omega)
 obtain ⟨m, hm⟩ : ∃ m, m = f.order.getD (i : Int).toNat 0 := ⟨_, rfl⟩
 rw [← hm] at hcell1
 have hmi : f.order.getD i 0 = m := by rw [hm, Int.toNat_natCast]
 refine Xs ?_
 refine Xa (Xx Xn Xn Tryz.underlying23 inf3.size Yc Yc) ?_
 refine Xa (Xl rfl Tryz.underlying3 rfl Xo) ?_
 refine Xa (Xj rfl) ?_
 refine Xc ?_
 refine Xc ?_
 refine Xs ?_
 refine Xa (Xb rfl) ?_
 refine Xa (Zf rfl rfl) ?_
 refine Xa (Xq rfl) ?_
 refine Yb rfl rfl rfl ?_ ?_
 intro hg9
 have hp9 := hg9; try simp only [Y5] at hp9
 refine Xd (Xg rfl rfl rfl hg9 rfl) ?_
 refine Xd (Xg rfl rfl rfl hg9 rfl) ?_
 refine Xd (Xg rfl rfl rfl hg9 rfl) ?_
 refine Xa (Xm (Yu hg9) Xn) ?_
 refine Xa (Xq rfl) ?_
 refine Xd (Xg rfl rfl rfl rfl rfl) ?_
 refine Xd (Xg rfl rfl rfl rfl rfl) ?_
 refine Xd (Xg rfl rfl rfl rfl rfl) ?_
 refine Xd (Xg rfl rfl rfl rfl rfl) ?_
 refine Xa (Xm (congrArg Value.bool Xn) Xn) ?_
 refine Yw rfl rfl ?_
 refine Xc ?_
 refine Xs ?_
 refine Xa (Xi rfl) ?_
 refine X2 ?_
 refine ⟨.bool false, X0 (Xp rfl), false, rfl, fun h => (by cases h), fun hG => ?_⟩
 obtain ⟨q1, q2, q3, q4⟩ := hG.ok i hix
 rw [hmi] at q1 q2 q3 q4
 exfalso
 first | omega | exact q3 hmt
 intro hg9
 have hp9 := hg9; try simp only [Y5] at hp9
 refine Xk (Xh rfl rfl rfl hg9) (Xb rfl) ?_
 refine Xk (Xh rfl rfl rfl hg9) (Xb Xn) ?_
 refine Xk (Xh rfl rfl rfl hg9) (av_ge rfl rfl) ?_
 refine Xa (Xm (Yu hg9) rfl) ?_
 refine Xa (Xq rfl) ?_
 refine Yb rfl rfl rfl ?_ ?_
 intro hg11
 have hp11 := hg11; try simp only [Y5] at hp11
 refine Xd (Xg rfl rfl rfl hg11 rfl) ?_
 refine Xd (Xg rfl rfl rfl hg11 rfl) ?_
 refine Xd (Xg rfl rfl rfl hg11 rfl) ?_
 refine Xd (Xg rfl rfl rfl hg11 rfl) ?_
 refine Xa (Xm (Yu hg11) Xn) ?_
 refine Yw rfl rfl ?_
 refine Xc ?_
 refine Xs ?_
 refine Xa (Xi rfl) ?_
 refine X2 ?_
 refine ⟨.bool false, X0 (Xp rfl), false, rfl, fun h => (by cases h), fun hG => ?_⟩
 obtain ⟨q1, q2, q3, q4⟩ := hG.ok i hix
 rw [hmi] at q1 q2 q3 q4
 exfalso
 first | omega | exact q3 hmt
 intro hg11
 have hp11 := hg11; try simp only [Y5] at hp11
 refine Xk (Xh rfl rfl rfl hg11) (X1 Xn) ?_
 refine Xk (Xh rfl rfl rfl hg11) (Xb rfl) ?_
 have hm1 : 0 ≤ m ∧ m < f.vars.length := by omega
 have hcell3 : Hp.cell? _ (H.size + 1) (0 + m.toNat * 1) = some (.bool (decide (m ∈ f.order.take i))) := (Zt kg1).trans (by
  rw [Nat.zero_add, Nat.mul_one, List.getElem?_map, hseen.at hm1.1 hm1.2]; rfl)
 refine Xk (Xh rfl rfl rfl hg11) (Xx rfl rfl Tryz.underlying182 inf4.size Yc Yc) ?_
 refine Xk (Xh rfl rfl rfl hg11) (Xl rfl Tryz.underlying4 rfl Xo) ?_
 refine Xa (Xm (Yu hg11) rfl) ?_
 refine X4 rfl rfl ?_ ?_
 intro hc13
 have hmt : m ∈ f.order.take i := by simpa using hc13
 refine Xc ?_
 refine Xs ?_
 refine Xa (Xi rfl) ?_
 refine X2 ?_
 refine ⟨.bool false, X0 (Xp rfl), false, rfl, fun h => (by cases h), fun hG => ?_⟩
 obtain ⟨q1, q2, q3, q4⟩ := hG.ok i hix
 rw [hmi] at q1 q2 q3 q4
 exfalso
 first | omega | exact q3 hmt
 intro hc13
 have hmn : m ∉ f.order.take i := by simpa using hc13
 refine X9 ?_
 refine Xc ?_
 have hm0 : 0 ≤ m ∧ m < f.vars.length := by omega
 obtain ⟨b2, o2, rfl, hb2, hcell2⟩ := hs2'.int_at (i := m) (by omega) (by omega)
 obtain ⟨q, hq⟩ : ∃ q, q = f.parent.getD m.toNat 0 := ⟨_, rfl⟩
 rw [← hq] at hcell2
 refine Xs ?_
 refine Xa (Xf (off := 2) Xn Tryz.underlying26 Xn inf23.size (by decide) Xn) ?_
 refine Xa (Xl rfl Tryz.underlying23 rfl Xo) ?_
 refine Xa (Xb rfl) ?_
 refine Xa (Xx rfl rfl Tryz.underlying23 inf3.size Yc Yc) ?_
 refine Xa (Xl rfl Tryz.underlying3 rfl Xo) ?_
 refine Xa (Xj rfl) ?_
 refine Xc ?_
 refine Xc ?_
 refine Xs ?_
 refine Xa (Xb rfl) ?_
 refine Xa (Zf rfl rfl) ?_
 refine Xa (Xq rfl) ?_
 refine Yb rfl rfl rfl ?_ ?_
 intro hg14
 have hp14 := hg14; try simp only [Y5] at hp14
 refine Xd (Xg rfl rfl rfl hg14 rfl) ?_
 refine Xd (Xg rfl rfl rfl hg14 rfl) ?_
 refine Xd (Xg rfl rfl rfl hg14 rfl) ?_
 refine Xa (Xm (Yu hg14) Xn) ?_
 refine Xa (Xq rfl) ?_
 refine Xd (Xg rfl rfl rfl rfl rfl) ?_
 refine Xd (Xg rfl rfl rfl rfl rfl) ?_
 refine Xd (Xg rfl rfl rfl rfl rfl) ?_
 refine Xd (X6 rfl rfl rfl) ?_
 refine Xd (X6 rfl rfl rfl) ?_
 refine Xd (X6 rfl rfl rfl) ?_
 refine Xd (X6 rfl rfl rfl) ?_
 refine Xd (X6 rfl rfl rfl) ?_
 refine Xd (Xg rfl rfl rfl rfl rfl) ?_
 refine Xa (Xm (congrArg Value.bool Xn) Xn) ?_
 refine Yw rfl rfl ?_
 refine Xc ?_
 refine Xs ?_
 refine Xa (Xi rfl) ?_
 refine X2 ?_
 refine ⟨.bool false, X0 (Xp rfl), false, rfl, fun h => (by cases h), fun hG => ?_⟩
 obtain ⟨q1, q2, q3, q4⟩ := hG.ok i hix
 rw [hmi, ← hq] at q4
 have hpre : ∀ x ∈ f.order.take i, 0 ≤ x ∧ x < f.vars.length := fun x hx => by
  obtain ⟨j, hj, rfl⟩ := List.getElem_of_mem hx
  rw [List.length_take] at hj
  have hj2 := hok j (by omega)
  rw [List.getElem_take]
  have e : f.order.getD j 0 = f.order[j] := Za (by omega)
  rw [← e]
  exact ⟨hj2.1, hj2.2.1⟩
 exfalso
 rcases q4 with q4 | q4
 ·omega
 ·first | exact hqt q4 | (have := hpre q q4; omega)
 intro hg14
 have hp14 := hg14; try simp only [Y5] at hp14
 refine Xk (Xh rfl rfl rfl hg14) (Xb rfl) ?_
 refine Xk (Xh rfl rfl rfl hg14) (Xb Xn) ?_
 refine Xk (Xh rfl rfl rfl hg14) (av_ge rfl rfl) ?_
 refine Xa (Xm (Yu hg14) rfl) ?_
 refine Xa (Xq rfl) ?_
 refine Yb rfl rfl rfl ?_ ?_
 intro hg16
 have hp16 := hg16; try simp only [Y5] at hp16
 refine Xd (Xg rfl rfl rfl hg16 rfl) ?_
 refine Xd (Xg rfl rfl rfl hg16 rfl) ?_
 refine Xd (Xg rfl rfl rfl hg16 rfl) ?_
 refine Xd (X6 rfl rfl rfl) ?_
 refine Xd (X6 rfl rfl rfl) ?_
 refine Xd (X6 rfl rfl rfl) ?_
 refine Xd (X6 rfl rfl rfl) ?_
 refine Xd (X6 rfl rfl rfl) ?_
 refine Xd (Xg rfl rfl rfl hg16 rfl) ?_
 refine Xa (Xm (Yu hg16) Xn) ?_
 refine Yw rfl rfl ?_
 refine Xc ?_
 refine Xs ?_
 refine Xa (Xi rfl) ?_
 refine X2 ?_
 refine ⟨.bool false, X0 (Xp rfl), false, rfl, fun h => (by cases h), fun hG => ?_⟩
 obtain ⟨q1, q2, q3, q4⟩ := hG.ok i hix
 rw [hmi, ← hq] at q4
 have hpre : ∀ x ∈ f.order.take i, 0 ≤ x ∧ x < f.vars.length := fun x hx => by
  obtain ⟨j, hj, rfl⟩ := List.getElem_of_mem hx
  rw [List.length_take] at hj
  have hj2 := hok j (by omega)
  rw [List.getElem_take]
  have e : f.order.getD j 0 = f.order[j] := Za (by omega)
  rw [← e]
  exact ⟨hj2.1, hj2.2.1⟩
 exfalso
 rcases q4 with q4 | q4
 ·omega
 ·first | exact hqt q4 | (have := hpre q q4; omega)
 intro hg16
 have hp16 := hg16; try simp only [Y5] at hp16
 refine Xk (Xh rfl rfl rfl hg16) (Xb rfl) ?_
 refine Xk (Xh rfl rfl rfl hg16) (av_ge rfl rfl) ?_
 refine Xk (Xh rfl rfl rfl hg16) (Xq rfl) ?_
 refine Yb rfl rfl rfl ?_ ?_
 intro hg18
 have hp18 := hg18; try simp only [Y5] at hp18
 refine Xk (Xh rfl rfl rfl hg18) (X1 Xn) ?_
 refine Xk (Xh rfl rfl rfl hg18) (Xb rfl) ?_
 have hq1 : 0 ≤ q ∧ q < f.vars.length := by omega
 have hcell4 : Hp.cell? _ (H.size + 1) (0 + q.toNat * 1) = some (.bool (decide (q ∈ f.order.take i))) := (Zt kg1).trans (by
  rw [Nat.zero_add, Nat.mul_one, List.getElem?_map, hseen.at hq1.1 hq1.2]; rfl)
 refine Xk (Xh rfl rfl rfl hg18) (Xx rfl rfl Tryz.underlying182 inf4.size Yc Yc) ?_
 refine Xk (Xh rfl rfl rfl hg18) (Xl rfl Tryz.underlying4 rfl Xo) ?_
 refine Xk (Xh rfl rfl rfl hg18) (Z3 rfl) ?_
 refine Xk (Xh rfl rfl rfl hg16) (Xm (Yu hg18) rfl) ?_
 refine Xa (Xm (Yu hg16) rfl) ?_
 refine X4 rfl rfl ?_ ?_
 intro hc19
 have hqt : q ∉ f.order.take i := by simpa using hc19
 refine Xc ?_
 refine Xs ?_
 refine Xa (Xi rfl) ?_
 refine X2 ?_
 refine ⟨.bool false, X0 (Xp rfl), false, rfl, fun h => (by cases h), fun hG => ?_⟩
 obtain ⟨q1, q2, q3, q4⟩ := hG.ok i hix
 rw [hmi, ← hq] at q4
 have hpre : ∀ x ∈ f.order.take i, 0 ≤ x ∧ x < f.vars.length := fun x hx => by
  obtain ⟨j, hj, rfl⟩ := List.getElem_of_mem hx
  rw [List.length_take] at hj
  have hj2 := hok j (by omega)
  rw [List.getElem_take]
  have e : f.order.getD j 0 = f.order[j] := Za (by omega)
  rw [← e]
  exact ⟨hj2.1, hj2.2.1⟩
 exfalso
 rcases q4 with q4 | q4
 ·omega
 ·first | exact hqt q4 | (have := hpre q q4; omega)
 intro hc19
 have hqm : q ∈ f.order.take i := by simpa using hc19
 refine X9 ?_
 refine Xs ?_
 refine Xa (X1 Xn) ?_
 refine Xa (Xb rfl) ?_
 refine Xa (Xx rfl rfl Tryz.underlying182 inf4.size Yc Yc) ?_
 first | refine Xv (Yz rfl rfl rfl inf4.size Ya Yd rfl ?_)
 refine Xs ?_
 refine Xa (Yq Xn Xn Y2) ?_
 refine Xa (Xb rfl) ?_
 have hq4 : q = -1 ∨ q ∈ f.order.take i := by first | exact .inr hqm | exact .inl (by omega)
 refine ⟨f.order.length - (i + 1), by omega, i + 1, seen.set m.toNat true, by omega, rfl, ?_, ?_, fun j h => ?_, e1, e3, e4, e40, e41, rfl⟩
 ·have := hseen.set hm0.1 hm0.2
  rwa [show f.order.take i ++ [m] = f.order.take (i + 1) by rw [← Zb hix1, ← hmi, Za hix1]] at this
 ·exact (Hp.push_put (H.push (.own 0 _)) _ _).trans (by rw [List.map_set, Nat.zero_add, Nat.mul_one]; rfl)
 ·rcases Nat.lt_or_ge j i with h1 | h1
  ·exact hok j h1
  ·obtain rfl : j = i := by omega
   exact ⟨by rw [hmi]; exact hm0.1, by rw [hmi]; exact hm0.2, by rw [hmi]; exact hmn, by rw [hmi, ← hq]; exact hq4⟩
 intro hg18
 have hp18 := hg18; try simp only [Y5] at hp18
 refine Xd (Xg rfl rfl rfl hg18 rfl) ?_
 refine Xd (Xg rfl rfl rfl hg18 rfl) ?_
 refine Xd (Xg rfl rfl rfl hg18 rfl) ?_
 refine Xd (Xg rfl rfl rfl hg18 rfl) ?_
 refine Xd (Xg rfl rfl rfl hg18 rfl) ?_
 refine Xk (Xh rfl rfl rfl hg16) (Xm (Yu hg18) Xn) ?_
 refine Xa (Xm (Yu hg16) rfl) ?_
 refine Zg rfl rfl ?_
 refine X9 ?_
 refine Xs ?_
 refine Xa (X1 Xn) ?_
 refine Xa (Xb rfl) ?_
 refine Xa (Xx rfl rfl Tryz.underlying182 inf4.size Yc Yc) ?_
 first | refine Xv (Yz rfl rfl rfl inf4.size Ya Yd rfl ?_)
 refine Xs ?_
 refine Xa (Yq Xn Xn Y2) ?_
 refine Xa (Xb rfl) ?_
 have hq4 : q = -1 ∨ q ∈ f.order.take i := by first | exact .inr hqm | exact .inl (by omega)
 refine ⟨f.order.length - (i + 1), by omega, i + 1, seen.set m.toNat true, by omega, rfl, ?_, ?_, fun j h => ?_, e1, e3, e4, e40, e41, rfl⟩
 ·have := hseen.set hm0.1 hm0.2
  rwa [show f.order.take i ++ [m] = f.order.take (i + 1) by rw [← Zb hix1, ← hmi, Za hix1]] at this
 ·exact (Hp.push_put (H.push (.own 0 _)) _ _).trans (by rw [List.map_set, Nat.zero_add, Nat.mul_one]; rfl)
 ·rcases Nat.lt_or_ge j i with h1 | h1
  ·exact hok j h1
  ·obtain rfl : j = i := by omega
   exact ⟨by rw [hmi]; exact hm0.1, by rw [hmi]; exact hm0.2, by rw [hmi]; exact hmn, by rw [hmi, ← hq]; exact hq4⟩
 intro hc8
 (try simp only [Y5] at hc8)
 refine Y3 ?_
 refine Xc ?_
 refine Xs ?_
 refine Xa (Xi rfl) ?_
 refine X2 ?_
 exact ⟨.bool true, X0 (Xp rfl), true, rfl, fun _ => ⟨hlens.1, hlens.2.1, hlens.2.2.1, hlens.2.2.2, fun j h => hok j (by omega)⟩, fun _ => rfl⟩
theorem GoodF_for (f : Forest) (cs : List Value) (H : Hp) (hp : kForest.rep H f cs) (hl0 : f.vars.length ≤ 1000000) (hl1 : f.order.length ≤ 1000000) (hl2 : f.parent.length ≤ 1000000) :
  ACalls Tryz.prog 128 #[.agg cs.toArray] H (fun r H' => (∃ g, r = .bool g ∧ (g = true ↔ GoodF f)) ∧ H' = H) :=
 ACalls.pure (fun v ⟨g, h, _⟩ => by rw [h]; rfl) (GoodF_for_raw f cs H.ro (kForest.mono H.sees_ro hp) hl0 hl1 hl2)
theorem GoodF_For (f : Forest) (cs : List Value) (H : Hp) (hp : kForest.rep H f cs) (hl0 : f.vars.length ≤ 1000000) (hl1 : f.order.length ≤ 1000000) (hl2 : f.parent.length ≤ 1000000) :
  ACalls Tryz.prog 106 #[.agg cs.toArray] H (fun r H' => (∃ g, r = .bool g ∧ (g = true ↔ GoodF f)) ∧ H' = H) := by
 refine ACalls.pure (R := fun r => ∃ g, r = .bool g ∧ (g = true ↔ GoodF f)) (fun v ⟨g, h, _⟩ => by rw [h]; rfl) ?_
 have hp' := kForest.mono H.sees_ro hp
 have hp0 := hp'
 obtain ⟨v0, v1, v2, v3, v4, rfl, hs0, hs1, hs2, hs3, hs4⟩ := hp'
 obtain ⟨A0, c0, rfl⟩ := hs0.shape
 obtain ⟨A1, c1, rfl⟩ := hs1.shape
 obtain ⟨A2, c2, rfl⟩ := hs2.shape
 obtain ⟨A3, c3, rfl⟩ := hs3.shape
 obtain ⟨A4, c4, rfl⟩ := hs4.shape
 refine Xu Tryz.func106 rfl rfl rfl (by simp) ?_
 refine Xc ?_
 refine Xs ?_
 refine Xz (Yp rfl) ?_
 refine Xa (Xi rfl) ?_
 refine Xc ?_
 refine Xs ?_
 refine Xa (Yj (cs := [.slice _ _ _, .slice _ _ _, .slice _ _ _, .slice _ _ _, .slice _ _ _]) rfl Tryz.underlying26 rfl inf26.size X5) ?_
 refine Xv (Xy (GoodF_for f _ _ (kForest.mono (Hp.le_push _ _).sees hp0) hl0 hl1 hl2) rfl Tryz.func128 rfl rfl rfl ?_)
 rintro v2 H2 ⟨⟨g, rfl, hg⟩, rfl⟩
 refine Xa (Xi rfl) ?_
 refine X2 ?_
 exact ⟨.bool g, X0 (Xp rfl), g, rfl, hg⟩
theorem In_link (n : Int) (H : Hp) : ACalls Tryz.prog 129 #[.int .i64 n] H (fun r H' => r = .bool (decide (0 ≤ n) && decide (n < 10000)) ∧ H' = H) := by
 refine Xu Tryz.func129 rfl rfl rfl (by simp) ?_
 refine Xc ?_
 refine Xs ?_
 refine Xa (Xi rfl) ?_
 refine Xc ?_
 refine Xs ?_
 refine Xa (Xb rfl) ?_
 refine Xa (av_ge rfl rfl) ?_
 refine Xa (Xq rfl) ?_
 refine Yb rfl rfl rfl ?_ ?_
 intro hg1
 have hp1 := hg1; try simp only [Y5] at hp1
 refine Xk (Xh rfl rfl rfl hg1) (Xb rfl) ?_
 refine Xk (Xh rfl rfl rfl hg1) (Zf rfl rfl) ?_
 refine Xa (Xm (Yu hg1) rfl) ?_
 refine Xa (Xi rfl) ?_
 refine X2 ?_
 ·refine ⟨.bool (decide (0 ≤ n) && decide (n < 10000)), X0 (Xp ?_), rfl, rfl⟩
  show Value.bool _ = _
  congr 1
  first | (simp_all; done) | (simp_all; omega)
 intro hg1
 have hp1 := hg1; try simp only [Y5] at hp1
 refine Xd (Xg rfl rfl rfl hg1 rfl) ?_
 refine Xd (Xg rfl rfl rfl hg1 rfl) ?_
 refine Xa (Xm (Yu hg1) rfl) ?_
 refine Xa (Xi rfl) ?_
 refine X2 ?_
 ·refine ⟨.bool (decide (0 ≤ n) && decide (n < 10000)), X0 (Xp ?_), rfl, rfl⟩
  show Value.bool _ = _
  congr 1
  first | (simp_all; done) | (simp_all; omega)
theorem not_in {a : Int} (h : (!(decide (0 ≤ a) && decide (a < 10000))) = true) : ¬ (0 ≤ a ∧ a ≤ 9999) := fun ⟨h1, h2⟩ => by
 rw [decide_eq_true h1, decide_eq_true (by omega)] at h; cases h
theorem is_in {a : Int} (h : (!(decide (0 ≤ a) && decide (a < 10000))) = false) : 0 ≤ a ∧ a ≤ 9999 := by
 simp at h; omega
theorem less_key {x y : Link} (h1 : 0 ≤ x.b) (h2 : x.b ≤ 9999) (h3 : 0 ≤ y.b) (h4 : y.b ≤ 9999) : lessL x y = true ↔ keyI x < keyI y := by
 unfold lessL keyI
 simp only [Bool.or_eq_true, Bool.and_eq_true, decide_eq_true_eq]
 omega
theorem PGood_raw (xs : List Link) (v : Value) (H : Hp) (hs : Sl kLink H v xs) (hl : xs.length ≤ 9223372036854775807) :
  ACalls Tryz.prog 108 #[v] H (fun r _ => ∃ g, r = .bool g ∧ (g = true ↔ GoodL xs)) := by
 obtain ⟨A, c, rfl⟩ := hs.shape
 refine Xu Tryz.func108 rfl rfl rfl (by simp) ?_
 refine Xc ?_
 refine Xs ?_
 refine Xa (Xi rfl) ?_
 refine Xc ?_
 refine Xs ?_
 refine Xa (V8 rfl) ?_
 refine Xc ?_
 refine Xc ?_
 refine Xs ?_
 refine Xa (X1 rfl) ?_
 refine Xa (Yo rfl Tryz.underlying83) ?_
 refine Xa (Xb rfl) ?_
 refine Yh ?_
 refine Y6 (fun n t H' => ∃ (i : Nat), i ≤ xs.length ∧ n = xs.length - i ∧ H.le H' ∧ (∀ (j : Nat) (h : j < xs.length), j < i → OkL xs[j] ∧ (0 < j → lessL (xs[j - 1]'(by omega)) xs[j] = true)) ∧ t 0 = .slice A xs.length c ∧ t 3 = .func (.func 129) #[] #[] ∧ t 6 = .slice A xs.length c ∧ t 7 = .int .i64 xs.length ∧ t 8 = .int .i64 i) (xs.length) (⟨0, by omega, rfl, Hp.le_refl _, fun j h h0 => by omega, rfl, rfl, rfl, rfl, rfl⟩) ?_
 rintro n t H1 ⟨i, hi, rfl, hle, hok, e0, e3, e6, e7, e8⟩
 refine Xc ?_
 refine Xs ?_
 refine Xa (Zf Xn Xn) ?_
 refine Xc ?_
 refine X4 rfl rfl ?_ ?_
 intro hc1
 (try simp only [Y5] at hc1)
 refine X9 ?_
 refine Xc ?_
 refine Yh ?_
 refine Xc ?_
 refine Xs ?_
 refine Xa (Xb Xn) ?_
 have hix : i < xs.length := by omega
 obtain ⟨b, o, rfl, hb, hcell0⟩ := (hs.mono hle.sees).link_at hix
 have hbl : b < H1.size := hb
 refine Xa (Xx Xn Xn Tryz.underlying83 inf96.size Yc Yc) ?_
 refine Xa (Yj (cs := [.int .i64 _, .int .i64 _, .int .i64 _, .int .u64 _]) rfl Tryz.underlying96 rfl inf96.size X5) ?_
 refine Xz (Ys (l := [.int .i64 0, .int .i64 0, .int .i64 0, .int .u64 0]) inf96.zero rfl (by decide)) ?_
 refine Xa (Xj rfl) ?_
 first | refine Xv (Ye (vs := [.int .i64 _, .int .i64 _, .int .i64 _, .int .u64 _]) rfl rfl inf96.size Ya Yd rfl rfl ?_)
 refine Xc ?_
 refine Yy (by kernel_rfl) (Y4 (B := [0, 0, 2, 7, 15, 31, 63, 63, 191, 511, 1023, 2047, 4095, 8191, 16383, 32767, 65535, 131071, 262143, 524287, 1048575, 2097151, 4194303, 8388607, 16777215, 33554431, 67108863, 134217727, 268435455, 536870911, 1073741823, 2147483647, 2147483647, 6442450943, 17179869183, 34359738367, 68719476735, 2147483647, 274877906943, 549755813887, 1099511627775, 2199023255551]) (π := [0, 1, 2, 3, 4, 5, 6, 7, 8, 9, 10, 11, 12, 13, 14, 15, 16, 17, 18, 19, 20, 21, 22, 23, 24, 25, 26, 27, 28, 29, 30, 31, 32, 33, 34, 35, 37, 36, 38, 39, 40, 41]) (by kernel_rfl)) ?_
 refine Xe rfl rfl (Zz Xn) Xt ?_
 refine Xe rfl rfl (Xf (off := 0) rfl Tryz.underlying96 rfl inf3.size (by decide) rfl) Xt ?_
 refine Xe rfl rfl (Xl rfl Tryz.underlying3 rfl Xo) Xt ?_
 refine Yk rfl rfl (Xy (In_link _ _) rfl Tryz.func129 rfl rfl rfl ?_)
 rintro v H ⟨rfl, rfl⟩
 refine ⟨Yi, ?_⟩
 refine Xe rfl rfl (Z3 rfl) Xt ?_
 refine Xe rfl rfl (Xq rfl) Xt ?_
 refine Vk rfl rfl rfl rfl ?_ ?_
 intro hg2
 have hna := not_in hg2
 refine X3 rfl (Xg rfl rfl rfl hg2 rfl) ?_
 refine X3 rfl (Xg rfl rfl rfl hg2 rfl) ?_
 refine X3 rfl (Xg rfl rfl rfl hg2 rfl) ?_
 refine X3 rfl (Xg rfl rfl rfl hg2 rfl) ?_
 refine X3 rfl (Xg rfl rfl rfl hg2 rfl) ?_
 refine Xe rfl rfl (Xm (Yu hg2) Xn) Xt ?_
 refine Xe rfl rfl (Xq rfl) Xt ?_
 refine X3 rfl (Xg rfl rfl rfl rfl rfl) ?_
 refine X3 rfl (Xg rfl rfl rfl rfl rfl) ?_
 refine X3 rfl (Xg rfl rfl rfl rfl rfl) ?_
 refine Xe rfl rfl (Xm (congrArg Value.bool Xn) Xn) Xt ?_
 refine Xe rfl rfl (Xq rfl) Xt ?_
 refine X3 rfl (Xg rfl rfl rfl rfl rfl) ?_
 refine X3 rfl (Xg rfl rfl rfl rfl rfl) ?_
 refine X3 rfl (Xg rfl rfl rfl rfl rfl) ?_
 refine Xe rfl rfl (Xm (congrArg Value.bool Xn) Xn) Xt ?_
 refine Xe rfl rfl (Xq rfl) Xt ?_
 refine X3 rfl (Xg rfl rfl rfl rfl rfl) ?_
 refine X3 rfl (Xg rfl rfl rfl rfl rfl) ?_
 refine X3 rfl (Xg rfl rfl rfl rfl rfl) ?_
 refine Xe rfl rfl (Xm (congrArg Value.bool Xn) Xn) Xt ?_
 refine Xe rfl rfl (Xq rfl) Xt ?_
 refine X3 rfl (Xg rfl rfl rfl rfl rfl) ?_
 refine X3 rfl (Xg rfl rfl rfl rfl rfl) ?_
 refine X3 rfl (Xg rfl rfl rfl rfl rfl) ?_
 refine X3 rfl (X6 rfl rfl rfl) ?_
 refine X3 rfl (X6 rfl rfl rfl) ?_
 refine X3 rfl (X6 rfl rfl rfl) ?_
 refine X3 rfl (X6 rfl rfl rfl) ?_
 refine X3 rfl (X6 rfl rfl rfl) ?_
 refine X3 rfl (X6 rfl rfl rfl) ?_
 refine X3 rfl (X6 rfl rfl rfl) ?_
 refine X3 rfl (X6 rfl rfl rfl) ?_
 refine X3 rfl (X6 rfl rfl rfl) ?_
 refine X3 rfl (Xg rfl rfl rfl rfl rfl) ?_
 refine Xe rfl rfl (Xm (congrArg Value.bool Xn) Xn) Xt ?_
 refine Yw rfl rfl ?_
 refine Xc ?_
 refine Xs ?_
 refine Xa (Xi rfl) ?_
 refine X2 ?_
 refine ⟨.bool false, X0 (Xp rfl), false, rfl, fun h => (by cases h), fun hG => ?_⟩
 obtain ⟨⟨g1, g2, g3, g4, g5, g6, g7⟩, g8⟩ := hG i hix
 exfalso
 first
  | exact hna ⟨g1, g2⟩
  | exact hnb ⟨g3, g4⟩
  | (have h9 := (less_key p3 p4 g3 g4).1 (g8 hi0); omega)
  | omega
 intro hg2
 have hya := is_in hg2
 refine Yr rfl (Xh rfl rfl rfl hg2) rfl (Zz Xn) Xt ?_
 refine Yr rfl (Xh rfl rfl rfl hg2) rfl (Xf (off := 1) rfl Tryz.underlying96 rfl inf3.size (by decide) rfl) Xt ?_
 refine Yr rfl (Xh rfl rfl rfl hg2) rfl (Xl rfl Tryz.underlying3 rfl Xo) Xt ?_
 refine adr_wop rfl (Xh rfl rfl rfl hg2) rfl (Xy (In_link _ _) rfl Tryz.func129 rfl rfl rfl ?_)
 rintro v H ⟨rfl, rfl⟩
 refine ⟨Yi, ?_⟩
 refine Yr rfl (Xh rfl rfl rfl hg2) rfl (Z3 rfl) Xt ?_
 refine Xe rfl rfl (Xm (Yu hg2) rfl) Xt ?_
 refine Xe rfl rfl (Xq rfl) Xt ?_
 refine Vk rfl rfl rfl rfl ?_ ?_
 intro hg4
 have hnb := not_in hg4
 refine X3 rfl (Xg rfl rfl rfl hg4 rfl) ?_
 refine X3 rfl (Xg rfl rfl rfl hg4 rfl) ?_
 refine X3 rfl (Xg rfl rfl rfl hg4 rfl) ?_
 refine Xe rfl rfl (Xm (Yu hg4) Xn) Xt ?_
 refine Xe rfl rfl (Xq rfl) Xt ?_
 refine X3 rfl (Xg rfl rfl rfl rfl rfl) ?_
 refine X3 rfl (Xg rfl rfl rfl rfl rfl) ?_
 refine X3 rfl (Xg rfl rfl rfl rfl rfl) ?_
 refine Xe rfl rfl (Xm (congrArg Value.bool Xn) Xn) Xt ?_
 refine Xe rfl rfl (Xq rfl) Xt ?_
 refine X3 rfl (Xg rfl rfl rfl rfl rfl) ?_
 refine X3 rfl (Xg rfl rfl rfl rfl rfl) ?_
 refine X3 rfl (Xg rfl rfl rfl rfl rfl) ?_
 refine Xe rfl rfl (Xm (congrArg Value.bool Xn) Xn) Xt ?_
 refine Xe rfl rfl (Xq rfl) Xt ?_
 refine X3 rfl (Xg rfl rfl rfl rfl rfl) ?_
 refine X3 rfl (Xg rfl rfl rfl rfl rfl) ?_
 refine X3 rfl (Xg rfl rfl rfl rfl rfl) ?_
 refine X3 rfl (X6 rfl rfl rfl) ?_
 refine X3 rfl (X6 rfl rfl rfl) ?_
 refine X3 rfl (X6 rfl rfl rfl) ?_
 refine X3 rfl (X6 rfl rfl rfl) ?_
 refine X3 rfl (X6 rfl rfl rfl) ?_
 refine X3 rfl (X6 rfl rfl rfl) ?_
 refine X3 rfl (X6 rfl rfl rfl) ?_
 refine X3 rfl (X6 rfl rfl rfl) ?_
 refine X3 rfl (X6 rfl rfl rfl) ?_
 refine X3 rfl (Xg rfl rfl rfl rfl rfl) ?_
 refine Xe rfl rfl (Xm (congrArg Value.bool Xn) Xn) Xt ?_
 refine Yw rfl rfl ?_
 refine Xc ?_
 refine Xs ?_
 refine Xa (Xi rfl) ?_
 refine X2 ?_
 refine ⟨.bool false, X0 (Xp rfl), false, rfl, fun h => (by cases h), fun hG => ?_⟩
 obtain ⟨⟨g1, g2, g3, g4, g5, g6, g7⟩, g8⟩ := hG i hix
 exfalso
 first
  | exact hna ⟨g1, g2⟩
  | exact hnb ⟨g3, g4⟩
  | (have h9 := (less_key p3 p4 g3 g4).1 (g8 hi0); omega)
  | omega
 intro hg4
 have hyb := is_in hg4
 refine Yr rfl (Xh rfl rfl rfl hg4) rfl (Xf (off := 2) rfl Tryz.underlying96 rfl inf3.size (by decide) rfl) Xt ?_
 refine Yr rfl (Xh rfl rfl rfl hg4) rfl (Xl rfl Tryz.underlying3 rfl Xo) Xt ?_
 refine Yr rfl (Xh rfl rfl rfl hg4) rfl (Zf rfl rfl) Xt ?_
 refine Xe rfl rfl (Xm (Yu hg4) rfl) Xt ?_
 refine Xe rfl rfl (Xq rfl) Xt ?_
 refine Vk rfl rfl rfl rfl ?_ ?_
 intro hg6
 have hp6 := hg6; try simp only [Y5] at hp6
 refine X3 rfl (Xg rfl rfl rfl hg6 rfl) ?_
 refine X3 rfl (Xg rfl rfl rfl hg6 rfl) ?_
 refine X3 rfl (Xg rfl rfl rfl hg6 rfl) ?_
 refine Xe rfl rfl (Xm (Yu hg6) Xn) Xt ?_
 refine Xe rfl rfl (Xq rfl) Xt ?_
 refine X3 rfl (Xg rfl rfl rfl rfl rfl) ?_
 refine X3 rfl (Xg rfl rfl rfl rfl rfl) ?_
 refine X3 rfl (Xg rfl rfl rfl rfl rfl) ?_
 refine Xe rfl rfl (Xm (congrArg Value.bool Xn) Xn) Xt ?_
 refine Xe rfl rfl (Xq rfl) Xt ?_
 refine X3 rfl (Xg rfl rfl rfl rfl rfl) ?_
 refine X3 rfl (Xg rfl rfl rfl rfl rfl) ?_
 refine X3 rfl (Xg rfl rfl rfl rfl rfl) ?_
 refine X3 rfl (X6 rfl rfl rfl) ?_
 refine X3 rfl (X6 rfl rfl rfl) ?_
 refine X3 rfl (X6 rfl rfl rfl) ?_
 refine X3 rfl (X6 rfl rfl rfl) ?_
 refine X3 rfl (X6 rfl rfl rfl) ?_
 refine X3 rfl (X6 rfl rfl rfl) ?_
 refine X3 rfl (X6 rfl rfl rfl) ?_
 refine X3 rfl (X6 rfl rfl rfl) ?_
 refine X3 rfl (X6 rfl rfl rfl) ?_
 refine X3 rfl (Xg rfl rfl rfl rfl rfl) ?_
 refine Xe rfl rfl (Xm (congrArg Value.bool Xn) Xn) Xt ?_
 refine Yw rfl rfl ?_
 refine Xc ?_
 refine Xs ?_
 refine Xa (Xi rfl) ?_
 refine X2 ?_
 refine ⟨.bool false, X0 (Xp rfl), false, rfl, fun h => (by cases h), fun hG => ?_⟩
 obtain ⟨⟨g1, g2, g3, g4, g5, g6, g7⟩, g8⟩ := hG i hix
 exfalso
 first
  | exact hna ⟨g1, g2⟩
  | exact hnb ⟨g3, g4⟩
  | (have h9 := (less_key p3 p4 g3 g4).1 (g8 hi0); omega)
  | omega
 intro hg6
 have hp6 := hg6; try simp only [Y5] at hp6
 refine Yr rfl (Xh rfl rfl rfl hg6) rfl (Xf (off := 3) rfl Tryz.underlying96 rfl inf30.size (by decide) rfl) Xt ?_
 refine Yr rfl (Xh rfl rfl rfl hg6) rfl (Xl rfl Tryz.underlying30 rfl Xo) Xt ?_
 refine Yr rfl (Xh rfl rfl rfl hg6) rfl (Zf rfl rfl) Xt ?_
 refine Xe rfl rfl (Xm (Yu hg6) rfl) Xt ?_
 refine Xe rfl rfl (Xq rfl) Xt ?_
 refine Vk rfl rfl rfl rfl ?_ ?_
 intro hg8
 have hp8 := hg8; try simp only [Y5] at hp8
 refine X3 rfl (Xg rfl rfl rfl hg8 rfl) ?_
 refine X3 rfl (Xg rfl rfl rfl hg8 rfl) ?_
 refine X3 rfl (Xg rfl rfl rfl hg8 rfl) ?_
 refine Xe rfl rfl (Xm (Yu hg8) Xn) Xt ?_
 refine Xe rfl rfl (Xq rfl) Xt ?_
 refine X3 rfl (Xg rfl rfl rfl rfl rfl) ?_
 refine X3 rfl (Xg rfl rfl rfl rfl rfl) ?_
 refine X3 rfl (Xg rfl rfl rfl rfl rfl) ?_
 refine X3 rfl (X6 rfl rfl rfl) ?_
 refine X3 rfl (X6 rfl rfl rfl) ?_
 refine X3 rfl (X6 rfl rfl rfl) ?_
 refine X3 rfl (X6 rfl rfl rfl) ?_
 refine X3 rfl (X6 rfl rfl rfl) ?_
 refine X3 rfl (X6 rfl rfl rfl) ?_
 refine X3 rfl (X6 rfl rfl rfl) ?_
 refine X3 rfl (X6 rfl rfl rfl) ?_
 refine X3 rfl (X6 rfl rfl rfl) ?_
 refine X3 rfl (Xg rfl rfl rfl rfl rfl) ?_
 refine Xe rfl rfl (Xm (congrArg Value.bool Xn) Xn) Xt ?_
 refine Yw rfl rfl ?_
 refine Xc ?_
 refine Xs ?_
 refine Xa (Xi rfl) ?_
 refine X2 ?_
 refine ⟨.bool false, X0 (Xp rfl), false, rfl, fun h => (by cases h), fun hG => ?_⟩
 obtain ⟨⟨g1, g2, g3, g4, g5, g6, g7⟩, g8⟩ := hG i hix
 exfalso
 first
  | exact hna ⟨g1, g2⟩
  | exact hnb ⟨g3, g4⟩
  | (have h9 := (less_key p3 p4 g3 g4).1 (g8 hi0); omega)
  | omega
 intro hg8
 have hp8 := hg8; try simp only [Y5] at hp8
 refine Yr rfl (Xh rfl rfl rfl hg8) rfl (Xf (off := 3) rfl Tryz.underlying96 rfl inf30.size (by decide) rfl) Xt ?_
 refine Yr rfl (Xh rfl rfl rfl hg8) rfl (Xl rfl Tryz.underlying30 rfl Xo) Xt ?_
 refine Yr rfl (Xh rfl rfl rfl hg8) rfl (av_gt rfl rfl) Xt ?_
 refine Xe rfl rfl (Xm (Yu hg8) rfl) Xt ?_
 refine Xe rfl rfl (Xq rfl) Xt ?_
 refine Vk rfl rfl rfl rfl ?_ ?_
 intro hg10
 have hp10 := hg10; try simp only [Y5] at hp10
 refine X3 rfl (Xg rfl rfl rfl hg10 rfl) ?_
 refine X3 rfl (Xg rfl rfl rfl hg10 rfl) ?_
 refine X3 rfl (Xg rfl rfl rfl hg10 rfl) ?_
 refine X3 rfl (X6 rfl rfl rfl) ?_
 refine X3 rfl (X6 rfl rfl rfl) ?_
 refine X3 rfl (X6 rfl rfl rfl) ?_
 refine X3 rfl (X6 rfl rfl rfl) ?_
 refine X3 rfl (X6 rfl rfl rfl) ?_
 refine X3 rfl (X6 rfl rfl rfl) ?_
 refine X3 rfl (X6 rfl rfl rfl) ?_
 refine X3 rfl (X6 rfl rfl rfl) ?_
 refine X3 rfl (X6 rfl rfl rfl) ?_
 refine X3 rfl (Xg rfl rfl rfl hg10 rfl) ?_
 refine Xe rfl rfl (Xm (Yu hg10) Xn) Xt ?_
 refine Yw rfl rfl ?_
 refine Xc ?_
 refine Xs ?_
 refine Xa (Xi rfl) ?_
 refine X2 ?_
 refine ⟨.bool false, X0 (Xp rfl), false, rfl, fun h => (by cases h), fun hG => ?_⟩
 obtain ⟨⟨g1, g2, g3, g4, g5, g6, g7⟩, g8⟩ := hG i hix
 exfalso
 first
  | exact hna ⟨g1, g2⟩
  | exact hnb ⟨g3, g4⟩
  | (have h9 := (less_key p3 p4 g3 g4).1 (g8 hi0); omega)
  | omega
 intro hg10
 have hp10 := hg10; try simp only [Y5] at hp10
 refine Yr rfl (Xh rfl rfl rfl hg10) rfl (Xb rfl) Xt ?_
 refine Yr rfl (Xh rfl rfl rfl hg10) rfl (av_gt rfl rfl) Xt ?_
 refine Yr rfl (Xh rfl rfl rfl hg10) rfl (Xq rfl) Xt ?_
 refine Vk rfl rfl rfl rfl ?_ ?_
 intro hg12
 have hp12 := hg12; try simp only [Y5] at hp12
 refine Yr rfl (Xh rfl rfl rfl hg12) rfl (X1 Xn) Xt ?_
 refine Yr rfl (Xh rfl rfl rfl hg12) rfl (Xb rfl) Xt ?_
 refine Yr rfl (Xh rfl rfl rfl hg12) rfl (av_sub_is (r := ((i - 1 : Nat) : Int)) rfl rfl (by omega) (by omega)) Xt ?_
 have hi0 : 0 < i := by omega
 have hix1 : i - 1 < xs.length := by omega
 obtain ⟨b2, o2, e2, hb2, hcell2⟩ := (hs.mono hle.sees).link_at hix1
 simp only [Option.some.injEq, Addr.mk.injEq, and_true] at e2
 obtain ⟨rfl, rfl⟩ := e2
 obtain ⟨p1, p2, p3, p4, p5, p6, p7⟩ := (hok (i - 1) hix1 (by omega)).1
 refine Yr rfl (Xh rfl rfl rfl hg12) rfl (Xx rfl rfl Tryz.underlying83 inf96.size Yc Yc) Xt ?_
 refine Yr rfl (Xh rfl rfl rfl hg12) rfl (Yj (cs := [.int .i64 _, .int .i64 _, .int .i64 _, .int .u64 _]) rfl Tryz.underlying96 rfl inf96.size X5) Xt ?_
 refine Yr rfl (Xh rfl rfl rfl hg12) rfl (Yj (cs := [.int .i64 _, .int .i64 _, .int .i64 _, .int .u64 _]) rfl Tryz.underlying96 rfl inf96.size X5) Xt ?_
 refine adr_wop rfl (Xh rfl rfl rfl hg12) rfl (Xy (key_link xs[i - 1] _ p1 p2 p3 p4) rfl Tryz.func130 rfl rfl rfl ?_)
 rintro v H ⟨rfl, rfl⟩
 refine ⟨Yi, ?_⟩
 refine adr_wop rfl (Xh rfl rfl rfl hg12) rfl (Xy (key_link xs[i] _ hya.1 hya.2 hyb.1 hyb.2) rfl Tryz.func130 rfl rfl rfl ?_)
 rintro v H ⟨rfl, rfl⟩
 refine ⟨Yi, ?_⟩
 refine Yr rfl (Xh rfl rfl rfl hg12) rfl (av_ge rfl rfl) Xt ?_
 refine Yr rfl (Xh rfl rfl rfl hg10) rfl (Xm (Yu hg12) rfl) Xt ?_
 refine Xe rfl rfl (Xm (Yu hg10) rfl) Xt ?_
 refine X4 rfl rfl ?_ ?_
 intro hc13
 have hge : keyI xs[i] ≤ keyI (xs[i - 1]'(by omega)) := of_decide_eq_true hc13
 refine Xc ?_
 refine Xs ?_
 refine Xa (Xi rfl) ?_
 refine X2 ?_
 refine ⟨.bool false, X0 (Xp rfl), false, rfl, fun h => (by cases h), fun hG => ?_⟩
 obtain ⟨⟨g1, g2, g3, g4, g5, g6, g7⟩, g8⟩ := hG i hix
 exfalso
 first
  | exact hna ⟨g1, g2⟩
  | exact hnb ⟨g3, g4⟩
  | (have h9 := (less_key p3 p4 g3 g4).1 (g8 hi0); omega)
  | omega
 intro hc13
 have hlt : ¬ keyI xs[i] ≤ keyI (xs[i - 1]'(by omega)) := of_decide_eq_false hc13
 refine X9 ?_
 refine Xs ?_
 refine Xa (Yq Xn Xn Y2) ?_
 refine Xa (Xb rfl) ?_
 refine ⟨xs.length - (i + 1), by omega, i + 1, by omega, rfl, t_le, fun j h h0 => ?_, e0, e3, e6, e7, rfl⟩
 rcases Nat.lt_or_ge j i with h1 | h1
 ·exact hok j h h1
 ·obtain rfl : j = i := by omega
  exact ⟨⟨hya.1, hya.2, hyb.1, hyb.2, by omega, by omega, by omega⟩, fun h2 => by first | omega | exact (less_key p3 p4 hyb.1 hyb.2).2 (by omega)⟩
 intro hg12
 have hp12 := hg12; try simp only [Y5] at hp12
 refine X3 rfl (Xg rfl rfl rfl hg12 rfl) ?_
 refine X3 rfl (Xg rfl rfl rfl hg12 rfl) ?_
 refine X3 rfl (Xg rfl rfl rfl hg12 rfl) ?_
 refine X3 rfl (Xg rfl rfl rfl hg12 rfl) ?_
 refine X3 rfl (Xg rfl rfl rfl hg12 rfl) ?_
 refine X3 rfl (Xg rfl rfl rfl hg12 rfl) ?_
 refine X3 rfl (Xg rfl rfl rfl hg12 rfl) ?_
 refine X3 rfl (Xg rfl rfl rfl hg12 rfl) ?_
 refine X3 rfl (Xg rfl rfl rfl hg12 rfl) ?_
 refine Yr rfl (Xh rfl rfl rfl hg10) rfl (Xm (Yu hg12) Xn) Xt ?_
 refine Xe rfl rfl (Xm (Yu hg10) rfl) Xt ?_
 refine Zg rfl rfl ?_
 refine X9 ?_
 refine Xs ?_
 refine Xa (Yq Xn Xn Y2) ?_
 refine Xa (Xb rfl) ?_
 refine ⟨xs.length - (i + 1), by omega, i + 1, by omega, rfl, t_le, fun j h h0 => ?_, e0, e3, e6, e7, rfl⟩
 rcases Nat.lt_or_ge j i with h1 | h1
 ·exact hok j h h1
 ·obtain rfl : j = i := by omega
  exact ⟨⟨hya.1, hya.2, hyb.1, hyb.2, by omega, by omega, by omega⟩, fun h2 => by first | omega | exact (less_key p3 p4 hyb.1 hyb.2).2 (by omega)⟩
 intro hc1
 (try simp only [Y5] at hc1)
 refine Y3 ?_
 refine Xc ?_
 refine Xs ?_
 refine Xa (Xi rfl) ?_
 refine X2 ?_
 refine ⟨.bool true, X0 (Xp rfl), true, rfl, fun _ j h => hok j h (by omega), fun _ => rfl⟩
theorem PGood_links (xs : List Link) (v : Value) (H : Hp) (hs : Sl kLink H v xs) (hl : xs.length ≤ 9223372036854775807) :
  ACalls Tryz.prog 108 #[v] H (fun r H' => (∃ g, r = .bool g ∧ (g = true ↔ GoodL xs)) ∧ H' = H) :=
 ACalls.pure (fun v ⟨g, h, _⟩ => by rw [h]; rfl) (PGood_raw xs v H.ro (hs.mono H.sees_ro) hl)
theorem Away_link (x : Link) (H : Hp) : ACalls Tryz.prog 107 #[.agg #[.int .i64 x.a, .int .i64 x.b, .int .i64 x.cost, .int .u64 x.n]] H (fun r H' => r = .bool (decide (x.a ≠ x.b)) ∧ H' = H) := by
 refine ACalls.pure (R := fun r => r = .bool (decide (x.a ≠ x.b))) (fun v h => by rw [h]; rfl) ?_
 refine Xu Tryz.func107 rfl rfl rfl (by simp) ?_
 refine Xc ?_
 refine Xs ?_
 refine Xz (Yp rfl) ?_
 refine Xa (Xi rfl) ?_
 refine Xc ?_
 refine Xs ?_
 refine Xa (Xf (off := 0) rfl Tryz.underlying96 rfl inf3.size (by decide) rfl) ?_
 refine Xa (Xl rfl Tryz.underlying3 rfl Xo) ?_
 refine Xa (Xf (off := 1) rfl Tryz.underlying96 rfl inf3.size (by decide) rfl) ?_
 refine Xa (Xl rfl Tryz.underlying3 rfl Xo) ?_
 refine Xa (Vb rfl rfl) ?_
 refine Xa (Xi rfl) ?_
 refine X2 ?_
 exact ⟨_, X0 (Xp rfl), rfl⟩
theorem Index_raw (xs : List Link) (v : Value) (H : Hp) (hs : Sl kLink H v xs) (hl : xs.length ≤ 9223372036854775807) :
  ACalls Tryz.prog 131 #[v, .func (.func 107) #[] #[]] H (fun r _ => ∃ k : Int, r = .int .i64 k ∧ -1 ≤ k ∧ (0 ≤ k ↔ ¬ ∀ x ∈ xs, x.a = x.b)) := by
 obtain ⟨A, c, rfl⟩ := hs.shape
 refine Xu Tryz.func131 rfl rfl rfl (by simp) ?_
 refine Xc ?_
 refine Xs ?_
 refine Xa (Xj rfl) ?_
 refine Xc ?_
 refine Xc ?_
 refine Xs ?_
 refine Xa (X1 rfl) ?_
 refine Xa (Yo rfl Tryz.underlying83) ?_
 refine Xa (Xb rfl) ?_
 refine Yh ?_
 refine Y6 (fun n t H' => ∃ (i : Nat), i ≤ xs.length ∧ n = xs.length - i ∧ H' = H ∧ (∀ x ∈ xs.take i, x.a = x.b) ∧ t 0 = .slice A xs.length c ∧ t 1 = .func (.func 107) #[] #[] ∧ t 7 = .int .i64 xs.length ∧ t 8 = .int .i64 i) (xs.length) (⟨0, by omega, rfl, rfl, by simp, rfl, rfl, rfl, rfl⟩) ?_
 rintro n t _ ⟨i, hi, rfl, rfl, hno, e0, e1, e7, e8⟩
 refine Xc ?_
 refine Xs ?_
 refine Xa (Zf Xn Xn) ?_
 refine Xc ?_
 refine X4 rfl rfl ?_ ?_
 intro hc1
 (try simp only [Y5] at hc1)
 refine X9 ?_
 refine Xc ?_
 refine Yh ?_
 refine Xc ?_
 refine Xs ?_
 refine Xa (Xb Xn) ?_
 refine Xa (Xj rfl) ?_
 refine Xc ?_
 refine Xs ?_
 refine Xa (Zz Xn) ?_
 refine Xa (X1 Xn) ?_
 refine Xa (Xb rfl) ?_
 have hix : i < xs.length := by omega
 obtain ⟨b, o, rfl, hb, hcell1⟩ := hs.link_at hix
 refine Xa (Xx rfl rfl Tryz.underlying83 inf96.size Yc Yc) ?_
 refine Xa (Yj (cs := [.int .i64 _, .int .i64 _, .int .i64 _, .int .u64 _]) rfl Tryz.underlying96 rfl inf96.size X5) ?_
 refine Xv (Xy (Away_link xs[i] _) rfl Tryz.func107 rfl rfl rfl ?_)
 rintro v5 H1 ⟨rfl, rfl⟩
 refine X4 rfl rfl ?_ ?_
 intro hc2
 have hne : xs[i].a ≠ xs[i].b := of_decide_eq_true hc2
 refine Xc ?_
 refine Xs ?_
 refine Xa (Xb rfl) ?_
 refine Xa (Xj rfl) ?_
 refine X2 ?_
 exact ⟨.int .i64 i, X0 (Xp Xn), i, rfl, by omega, fun _ h => hne (h _ (List.getElem_mem hix)), fun _ => by omega⟩
 intro hc2
 have heq : xs[i].a = xs[i].b := Decidable.not_not.1 (of_decide_eq_false hc2)
 refine X9 ?_
 refine Xs ?_
 refine Xa (Yq Xn Xn Y2) ?_
 refine Xa (Xb rfl) ?_
 refine ⟨xs.length - (i + 1), by omega, i + 1, by omega, rfl, rfl, ?_, e0, e1, e7, rfl⟩
 rw [← Zb hix]
 intro x hx
 rcases List.mem_append.1 hx with hx | hx
 ·exact hno x hx
 ·simp at hx; rw [hx]; exact heq
 intro hc1
 (try simp only [Y5] at hc1)
 refine Y3 ?_
 refine Xc ?_
 refine Xs ?_
 refine Xa (Xj rfl) ?_
 refine X2 ?_
 rw [List.take_of_length_le (by omega)] at hno
 exact ⟨.int .i64 (-1), X0 (Xp rfl), -1, rfl, by omega, fun h => by omega, fun h => absurd hno h⟩
theorem Contains_links (xs : List Link) (v : Value) (H : Hp) (hs : Sl kLink H v xs) (hl : xs.length ≤ 9223372036854775807) :
  ACalls Tryz.prog 109 #[v, .func (.func 107) #[] #[]] H (fun r H' => (∃ g, r = .bool g ∧ (g = false ↔ ∀ x ∈ xs, x.a = x.b)) ∧ H' = H) := by
 refine ACalls.pure (R := fun r => ∃ g, r = .bool g ∧ (g = false ↔ ∀ x ∈ xs, x.a = x.b)) (fun v ⟨g, h, _⟩ => by rw [h]; rfl) ?_
 have hs := hs.mono H.sees_ro
 obtain ⟨A, c, rfl⟩ := hs.shape
 refine Xu Tryz.func109 rfl rfl rfl (by simp) ?_
 refine Xc ?_
 refine Xs ?_
 refine Xa (Xi rfl) ?_
 refine Xc ?_
 refine Xs ?_
 refine Xa (X1 rfl) ?_
 refine Xa (Zz rfl) ?_
 refine Xv (Xy (Index_raw xs _ _ hs hl) rfl Tryz.func131 rfl rfl rfl ?_)
 rintro v2 H2 ⟨k, rfl, hk, hk2⟩
 refine Xa (av_ge rfl rfl) ?_
 refine Xa (Xi rfl) ?_
 refine X2 ?_
 refine ⟨_, X0 (Xp rfl), decide (k ≥ 0), rfl, ?_⟩
 rw [decide_eq_false_iff_not]
 exact ⟨fun h => Decidable.not_not.1 fun h2 => h (hk2.2 h2), fun h h2 => hk2.1 h2 h⟩
theorem nodup_len : ∀ (n : Nat) (l : List Int), l.Nodup → (∀ x ∈ l, 0 ≤ x ∧ x < n) → l.length ≤ n
  | 0, l, _, h => by
    cases l with
    | nil => exact Nat.le_refl _
    | cons a l => have := h a List.mem_cons_self; omega
  | n + 1, l, hd, h => by
    have h1 : (l.filter fun x => decide (x ≠ (n : Int))).length ≤ n := nodup_len n _ (hd.filter _) fun x hx => by
      have h2 := List.mem_filter.1 hx
      have h3 := h x h2.1
      have h4 := of_decide_eq_true h2.2
      omega
    have h2 : l.length ≤ (l.filter fun x => decide (x ≠ (n : Int))).length + 1 := by
      clear h1 h
      induction l with
      | nil => simp
      | cons a l ih =>
        obtain ⟨ha, hl⟩ := List.nodup_cons.1 hd
        by_cases e : a = n
        · have : (l.filter fun x => decide (x ≠ (n : Int))) = l := by
            rw [List.filter_eq_self]
            intro x hx
            exact decide_eq_true fun e2 => ha (by rw [e, ← e2]; exact hx)
          rw [List.filter_cons, if_neg (by simp [e]), this]
          exact Nat.le_refl _
        · rw [List.filter_cons, if_pos (by simp [e])]
          have := ih hl
          simp only [List.length_cons]; omega
    omega
theorem GoodF.order_at {f : Forest} (h : GoodF f) {i : Nat} (hi : i < f.vars.length) : f.order.getD i 0 = f.order[i]'(by have := h.l1; omega) := Za _
theorem GoodF.nodup {f : Forest} (h : GoodF f) : f.order.Nodup := by
 rw [List.nodup_iff_pairwise_ne] <;> skip
 rw [List.pairwise_iff_getElem]
 intro i j hi hj hij e
 have h1 := h.l1
 have h3 := (h.ok j (by omega)).2.2.1
 rw [h.order_at (by omega)] at h3
 apply h3
 rw [← e]
 exact List.mem_take_iff_getElem.2 ⟨i, by omega, rfl⟩
theorem GoodF.in_order {f : Forest} (h : GoodF f) {v : Nat} (hv : v < f.vars.length) : (v : Int) ∈ f.order := by
 rcases Classical.em ((v : Int) ∈ f.order) with h1 | h1
 ·exact h1
 ·exfalso
  have h2 := nodup_len f.vars.length ((v : Int) :: f.order) (List.nodup_cons.2 ⟨h1, h.nodup⟩) fun x hx => by
   rcases List.mem_cons.1 hx with rfl | hx
   ·omega
   ·obtain ⟨i, hi, rfl⟩ := List.getElem_of_mem hx
    have hl := h.l1
    have := h.ok i (by omega)
    rw [OkF, h.order_at (by omega)] at this
    exact ⟨this.1, this.2.1⟩
  have := h.l1
  simp at h2
  omega
theorem GoodF.parent_ge {f : Forest} (h : GoodF f) {v : Nat} (hv : v < f.vars.length) : -1 ≤ f.parent.getD v 0 ∧ f.parent.getD v 0 < f.vars.length := by
 obtain ⟨i, hi, e⟩ := List.getElem_of_mem (h.in_order hv)
 have hl := h.l1
 have h4 := (h.ok i (by omega)).2.2.2
 rw [h.order_at (by omega), e] at h4
 rw [Int.toNat_natCast] at h4
 rcases h4 with h4 | h4
 ·omega
 ·obtain ⟨j, hj, e2⟩ := List.getElem_of_mem (List.mem_of_mem_take h4)
  have h5 := h.ok j (by omega)
  rw [OkF, h.order_at (by omega), e2] at h5
  omega
def OkP (f : Forest) (p : Parts) (v : Nat) : Prop := GoodL (p.nodes.getD v []) ∧ GoodL (p.links.getD v []) ∧ (∀ x ∈ p.nodes.getD v [], x.a = x.b) ∧ (f.parent.getD v 0 = -1 → p.links.getD v [] = [])
structure GoodP (f : Forest) (p : Parts) : Prop where
 gf : GoodF f
 n1 : p.nodes.length = f.vars.length
 n2 : p.links.length = f.vars.length
 ok : ∀ v, v < f.vars.length → OkP f p v
theorem Zn {ns : List (List Link)} {i : Nat} (h : i < ns.length) : ns.getD i [] = ns[i] := by rw [List.getD_eq_getElem?_getD, List.getElem?_eq_getElem h]; rfl
structure Small (f : Forest) (p : Parts) : Prop where
 s0 : f.vars.length ≤ 1000000
 s1 : f.order.length ≤ 1000000
 s2 : f.parent.length ≤ 1000000
 s3 : p.nodes.length ≤ 1000000
 s4 : p.links.length ≤ 1000000
 s5 : ∀ l ∈ p.nodes, l.length ≤ 1000000
 s6 : ∀ l ∈ p.links, l.length ≤ 1000000
set_option maxHeartbeats 1000000 in
theorem GoodP_dom_raw (f : Forest) (p : Parts) (cs ds : List Value) (H : Hp) (hp : kForest.rep H f cs) (hq : kParts.rep H p ds) (hsm : Small f p) :
  ACalls Tryz.prog 80 #[.agg cs.toArray, .agg ds.toArray] H (fun r _ => ∃ g, r = .bool g ∧ (g = true ↔ GoodP f p)) := by
 have hp0 := hp
 obtain ⟨z0, z1, z2, z3, z4, z5, z6⟩ := hsm
 obtain ⟨v0, v1, v2, v3, v4, rfl, hs0, hs1, hs2, hs3, hs4⟩ := hp
 obtain ⟨A0, c0, rfl⟩ := hs0.shape
 obtain ⟨A1, c1, rfl⟩ := hs1.shape
 obtain ⟨A2, c2, rfl⟩ := hs2.shape
 obtain ⟨A3, c3, rfl⟩ := hs3.shape
 obtain ⟨A4, c4, rfl⟩ := hs4.shape
 obtain ⟨u0, u1, rfl, hn0, hn1⟩ := hq
 obtain ⟨B0, d0, rfl⟩ := hn0.shape
 obtain ⟨B1, d1, rfl⟩ := hn1.shape
 refine Xu Tryz.func80 rfl rfl rfl (by simp) ?_
 refine Xc ?_
 refine Xs ?_
 refine Xz (Yp rfl) ?_
 refine Xz (Yp rfl) ?_
 refine Xa (Xi rfl) ?_
 refine Xc ?_
 refine Xs ?_
 refine Xa (Xf (off := 0) rfl Tryz.underlying26 rfl inf22.size (by decide) rfl) ?_
 refine Xa (Xl rfl Tryz.underlying22 rfl Xo) ?_
 refine Xa (Yo rfl Tryz.underlying22) ?_
 refine Xa (Xj rfl) ?_
 refine Xc ?_
 refine Xc ?_
 refine Xs ?_
 refine Xa (Yj (cs := [.slice _ _ _, .slice _ _ _, .slice _ _ _, .slice _ _ _, .slice _ _ _]) rfl Tryz.underlying26 rfl inf26.size X5) ?_
 refine Xv (Xy (GoodF_For f _ _ (kForest.mono Zh hp0) z0 z1 z2) rfl Tryz.func106 rfl rfl rfl ?_)
 rintro v2 H2 ⟨⟨g, rfl, hg⟩, hH2⟩; subst hH2
 refine Xa (Z3 rfl) ?_
 refine Xa (Xq rfl) ?_
 refine Yb rfl rfl rfl ?_ ?_
 intro hg1
 have hgf : ¬ GoodF f := fun h => by rw [hg.2 h] at hg1; cases hg1
 refine Xd (Xg rfl rfl rfl hg1 rfl) ?_
 refine Xd (Xg rfl rfl rfl hg1 rfl) ?_
 refine Xd (Xg rfl rfl rfl hg1 rfl) ?_
 refine Xd (Xg rfl rfl rfl hg1 rfl) ?_
 refine Xd (Xg rfl rfl rfl hg1 rfl) ?_
 refine Xa (Xm (Yu hg1) rfl) ?_
 refine Xa (Xq rfl) ?_
 refine Xd (Xg rfl rfl rfl rfl rfl) ?_
 refine Xd (Xg rfl rfl rfl rfl rfl) ?_
 refine Xd (Xg rfl rfl rfl rfl rfl) ?_
 refine Xd (Xg rfl rfl rfl rfl rfl) ?_
 refine Xd (Xg rfl rfl rfl rfl rfl) ?_
 refine Xa (Xm (congrArg Value.bool rfl) rfl) ?_
 refine Yw rfl rfl ?_
 refine Xc ?_
 refine Xs ?_
 refine Xa (Xi rfl) ?_
 refine X2 ?_
 refine ⟨.bool false, X0 (Xp rfl), false, rfl, fun h => (by cases h), fun hG => ?_⟩
 exfalso
 have q1 := hG.n1
 have q2 := hG.n2
 first | exact hgf hG.gf | omega
 intro hg1
 have hgt : GoodF f := hg.1 (by simpa using hg1)
 refine Xk (Xh rfl rfl rfl hg1) (Xf (off := 0) rfl Tryz.underlying29 rfl inf27.size (by decide) rfl) ?_
 refine Xk (Xh rfl rfl rfl hg1) (Xl rfl Tryz.underlying27 rfl Xo) ?_
 refine Xk (Xh rfl rfl rfl hg1) (Yo rfl Tryz.underlying27) ?_
 refine Xk (Xh rfl rfl rfl hg1) (Xb rfl) ?_
 refine Xk (Xh rfl rfl rfl hg1) (Vb rfl rfl) ?_
 refine Xa (Xm (Yu hg1) rfl) ?_
 refine Xa (Xq rfl) ?_
 refine Yb rfl rfl rfl ?_ ?_
 intro hg3
 have hp3 := hg3; try simp only [Y5] at hp3
 refine Xd (Xg rfl rfl rfl hg3 rfl) ?_
 refine Xd (Xg rfl rfl rfl hg3 rfl) ?_
 refine Xd (Xg rfl rfl rfl hg3 rfl) ?_
 refine Xd (Xg rfl rfl rfl hg3 rfl) ?_
 refine Xd (Xg rfl rfl rfl hg3 rfl) ?_
 refine Xa (Xm (Yu hg3) rfl) ?_
 refine Yw rfl rfl ?_
 refine Xc ?_
 refine Xs ?_
 refine Xa (Xi rfl) ?_
 refine X2 ?_
 refine ⟨.bool false, X0 (Xp rfl), false, rfl, fun h => (by cases h), fun hG => ?_⟩
 exfalso
 have q1 := hG.n1
 have q2 := hG.n2
 first | exact hgf hG.gf | omega
 intro hg3
 have hp3 := hg3; try simp only [Y5] at hp3
 refine Xk (Xh rfl rfl rfl hg3) (Xf (off := 1) rfl Tryz.underlying29 rfl inf27.size (by decide) rfl) ?_
 refine Xk (Xh rfl rfl rfl hg3) (Xl rfl Tryz.underlying27 rfl Xo) ?_
 refine Xk (Xh rfl rfl rfl hg3) (Yo rfl Tryz.underlying27) ?_
 refine Xk (Xh rfl rfl rfl hg3) (Xb rfl) ?_
 refine Xk (Xh rfl rfl rfl hg3) (Vb rfl rfl) ?_
 refine Xa (Xm (Yu hg3) rfl) ?_
 refine X4 rfl rfl ?_ ?_
 intro hc5
 (try simp only [Y5] at hc5)
 refine Xc ?_
 refine Xs ?_
 refine Xa (Xi rfl) ?_
 refine X2 ?_
 refine ⟨.bool false, X0 (Xp rfl), false, rfl, fun h => (by cases h), fun hG => ?_⟩
 exfalso
 have q1 := hG.n1
 have q2 := hG.n2
 first | exact hgf hG.gf | omega
 intro hc5
 have hlen : p.nodes.length = f.vars.length ∧ p.links.length = f.vars.length := by
  have hc5' := of_decide_eq_false hc5
  constructor <;> omega
 refine X9 ?_
 refine Xc ?_
 refine Xc ?_
 refine Xs ?_
 refine Xa (Xf (off := 0) rfl Tryz.underlying26 rfl inf22.size (by decide) rfl) ?_
 refine Xa (Xl rfl Tryz.underlying22 rfl Xo) ?_
 refine Xa (Yo rfl Tryz.underlying22) ?_
 refine Xa (Xb rfl) ?_
 refine Yh ?_
 refine Y6 (fun n t H' => ∃ (i : Nat), i ≤ f.vars.length ∧ n = f.vars.length - i ∧ H' = (H.push (.own 0 [.slice A0 f.vars.length c0, .slice A1 f.order.length c1, .slice A2 f.parent.length c2, .slice A3 f.links.length c3, .slice A4 f.loops.length c4])).push (.own 0 [.slice B0 p.nodes.length d0, .slice B1 p.links.length d1]) ∧ (∀ j, j < i → OkP f p j) ∧ t 2 = .pointer (some ⟨H.size, 0, none⟩) ∧ t 3 = .pointer (some ⟨H.size + 1, 0, none⟩) ∧ t 5 = .int .i64 f.vars.length ∧ t 30 = .int .i64 f.vars.length ∧ t 31 = .int .i64 i) (f.vars.length) (⟨0, by omega, rfl, rfl, fun j h => by omega, rfl, rfl, rfl, rfl, rfl⟩) ?_
 rintro n t _ ⟨i, hi, rfl, rfl, hok, e2, e3, e5, e30, e31⟩
 refine Xc ?_
 refine Xs ?_
 refine Xa (Zf Xn Xn) ?_
 refine Xc ?_
 refine X4 rfl rfl ?_ ?_
 intro hc6
 (try simp only [Y5] at hc6)
 refine X9 ?_
 refine Xc ?_
 refine Yh ?_
 refine Xc ?_
 refine Xs ?_
 refine Xa (Xb Xn) ?_
 refine Xa (Xj rfl) ?_
 refine Xc ?_
 refine Xs ?_
 refine Xa (V8 rfl) ?_
 refine Xc ?_
 have hpl := hgt.l2
 have hix : i < f.vars.length := by omega
 have hseS := (Hp.le_push' (H.le_push (.own 0 [.slice A0 f.vars.length c0, .slice A1 f.order.length c1, .slice A2 f.parent.length c2, .slice A3 f.links.length c3, .slice A4 f.loops.length c4])) (.own 0 [.slice B0 p.nodes.length d0, .slice B1 p.links.length d1])).sees
 have hixn : i < p.nodes.length := by omega
 have hixl : i < p.links.length := by omega
 obtain ⟨b, o, ks, rfl, hb, ⟨w0, rfl, hw0⟩, hcell0⟩ := (hn0.mono hseS).elem_at hixn
 obtain ⟨b1, o1, ks1, rfl, hb1, ⟨w1, rfl, hw1⟩, hcell1⟩ := (hn1.mono hseS).elem_at hixl
 have hcell0' := hcell0.one
 have hcell1' := hcell1.one
 obtain ⟨A6, c6, rfl⟩ := hw0.shape
 obtain ⟨A7, c7, rfl⟩ := hw1.shape
 obtain ⟨b2, o2, rfl, hb2, hcell2⟩ := (hs2.mono hseS).int_at (i := (i : Int)) (by omega) (by have := hgt.l2; omega)
 rw [Int.toNat_natCast] at hcell2
 have hzn := z5 _ (List.getElem_mem hixn)
 have hzl := z6 _ (List.getElem_mem hixl)
 have gn := Zn hixn
 have gl := Zn hixl
 refine Xs ?_
 refine Xa (Xf (off := 0) Xn Tryz.underlying29 Xn inf27.size (by decide) Xn) ?_
 refine Xa (Xl rfl Tryz.underlying27 rfl Xo) ?_
 refine Xa (Xb rfl) ?_
 refine Xa (Xx rfl rfl Tryz.underlying27 inf83.size Yc Yc) ?_
 refine Xa (Xl rfl Tryz.underlying83 rfl Xo) ?_
 refine Xv (Xy (PGood_links p.nodes[i] _ _ hw0 (by omega)) rfl Tryz.func108 rfl rfl rfl ?_)
 rintro v5 H5 ⟨⟨g1, rfl, hg1⟩, hH5⟩; subst hH5
 refine Xa (Z3 rfl) ?_
 refine Xa (Xq rfl) ?_
 refine Yb rfl rfl rfl ?_ ?_
 intro hg7
 have hno : ¬ GoodL p.nodes[i] := fun h => by rw [hg1.2 h] at hg7; cases hg7
 refine Xd (Xg rfl rfl rfl hg7 rfl) ?_
 refine Xd (Xg rfl rfl rfl hg7 rfl) ?_
 refine Xd (Xg rfl rfl rfl hg7 rfl) ?_
 refine Xd (Xg rfl rfl rfl hg7 rfl) ?_
 refine Xd (Xg rfl rfl rfl hg7 rfl) ?_
 refine Xd (Xg rfl rfl rfl hg7 rfl) ?_
 refine Xd (Xg rfl rfl rfl hg7 rfl) ?_
 refine Xa (Xm (Yu hg7) Xn) ?_
 refine Xa (Xq rfl) ?_
 refine Xd (Xg rfl rfl rfl rfl rfl) ?_
 refine Xd (Xg rfl rfl rfl rfl rfl) ?_
 refine Xd (Xg rfl rfl rfl rfl rfl) ?_
 refine Xd (Xg rfl rfl rfl rfl rfl) ?_
 refine Xd (Xg rfl rfl rfl rfl rfl) ?_
 refine Xd (Xg rfl rfl rfl rfl rfl) ?_
 refine Xd (Xg rfl rfl rfl rfl rfl) ?_
 refine Xa (Xm (congrArg Value.bool Xn) Xn) ?_
 refine Xa (Xq rfl) ?_
 refine Xd (Xg rfl rfl rfl rfl rfl) ?_
 refine Xd (Xg rfl rfl rfl rfl rfl) ?_
 refine Xd (Xg rfl rfl rfl rfl rfl) ?_
 refine Xd (Xg rfl rfl rfl rfl rfl) ?_
 refine Xd (Xg rfl rfl rfl rfl rfl) ?_
 refine Xd (Xg rfl rfl rfl rfl rfl) ?_
 refine Xd (Xg rfl rfl rfl rfl rfl) ?_
 refine Xd (X6 rfl rfl rfl) ?_
 refine Xd (X6 rfl rfl rfl) ?_
 refine Xd (X6 rfl rfl rfl) ?_
 refine Xd (X6 rfl rfl rfl) ?_
 refine Xd (X6 rfl rfl rfl) ?_
 refine Xd (X6 rfl rfl rfl) ?_
 refine Xd (X6 rfl rfl rfl) ?_
 refine Xd (Xg rfl rfl rfl rfl rfl) ?_
 refine Xa (Xm (congrArg Value.bool Xn) Xn) ?_
 refine Yw rfl rfl ?_
 refine Xc ?_
 refine Xs ?_
 refine Xa (Xi rfl) ?_
 refine X2 ?_
 refine ⟨.bool false, X0 (Xp rfl), false, rfl, fun h => (by cases h), fun hG => ?_⟩
 obtain ⟨q1, q2, q3, q4⟩ := hG.ok i hix
 rw [gn] at q1 q3
 rw [gl] at q2 q4
 exfalso
 first | exact hno q1 | exact hno q2 | exact hno q3 | (rw [q4 hpar] at hll; simp at hll)
 intro hg7
 have hgn : GoodL p.nodes[i] := hg1.1 (by simpa using hg7)
 refine Xk (Xh rfl rfl rfl hg7) (Xf (off := 1) Xn Tryz.underlying29 Xn inf27.size (by decide) Xn) ?_
 refine Xk (Xh rfl rfl rfl hg7) (Xl rfl Tryz.underlying27 rfl Xo) ?_
 refine Xk (Xh rfl rfl rfl hg7) (Xb rfl) ?_
 refine Xk (Xh rfl rfl rfl hg7) (Xx rfl rfl Tryz.underlying27 inf83.size Yc Yc) ?_
 refine Xk (Xh rfl rfl rfl hg7) (Xl rfl Tryz.underlying83 rfl Xo) ?_
 refine Vg (Xh rfl rfl rfl hg7) (Xy (PGood_links p.links[i] _ _ hw1 (by omega)) rfl Tryz.func108 rfl rfl rfl ?_)
 rintro v6 H6 ⟨⟨g2, rfl, hg2⟩, hH6⟩; subst hH6
 refine Xk (Xh rfl rfl rfl hg7) (Z3 rfl) ?_
 refine Xa (Xm (Yu hg7) rfl) ?_
 refine Xa (Xq rfl) ?_
 refine Yb rfl rfl rfl ?_ ?_
 intro hg9
 have hno : ¬ GoodL p.links[i] := fun h => by rw [hg2.2 h] at hg9; cases hg9
 refine Xd (Xg rfl rfl rfl hg9 rfl) ?_
 refine Xd (Xg rfl rfl rfl hg9 rfl) ?_
 refine Xd (Xg rfl rfl rfl hg9 rfl) ?_
 refine Xd (Xg rfl rfl rfl hg9 rfl) ?_
 refine Xd (Xg rfl rfl rfl hg9 rfl) ?_
 refine Xd (Xg rfl rfl rfl hg9 rfl) ?_
 refine Xd (Xg rfl rfl rfl hg9 rfl) ?_
 refine Xa (Xm (Yu hg9) Xn) ?_
 refine Xa (Xq rfl) ?_
 refine Xd (Xg rfl rfl rfl rfl rfl) ?_
 refine Xd (Xg rfl rfl rfl rfl rfl) ?_
 refine Xd (Xg rfl rfl rfl rfl rfl) ?_
 refine Xd (Xg rfl rfl rfl rfl rfl) ?_
 refine Xd (Xg rfl rfl rfl rfl rfl) ?_
 refine Xd (Xg rfl rfl rfl rfl rfl) ?_
 refine Xd (Xg rfl rfl rfl rfl rfl) ?_
 refine Xd (X6 rfl rfl rfl) ?_
 refine Xd (X6 rfl rfl rfl) ?_
 refine Xd (X6 rfl rfl rfl) ?_
 refine Xd (X6 rfl rfl rfl) ?_
 refine Xd (X6 rfl rfl rfl) ?_
 refine Xd (X6 rfl rfl rfl) ?_
 refine Xd (X6 rfl rfl rfl) ?_
 refine Xd (Xg rfl rfl rfl rfl rfl) ?_
 refine Xa (Xm (congrArg Value.bool Xn) Xn) ?_
 refine Yw rfl rfl ?_
 refine Xc ?_
 refine Xs ?_
 refine Xa (Xi rfl) ?_
 refine X2 ?_
 refine ⟨.bool false, X0 (Xp rfl), false, rfl, fun h => (by cases h), fun hG => ?_⟩
 obtain ⟨q1, q2, q3, q4⟩ := hG.ok i hix
 rw [gn] at q1 q3
 rw [gl] at q2 q4
 exfalso
 first | exact hno q1 | exact hno q2 | exact hno q3 | (rw [q4 hpar] at hll; simp at hll)
 intro hg9
 have hgl : GoodL p.links[i] := hg2.1 (by simpa using hg9)
 refine Xk (Xh rfl rfl rfl hg9) (Xf (off := 0) Xn Tryz.underlying29 Xn inf27.size (by decide) Xn) ?_
 refine Xk (Xh rfl rfl rfl hg9) (Xl rfl Tryz.underlying27 rfl Xo) ?_
 refine Xk (Xh rfl rfl rfl hg9) (Xb rfl) ?_
 refine Xk (Xh rfl rfl rfl hg9) (Xx rfl rfl Tryz.underlying27 inf83.size Yc Yc) ?_
 refine Xk (Xh rfl rfl rfl hg9) (Xl rfl Tryz.underlying83 rfl Xo) ?_
 refine Xk (Xh rfl rfl rfl hg9) (Zz rfl) ?_
 refine Vg (Xh rfl rfl rfl hg9) (Xy (Contains_links p.nodes[i] _ _ hw0 (by omega)) rfl Tryz.func109 rfl rfl rfl ?_)
 rintro v7 H7 ⟨⟨g3, rfl, hg3⟩, hH7⟩; subst hH7
 refine Xa (Xm (Yu hg9) rfl) ?_
 refine Xa (Xq rfl) ?_
 refine Yb rfl rfl rfl ?_ ?_
 intro hg11
 have hno : ¬ ∀ x ∈ p.nodes[i], x.a = x.b := fun h => by rw [hg3.2 h] at hg11; cases hg11
 refine Xd (Xg rfl rfl rfl hg11 rfl) ?_
 refine Xd (Xg rfl rfl rfl hg11 rfl) ?_
 refine Xd (Xg rfl rfl rfl hg11 rfl) ?_
 refine Xd (Xg rfl rfl rfl hg11 rfl) ?_
 refine Xd (Xg rfl rfl rfl hg11 rfl) ?_
 refine Xd (Xg rfl rfl rfl hg11 rfl) ?_
 refine Xd (Xg rfl rfl rfl hg11 rfl) ?_
 refine Xd (X6 rfl rfl rfl) ?_
 refine Xd (X6 rfl rfl rfl) ?_
 refine Xd (X6 rfl rfl rfl) ?_
 refine Xd (X6 rfl rfl rfl) ?_
 refine Xd (X6 rfl rfl rfl) ?_
 refine Xd (X6 rfl rfl rfl) ?_
 refine Xd (X6 rfl rfl rfl) ?_
 refine Xd (Xg rfl rfl rfl hg11 rfl) ?_
 refine Xa (Xm (Yu hg11) Xn) ?_
 refine Yw rfl rfl ?_
 refine Xc ?_
 refine Xs ?_
 refine Xa (Xi rfl) ?_
 refine X2 ?_
 refine ⟨.bool false, X0 (Xp rfl), false, rfl, fun h => (by cases h), fun hG => ?_⟩
 obtain ⟨q1, q2, q3, q4⟩ := hG.ok i hix
 rw [gn] at q1 q3
 rw [gl] at q2 q4
 exfalso
 first | exact hno q1 | exact hno q2 | exact hno q3 | (rw [q4 hpar] at hll; simp at hll)
 intro hg11
 have haw : ∀ x ∈ p.nodes[i], x.a = x.b := hg3.1 hg11
 refine Xk (Xh rfl rfl rfl hg11) (Xf (off := 2) Xn Tryz.underlying26 Xn inf23.size (by decide) Xn) ?_
 refine Xk (Xh rfl rfl rfl hg11) (Xl rfl Tryz.underlying23 rfl Xo) ?_
 refine Xk (Xh rfl rfl rfl hg11) (Xb rfl) ?_
 refine Xk (Xh rfl rfl rfl hg11) (Xx rfl rfl Tryz.underlying23 inf3.size Yc Yc) ?_
 refine Xk (Xh rfl rfl rfl hg11) (Xl rfl Tryz.underlying3 rfl Xo) ?_
 refine Xk (Xh rfl rfl rfl hg11) (Zs rfl rfl) ?_
 refine Xk (Xh rfl rfl rfl hg11) (Xq rfl) ?_
 refine Yb rfl rfl rfl ?_ ?_
 intro hg13
 have hpar : f.parent.getD i 0 = -1 := of_decide_eq_true hg13
 refine Xk (Xh rfl rfl rfl hg13) (Xf (off := 1) Xn Tryz.underlying29 Xn inf27.size (by decide) Xn) ?_
 refine Xk (Xh rfl rfl rfl hg13) (Xl rfl Tryz.underlying27 rfl Xo) ?_
 refine Xk (Xh rfl rfl rfl hg13) (Xb rfl) ?_
 refine Xk (Xh rfl rfl rfl hg13) (Xx rfl rfl Tryz.underlying27 inf83.size Yc Yc) ?_
 refine Xk (Xh rfl rfl rfl hg13) (Xl rfl Tryz.underlying83 rfl Xo) ?_
 refine Xk (Xh rfl rfl rfl hg13) (Yo rfl Tryz.underlying83) ?_
 refine Xk (Xh rfl rfl rfl hg13) (av_gt rfl rfl) ?_
 refine Xk (Xh rfl rfl rfl hg11) (Xm (Yu hg13) rfl) ?_
 refine Xa (Xm (Yu hg11) rfl) ?_
 refine X4 rfl rfl ?_ ?_
 intro hc14
 have hll : 0 < p.links[i].length := by have := of_decide_eq_true hc14; omega
 refine Xc ?_
 refine Xs ?_
 refine Xa (Xi rfl) ?_
 refine X2 ?_
 refine ⟨.bool false, X0 (Xp rfl), false, rfl, fun h => (by cases h), fun hG => ?_⟩
 obtain ⟨q1, q2, q3, q4⟩ := hG.ok i hix
 rw [gn] at q1 q3
 rw [gl] at q2 q4
 exfalso
 first | exact hno q1 | exact hno q2 | exact hno q3 | (rw [q4 hpar] at hll; simp at hll)
 intro hc14
 have hll : p.links[i] = [] := List.eq_nil_of_length_eq_zero (by have := of_decide_eq_false hc14; omega)
 refine X9 ?_
 refine Xs ?_
 refine Xa (Yq Xn Xn Y2) ?_
 refine Xa (Xb rfl) ?_
 refine ⟨f.vars.length - (i + 1), by omega, i + 1, by omega, rfl, rfl, fun j h => ?_, e2, e3, e5, e30, rfl⟩
 rcases Nat.lt_or_ge j i with h1 | h1
 ·exact hok j h1
 ·obtain rfl : j = i := by omega
  exact ⟨by rw [gn]; exact hgn, by rw [gl]; exact hgl, by rw [gn]; exact haw, fun h => by rw [gl]; first | exact hll | exact absurd h hpar⟩
 intro hg13
 have hpar : ¬ f.parent.getD i 0 = -1 := of_decide_eq_false hg13
 refine Xd (Xg rfl rfl rfl hg13 rfl) ?_
 refine Xd (Xg rfl rfl rfl hg13 rfl) ?_
 refine Xd (Xg rfl rfl rfl hg13 rfl) ?_
 refine Xd (Xg rfl rfl rfl hg13 rfl) ?_
 refine Xd (Xg rfl rfl rfl hg13 rfl) ?_
 refine Xd (Xg rfl rfl rfl hg13 rfl) ?_
 refine Xd (Xg rfl rfl rfl hg13 rfl) ?_
 refine Xk (Xh rfl rfl rfl hg11) (Xm (Yu hg13) Xn) ?_
 refine Xa (Xm (Yu hg11) rfl) ?_
 refine Zg rfl rfl ?_
 refine X9 ?_
 refine Xs ?_
 refine Xa (Yq Xn Xn Y2) ?_
 refine Xa (Xb rfl) ?_
 refine ⟨f.vars.length - (i + 1), by omega, i + 1, by omega, rfl, rfl, fun j h => ?_, e2, e3, e5, e30, rfl⟩
 rcases Nat.lt_or_ge j i with h1 | h1
 ·exact hok j h1
 ·obtain rfl : j = i := by omega
  exact ⟨by rw [gn]; exact hgn, by rw [gl]; exact hgl, by rw [gn]; exact haw, fun h => by rw [gl]; first | exact hll | exact absurd h hpar⟩
 intro hc6
 (try simp only [Y5] at hc6)
 refine Y3 ?_
 refine Xc ?_
 refine Xs ?_
 refine Xa (Xi rfl) ?_
 refine X2 ?_
 exact ⟨.bool true, X0 (Xp rfl), true, rfl, fun _ => ⟨hgt, hlen.1, hlen.2, fun j h => hok j (by omega)⟩, fun _ => rfl⟩
theorem GoodP_dom (f : Forest) (p : Parts) (cs ds : List Value) (H : Hp) (hp : kForest.rep H f cs) (hq : kParts.rep H p ds) (hsm : Small f p) :
  ACalls Tryz.prog 80 #[.agg cs.toArray, .agg ds.toArray] H (fun r H' => (∃ g, r = .bool g ∧ (g = true ↔ GoodP f p)) ∧ H' = H) :=
 ACalls.pure (fun v ⟨g, h, _⟩ => by rw [h]; rfl) (GoodP_dom_raw f p cs ds H.ro (kForest.mono H.sees_ro hp) (kParts.mono H.sees_ro hq) hsm)
def atI (xs : List Int) (v : Int) : Int := match xs.findIdx? (fun x => decide (x = v)) with
 | some i => i
 | none => -1
theorem atI_some {xs : List Int} {v : Int} {i : Nat} (hi : i < xs.length) (h : xs[i] = v) (hno : v ∉ xs.take i) : atI xs v = i := by
 unfold atI
 have : xs.findIdx? (fun x => decide (x = v)) = some i := by
  rw [List.findIdx?_eq_some_iff_getElem]
  refine ⟨hi, decide_eq_true h, fun j hj => ?_⟩
  have : xs[j] ≠ v := fun e => hno (List.mem_take_iff_getElem.2 ⟨j, by omega, e⟩)
  simp [this]
 rw [this]
theorem atI_none {xs : List Int} {v : Int} (hno : v ∉ xs) : atI xs v = -1 := by
 unfold atI
 have : xs.findIdx? (fun x => decide (x = v)) = none := by
  rw [List.findIdx?_eq_none_iff]; intro x hx; simp; intro e; exact hno (e ▸ hx)
 rw [this]

theorem mid_val {i j n : Nat} (h : i ≤ j) (h2 : j ≤ n) (hn : n ≤ 4611686018427387904) : Value.int .i64 (IntKind.i64.wrap ((IntKind.u64.wrap ((i : Int) + j)).fdiv (2 ^ min (1 : Int).toNat IntKind.u64.bits))) = .int .i64 (((i + j) / 2 : Nat) : Int) := by
 have e1 : IntKind.u64.wrap ((i : Int) + j) = ((i + j : Nat) : Int) := by simp [IntKind.wrap, IntKind.bits, IntKind.signed]; omega
 have e2 : (((i + j : Nat) : Int)).fdiv (2 ^ min (1 : Int).toNat IntKind.u64.bits) = (((i + j) / 2 : Nat) : Int) := by
  show (((i + j : Nat) : Int)).fdiv 2 = _
  rw [Int.fdiv_eq_ediv_of_nonneg _ (by omega)]
  omega
 rw [e1, e2]
 congr 1
 simp [IntKind.wrap, IntKind.bits, IntKind.signed]; omega
theorem Search_gen (n : Nat) (g : FuncId) (fn : Func) (binds : Array Value) (p : Nat → Bool) (H : Hp) (hf : Tryz.prog.funcs[g]? = some fn) (hb : fn.body.isSome = true) (hnm : (fn.name == "runtime.NumGoroutine") = false)
  (hp : ∀ i, i < n → ACalls Tryz.prog g (#[.int .i64 (i : Nat)] ++ binds) H (fun r H' => r = .bool (p i) ∧ H' = H)) (hmono : ∀ i j, i ≤ j → j < n → p i = true → p j = true) (hn : n ≤ 4611686018427387904) :
  ACalls Tryz.prog 82 #[.int .i64 n, .func (.func g) #[] binds] H (fun r H' => (∃ k : Nat, r = .int .i64 k ∧ k ≤ n ∧ (∀ i, i < k → p i = false) ∧ ∀ i, k ≤ i → i < n → p i = true) ∧ H' = H) := by
 refine Xu Tryz.func82 rfl rfl rfl (by simp) ?_
 refine Xc ?_
 refine Xs ?_
 refine Xa (Xj rfl) ?_
 refine Xc ?_
 refine Xs ?_
 refine Xa (Xb rfl) ?_
 refine Xa (Xj rfl) ?_
 refine Xa (Xj rfl) ?_
 refine Xc ?_
 refine Yh ?_
 refine Y6 (fun m t H' => ∃ (i j : Nat), i ≤ j ∧ j ≤ n ∧ m = j - i ∧ H' = H ∧ (∀ x, x < i → p x = false) ∧ (∀ x, j ≤ x → x < n → p x = true) ∧ t 1 = .func (.func g) #[] binds ∧ t 5 = .int .i64 i ∧ t 6 = .int .i64 j) (n) (⟨0, n, Nat.zero_le _, Nat.le_refl _, by omega, rfl, fun x h => by omega, fun x h h2 => by omega, rfl, rfl, rfl⟩) ?_
 rintro m t _ ⟨i, j, hij, hjn, rfl, rfl, hlo, hhi, e1, e5, e6⟩
 refine Xc ?_
 refine Xc ?_
 refine Xs ?_
 refine Xa (Xb Xn) ?_
 refine Xa (Xb Xn) ?_
 refine Xa (Zf rfl rfl) ?_
 refine X4 rfl rfl ?_ ?_
 intro hc1
 (try simp only [Y5] at hc1)
 refine X9 ?_
 refine Yh ?_
 refine Xc ?_
 refine Xs ?_
 refine Xa (Xb Xn) ?_
 refine Xa (Xb Xn) ?_
 refine Xa (Yq rfl rfl Y2) ?_
 refine Xa (av_conv rfl (by rw [Tryz.underlying3]; rfl) Tryz.underlying157) ?_
 refine Xa (av_shr rfl rfl (by omega)) ?_
 refine Xa (av_conv rfl (by rw [Tryz.underlying157]; rfl) Tryz.underlying3) ?_
 refine Xa (Xj (n := (((i + j) / 2 : Nat) : Int)) (mid_val hij hjn hn)) ?_
 have hm1 : i ≤ (i + j) / 2 := by omega
 have hm2 : (i + j) / 2 < j := by omega
 refine Xc ?_
 refine Xs ?_
 refine Xa (Zz Xn) ?_
 refine Xa (Xb rfl) ?_
 refine Xv (Xy (hp ((i + j) / 2) (by omega)) rfl hf hb hnm (by simp; rfl) ?_)
 rintro v H' ⟨rfl, rfl⟩
 refine Xa (Z3 rfl) ?_
 refine X4 rfl rfl ?_ ?_
 intro hc2
 have hc : p ((i + j) / 2) = false := by simpa using hc2
 refine Xs ?_
 refine Xa (Xb rfl) ?_
 refine Xa (Yq rfl rfl Y2) ?_
 refine Xa (Xj rfl) ?_
 have hlo2 : ∀ x, x < (i + j) / 2 + 1 → p x = false := fun x h => by
  cases hx : p x with
  | false => rfl
  | true =>
   have := hmono x ((i + j) / 2) (by omega) (by omega) hx
   rw [hc] at this; cases this
 exact ⟨j - ((i + j) / 2 + 1), by omega, (i + j) / 2 + 1, j, by omega, hjn, rfl, rfl, hlo2, hhi, e1, rfl, e6⟩
 intro hc2
 have hc : p ((i + j) / 2) = true := by simpa using hc2
 refine Xs ?_
 refine Xa (Xb rfl) ?_
 refine Xa (Xj rfl) ?_
 exact ⟨(i + j) / 2 - i, by omega, i, (i + j) / 2, by omega, by omega, rfl, rfl, hlo, fun x h h2 => hmono _ x h h2 hc, e1, e5, rfl⟩
 intro hc1
 (try simp only [Y5] at hc1)
 refine Y3 ?_
 refine Xc ?_
 refine Xs ?_
 refine Xa (Xb Xn) ?_
 refine Xa (Xj rfl) ?_
 refine X2 ?_
 exact ⟨.int .i64 i, X0 (Xp Xn), ⟨i, rfl, by omega, hlo, fun x h h2 => hhi x (by omega) h2⟩, rfl⟩
def V5 (xs : List Link) (second : Bool) : List Int := Lib.compact ((xs.map fun x => if second then x.b else x.a).mergeSort fun x y => decide (x ≤ y))
theorem Ends_links (xs : List Link) (v : Value) (second : Bool) (H : Hp) (hs : Sl kLink H v xs) (hl : xs.length ≤ 1000000) :
  ACalls Tryz.prog 135 #[v, .bool second] H (fun r H' => ∃ G', H.le G' ∧ OwnP (Yv .i64) G' H' r (V5 xs second)) := by
 obtain ⟨A, c, rfl⟩ := hs.shape
 refine Xu Tryz.func135 rfl rfl rfl (by simp) ?_
 refine Xc ?_
 refine Xs ?_
 refine Xa (X8 rfl) ?_
 refine Xc ?_
 refine Xs ?_
 refine Xa (X8 rfl) ?_
 refine Xc ?_
 refine Xc ?_
 refine Xs ?_
 refine Xa (X1 rfl) ?_
 refine Xa (Yo rfl Tryz.underlying83) ?_
 refine Xa (Xb rfl) ?_
 refine Yh ?_
 refine Y6 (fun n t H' => ∃ (i : Nat) (G : Hp) (B : Option Addr) (c5 : Nat), i ≤ xs.length ∧ n = xs.length - i ∧ H.le G ∧ OwnP (Yv .i64) G H' (.slice B i c5) ((xs.take i).map fun x => if second then x.b else x.a) ∧ t 1 = .bool second ∧ t 5 = .slice B i c5 ∧ t 8 = .slice A xs.length c ∧ t 9 = .int .i64 xs.length ∧ t 10 = .int .i64 i) (xs.length) (⟨0, H, _, _, by omega, rfl, Hp.le_refl _, OwnP.nil _ _, rfl, rfl, rfl, rfl, rfl⟩) ?_
 rintro n t H1 ⟨i, G, B, c5, hi, rfl, hle, hown, e1, e5, e8, e9, e10⟩
 have hz := hown.size
 have hlen : ((xs.take i).map fun x => if second then x.b else x.a).length = i := by rw [List.length_map, List.length_take]; omega
 refine Xc ?_
 refine Xs ?_
 refine Xa (Zf Xn Xn) ?_
 refine Xc ?_
 refine X4 rfl rfl ?_ ?_
 intro hc1
 (try simp only [Y5] at hc1)
 refine X9 ?_
 refine Xc ?_
 refine Yh ?_
 refine Xc ?_
 refine Xs ?_
 have hix : i < xs.length := by omega
 obtain ⟨b, o, rfl, hb, hcell0⟩ := (hs.mono hle.sees).link_at hix
 have hcells := hown.le.cells hb hcell0
 have hownE := hown.boxed [.int .i64 0, .int .i64 0, .int .i64 0, .int .u64 0] [.int .i64 xs[i].a, .int .i64 xs[i].b, .int .i64 xs[i].cost, .int .u64 xs[i].n]
 have hleE := Hp.le_put_new (b := H1.size) (Hp.le_push' hle (.own 0 [.int .i64 0, .int .i64 0, .int .i64 0, .int .u64 0])) (by rw [hz]; exact hle.1) (.own 0 [.int .i64 xs[i].a, .int .i64 xs[i].b, .int .i64 xs[i].cost, .int .u64 xs[i].n])
 refine Xa (Xx Xn Xn Tryz.underlying83 inf96.size Yc Yc) ?_
 refine Xa (Yj (cs := [.int .i64 _, .int .i64 _, .int .i64 _, .int .u64 _]) rfl Tryz.underlying96 rfl inf96.size X5) ?_
 refine Xz (Ys (l := [.int .i64 0, .int .i64 0, .int .i64 0, .int .u64 0]) inf96.zero rfl (by decide)) ?_
 first | refine Xv (Ye (vs := [.int .i64 _, .int .i64 _, .int .i64 _, .int .u64 _]) rfl rfl inf96.size Ya Yd rfl rfl ?_)
 refine Xc ?_
 refine Xs ?_
 refine Xa (Xq Xn) ?_
 refine X4 rfl rfl ?_ ?_
 intro hc2
 (try simp only [Y5] at hc2)
 refine Xs ?_
 refine Xa (X1 Xn) ?_
 refine Xa (Xf (off := 1) rfl Tryz.underlying96 rfl inf3.size (by decide) rfl) ?_
 refine Xa (Xl rfl Tryz.underlying3 rfl Xo) ?_
 first | refine Xz (Yg (r := [.int .i64 _]) Tryz.underlying23 inf3.size inf3.zero rfl (by decide) (by decide) (by decide) rfl) ?_
 refine Xv (OwnP.append (ys := [xs[i].b]) (hownE.push (.own 1 [.int .i64 xs[i].b])) Tryz.underlying23 inf3 rfl rfl rfl (Zw (k := Yv .i64) rfl rfl hownE.size rfl) (by rw [hlen]; simp; omega) (by rw [hlen]; simp; omega) ?_)
 rintro v6 G6 H6 hle6 hown6
 obtain ⟨B', c', e6⟩ := hown6.shape
 rw [List.length_append, hlen, List.length_singleton] at e6
 subst e6
 refine Xa (X8 rfl) ?_
 refine Xs ?_
 refine Xa (Yq Xn Xn Y2) ?_
 refine Xa (Xb rfl) ?_
 have hstep : ((xs.take (i + 1)).map fun x => if second then x.b else x.a) = ((xs.take i).map fun x => if second then x.b else x.a) ++ [if second then xs[i].b else xs[i].a] := by rw [← Zb hix, List.map_append]; rfl
 have hcond : (if second = true then xs[i].b else xs[i].a) = (if second then xs[i].b else xs[i].a) := rfl
 refine ⟨xs.length - (i + 1), by omega, i + 1, G6, B', c', by omega, rfl, Hp.le_trans (Hp.le_push' hleE _) hle6, ?_, e1, rfl, e8, e9, rfl⟩
 rw [hstep]
 simp_all
 intro hc2
 (try simp only [Y5] at hc2)
 refine Xs ?_
 refine Xa (X1 Xn) ?_
 refine Xa (Xf (off := 0) rfl Tryz.underlying96 rfl inf3.size (by decide) rfl) ?_
 refine Xa (Xl rfl Tryz.underlying3 rfl Xo) ?_
 first | refine Xz (Yg (r := [.int .i64 _]) Tryz.underlying23 inf3.size inf3.zero rfl (by decide) (by decide) (by decide) rfl) ?_
 refine Xv (OwnP.append (ys := [xs[i].a]) (hownE.push (.own 1 [.int .i64 xs[i].a])) Tryz.underlying23 inf3 rfl rfl rfl (Zw (k := Yv .i64) rfl rfl hownE.size rfl) (by rw [hlen]; simp; omega) (by rw [hlen]; simp; omega) ?_)
 rintro v6 G6 H6 hle6 hown6
 obtain ⟨B', c', e6⟩ := hown6.shape
 rw [List.length_append, hlen, List.length_singleton] at e6
 subst e6
 refine Xa (X8 rfl) ?_
 refine Xs ?_
 refine Xa (Yq Xn Xn Y2) ?_
 refine Xa (Xb rfl) ?_
 have hstep : ((xs.take (i + 1)).map fun x => if second then x.b else x.a) = ((xs.take i).map fun x => if second then x.b else x.a) ++ [if second then xs[i].b else xs[i].a] := by rw [← Zb hix, List.map_append]; rfl
 have hcond : (if second = true then xs[i].b else xs[i].a) = (if second then xs[i].b else xs[i].a) := rfl
 refine ⟨xs.length - (i + 1), by omega, i + 1, G6, B', c', by omega, rfl, Hp.le_trans (Hp.le_push' hleE _) hle6, ?_, e1, rfl, e8, e9, rfl⟩
 rw [hstep]
 simp_all
 intro hc1
 (try simp only [Y5] at hc1)
 refine Y3 ?_
 refine Xc ?_
 have hfull : xs.take i = xs := List.take_of_length_le (by omega)
 rw [hfull] at hown
 have hlen2 : (xs.map fun x => if second then x.b else x.a).length = xs.length := by rw [List.length_map]
 have hi2 : i = xs.length := by omega
 subst hi2
 refine Xs ?_
 refine Xa (X1 Xn) ?_
 refine Xv (Xy (hown.sort_ints sortIntLay (by omega)) rfl Tryz.func144 rfl rfl rfl ?_)
 rintro v7 H7 ⟨rfl, hown7⟩
 refine Xc ?_
 refine Xs ?_
 refine Xa (X1 Xn) ?_
 refine Xv (Xy (hown7.compact_ints compactIntLay (by rw [List.length_mergeSort]; omega)) rfl Tryz.func145 rfl rfl rfl ?_)
 rintro v8 H8 hown8
 refine Xa (Z5 rfl) ?_
 refine X2 ?_
 exact ⟨v8, X0 (Xp rfl), G, hle, hown8⟩
theorem Clone_links (xs : List Link) (v : Value) (H : Hp) (hs : Sl kLink H v xs) (hl : xs.length ≤ 1000000) :
  ACalls Tryz.prog 51 #[v] H (fun r H' => ∃ G', H.le G' ∧ OwnP kLink G' H' r xs) := by
 rcases hs with ⟨rfl, rfl⟩ | ⟨b, o, c, rfl, hb, hk, hx⟩
 ·skip
  refine Xu Tryz.func51 rfl rfl rfl (by simp) ?_
  refine Xc ?_
  refine Xs ?_
  refine Xa (X8 rfl) ?_
  refine Xc ?_
  refine Xc ?_
  refine Xs ?_
  refine Xa (X1 rfl) ?_
  refine Xa (av_sl_eq_nil rfl rfl Tryz.underlying83) ?_
  refine Yw (rfl) rfl ?_
  refine Xc ?_
  refine Xs ?_
  refine Xa (X8 rfl) ?_
  refine X2 ?_
  exact ⟨.slice none 0 0, X0 (Xp rfl), H, Hp.le_refl _, OwnP.nil _ _⟩
 ·have hs : Sl kLink H (.slice (some ⟨b, o, none⟩) xs.length c) xs := .inr ⟨b, o, c, rfl, hb, hk, hx⟩
  skip
  refine Xu Tryz.func51 rfl rfl rfl (by simp) ?_
  refine Xc ?_
  refine Xs ?_
  refine Xa (X8 rfl) ?_
  refine Xc ?_
  refine Xc ?_
  refine Xs ?_
  refine Xa (X1 rfl) ?_
  refine Xa (av_sl_eq_nil rfl rfl Tryz.underlying83) ?_
  refine Zg (rfl) rfl ?_
  refine X9 ?_
  refine Xc ?_
  refine Xs ?_
  first | refine Xz (Yg (r := []) Tryz.underlying83 inf96.size inf96.zero rfl (by decide) (by decide) (by decide) rfl) ?_
  refine Xa (X1 rfl) ?_
  refine Xv (OwnP.append (ys := xs) (OwnP.lit kLink H) Tryz.underlying83 inf96 rfl rfl rfl (hs.mono (H.le_push _).sees) (by simp; omega) (by simp; omega) ?_)
  rintro v5 G' H2 hle' hown'
  rw [List.nil_append] at hown'
  obtain ⟨B', c', rfl⟩ := hown'.shape
  refine Xa (X8 rfl) ?_
  refine X2 ?_
  exact ⟨.slice B' xs.length c', X0 (Xp rfl), G', Hp.le_trans (H.le_push _) hle', hown'⟩
theorem isNaN_int (x : Int) (H : Hp) : ACalls Tryz.prog 165 #[.int .i64 x] H (fun r H' => r = .bool false ∧ H' = H) := by
 refine Xu Tryz.func165 rfl rfl rfl (by simp) ?_
 refine Xc ?_
 refine Xs ?_
 refine Xa (Xi rfl) ?_
 refine Xc ?_
 refine Xs ?_
 refine Xa (Xb rfl) ?_
 refine Xa (Xb rfl) ?_
 refine Xa (Vb rfl rfl) ?_
 refine Xa (Xi rfl) ?_
 refine X2 ?_
 exact ⟨.bool false, X0 (Xp (by simp [Fr.put])), rfl, rfl⟩
theorem isNaNc_int (x : Int) (H : Hp) : ACalls Tryz.prog 171 #[.int .i64 x] H (fun r H' => r = .bool false ∧ H' = H) := by
 refine Xu Tryz.func171 rfl rfl rfl (by simp) ?_
 refine Xc ?_
 refine Xs ?_
 refine Xa (Xi rfl) ?_
 refine Xc ?_
 refine Xs ?_
 refine Xa (Xb rfl) ?_
 refine Xa (Xb rfl) ?_
 refine Xa (Vb rfl rfl) ?_
 refine Xa (Xi rfl) ?_
 refine X2 ?_
 exact ⟨.bool false, X0 (Xp (by simp [Fr.put])), rfl, rfl⟩
theorem Less_int (x y : Int) (H : Hp) : ACalls Tryz.prog 160 #[.int .i64 x, .int .i64 y] H (fun r H' => r = .bool (decide (x < y)) ∧ H' = H) := by
 refine Xu Tryz.func160 rfl rfl rfl (by simp) ?_
 refine Xc ?_
 refine Xs ?_
 refine Xa (Xi rfl) ?_
 refine Xc ?_
 refine Xs ?_
 refine Xa (Xb rfl) ?_
 refine Xv (Xy (isNaNc_int _ _) rfl Tryz.func171 rfl rfl rfl ?_)
 rintro v5 H5 ⟨rfl, rfl⟩
 refine Xa (Xq rfl) ?_
 refine Yb rfl rfl rfl ?_ ?_
 intro hg1
 cases hg1
 intro hg1
 have hp1 := hg1; try simp only [Y5] at hp1
 refine Xd (Xg rfl rfl rfl hg1 rfl) ?_
 refine Xd (Xg rfl rfl rfl hg1 rfl) ?_
 refine Xd (Xg rfl rfl rfl hg1 rfl) ?_
 refine Xa (Xm (Yu hg1) rfl) ?_
 refine Xa (Xq rfl) ?_
 refine Xk (Xh rfl rfl rfl rfl) (Xb rfl) ?_
 refine Xk (Xh rfl rfl rfl rfl) (Xb rfl) ?_
 refine Xk (Xh rfl rfl rfl rfl) (Zf rfl rfl) ?_
 refine Xa (Xm (congrArg Value.bool rfl) rfl) ?_
 refine Xa (Xi rfl) ?_
 refine X2 ?_
 exact ⟨_, X0 (Xp rfl), rfl, rfl⟩
theorem bin_mem {xs : List Int} {x : Int} {i : Nat} (hmono : ∀ (i j : Nat), i ≤ j → j < xs.length → xs.getD i 0 ≤ xs.getD j 0) (hlo : ∀ k, k < i → xs.getD k 0 < x) (hhi : ∀ k, i ≤ k → k < xs.length → ¬ xs.getD k 0 < x) : x ∈ xs ↔ i < xs.length ∧ xs.getD i 0 = x := by
 constructor
 ·intro h
  obtain ⟨k, hk, rfl⟩ := List.getElem_of_mem h
  have hki : ¬ k < i := fun h1 => by have := hlo k h1; rw [Za hk] at this; omega
  have h1 : i < xs.length := by omega
  have h2 := hmono i k (by omega) hk
  have h3 := hhi i (Nat.le_refl _) h1
  rw [Za hk] at h2
  exact ⟨h1, by omega⟩
 ·rintro ⟨h1, rfl⟩
  rw [Za h1]
  exact List.getElem_mem h1
theorem Bin_int (xs : List Int) (A : Option Addr) (c : Nat) (x : Int) (H : Hp) (hs : Sl (Yv .i64) H (.slice A xs.length c) xs) (hl : xs.length ≤ 1000000) (hr : xs.Pairwise (· ≤ ·)) :
  ACalls Tryz.prog 153 #[.slice A xs.length c, .int .i64 x] H (fun r H' => (∃ i : Int, r = .tuple #[.int .i64 i, .bool (decide (x ∈ xs))]) ∧ H' = H) := by
 have hmono : ∀ (i j : Nat), i ≤ j → j < xs.length → xs.getD i 0 ≤ xs.getD j 0 := fun i j hij hj => by
  rw [Za hj, Za (by omega : i < xs.length)]
  rcases Nat.lt_or_eq_of_le hij with h | h
  ·exact List.pairwise_iff_getElem.1 hr i j (by omega) hj h
  ·subst h; exact Int.le_refl _
 refine Xu Tryz.func153 rfl rfl rfl (by simp) ?_
 refine Xc ?_
 refine Xs ?_
 refine Xa (Xj rfl) ?_
 refine Xa (Xi rfl) ?_
 refine Xc ?_
 refine Xs ?_
 refine Xa (X1 rfl) ?_
 refine Xa (Yo rfl Tryz.underlying23) ?_
 refine Xa (Xj rfl) ?_
 refine Xc ?_
 refine Xs ?_
 refine Xa (Xb rfl) ?_
 refine Xa (Xj rfl) ?_
 refine Xa (Xj rfl) ?_
 refine Xc ?_
 refine Yh ?_
 refine Y6 (fun m t H' => ∃ (i j : Nat), i ≤ j ∧ j ≤ xs.length ∧ m = j - i ∧ H' = H ∧ (∀ k, k < i → xs.getD k 0 < x) ∧ (∀ k, j ≤ k → k < xs.length → ¬ xs.getD k 0 < x) ∧ t 0 = .slice A xs.length c ∧ t 1 = .int .i64 x ∧ t 6 = .int .i64 xs.length ∧ t 7 = .int .i64 i ∧ t 8 = .int .i64 j) (xs.length) (⟨0, xs.length, Nat.zero_le _, Nat.le_refl _, by omega, rfl, fun x h => by omega, fun x h h2 => by omega, rfl, rfl, rfl, rfl, rfl⟩) ?_
 rintro m t _ ⟨i, j, hij, hjn, rfl, rfl, hlo, hhi, e0, e1, e6, e7, e8⟩
 refine Xc ?_
 refine Xc ?_
 refine Xs ?_
 refine Xa (Xb Xn) ?_
 refine Xa (Xb Xn) ?_
 refine Xa (Zf rfl rfl) ?_
 refine X4 rfl rfl ?_ ?_
 intro hc1
 (try simp only [Y5] at hc1)
 refine X9 ?_
 refine Yh ?_
 refine Xc ?_
 refine Xs ?_
 refine Xa (Xb Xn) ?_
 refine Xa (Xb Xn) ?_
 refine Xa (Yq rfl rfl Y2) ?_
 refine Xa (av_conv rfl (by rw [Tryz.underlying3]; rfl) Tryz.underlying157) ?_
 refine Xa (av_shr rfl rfl (by omega)) ?_
 refine Xa (av_conv rfl (by rw [Tryz.underlying157]; rfl) Tryz.underlying3) ?_
 refine Xa (Xj (n := (((i + j) / 2 : Nat) : Int)) (mid_val hij hjn (by omega))) ?_
 have hm1 : i ≤ (i + j) / 2 := by omega
 have hm2 : (i + j) / 2 < j := by omega
 obtain ⟨b, o, rfl, hb, hcell⟩ := hs.int_at (i := (((i + j) / 2 : Nat) : Int)) (by omega) (by omega)
 rw [Int.toNat_natCast] at hcell
 refine Xc ?_
 refine Xs ?_
 refine Xa (X1 Xn) ?_
 refine Xa (Xb rfl) ?_
 refine Xa (Xx rfl rfl Tryz.underlying23 inf3.size Yc Yc) ?_
 refine Xa (Xl rfl Tryz.underlying3 rfl Xo) ?_
 refine Xa (Xb Xn) ?_
 refine Xv (Xy (Less_int _ _ _) rfl Tryz.func160 rfl rfl rfl ?_)
 rintro v5 H5 ⟨rfl, rfl⟩
 refine X4 rfl rfl ?_ ?_
 intro hc2
 have hc : xs.getD ((i + j) / 2) 0 < x := by simpa using hc2
 refine Xs ?_
 refine Xa (Xb rfl) ?_
 refine Xa (Yq rfl rfl Y2) ?_
 refine Xa (Xj rfl) ?_
 exact ⟨j - ((i + j) / 2 + 1), by omega, (i + j) / 2 + 1, j, by omega, hjn, rfl, rfl, fun k hk => Int.lt_of_le_of_lt (hmono k ((i + j) / 2) (by omega) (by omega)) hc, hhi, e0, e1, e6, rfl, e8⟩
 intro hc2
 have hc : ¬ xs.getD ((i + j) / 2) 0 < x := by simpa using hc2
 refine Xs ?_
 refine Xa (Xb rfl) ?_
 refine Xa (Xj rfl) ?_
 exact ⟨(i + j) / 2 - i, by omega, i, (i + j) / 2, by omega, by omega, rfl, rfl, hlo, fun k h h2 => by have := hmono ((i + j) / 2) k h h2; omega, e0, e1, e6, e7, rfl⟩
 intro hc1
 (try simp only [Y5] at hc1)
 refine Y3 ?_
 refine Xc ?_
 have hij2 : i = j := by omega
 subst hij2
 have hmem := bin_mem hmono hlo hhi
 refine Xs ?_
 refine Xa (Xb Xn) ?_
 refine Xa (Xb Xn) ?_
 refine Xa (Xb Xn) ?_
 refine Xa (Zf rfl rfl) ?_
 refine Xa (Xq rfl) ?_
 refine Yb rfl rfl rfl ?_ ?_
 intro hg3
 have hi8 : i < xs.length := by have := of_decide_eq_true hg3; omega
 obtain ⟨b, o, rfl, hb, hcell⟩ := hs.int_at (i := (i : Int)) (by omega) (by omega)
 rw [Int.toNat_natCast] at hcell
 refine Xk (Xh rfl rfl rfl hg3) (X1 Xn) ?_
 refine Xk (Xh rfl rfl rfl hg3) (Xb Xn) ?_
 refine Xk (Xh rfl rfl rfl hg3) (Xx rfl rfl Tryz.underlying23 inf3.size Yc Yc) ?_
 refine Xk (Xh rfl rfl rfl hg3) (Xl rfl Tryz.underlying3 rfl Xo) ?_
 refine Xk (Xh rfl rfl rfl hg3) (Xb Xn) ?_
 refine Xk (Xh rfl rfl rfl hg3) (Zs rfl rfl) ?_
 refine Xk (Xh rfl rfl rfl hg3) (Xq rfl) ?_
 refine Yb rfl rfl rfl ?_ ?_
 intro hg4
 have hp4 := hg4; try simp only [Y5] at hp4
 refine Xd (Xg rfl rfl rfl hg4 rfl) ?_
 refine Xd (Xg rfl rfl rfl hg4 rfl) ?_
 refine Xd (Xg rfl rfl rfl hg4 rfl) ?_
 refine Xd (Xg rfl rfl rfl hg4 rfl) ?_
 refine Xd (Xg rfl rfl rfl hg4 rfl) ?_
 refine Xd (Xg rfl rfl rfl hg4 rfl) ?_
 refine Xd (X6 rfl rfl rfl) ?_
 refine Xd (X6 rfl rfl rfl) ?_
 refine Xd (Xg rfl rfl rfl hg4 rfl) ?_
 refine Xk (Xh rfl rfl rfl hg3) (Xm (Yu hg4) Xn) ?_
 refine Xa (Xm (Yu hg3) rfl) ?_
 refine Xa (Xj rfl) ?_
 refine Xa (Xi rfl) ?_
 refine X2 ?_
 have hd : decide (x ∈ xs) = (decide (i < xs.length) && decide (xs.getD i 0 = x)) := by rw [← Bool.decide_and]; exact decide_eq_decide.2 hmem
 refine ⟨.tuple #[.int .i64 i, .bool (decide (x ∈ xs))], Yt (Xp rfl) (Xp (congrArg Value.bool ?_)), ⟨_, rfl⟩, rfl⟩
 rw [hd]
 simp_all
 intro hg4
 have hp4 := hg4; try simp only [Y5] at hp4
 refine Xk (Xh rfl rfl rfl hg4) (X1 Xn) ?_
 refine Xk (Xh rfl rfl rfl hg4) (Xb Xn) ?_
 refine Xk (Xh rfl rfl rfl hg4) (Xx rfl rfl Tryz.underlying23 inf3.size Yc Yc) ?_
 refine Xk (Xh rfl rfl rfl hg4) (Xl rfl Tryz.underlying3 rfl Xo) ?_
 refine Vg (Xh rfl rfl rfl hg4) (Xy (isNaN_int _ _) rfl Tryz.func165 rfl rfl rfl ?_)
 rintro v5 H5 ⟨rfl, rfl⟩
 refine Xk (Xh rfl rfl rfl hg4) (Xq rfl) ?_
 refine Yb rfl rfl rfl ?_ ?_
 intro hg5
 cases hg5
 intro hg5
 have hp5 := hg5; try simp only [Y5] at hp5
 refine Xd (Xg rfl rfl rfl hg5 rfl) ?_
 refine Xd (Xg rfl rfl rfl hg5 rfl) ?_
 refine Xk (Xh rfl rfl rfl hg4) (Xm (Yu hg5) Xn) ?_
 refine Xk (Xh rfl rfl rfl hg3) (Xm (Yu hg4) rfl) ?_
 refine Xa (Xm (Yu hg3) rfl) ?_
 refine Xa (Xj rfl) ?_
 refine Xa (Xi rfl) ?_
 refine X2 ?_
 have hd : decide (x ∈ xs) = (decide (i < xs.length) && decide (xs.getD i 0 = x)) := by rw [← Bool.decide_and]; exact decide_eq_decide.2 hmem
 refine ⟨.tuple #[.int .i64 i, .bool (decide (x ∈ xs))], Yt (Xp rfl) (Xp (congrArg Value.bool ?_)), ⟨_, rfl⟩, rfl⟩
 rw [hd]
 simp_all
 intro hg3
 have hi8 : ¬ i < xs.length := by have := of_decide_eq_false hg3; omega
 refine Xd (Xg rfl rfl rfl hg3 rfl) ?_
 refine Xd (Xg rfl rfl rfl hg3 rfl) ?_
 refine Xd (Xg rfl rfl rfl hg3 rfl) ?_
 refine Xd (Xg rfl rfl rfl hg3 rfl) ?_
 refine Xd (Xg rfl rfl rfl hg3 rfl) ?_
 refine Xd (Xg rfl rfl rfl hg3 rfl) ?_
 refine Xd (Xg rfl rfl rfl hg3 rfl) ?_
 refine Xd (X6 rfl rfl rfl) ?_
 refine Xd (X6 rfl rfl rfl) ?_
 refine Xd (X6 rfl rfl rfl) ?_
 refine Xd (X6 rfl rfl rfl) ?_
 refine Xd (X6 rfl rfl rfl) ?_
 refine Xd (X6 rfl rfl rfl) ?_
 refine Xd (X6 rfl rfl rfl) ?_
 refine Xd (X6 rfl rfl rfl) ?_
 refine Xd (X6 rfl rfl rfl) ?_
 refine Xd (Xg rfl rfl rfl hg3 rfl) ?_
 refine Xa (Xm (Yu hg3) Xn) ?_
 refine Xa (Xj rfl) ?_
 refine Xa (Xi rfl) ?_
 refine X2 ?_
 have hd : decide (x ∈ xs) = (decide (i < xs.length) && decide (xs.getD i 0 = x)) := by rw [← Bool.decide_and]; exact decide_eq_decide.2 hmem
 refine ⟨.tuple #[.int .i64 i, .bool (decide (x ∈ xs))], Yt (Xp rfl) (Xp (congrArg Value.bool ?_)), ⟨_, rfl⟩, rfl⟩
 rw [hd]
 simp_all
theorem In_int (xs : List Int) (A : Option Addr) (c : Nat) (x : Int) (H : Hp) (hs : Sl (Yv .i64) H (.slice A xs.length c) xs) (hl : xs.length ≤ 1000000) (hr : xs.Pairwise (· ≤ ·)) :
  ACalls Tryz.prog 149 #[.slice A xs.length c, .int .i64 x] H (fun r H' => r = .bool (decide (x ∈ xs)) ∧ H' = H) := by
 refine Xu Tryz.func149 rfl rfl rfl (by simp) ?_
 refine Xc ?_
 refine Xs ?_
 refine Xa (Xi rfl) ?_
 refine Xc ?_
 refine Xs ?_
 refine Xa (X1 rfl) ?_
 refine Xa (Xb rfl) ?_
 refine Xv (Xy (Bin_int xs A c x H hs hl hr) rfl Tryz.func153 rfl rfl rfl ?_)
 rintro v5 H5 ⟨⟨i5, rfl⟩, rfl⟩
 refine Xa (Zi rfl) ?_
 refine Xa (Yf rfl rfl) ?_
 refine Xa (Yf rfl rfl) ?_
 refine Xa (Xj rfl) ?_
 refine Xa (Xi rfl) ?_
 refine Xc ?_
 refine Xs ?_
 refine Xa (Xq rfl) ?_
 refine Xa (Xi rfl) ?_
 refine X2 ?_
 exact ⟨_, X0 (Xp rfl), rfl, rfl⟩
def Y8 (xs : List Link) (from' to' : List Int) : List Link := xs.filter fun x => decide (x.a ∈ from') && decide (x.b ∈ to')
theorem Within_links (xs : List Link) (fs ts : List Int) (v vf vt : Value) (H : Hp) (hs : Sl kLink H v xs) (hf : Sl (Yv .i64) H vf fs) (ht : Sl (Yv .i64) H vt ts) (hl : xs.length ≤ 1000000) (hlf : fs.length ≤ 1000000) (hlt : ts.length ≤ 1000000) (hrf : fs.Pairwise (· ≤ ·)) (hrt : ts.Pairwise (· ≤ ·)) :
    ACalls Tryz.prog 142 #[v, vf, vt] H (fun r H' => ∃ G', H.le G' ∧ OwnP kLink G' H' r (Y8 xs fs ts)) := by
  obtain ⟨A, c, rfl⟩ := hs.shape
  obtain ⟨Af, cf, rfl⟩ := hf.shape
  obtain ⟨At, ct, rfl⟩ := ht.shape
  refine Xu Tryz.func142 rfl rfl rfl (by simp) ?_
  refine Xc ?_
  refine Xs ?_
  refine Xa (X8 rfl) ?_
  refine Xc ?_
  refine Xs ?_
  refine Xa (X8 rfl) ?_
  refine Xc ?_
  refine Xc ?_
  refine Xs ?_
  refine Xa (X1 rfl) ?_
  refine Xa (Yo rfl Tryz.underlying83) ?_
  refine Xa (Xb rfl) ?_
  refine Yh ?_
  refine Y6 (fun n t H' => ∃ (i : Nat) (G : Hp) (B : Option Addr) (c5 : Nat), i ≤ xs.length ∧ n = xs.length - i ∧ H.le G ∧ OwnP kLink G H' (.slice B (Y8 (xs.take i) fs ts).length c5) (Y8 (xs.take i) fs ts) ∧ t 1 = .slice Af fs.length cf ∧ t 2 = .slice At ts.length ct ∧ t 7 = .slice B (Y8 (xs.take i) fs ts).length c5 ∧ t 10 = .slice A xs.length c ∧ t 11 = .int .i64 xs.length ∧ t 12 = .int .i64 i) (xs.length) (⟨0, H, _, _, by omega, rfl, Hp.le_refl _, OwnP.nil _ _, rfl, rfl, rfl, rfl, rfl, rfl⟩) ?_
  rintro n t H1 ⟨i, G, B, c5, hi, rfl, hle, hown, e1, e2, e7, e10, e11, e12⟩
  have hz := hown.size
  have hlen : (Y8 (xs.take i) fs ts).length ≤ i := by
    have := List.length_filter_le (fun x : Link => decide (x.a ∈ fs) && decide (x.b ∈ ts)) (xs.take i)
    rw [List.length_take] at this
    unfold Y8
    omega
  refine Xc ?_
  refine Xs ?_
  refine Xa (Zf Xn Xn) ?_
  refine Xc ?_
  refine X4 rfl rfl ?_ ?_
  intro hc1
  (try simp only [Y5] at hc1)
  refine X9 ?_
  refine Xc ?_
  refine Yh ?_
  refine Xc ?_
  refine Xs ?_
  have hix : i < xs.length := by omega
  obtain ⟨b, o, rfl, hb, hcell0⟩ := (hs.mono hle.sees).link_at hix
  have hcells := hown.le.cells hb hcell0
  have hownE := hown.boxed [.int .i64 0, .int .i64 0, .int .i64 0, .int .u64 0] [.int .i64 xs[i].a, .int .i64 xs[i].b, .int .i64 xs[i].cost, .int .u64 xs[i].n]
  have hleE := Hp.le_put_new (b := H1.size) (Hp.le_push' hle (.own 0 [.int .i64 0, .int .i64 0, .int .i64 0, .int .u64 0])) (by rw [hz]; exact hle.1) (.own 0 [.int .i64 xs[i].a, .int .i64 xs[i].b, .int .i64 xs[i].cost, .int .u64 xs[i].n])
  have hseE := (Hp.le_trans hleE hownE.le).sees
  refine Xa (Xx Xn Xn Tryz.underlying83 inf96.size Yc Yc) ?_
  refine Xa (Yj (cs := [.int .i64 _, .int .i64 _, .int .i64 _, .int .u64 _]) rfl Tryz.underlying96 rfl inf96.size X5) ?_
  refine Xz (Ys (l := [.int .i64 0, .int .i64 0, .int .i64 0, .int .u64 0]) inf96.zero rfl (by decide)) ?_
  first | refine Xv (Ye (vs := [.int .i64 _, .int .i64 _, .int .i64 _, .int .u64 _]) rfl rfl inf96.size Ya Yd rfl rfl ?_)
  refine Xc ?_
  refine Xs ?_
  refine Xa (X1 Xn) ?_
  refine Xa (Xf (off := 0) rfl Tryz.underlying96 rfl inf3.size (by decide) rfl) ?_
  refine Xa (Xl rfl Tryz.underlying3 rfl Xo) ?_
  refine Xv (Xy (In_int fs Af cf xs[i].a _ (hf.mono hseE) hlf hrf) rfl Tryz.func149 rfl rfl rfl ?_)
  rintro v6 H6 ⟨rfl, hH6⟩; subst hH6
  refine Xa (Xq rfl) ?_
  refine Yb rfl rfl rfl ?_ ?_
  intro hg2
  have hp2 := hg2; try simp only [Y5] at hp2
  refine Xk (Xh rfl rfl rfl hg2) (X1 Xn) ?_
  refine Xk (Xh rfl rfl rfl hg2) (Xf (off := 1) rfl Tryz.underlying96 rfl inf3.size (by decide) rfl) ?_
  refine Xk (Xh rfl rfl rfl hg2) (Xl rfl Tryz.underlying3 rfl Xo) ?_
  refine Vg (Xh rfl rfl rfl hg2) (Xy (In_int ts At ct xs[i].b _ (ht.mono hseE) hlt hrt) rfl Tryz.func149 rfl rfl rfl ?_)
  rintro v7 H7 ⟨rfl, hH7⟩; subst hH7
  refine Xa (Xm (Yu hg2) rfl) ?_
  refine X4 rfl rfl ?_ ?_
  intro hc3
  have hin : Y8 [xs[i]] fs ts = [xs[i]] := by unfold Y8; simp_all
  have hstep : Y8 (xs.take (i + 1)) fs ts = Y8 (xs.take i) fs ts ++ [xs[i]] := by rw [← hin]; unfold Y8; rw [← List.filter_append, Zb hix]
  refine Xs ?_
  refine Xa (X1 Xn) ?_
  refine Xa (Yj (cs := [.int .i64 _, .int .i64 _, .int .i64 _, .int .u64 _]) rfl Tryz.underlying96 rfl inf96.size X5) ?_
  first | refine Xz (Yg (r := [.int .i64 _, .int .i64 _, .int .i64 _, .int .u64 _]) Tryz.underlying83 inf96.size inf96.zero rfl (by decide) (by decide) (by decide) rfl) ?_
  refine Xv (OwnP.append (ys := [xs[i]]) (hownE.push _) Tryz.underlying83 inf96 rfl rfl rfl (Zw (k := kLink) rfl rfl hownE.size rfl) (by simp; omega) (by simp; omega) ?_)
  rintro v6 G6 H6 hle6 hown6
  obtain ⟨B', c', e6⟩ := hown6.shape
  subst e6
  refine Xa (X8 rfl) ?_
  refine Xs ?_
  refine Xa (Yq Xn Xn Y2) ?_
  refine Xa (Xb rfl) ?_
  first
    | (rw [← hstep] at hown6
       exact ⟨xs.length - (i + 1), by omega, i + 1, G6, B', c', by omega, rfl, Hp.le_trans (Hp.le_push' hleE _) hle6, hown6, e1, e2, by rw [hstep]; rfl, e10, e11, rfl⟩)
    | (have hin : Y8 [xs[i]] fs ts = [] := by unfold Y8; simp_all
       have hstep : Y8 (xs.take (i + 1)) fs ts = Y8 (xs.take i) fs ts := by rw [← List.append_nil (Y8 (xs.take i) fs ts), ← hin]; unfold Y8; rw [← List.filter_append, Zb hix]
       refine ⟨xs.length - (i + 1), by omega, i + 1, _, B, c5, by omega, rfl, hleE, by rw [hstep]; exact hownE, e1, e2, by rw [hstep]; exact e7, e10, e11, rfl⟩)
  intro hc3
  (try simp only [Y5] at hc3)
  refine X9 ?_
  refine Xs ?_
  refine Xa (Yq Xn Xn Y2) ?_
  refine Xa (Xb rfl) ?_
  first
    | (rw [← hstep] at hown6
       exact ⟨xs.length - (i + 1), by omega, i + 1, G6, B', c', by omega, rfl, Hp.le_trans (Hp.le_push' hleE _) hle6, hown6, e1, e2, by rw [hstep]; rfl, e10, e11, rfl⟩)
    | (have hin : Y8 [xs[i]] fs ts = [] := by unfold Y8; simp_all
       have hstep : Y8 (xs.take (i + 1)) fs ts = Y8 (xs.take i) fs ts := by rw [← List.append_nil (Y8 (xs.take i) fs ts), ← hin]; unfold Y8; rw [← List.filter_append, Zb hix]
       refine ⟨xs.length - (i + 1), by omega, i + 1, _, B, c5, by omega, rfl, hleE, by rw [hstep]; exact hownE, e1, e2, by rw [hstep]; exact e7, e10, e11, rfl⟩)
  intro hg2
  have hp2 := hg2; try simp only [Y5] at hp2
  refine Xd (Xg rfl rfl rfl hg2 rfl) ?_
  refine Xd (Xg rfl rfl rfl hg2 rfl) ?_
  refine Xd (Xg rfl rfl rfl hg2 rfl) ?_
  refine Xd (Xg rfl rfl rfl hg2 rfl) ?_
  refine Xa (Xm (Yu hg2) Xn) ?_
  refine Zg rfl rfl ?_
  refine X9 ?_
  refine Xs ?_
  refine Xa (Yq Xn Xn Y2) ?_
  refine Xa (Xb rfl) ?_
  first
    | (rw [← hstep] at hown6
       exact ⟨xs.length - (i + 1), by omega, i + 1, G6, B', c', by omega, rfl, Hp.le_trans (Hp.le_push' hleE _) hle6, hown6, e1, e2, by rw [hstep]; rfl, e10, e11, rfl⟩)
    | (have hin : Y8 [xs[i]] fs ts = [] := by unfold Y8; simp_all
       have hstep : Y8 (xs.take (i + 1)) fs ts = Y8 (xs.take i) fs ts := by rw [← List.append_nil (Y8 (xs.take i) fs ts), ← hin]; unfold Y8; rw [← List.filter_append, Zb hix]
       refine ⟨xs.length - (i + 1), by omega, i + 1, _, B, c5, by omega, rfl, hleE, by rw [hstep]; exact hownE, e1, e2, by rw [hstep]; exact e7, e10, e11, rfl⟩)
  intro hc1
  (try simp only [Y5] at hc1)
  refine Y3 ?_
  refine Xc ?_
  rw [List.take_of_length_le (by omega)] at hown e7
  refine Xs ?_
  refine Xa (X1 Xn) ?_
  refine Xa (X8 rfl) ?_
  refine X2 ?_
  exact ⟨_, X0 (Xp rfl), G, hle, hown⟩
theorem OwnP.after {G H H1 : Hp} {v : Value} {xs : List (List Link)} (h : OwnP (kSl kLink) G H v xs) (hle : H.le H1) : ∃ G1, G.le G1 ∧ OwnP (kSl kLink) G1 H1 v xs ∧ ∀ (r : Value) (ys : List Link), Sl kLink H1 r ys → Sl kLink G1 r ys := by
  rcases h with ⟨rfl, rfl, rfl⟩ | ⟨b, cs, c, rfl, hb, hd, rfl, hcap, he⟩
  · exact ⟨H1, hle, .inl ⟨rfl, rfl, rfl⟩, fun _ _ h => h⟩
  · have hg : H1.get b = .own 1 cs := by
      rw [hle.2 b (by simpa using hb) (by rw [Hp.put_same]; intro e; cases e), Hp.put_same]; rfl
    have hle1 : G.le (H1.put b .dead) := ⟨by have := hle.1; simpa using this, fun i hi hn => by
      have hne : i ≠ b := fun e => by subst e; exact hn hd
      rw [Hp.put_other _ _ hne, hle.2 i (by simpa using hi) (by rw [Hp.put_other _ _ hne]; exact hn), Hp.put_other _ _ hne]⟩
    refine ⟨H1.put b .dead, hle1, .inr ⟨b, cs, c, rfl, by have := hle.1; simp at *; omega, Hp.put_same _ _ _, by rw [Hp.put_put]; exact (Hp.put_self _ hg).symm, hcap, he.mono hle1.sees⟩, fun r ys h => h.links_put hg _⟩
def PartsP (G H : Hp) (N L : Value) (ns ls : List (List Link)) : Prop := ∃ Gm, OwnP (kSl kLink) G Gm N ns ∧ OwnP (kSl kLink) Gm H L ls
theorem PartsP.swap {G H : Hp} {N L : Value} {ns ls : List (List Link)} (h : PartsP G H N L ns ls) : PartsP G H L N ls ns := by
 obtain ⟨Gm, h1, h2⟩ := h
 rcases h1 with ⟨rfl, rfl, rfl⟩ | ⟨b, cs, c, rfl, hb, hd, rfl, hcap, he⟩
 ·exact ⟨H, h2, .inl ⟨rfl, rfl, rfl⟩⟩
 ·rcases h2 with ⟨rfl, rfl, rfl⟩ | ⟨b2, cs2, c2, rfl, hb2, hd2, rfl, hcap2, he2⟩
  ·exact ⟨G, .inl ⟨rfl, rfl, rfl⟩, .inr ⟨b, cs, c, rfl, hb, hd, rfl, hcap, he⟩⟩
  ·have hne : b2 ≠ b := fun e => by subst e; rw [Hp.put_same] at hd2; cases hd2
   have hd2' : G.get b2 = .dead := by rw [Hp.put_other _ _ hne] at hd2; exact hd2
   have he2' : Els (kSl kLink) G ls cs2 := by
    have := he2.lists_put (Hp.put_same _ _ _) .dead
    rw [Hp.put_put, Hp.put_self _ hd] at this
    exact this
   exact ⟨G.put b2 (.own 1 cs2), .inr ⟨b2, cs2, c2, rfl, by simpa using hb2, hd2', rfl, hcap2, he2'⟩, .inr ⟨b, cs, c, rfl, by simpa using hb, by rw [Hp.put_other _ _ (Ne.symm hne)]; exact hd, Hp.put_comm _ (Ne.symm hne) _ _, hcap, he.mono (G.le_put hd2' _).sees⟩⟩
theorem PartsP.slL {G H : Hp} {N L : Value} {ns ls : List (List Link)} (h : PartsP G H N L ns ls) : Sl (kSl kLink) H L ls := let ⟨_, _, h2⟩ := h; h2.sl
theorem PartsP.slN {G H : Hp} {N L : Value} {ns ls : List (List Link)} (h : PartsP G H N L ns ls) : Sl (kSl kLink) H N ns := h.swap.slL
theorem PartsP.le {G H : Hp} {N L : Value} {ns ls : List (List Link)} (h : PartsP G H N L ns ls) : G.le H := let ⟨_, h1, h2⟩ := h; Hp.le_trans h1.le h2.le
theorem PartsP.size {G H : Hp} {N L : Value} {ns ls : List (List Link)} (h : PartsP G H N L ns ls) : H.size = G.size := let ⟨_, h1, h2⟩ := h; h2.size.trans h1.size
theorem PartsP.after {G H H1 : Hp} {N L : Value} {ns ls : List (List Link)} (h : PartsP G H N L ns ls) (hle : H.le H1) : ∃ G1, G.le G1 ∧ PartsP G1 H1 N L ns ls := by
 obtain ⟨Gm, h1, h2⟩ := h
 obtain ⟨Gm1, k1, k2, _⟩ := h2.after hle
 obtain ⟨G1, k3, k4, _⟩ := h1.after k1
 exact ⟨G1, k3, Gm1, k4, k2⟩
theorem PartsP.box_put {G H : Hp} {N L : Value} {ns ls : List (List Link)} (h : PartsP G H N L ns ls) {b : Nat} {cs : List Value} (hb : b < G.size) (hg : G.get b = .own 0 cs) (ds : List Value) : PartsP (G.put b (.own 0 ds)) (H.put b (.own 0 ds)) N L ns ls := by
 obtain ⟨Gm, h1, h2⟩ := h
 have hg1 := Xr h1.le hb (by intro e; cases e) hg
 exact ⟨_, h1.box_put hg ds, h2.box_put hg1 ds⟩
theorem OwnP.spot {G H : Hp} {v : Value} {xs : List (List Link)} (h : OwnP (kSl kLink) G H v xs) {i : Nat} (hi : i < xs.length) : ∃ b c cs w, v = .slice (some ⟨b, 0, none⟩) xs.length c ∧ b < H.size ∧ H.get b = .own 1 cs ∧ H.cell? b (0 + (i : Int).toNat * 1) = some w ∧ i < cs.length ∧ Sl kLink H w xs[i] := by
 rcases h with ⟨rfl, rfl, rfl⟩ | ⟨b, cs, c, rfl, hb, hd, rfl, hcap, he⟩
 ·simp at hi
 ·obtain ⟨d, ⟨w, rfl, hw⟩, hc⟩ := he.2 i xs[i] (List.getElem?_eq_getElem hi)
  have h1 := hc 0 w rfl
  have hw' := hw.mono (G.le_put hd (.own (kSl kLink).sz cs)).sees
  refine ⟨b, c, cs, w, rfl, by simpa using hb, Hp.put_same _ _ _, ?_, ?_, hw'⟩
  ·rw [cell_put_new]
   simpa [kSl] using h1
  ·have := (List.getElem?_eq_some_iff.1 h1).1
   simpa [kSl] using this
theorem PartsP.spotL {G H : Hp} {N L : Value} {ns ls : List (List Link)} (h : PartsP G H N L ns ls) {i : Nat} (hi : i < ls.length) : ∃ b c cs w, L = .slice (some ⟨b, 0, none⟩) ls.length c ∧ b < H.size ∧ H.get b = .own 1 cs ∧ H.cell? b (0 + (i : Int).toNat * 1) = some w ∧ i < cs.length ∧ Sl kLink H w ls[i] := let ⟨_, _, h2⟩ := h; h2.spot hi
theorem PartsP.spotN {G H : Hp} {N L : Value} {ns ls : List (List Link)} (h : PartsP G H N L ns ls) {i : Nat} (hi : i < ns.length) : ∃ b c cs w, N = .slice (some ⟨b, 0, none⟩) ns.length c ∧ b < H.size ∧ H.get b = .own 1 cs ∧ H.cell? b (0 + (i : Int).toNat * 1) = some w ∧ i < cs.length ∧ Sl kLink H w ns[i] := h.swap.spotL hi
theorem PartsP.storeL {G H H1 : Hp} {N : Value} {b o n c : Nat} {ns ls : List (List Link)} (h : PartsP G H N (.slice (some ⟨b, o, none⟩) n c) ns ls) (hle : H.le H1) {r : Value} {ys : List Link} (hr : Sl kLink H1 r ys) {i off : Nat} (hi : i < ls.length) {st : Nat} {cs0 : List Value} (hg : H1.get b = .own st cs0) (ho : off = i * 1) :
  ∃ G1, G.le G1 ∧ PartsP G1 (H1.put b (.own st (setR cs0 off [r]))) N (.slice (some ⟨b, o, none⟩) n c) ns (ls.set i ys) := by
 obtain ⟨Gm, h1, h2⟩ := h
 obtain ⟨Gm1, k1, k2, k3⟩ := h2.after hle
 obtain ⟨G1, k4, k5, _⟩ := h1.after k1
 exact ⟨G1, k4, Gm1, k5, k2.store hg hi (x := ys) ⟨r, rfl, k3 r ys hr⟩ ho⟩
theorem PartsP.storeN {G H H1 : Hp} {L : Value} {b o n c : Nat} {ns ls : List (List Link)} (h : PartsP G H (.slice (some ⟨b, o, none⟩) n c) L ns ls) (hle : H.le H1) {r : Value} {ys : List Link} (hr : Sl kLink H1 r ys) {i off : Nat} (hi : i < ns.length) {st : Nat} {cs0 : List Value} (hg : H1.get b = .own st cs0) (ho : off = i * 1) :
  ∃ G1, G.le G1 ∧ PartsP G1 (H1.put b (.own st (setR cs0 off [r]))) (.slice (some ⟨b, o, none⟩) n c) L (ns.set i ys) ls := by
 obtain ⟨G1, k1, k2⟩ := h.swap.storeL hle hr hi hg ho
 exact ⟨G1, k1, k2.swap⟩
theorem lists_links (xs : List (List Link)) (v : Value) (H : Hp) (hs : Sl (kSl kLink) H v xs) (hl : xs.length ≤ 1000000) (hx : ∀ l ∈ xs, l.length ≤ 1000000) :
  ACalls Tryz.prog 141 #[v] H (fun r H' => ∃ G', H.le G' ∧ OwnP (kSl kLink) G' H' r xs) := by
 obtain ⟨A, c, rfl⟩ := hs.shape
 refine Xu Tryz.func141 rfl rfl rfl (by simp) ?_
 refine Xc ?_
 refine Xs ?_
 refine Xa (X8 rfl) ?_
 refine Xc ?_
 refine Xs ?_
 refine Xa (X8 rfl) ?_
 refine Xc ?_
 refine Xc ?_
 refine Xs ?_
 refine Xa (X1 rfl) ?_
 refine Xa (Yo rfl Tryz.underlying27) ?_
 refine Xa (Xb rfl) ?_
 refine Yh ?_
 refine Y6 (fun n t H' => ∃ (i : Nat) (G : Hp) (B : Option Addr) (c5 : Nat), i ≤ xs.length ∧ n = xs.length - i ∧ H.le G ∧ OwnP (kSl kLink) G H' (.slice B i c5) (xs.take i) ∧ t 3 = .slice B i c5 ∧ t 6 = .slice A xs.length c ∧ t 7 = .int .i64 xs.length ∧ t 8 = .int .i64 i) (xs.length) (⟨0, H, _, _, by omega, rfl, Hp.le_refl _, OwnP.nil _ _, rfl, rfl, rfl, rfl⟩) ?_
 rintro n t H1 ⟨i, G, B, c5, hi, rfl, hle, hown, e3, e6, e7, e8⟩
 have hz := hown.size
 have hlen : (xs.take i).length = i := by rw [List.length_take]; omega
 refine Xc ?_
 refine Xs ?_
 refine Xa (Zf Xn Xn) ?_
 refine Xc ?_
 refine X4 rfl rfl ?_ ?_
 intro hc1
 (try simp only [Y5] at hc1)
 refine X9 ?_
 refine Xc ?_
 refine Yh ?_
 refine Xc ?_
 refine Xs ?_
 have hix : i < xs.length := by omega
 obtain ⟨b, o, ks, eB, hb, ⟨w0, rfl, hw0⟩, hcell0⟩ := (hs.mono hle.sees).elem_at hix
 subst eB
 have hcell0' := (hown.le.cells hb hcell0).one
 obtain ⟨A6, c6, rfl⟩ := hw0.shape
 refine Xa (Xx Xn Xn Tryz.underlying27 inf83.size Yc Yc) ?_
 refine Xa (Xl rfl Tryz.underlying83 rfl Xo) ?_
 refine Xa (X8 rfl) ?_
 refine Xs ?_
 refine Xa (X1 Xn) ?_
 refine Xa (X1 rfl) ?_
 refine Xv (Xy (hown.calls (Clone_links xs[i] _ _ hw0 (hx _ (List.getElem_mem hix))) (fun r G' ⟨G2, a, b⟩ => Hp.le_trans a b.le)) rfl Tryz.func51 rfl rfl rfl ?_)
 rintro v5 H5 ⟨G5, ⟨G50, hle50, hown50⟩, hown5, hleH5⟩; have hs5 := hown50.sl; have hle5 := Hp.le_trans hle50 hown50.le; obtain ⟨A5, c50, rfl⟩ := hs5.shape
 refine Xz (Yg (r := [.slice _ _ _]) Tryz.underlying27 inf83.size inf83.zero rfl (by decide) (by decide) (by decide) rfl) ?_
 refine Xv (OwnP.append (ys := [xs[i]]) (hown5.push _) Tryz.underlying27 inf83 rfl rfl rfl (Zw (k := kSl kLink) ⟨_, rfl, hs5⟩ rfl hown5.size rfl) (by rw [hlen]; simp only [List.length_singleton]; omega) (by rw [hlen]; simp only [List.length_singleton]; omega) ?_)
 rintro v6 G6 H6 hle6 hown6
 obtain ⟨B', c', e6⟩ := hown6.shape
 rw [List.length_append, hlen, List.length_singleton] at e6
 subst e6
 refine Xa (X8 rfl) ?_
 refine Xs ?_
 refine Xa (Yq Xn Xn Y2) ?_
 refine Xa (Xb rfl) ?_
 rw [Zb hix] at hown6
 exact ⟨xs.length - (i + 1), by omega, i + 1, G6, B', c', by omega, rfl, Hp.le_trans (Hp.le_push' (Hp.le_trans hle hle5) _) hle6, hown6, rfl, e6, e7, rfl⟩
 intro hc1
 (try simp only [Y5] at hc1)
 refine Y3 ?_
 refine Xc ?_
 rw [List.take_of_length_le (by omega)] at hown
 refine Xs ?_
 refine Xa (X1 Xn) ?_
 refine Xa (X8 rfl) ?_
 refine X2 ?_
 exact ⟨_, X0 (Xp rfl), G, hle, hown⟩
theorem Own_parts (p : Parts) (ds : List Value) (H : Hp) (hq : kParts.rep H p ds) (h1 : p.nodes.length ≤ 1000000) (h2 : p.links.length ≤ 1000000) (h3 : ∀ l ∈ p.nodes, l.length ≤ 1000000) (h4 : ∀ l ∈ p.links, l.length ≤ 1000000) :
  ACalls Tryz.prog 132 #[.agg ds.toArray] H (fun r H' => ∃ G' N L, H.le G' ∧ r = .agg #[N, L] ∧ PartsP G' H' N L p.nodes p.links) := by
 obtain ⟨u0, u1, rfl, hn0, hn1⟩ := hq
 obtain ⟨B0, d0, rfl⟩ := hn0.shape
 obtain ⟨B1, d1, rfl⟩ := hn1.shape
 refine Xu Tryz.func132 rfl rfl rfl (by simp) ?_
 refine Xc ?_
 refine Xs ?_
 refine Xz (Yp rfl) ?_
 refine Xz (Ys (l := [.slice none 0 0, .slice none 0 0]) inf29.zero rfl (by decide)) ?_
 refine Xc ?_
 refine Yy (by kernel_rfl) (Y4 (B := [0, 1, 3, 0, 8, 31, 63, 127]) (π := [0, 1, 3, 4, 2, 5, 6, 7]) (by kernel_rfl)) ?_
 refine Xe rfl rfl (Xf (off := 0) rfl Tryz.underlying29 rfl inf27.size (by decide) rfl) Xt ?_
 refine Xe rfl rfl (Xl rfl Tryz.underlying27 rfl Xo) Xt ?_
 refine Xe rfl rfl (Xf (off := 1) rfl Tryz.underlying29 rfl inf27.size (by decide) rfl) Xt ?_
 refine Xe rfl rfl (Xl rfl Tryz.underlying27 rfl Xo) Xt ?_
 refine Yk rfl rfl (Xy (lists_links p.nodes _ _ (hn0.mono Zh) h1 h3) rfl Tryz.func141 rfl rfl rfl ?_)
 rintro v5 H5 ⟨G5, hle5, hown5⟩; have hleC5 := Hp.le_trans hle5 hown5.le; have hzC5 := hleC5.1; simp only [Hp.push_size] at hzC5; obtain ⟨A5, c5, rfl⟩ := hown5.shape
 refine ⟨Yi, ?_⟩
 refine Yk rfl rfl (Xy (lists_links p.links _ _ (hn1.mono Zh) h2 h4) rfl Tryz.func141 rfl rfl rfl ?_)
 rintro v6 H6 ⟨G6, hle6, hown6⟩; have hleC6 := Hp.le_trans hle6 hown6.le; have hzC6 := hleC6.1; obtain ⟨A6, c6, rfl⟩ := hown6.shape
 refine ⟨Yi, ?_⟩
 refine Xe rfl rfl (Y0 (pl := [(0, 1), (1, 1)]) (r := [.slice _ _ _, .slice _ _ _]) Tryz.underlying29 inf29.zero (by decide) rfl rfl) Xt ?_
 refine Yk rfl rfl (Ye (vs := [.slice _ _ _, .slice _ _ _]) rfl rfl inf29.size Ya Yd rfl rfl ?_)
 refine ⟨Yi, ?_⟩
 refine X2 ?_
 obtain ⟨G7, hle7, hown7, _⟩ := hown5.after hle6
 have kb := Xr (Hp.le_trans hle5 hle7) (by simp) (by intro e; cases e) ((Hp.push_new (H.push (.own 0 [.slice B0 p.nodes.length d0, .slice B1 p.links.length d1])) (.own 0 [.slice none 0 0, .slice none 0 0])))
 have hpp : PartsP G7 H6 (.slice A5 p.nodes.length c5) (.slice A6 p.links.length c6) p.nodes p.links := ⟨G6, hown7, hown6⟩
 have hz7 := (Hp.le_trans hle5 hle7).1
 simp only [Hp.push_size] at hz7 kb
 exact ⟨_, X0 (Ym rfl (Yl (cs := [.slice A5 p.nodes.length c5, .slice A6 p.links.length c6]) Tryz.underlying29 rfl inf29.size X5)), _, _, _, Hp.le_put_new (Hp.le_trans (Hp.le_push' (H.le_push _) _) (Hp.le_trans hle5 hle7)) (by omega) _, rfl, hpp.box_put (by omega) kb _⟩
theorem compact_sub (xs : List Int) : (Lib.compact xs).Sublist xs := by
 have h : ((List.range xs.length).map fun i => xs.toArray[i]!) = xs := by
  apply List.ext_getElem
  ·simp
  ·intro i h1 h2
   simp at h1 ⊢
   rw [List.getElem?_eq_getElem h2]; rfl
 have : (Lib.compact xs).Sublist ((List.range xs.length).map fun i => xs.toArray[i]!) := by
  unfold Lib.compact Lib.compactUpTo
  exact List.filter_sublist.map _
 rwa [h] at this
theorem compact_mem {xs : List Int} {x : Int} : x ∈ Lib.compact xs ↔ x ∈ xs := by
 refine ⟨fun h => (compact_sub xs).subset h, fun h => ?_⟩
 have key : ∀ i (hi : i < xs.length), xs[i] ∈ Lib.compact xs := by
  intro i
  induction i with
  | zero =>
   intro hi
   unfold Lib.compact Lib.compactUpTo
   refine List.mem_map.2 ⟨0, List.mem_filter.2 ⟨List.mem_range.2 hi, by simp [Lib.keeps]⟩, ?_⟩
   simp [List.getElem?_eq_getElem hi]
  | succ i ih =>
   intro hi
   have h0 := ih (by omega)
   by_cases he : xs[i + 1] = xs[i]
   ·rw [he]; exact h0
   ·unfold Lib.compact Lib.compactUpTo
    refine List.mem_map.2 ⟨i + 1, List.mem_filter.2 ⟨List.mem_range.2 hi, ?_⟩, ?_⟩
    ·unfold Lib.keeps
     simp [List.getElem?_eq_getElem hi, List.getElem?_eq_getElem (by omega : i < xs.length), he]
    ·simp [List.getElem?_eq_getElem hi]
 obtain ⟨i, hi, rfl⟩ := List.getElem_of_mem h
 exact key i hi
theorem endsL_sorted (xs : List Link) (second : Bool) : (V5 xs second).Pairwise (· ≤ ·) := by
 unfold V5
 refine List.Pairwise.sublist (compact_sub _) ?_
 have := List.pairwise_mergeSort (le := fun x y : Int => decide (x ≤ y)) (fun a b c h1 h2 => by simp at *; omega) (fun a b => by simp; omega) (xs.map fun x => if second then x.b else x.a)
 exact this.imp fun h => by simpa using h
theorem endsL_mem {xs : List Link} {second : Bool} {n : Int} : n ∈ V5 xs second ↔ ∃ x ∈ xs, (if second then x.b else x.a) = n := by
 unfold V5
 rw [compact_mem, List.mem_mergeSort, List.mem_map]
theorem endsL_len (xs : List Link) (second : Bool) : (V5 xs second).length ≤ xs.length := by
 unfold V5
 have h1 := (compact_sub ((xs.map fun x => if second then x.b else x.a).mergeSort fun x y => decide (x ≤ y))).length_le
 rw [List.length_mergeSort, List.length_map] at h1
 exact h1
theorem withinL_len (xs : List Link) (fs ts : List Int) : (Y8 xs fs ts).length ≤ xs.length := List.length_filter_le _ _

theorem ends_parts (ns : List (List Link)) (A AL : Option Addr) (c nL cL : Nat) (v : Nat) (H : Hp) (hN : Sl (kSl kLink) H (.slice A ns.length c) ns) (hv : v < ns.length) (hx : ∀ l ∈ ns, l.length ≤ 1000000) :
  ACalls Tryz.prog 143 #[.agg #[.slice A ns.length c, .slice AL nL cL], .int .i64 v] H (fun r H' => ∃ G', H.le G' ∧ OwnP (Yv .i64) G' H' r (V5 ns[v] false)) := by
 obtain ⟨b, o, ks, eB, hb, ⟨w0, rfl, hw0⟩, hcell0⟩ := hN.elem_at hv
 subst eB
 have hcell0' := hcell0.one
 obtain ⟨A6, c6, rfl⟩ := hw0.shape
 refine Xu Tryz.func143 rfl rfl rfl (by simp) ?_
 refine Xc ?_
 refine Xs ?_
 refine Xz (Yp rfl) ?_
 refine Xa (X8 rfl) ?_
 refine Xc ?_
 refine Xs ?_
 refine Xa (Xf (off := 0) rfl Tryz.underlying29 rfl inf27.size (by decide) rfl) ?_
 refine Xa (Xl rfl Tryz.underlying27 rfl Xo) ?_
 refine Xa (Xb rfl) ?_
 refine Xa (Xx rfl rfl Tryz.underlying27 inf83.size Yc Yc) ?_
 refine Xa (Xl rfl Tryz.underlying83 rfl Xo) ?_
 refine Xv (Xy (Ends_links ns[v] _ false _ (hw0.mono Zh) (hx _ (List.getElem_mem hv))) rfl Tryz.func135 rfl rfl rfl ?_)
 rintro v5 H5 ⟨G5, hle5, hown5⟩; have hle5' := Hp.le_trans (H.le_push _) hle5
 refine Xa (Z5 rfl) ?_
 refine X2 ?_
 exact ⟨_, X0 (Xp rfl), G5, hle5', hown5⟩
def Zc (ns ls : List (List Link)) (v u : Nat) : List (List Link) := ls.set v (Y8 (ls.getD v []) (V5 (ns.getD u []) false) (V5 (ns.getD v []) false))
theorem links_parts (ns ls : List (List Link)) (N L : Value) (v u : Nat) (G H : Hp) (hp : PartsP G H N L ns ls) (hl : ns.length = ls.length) (hv : v < ls.length) (hu : u < ls.length) (hx : ∀ l ∈ ns, l.length ≤ 1000000) (hy : ∀ l ∈ ls, l.length ≤ 1000000) :
  ACalls Tryz.prog 133 #[.agg #[N, L], .int .i64 v, .int .i64 u] H (fun r H' => ∃ G', G.le G' ∧ PartsP G' H' N L ns (Zc ns ls v u) ∧ r = .tuple #[]) := by
 obtain ⟨b, cL, cs, w0, rfl, hb, hgb, hcell0', hcs, hw0⟩ := hp.spotL hv
 have hN := hp.slN
 obtain ⟨A, c, rfl⟩ := hN.shape
 obtain ⟨A6, c6, rfl⟩ := hw0.shape
 have gv : ls.getD v [] = ls[v] := Zn hv
 have gn : ns.getD v [] = ns[v] := Zn (by omega)
 have gu : ns.getD u [] = ns[u] := Zn (by omega)
 refine Xu Tryz.func133 rfl rfl rfl (by simp) ?_
 refine Xc ?_
 refine Xs ?_
 refine Xz (Yp rfl) ?_
 refine Yy (by kernel_rfl) (Y4 (B := [0, 1, 0, 0, 8, 0, 56, 120, 0, 0, 768, 0, 0, 7936, 16376, 32767, 65535]) (π := [0, 1, 2, 3, 4, 5, 6, 7, 8, 9, 11, 12, 10, 13, 14, 15, 16]) (by kernel_rfl)) ?_
 refine Xe rfl rfl (Xf (off := 1) rfl Tryz.underlying29 rfl inf27.size (by decide) rfl) Xt ?_
 refine Xe rfl rfl (Xl rfl Tryz.underlying27 rfl Xo) Xt ?_
 refine Xe rfl rfl (Xb rfl) Xt ?_
 refine Xe rfl rfl (Xf (off := 1) rfl Tryz.underlying29 rfl inf27.size (by decide) rfl) Xt ?_
 refine Xe rfl rfl (Xl rfl Tryz.underlying27 rfl Xo) Xt ?_
 refine Xe rfl rfl (Xb rfl) Xt ?_
 refine Xe rfl rfl (Xx rfl rfl Tryz.underlying27 inf83.size Yc Yc) Xt ?_
 refine Xe rfl rfl (Xl rfl Tryz.underlying83 rfl Xo) Xt ?_
 refine Xe rfl rfl (Yj (cs := [.slice _ _ _, .slice _ _ _]) rfl Tryz.underlying29 rfl inf29.size X5) Xt ?_
 refine Xe rfl rfl (Xb rfl) Xt ?_
 refine Xe rfl rfl (Yj (cs := [.slice _ _ _, .slice _ _ _]) rfl Tryz.underlying29 rfl inf29.size X5) Xt ?_
 refine Xe rfl rfl (Xb rfl) Xt ?_
 refine Yk rfl rfl (Xy (ends_parts ns A _ c _ _ u _ (hN.mono Zh) (by omega) hx) rfl Tryz.func143 rfl rfl rfl ?_)
 rintro v5 H5 ⟨G5, hle5, hown5⟩; have hleC5 := Hp.le_trans hle5 hown5.le; have hzC5 := hleC5.1; simp only [Hp.push_size] at hzC5; obtain ⟨A5, c5, rfl⟩ := hown5.shape
 refine ⟨Yi, ?_⟩
 refine Yk rfl rfl (Xy (ends_parts ns A _ c _ _ v _ (hN.mono Zh) (by omega) hx) rfl Tryz.func143 rfl rfl rfl ?_)
 rintro v6 H6 ⟨G6, hle6, hown6⟩; have hleC6 := Hp.le_trans hle6 hown6.le; have hzC6 := hleC6.1; obtain ⟨A7, c7, rfl⟩ := hown6.shape
 refine ⟨Yi, ?_⟩
 refine Yk rfl rfl (Xy (Within_links ls[v] (V5 ns[u] false) (V5 ns[v] false) _ _ _ _ (hw0.mono Zh) (hown5.sl.mono Zh) hown6.sl (hy _ (List.getElem_mem hv)) (by have := endsL_len ns[u] false; have := hx _ (List.getElem_mem (by omega : u < ns.length)); omega) (by have := endsL_len ns[v] false; have := hx _ (List.getElem_mem (by omega : v < ns.length)); omega) (endsL_sorted _ _) (endsL_sorted _ _)) rfl Tryz.func142 rfl rfl rfl ?_)
 rintro v8 H8 ⟨G8, hle8, hown8⟩; have hleC8 := Hp.le_trans hle8 hown8.le; have hzC8 := hleC8.1; obtain ⟨A9, c9, rfl⟩ := hown8.shape
 refine ⟨Yi, ?_⟩
 refine Xe rfl rfl (Xx rfl rfl Tryz.underlying27 inf83.size Yc Yc) Xt ?_
 first | refine Yk rfl rfl (Yz rfl rfl rfl inf83.size Ya Yd rfl ?_)
 refine ⟨Yi, ?_⟩
 have hleA : H.le H8 := Hp.le_trans (H.le_push _) (Hp.le_trans hleC5 (Hp.le_trans hleC6 hleC8))
 have hg8 : H8.get b = .own 1 cs := Xr hleA hb (by intro e; cases e) hgb
 obtain ⟨G9, hle9, hp9⟩ := hp.storeL hleA hown8.sl hv hg8 (off := 0 + (v : Int).toNat * 1) (by simp)
 rw [setR_one (by simp; omega)] at hp9
 unfold Zc
 rw [gv, gn, gu]
 exact ⟨_, aresult0, G9, hle9, hp9, rfl⟩
def V9 (ns : List (List Link)) (v : Nat) (l : List Int) : List (List Link) := ns.set v (Y8 (ns.getD v []) l l)
theorem keep_parts (ns ls : List (List Link)) (N L : Value) (v : Nat) (l : List Int) (vl : Value) (G H : Hp) (hp : PartsP G H N L ns ls) (hv : v < ns.length) (hlv : Sl (Yv .i64) H vl l) (hll : l.length ≤ 1000000) (hlr : l.Pairwise (· ≤ ·)) (hx : ∀ l ∈ ns, l.length ≤ 1000000) :
  ACalls Tryz.prog 134 #[.agg #[N, L], .int .i64 v, vl] H (fun r H' => ∃ G', G.le G' ∧ PartsP G' H' N L (V9 ns v l) ls ∧ r = .tuple #[]) := by
 obtain ⟨b, cN, cs, w0, rfl, hb, hgb, hcell0', hcs, hw0⟩ := hp.spotN hv
 have hL := hp.slL
 obtain ⟨AL, cL, rfl⟩ := hL.shape
 obtain ⟨A6, c6, rfl⟩ := hw0.shape
 obtain ⟨Al, cl, rfl⟩ := hlv.shape
 have gv : ns.getD v [] = ns[v] := Zn hv
 refine Xu Tryz.func134 rfl rfl rfl (by simp) ?_
 refine Xc ?_
 refine Xs ?_
 refine Xz (Yp rfl) ?_
 refine Yy (by kernel_rfl) (Y4 (B := [0, 1, 0, 0, 8, 0, 56, 120, 0, 0, 1016, 2047, 4095]) (π := [0, 1, 2, 3, 4, 5, 6, 7, 8, 9, 10, 11, 12]) (by kernel_rfl)) ?_
 refine Xe rfl rfl (Xf (off := 0) rfl Tryz.underlying29 rfl inf27.size (by decide) rfl) Xt ?_
 refine Xe rfl rfl (Xl rfl Tryz.underlying27 rfl Xo) Xt ?_
 refine Xe rfl rfl (Xb rfl) Xt ?_
 refine Xe rfl rfl (Xf (off := 0) rfl Tryz.underlying29 rfl inf27.size (by decide) rfl) Xt ?_
 refine Xe rfl rfl (Xl rfl Tryz.underlying27 rfl Xo) Xt ?_
 refine Xe rfl rfl (Xb rfl) Xt ?_
 refine Xe rfl rfl (Xx rfl rfl Tryz.underlying27 inf83.size Yc Yc) Xt ?_
 refine Xe rfl rfl (Xl rfl Tryz.underlying83 rfl Xo) Xt ?_
 refine Xe rfl rfl (X1 rfl) Xt ?_
 refine Xe rfl rfl (X1 rfl) Xt ?_
 refine Yk rfl rfl (Xy (Within_links ns[v] l l _ _ _ _ (hw0.mono Zh) (hlv.mono Zh) (hlv.mono Zh) (hx _ (List.getElem_mem hv)) hll hll hlr hlr) rfl Tryz.func142 rfl rfl rfl ?_)
 rintro v8 H8 ⟨G8, hle8, hown8⟩; have hleC8 := Hp.le_trans hle8 hown8.le; have hzC8 := hleC8.1; simp only [Hp.push_size] at hzC8; obtain ⟨A9, c9, rfl⟩ := hown8.shape
 refine ⟨Yi, ?_⟩
 refine Xe rfl rfl (Xx rfl rfl Tryz.underlying27 inf83.size Yc Yc) Xt ?_
 first | refine Yk rfl rfl (Yz rfl rfl rfl inf83.size Ya Yd rfl ?_)
 refine ⟨Yi, ?_⟩
 have hleA : H.le H8 := Hp.le_trans (H.le_push _) hleC8
 have hg8 : H8.get b = .own 1 cs := Xr hleA hb (by intro e; cases e) hgb
 obtain ⟨G9, hle9, hp9⟩ := hp.storeN hleA hown8.sl hv hg8 (off := 0 + (v : Int).toNat * 1) (by simp)
 rw [setR_one (by simp; omega)] at hp9
 unfold V9
 rw [gv]
 exact ⟨_, aresult0, G9, hle9, hp9, rfl⟩
structure Fits (n : Nat) (p : Parts) : Prop where
 n1 : p.nodes.length = n
 n2 : p.links.length = n
 s1 : ∀ l ∈ p.nodes, l.length ≤ 1000000
 s2 : ∀ l ∈ p.links, l.length ≤ 1000000
theorem Ud {ns : List (List Link)} (h : ∀ l ∈ ns, l.length ≤ 1000000) (v : Nat) : (ns.getD v []).length ≤ 1000000 := by
 by_cases hv : v < ns.length
 ·rw [Zn hv]; exact h _ (List.getElem_mem hv)
 ·rw [List.getD_eq_getElem?_getD, List.getElem?_eq_none (by omega)]; simp
theorem set_within {ns : List (List Link)} (h : ∀ l ∈ ns, l.length ≤ 1000000) (v : Nat) (fs ts : List Int) : ∀ l ∈ ns.set v (Y8 (ns.getD v []) fs ts), l.length ≤ 1000000 := fun l hl => by
 rcases List.mem_or_eq_of_mem_set hl with hl | rfl
 ·exact h l hl
 ·exact Nat.le_trans (withinL_len _ _ _) (Ud h v)
theorem linksStep_len (ns ls : List (List Link)) (v u : Nat) : (Zc ns ls v u).length = ls.length := List.length_set
theorem keepStep_len (ns : List (List Link)) (v : Nat) (l : List Int) : (V9 ns v l).length = ns.length := List.length_set
def upStep (f : Forest) (p : Parts) (v : Nat) : Parts :=
 if f.parent.getD v 0 = -1 then p else
  ⟨V9 p.nodes (f.parent.getD v 0).toNat (V5 ((Zc p.nodes p.links v (f.parent.getD v 0).toNat).getD v []) false), Zc p.nodes p.links v (f.parent.getD v 0).toNat⟩
def Vf (f : Forest) (p : Parts) (v : Nat) : Parts :=
 if f.parent.getD v 0 = -1 then p else
  ⟨V9 p.nodes v (V5 ((Zc p.nodes p.links v (f.parent.getD v 0).toNat).getD v []) true), Zc p.nodes p.links v (f.parent.getD v 0).toNat⟩
theorem Fits.up {n : Nat} {f : Forest} {p : Parts} (h : Fits n p) (v : Nat) : Fits n (upStep f p v) := by
 unfold upStep
 split
 ·exact h
 ·exact ⟨(keepStep_len _ _ _).trans h.n1, (linksStep_len _ _ _ _).trans h.n2, set_within h.s1 _ _ _, set_within h.s2 _ _ _⟩
theorem Fits.down {n : Nat} {f : Forest} {p : Parts} (h : Fits n p) (v : Nat) : Fits n (Vf f p v) := by
 unfold Vf
 split
 ·exact h
 ·exact ⟨(keepStep_len _ _ _).trans h.n1, (linksStep_len _ _ _ _).trans h.n2, set_within h.s1 _ _ _, set_within h.s2 _ _ _⟩
def upK (f : Forest) (p : Parts) (k : Nat) : Parts := (f.order.reverse.take k).foldl (fun p v => upStep f p v.toNat) p
def downK (f : Forest) (p : Parts) (k : Nat) : Parts := (f.order.take k).foldl (fun p v => Vf f p v.toNat) p
def upP (f : Forest) (p : Parts) : Parts := f.order.reverse.foldl (fun p v => upStep f p v.toNat) p
def downP (f : Forest) (p : Parts) : Parts := f.order.foldl (fun p v => Vf f p v.toNat) p
theorem upK_succ (f : Forest) (p : Parts) {k : Nat} (h : k < f.order.length) : upK f p (k + 1) = upStep f (upK f p k) (f.order[f.order.length - 1 - k]?.getD 0).toNat := by
 unfold upK
 rw [List.take_succ_eq_append_getElem (by simpa using h), List.foldl_append]
 simp only [List.foldl_cons, List.foldl_nil]
 rw [List.getElem_reverse, List.getElem?_eq_getElem (by omega)]
 rfl
theorem downK_succ (f : Forest) (p : Parts) {k : Nat} (h : k < f.order.length) : downK f p (k + 1) = Vf f (downK f p k) (f.order.getD k 0).toNat := by
 unfold downK
 rw [List.take_succ_eq_append_getElem h, List.foldl_append, Za h]
 rfl
theorem upK_all (f : Forest) (p : Parts) : upK f p f.order.length = upP f p := by
 unfold upK upP
 rw [List.take_of_length_le (by simp)]
theorem downK_all (f : Forest) (p : Parts) : downK f p f.order.length = downP f p := by
 unfold downK downP
 rw [List.take_of_length_le (Nat.le_refl _)]
theorem Fits.foldl {n : Nat} {p : Parts} {st : Parts → Int → Parts} (hs : ∀ p v, Fits n p → Fits n (st p v)) : ∀ (l : List Int) (p : Parts), Fits n p → Fits n (l.foldl st p)
 | [], _, h => h
 | v :: l, p, h => Fits.foldl (p := p) hs l _ (hs p v h)
theorem Fits.upK {n : Nat} {f : Forest} {p : Parts} (h : Fits n p) (k : Nat) : Fits n (upK f p k) := Fits.foldl (p := p) (fun p v h => h.up _) _ _ h
theorem Fits.downK {n : Nat} {f : Forest} {p : Parts} (h : Fits n p) (k : Nat) : Fits n (downK f p k) := Fits.foldl (p := p) (fun p v h => h.down _) _ _ h
theorem Fits.upP {n : Nat} {f : Forest} {p : Parts} (h : Fits n p) : Fits n (upP f p) := Fits.foldl (p := p) (fun p v h => h.up _) _ _ h
theorem Fits.downP {n : Nat} {f : Forest} {p : Parts} (h : Fits n p) : Fits n (downP f p) := Fits.foldl (p := p) (fun p v h => h.down _) _ _ h
theorem PartsP.push {G H : Hp} {N L : Value} {ns ls : List (List Link)} (h : PartsP G H N L ns ls) (x : Blk) : PartsP (G.push x) (H.push x) N L ns ls := let ⟨Gm, h1, h2⟩ := h; ⟨Gm.push x, h1.push x, h2.push x⟩
theorem PartsP.boxed {G H : Hp} {N L : Value} {ns ls : List (List Link)} (h : PartsP G H N L ns ls) (cs cs' : List Value) : PartsP ((G.push (.own 0 cs)).put H.size (.own 0 cs')) ((H.push (.own 0 cs)).put H.size (.own 0 cs')) N L ns ls := by
 have hz := h.size
 exact (h.push (.own 0 cs)).box_put (by simp; omega) (by rw [hz]; exact Hp.push_new _ _) cs'
theorem Backward_ints (v : Value) (H : Hp) (A : Option Addr) (n c : Nat) (hv : v = .slice A n c) : ACalls Tryz.prog 136 #[v] H (fun r H' => r = .func (.func 146) #[] #[.pointer (some ⟨H.size, 0, none⟩)] ∧ H' = H.push (.own 0 [v])) := by
 subst hv
 refine Xu Tryz.func136 rfl rfl rfl (by simp) ?_
 refine Xc ?_
 refine Xs ?_
 refine Xz (am_box_sl rfl) ?_
 refine Xa (Z5 rfl) ?_
 refine Xc ?_
 refine Xs ?_
 refine Xa (av_makeFunc) ?_
 refine Xa (V8 rfl) ?_
 refine X2 ?_
 exact ⟨_, X0 (Xp rfl), rfl, rfl⟩
theorem GoodF.order_in {f : Forest} (h : GoodF f) {v : Int} (hv : v ∈ f.order) : 0 ≤ v ∧ v < f.vars.length := by
 obtain ⟨i, hi, rfl⟩ := List.getElem_of_mem hv
 have hl := h.l1
 have := h.ok i (by omega)
 rw [OkF, h.order_at (by omega)] at this
 exact ⟨this.1, this.2.1⟩
set_option maxHeartbeats 1000000 in
theorem up_parts (f : Forest) (p : Parts) (cs ds : List Value) (H : Hp) (hp : kForest.rep H f cs) (hq : kParts.rep H p ds) (hg : GoodF f) (hfit : Fits f.vars.length p) (hn : f.vars.length ≤ 1000000) :
    ACalls Tryz.prog 111 #[.agg cs.toArray, .agg ds.toArray] H (fun r H' => ∃ G' N L, H.le G' ∧ r = .agg #[N, L] ∧ PartsP G' H' N L (upP f p).nodes (upP f p).links) := by
  have hq0 := hq
  obtain ⟨v0, v1, v2, v3, v4, rfl, hs0, hs1, hs2, hs3, hs4⟩ := hp
  obtain ⟨A0, c0, rfl⟩ := hs0.shape
  obtain ⟨A1, c1, rfl⟩ := hs1.shape
  obtain ⟨A2, c2, rfl⟩ := hs2.shape
  obtain ⟨A3, c3, rfl⟩ := hs3.shape
  obtain ⟨A4, c4, rfl⟩ := hs4.shape
  obtain ⟨u0, u1, rfl, hn0, hn1⟩ := hq
  obtain ⟨B0, d0, rfl⟩ := hn0.shape
  obtain ⟨B1, d1, rfl⟩ := hn1.shape
  have hgl := hg.l1
  have hgp := hg.l2
  refine Xu Tryz.func111 rfl rfl rfl (by simp) ?_
  refine Xc ?_
  refine Xs ?_
  refine Xz (Yp rfl) ?_
  refine Xz (Yp rfl) ?_
  refine Xz (Ys (l := [.slice none 0 0, .slice none 0 0]) inf29.zero rfl (by decide)) ?_
  refine Xc ?_
  refine Xs ?_
  refine Xa (Yj (cs := [.slice _ _ _, .slice _ _ _]) rfl Tryz.underlying29 rfl inf29.size X5) ?_
  refine Xv (Xy (Own_parts p _ _ (kParts.mono Zh hq0) (by have := hfit.n1; omega) (by have := hfit.n2; omega) hfit.s1 hfit.s2) rfl Tryz.func132 rfl rfl rfl ?_)
  rintro v5 H5 ⟨G5, N, L, hle5, rfl, hpp5⟩; obtain ⟨AN, cN, rfl⟩ := hpp5.slN.shape; obtain ⟨AL, cL, rfl⟩ := hpp5.slL.shape; have hz5 := hle5.1; simp only [Hp.push_size] at hz5; have hzz5 := hpp5.size
  refine Xz (Ys (l := [.slice none 0 0, .slice none 0 0]) inf29.zero rfl (by decide)) ?_
  refine Xv (Ye (vs := [.slice _ _ _, .slice _ _ _]) rfl rfl inf29.size Ya Yd rfl rfl ?_)
  refine Xc ?_
  refine Xc ?_
  obtain ⟨H6, hH6⟩ : ∃ H6, H6 = (H5.push (.own 0 [.slice none 0 0, .slice none 0 0])).put H5.size (.own 0 [.slice AN p.nodes.length cN, .slice AL p.links.length cL]) := ⟨_, rfl⟩
  obtain ⟨G6, hG6⟩ : ∃ G6, G6 = (G5.push (.own 0 [.slice none 0 0, .slice none 0 0])).put H5.size (.own 0 [.slice AN p.nodes.length cN, .slice AL p.links.length cL]) := ⟨_, rfl⟩
  have hpp6 : PartsP G6 H6 (.slice AN p.nodes.length cN) (.slice AL p.links.length cL) p.nodes p.links := by rw [hH6, hG6]; exact hpp5.boxed _ _
  have hle6 : ((((H.push (.own 0 [.slice A0 f.vars.length c0, .slice A1 f.order.length c1, .slice A2 f.parent.length c2, .slice A3 f.links.length c3, .slice A4 f.loops.length c4])).push (.own 0 [.slice B0 p.nodes.length d0, .slice B1 p.links.length d1])).push (.own 0 [.slice none 0 0, .slice none 0 0]))).le G6 := by
    rw [hG6]; exact Hp.le_put_new (Hp.le_push' hle5 _) (by simp; omega) _
  have k0 : G6.get H.size = .own 0 [.slice A0 f.vars.length c0, .slice A1 f.order.length c1, .slice A2 f.parent.length c2, .slice A3 f.links.length c3, .slice A4 f.loops.length c4] := Xr hle6 (by simp; omega) (by intro e; cases e) Ya
  have k2 : G6.get (H.size + 2) = .own 0 [.slice none 0 0, .slice none 0 0] := Xr hle6 (by simp) (by intro e; cases e) Ya
  have k5 : G6.get H5.size = .own 0 [.slice AN p.nodes.length cN, .slice AL p.links.length cL] := by rw [hG6]; exact Hp.put_same _ _ _
  have hz6 : G6.size = H5.size + 1 := by rw [hG6]; simp; omega
  have hzz6 := hpp6.size
  have hleH6 : H.le G6 := Hp.le_trans (Hp.le_push' (Hp.le_push' (H.le_push _) _) _) hle6
  have h0 := Xr hpp6.le (by omega) (by intro e; cases e) k0
  change ACode true _ _ _ _ _ ((H5.push (.own 0 [.slice none 0 0, .slice none 0 0])).put H5.size (.own 0 [.slice AN p.nodes.length cN, .slice AL p.links.length cL]))
  rw [← hH6]
  refine Xs ?_
  refine Xa (Xf (off := 1) rfl Tryz.underlying26 rfl inf23.size (by decide) rfl) ?_
  refine Xa (Xl rfl Tryz.underlying23 rfl Xo) ?_
  refine Xv (Xy (Backward_ints _ H6 A1 _ c1 rfl) rfl Tryz.func136 rfl rfl rfl ?_)
  rintro v7 H7 ⟨rfl, rfl⟩
  refine Yh ?_
  have hpp7 := hpp6.push (.own 0 [.slice A1 f.order.length c1])
  refine ac_rangeFunc (fun k H' => ∃ G', (G6.push (.own 0 [.slice A1 f.order.length c1])).le G' ∧ PartsP G' H' (.slice AN p.nodes.length cN) (.slice AL p.links.length cL) (upK f p k).nodes (upK f p k).links) rfl (Back_each (G := G6.push (.own 0 [.slice A1 f.order.length c1])) (b := H6.size) hpp7.le (by simp; omega) (by rw [hzz6]; exact Hp.push_new _ _) (hs1.mono ((hleH6.sees).push _)) (by omega)) (fun _ _ => .int _ _) (fun _ _ => .int _ _) rfl (⟨_, Hp.le_refl _, hpp7⟩) (fun k H' ⟨G', a, b⟩ => Hp.le_trans a b.le) ?_ ?_
  rintro k H8 hk ⟨G8, hle8, hpp8⟩
  have hix : f.order.length - 1 - k < f.order.length := by omega
  have hwm : f.order[f.order.length - 1 - k]?.getD 0 ∈ f.order := by rw [List.getElem?_eq_getElem hix]; exact List.getElem_mem hix
  obtain ⟨w, hw⟩ : ∃ w : Nat, f.order[f.order.length - 1 - k]?.getD 0 = (w : Int) := ⟨(f.order[f.order.length - 1 - k]?.getD 0).toNat, by have := hg.order_in hwm; omega⟩
  have hwn : w < f.vars.length := by have := hg.order_in hwm; omega
  have hsucc := upK_succ f p hk
  rw [hw, Int.toNat_natCast] at hsucc
  simp only [hw]
  have hfk := hfit.upK (f := f) k
  obtain ⟨b2, o2, rfl, hb2, hcell2⟩ := hs2.int_at (i := (w : Int)) (by omega) (by omega)
  rw [Int.toNat_natCast] at hcell2
  have hle8' : G6.le G8 := Hp.le_trans (G6.le_push _) hle8
  have hleH8 : H.le H8 := Hp.le_trans hleH6 (Hp.le_trans hle8' hpp8.le)
  have hcell2' := hleH8.cell1 hb2 hcell2
  have hz8 := hle8'.1
  have hg0 : H8.get H.size = _ := Xr (Hp.le_trans hle8' hpp8.le) (by omega) (by intro e; cases e) k0
  have kg5 : G8.get H5.size = _ := Xr hle8' (by omega) (by intro e; cases e) k5
  have hg5 : H8.get H5.size = _ := Xr hpp8.le (by omega) (by intro e; cases e) kg5
  have hzz8 := hpp8.size
  refine Xs ?_
  refine Xa (Xj rfl) ?_
  refine Yh ?_
  refine Xc ?_
  refine Xs ?_
  refine Xa (Xf (off := 2) rfl Tryz.underlying26 rfl inf23.size (by decide) rfl) ?_
  refine Xa (Xl rfl Tryz.underlying23 rfl Xo) ?_
  refine Xa (Xb rfl) ?_
  refine Xa (Xx rfl rfl Tryz.underlying23 inf3.size Yc Yc) ?_
  refine Xa (Xl rfl Tryz.underlying3 rfl Xo) ?_
  refine Xa (Xj rfl) ?_
  refine Xc ?_
  refine Xs ?_
  refine Xa (Xb rfl) ?_
  refine Xa (Vb rfl rfl) ?_
  refine X4 rfl rfl ?_ ?_
  intro hc1
  have hpar : f.parent.getD w 0 ≠ -1 := of_decide_eq_true hc1
  obtain ⟨u, hu⟩ : ∃ u : Nat, f.parent.getD w 0 = (u : Int) := ⟨(f.parent.getD w 0).toNat, by have := hg.parent_ge hwn; omega⟩
  have hun : u < f.vars.length := by have := hg.parent_ge hwn; omega
  have hstep : upStep f (upK f p k) w = ⟨V9 (upK f p k).nodes u (V5 ((Zc (upK f p k).nodes (upK f p k).links w u).getD w []) false), Zc (upK f p k).nodes (upK f p k).links w u⟩ := by unfold upStep; rw [if_neg hpar, hu, Int.toNat_natCast]
  rw [hstep] at hsucc
  rw [hu]
  refine Xc ?_
  refine Xs ?_
  refine Xa (Yj (cs := [.slice _ _ _, .slice _ _ _]) rfl Tryz.underlying29 rfl inf29.size X5) ?_
  refine Xa (Xb rfl) ?_
  refine Xa (Xb rfl) ?_
  refine Xv (Xy (links_parts (upK f p k).nodes (upK f p k).links _ _ w u _ _ hpp8 (by rw [hfk.n1, hfk.n2]) (by rw [hfk.n2]; exact hwn) (by rw [hfk.n2]; exact hun) hfk.s1 hfk.s2) rfl Tryz.func133 rfl rfl rfl ?_)
  rintro v9 H9 ⟨G9, hle9, hpp9, rfl⟩; have kg59 := Xr hle9 (by omega) (by intro e; cases e) kg5; have hz9 := hle9.1; have hzz9 := hpp9.size; have hg59 := Xr hpp9.le (by omega) (by intro e; cases e) kg59
  have hll9 : (Zc (upK f p k).nodes (upK f p k).links w u).length = f.vars.length := by rw [linksStep_len, hfk.n2]
  obtain ⟨b9, c9, cs9, w9, e9, hb9, hgb9, hcell9, hcs9, hw9⟩ := hpp9.spotL (i := w) (by omega)
  injection e9 with e91 e92 e93
  subst e91
  obtain ⟨A9, c90, rfl⟩ := hw9.shape
  have gl9 := Zn (by omega : w < (Zc (upK f p k).nodes (upK f p k).links w u).length)
  have hs9 : (Zc (upK f p k).nodes (upK f p k).links w u)[w].length ≤ 1000000 := by rw [← gl9]; exact Ud (set_within hfk.s2 _ _ _) w
  refine Yy (by kernel_rfl) (Y4 (B := [0, 0, 0, 4, 0, 28, 60, 124, 255]) (π := [0, 1, 2, 3, 4, 5, 6, 7, 8]) (by kernel_rfl)) ?_
  refine Xe rfl rfl (Yj (cs := [.slice _ _ _, .slice _ _ _]) rfl Tryz.underlying29 rfl inf29.size X5) Xt ?_
  refine Xe rfl rfl (Xb rfl) Xt ?_
  refine Xe rfl rfl (Xf (off := 1) rfl Tryz.underlying29 rfl inf27.size (by decide) rfl) Xt ?_
  refine Xe rfl rfl (Xl rfl Tryz.underlying27 rfl Xo) Xt ?_
  refine Xe rfl rfl (Xb rfl) Xt ?_
  refine Xe rfl rfl (Xx rfl rfl Tryz.underlying27 inf83.size Yc Yc) Xt ?_
  refine Xe rfl rfl (Xl rfl Tryz.underlying83 rfl Xo) Xt ?_
  refine Yk rfl rfl (Xy (Ends_links (Zc (upK f p k).nodes (upK f p k).links w u)[w] _ false _ hw9 hs9) rfl Tryz.func135 rfl rfl rfl ?_)
  rintro v10 H10 ⟨G10, hle10, hown10⟩; have hleC10 := Hp.le_trans hle10 hown10.le; obtain ⟨G10', hle10', hpp10⟩ := hpp9.after hleC10; have hzC10 := hleC10.1; obtain ⟨A10, c10, rfl⟩ := hown10.shape
  refine ⟨Yi, ?_⟩
  refine Yk rfl rfl (Xy (keep_parts (upK f p k).nodes (Zc (upK f p k).nodes (upK f p k).links w u) _ _ u _ _ _ _ hpp10 (by rw [hfk.n1]; exact hun) hown10.sl (by have := endsL_len (Zc (upK f p k).nodes (upK f p k).links w u)[w] false; omega) (endsL_sorted _ _) hfk.s1) rfl Tryz.func134 rfl rfl rfl ?_)
  rintro v11 H11 ⟨G11, hle11, hpp11, rfl⟩
  refine ⟨Yi, ?_⟩
  refine ⟨rfl, ?_⟩
  first
    | (rw [gl9] at hsucc
       rw [hsucc]
       exact ⟨G11, Hp.le_trans hle8 (Hp.le_trans hle9 (Hp.le_trans hle10' hle11)), hpp11⟩)
    | (rw [hsucc]
       exact ⟨G8, hle8, hpp8⟩)
  intro hc1
  have hpar : f.parent.getD w 0 = -1 := by simpa using of_decide_eq_false hc1
  have hstep : upStep f (upK f p k) w = upK f p k := by unfold upStep; rw [if_pos hpar]
  rw [hstep] at hsucc
  refine X9 ?_
  refine ⟨rfl, ?_⟩
  first
    | (rw [gl9] at hsucc
       rw [hsucc]
       exact ⟨G11, Hp.le_trans hle8 (Hp.le_trans hle9 (Hp.le_trans hle10' hle11)), hpp11⟩)
    | (rw [hsucc]
       exact ⟨G8, hle8, hpp8⟩)
  rintro H8 ⟨G8, hle8, hpp8⟩
  rw [upK_all] at hpp8
  have hle8' : G6.le G8 := Hp.le_trans (G6.le_push _) hle8
  have hz8 := hle8'.1
  have hzz8 := hpp8.size
  have kg2 : G8.get (H.size + 2) = _ := Xr hle8' (by omega) (by intro e; cases e) k2
  have hg2 : H8.get (H.size + 2) = _ := Xr hpp8.le (by omega) (by intro e; cases e) kg2
  have kg5 : G8.get H5.size = _ := Xr hle8' (by omega) (by intro e; cases e) k5
  have hg5 : H8.get H5.size = _ := Xr hpp8.le (by omega) (by intro e; cases e) kg5
  refine Xc ?_
  refine Xs ?_
  refine Xa (Yj (cs := [.slice _ _ _, .slice _ _ _]) rfl Tryz.underlying29 rfl inf29.size X5) ?_
  refine Xv (Ye (vs := [.slice _ _ _, .slice _ _ _]) rfl rfl inf29.size Ya Yd rfl rfl ?_)
  refine X2 ?_
  exact ⟨_, X0 (Ym rfl (Yl (cs := [.slice AN p.nodes.length cN, .slice AL p.links.length cL]) Tryz.underlying29 rfl inf29.size X5)), _, _, _, Hp.le_put_new (Hp.le_trans hleH6 hle8') (by omega) _, rfl, hpp8.box_put (by omega) kg2 _⟩
end Go.Proofs.YtmakkmcjocjgmaaGreat.Am
