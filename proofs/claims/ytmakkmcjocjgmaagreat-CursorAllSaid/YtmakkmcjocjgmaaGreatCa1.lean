/- Texts that the proof rests on, part 1: lemmas for every heap that is related to a world, no condition beyond each lemma's own. -/
import Derived.Test.YtmakkmcjocjgmaaGreatCaTy
import Derived.Test.YtmakkmcjocjgmaaGreatCaBits
import Derived.Test.YtmakkmcjocjgmaaGreatCaShelfLay
import Derived.Test.YtmakkmcjocjgmaaGreatCaOwn
import Derived.Test.YtmakkmcjocjgmaaGreatCaStructEq
namespace Go.Proofs.YtmakkmcjocjgmaaGreat.Am
open Go Go.RowKit
set_option linter.unusedVariables false
set_option linter.unusedSimpArgs false
set_option maxRecDepth 100000
theorem Mul64_u64 (x y : Nat) (hx : x < 18446744073709551616) (hy : y < 18446744073709551616) (H : Hp) :
  ACalls Tryz.prog 112 #[.int .u64 x, .int .u64 y] H (fun r H' => r = .tuple #[.int .u64 ((x * y / 18446744073709551616 : Nat) : Int), .int .u64 ((x * y % 18446744073709551616 : Nat) : Int)] ∧ H' = H) :=
 mul64_real mul64Lay x y hx hy H
theorem times_high {m n : Nat} (hm : m ≤ 4611686018427387904) (hn : n ≤ 4611686018427387904) (h : m * n / 18446744073709551616 ≠ 0) : min ((m : Int) * n) Zh = Zh := by
 have : 18446744073709551616 ≤ m * n := by
  rcases Nat.lt_or_ge (m * n) 18446744073709551616 with h1 | h1
  ·exact absurd (Nat.div_eq_of_lt h1) h
  ·exact h1
 have h2 : ((m * n : Nat) : Int) = (m : Int) * n := by simp
 unfold Zh
 omega
theorem min_if (a M : Int) : (if M < a then M else a) = min a M := by rw [Int.min_def]; split <;> split <;> omega
theorem Times_u64 (a b : Int) (ha : 0 ≤ a) (hb : 0 ≤ b) (H : Hp) : ACalls Tryz.prog 84 #[.int .u64 a, .int .u64 b] H (fun r H' => r = .int .u64 (Zi a b) ∧ H' = H) := by
 obtain ⟨m, hm⟩ : ∃ m : Nat, (m : Int) = (if (4611686018427387904 : Int) < a then 4611686018427387904 else a) := ⟨(if (4611686018427387904 : Int) < a then 4611686018427387904 else a).toNat, by split <;> omega⟩
 obtain ⟨n, hn⟩ : ∃ n : Nat, (n : Int) = (if (4611686018427387904 : Int) < b then 4611686018427387904 else b) := ⟨(if (4611686018427387904 : Int) < b then 4611686018427387904 else b).toNat, by split <;> omega⟩
 have hm1 : m ≤ 4611686018427387904 := by split at hm <;> omega
 have hn1 : n ≤ 4611686018427387904 := by split at hn <;> omega
 have em : min a Zh = m := by unfold Zh; split at hm <;> omega
 have en : min b Zh = n := by unfold Zh; split at hn <;> omega
 refine Xv Tryz.func84 rfl rfl rfl (by simp) ?_
 refine Xe ?_
 refine Xu ?_
 refine Xa (Xi rfl) ?_
 refine Xe ?_
 refine Xu ?_
 refine Xa (Xb rfl) ?_
 refine Xa (av_min2 rfl rfl) ?_
 refine Xa (Xb rfl) ?_
 refine Xa (av_min2 rfl rfl) ?_
 rw [← hm, ← hn]
 refine Xw (Xy (Mul64_u64 m n (by omega) (by omega) H) rfl Tryz.func112 rfl rfl rfl ?_)
 rintro v H ⟨rfl, rfl⟩
 refine Xa (Zm rfl) ?_
 refine Xa (Yj rfl rfl) ?_
 refine Xa (Yj rfl rfl) ?_
 refine Xa (Xi rfl) ?_
 refine Xa (Xi rfl) ?_
 refine Xe ?_
 refine Xe ?_
 refine Xu ?_
 refine Xa (Xb rfl) ?_
 refine Xa (Zw rfl rfl) ?_
 refine X5 rfl rfl ?_ ?_
 intro hc1
 (try simp only [Yt] at hc1)
 refine Xe ?_
 refine Xu ?_
 refine Xa (Xi rfl) ?_
 refine X2 ?_
 refine ⟨.int .u64 4611686018427387904, Xx (Xs rfl), ?_, rfl⟩
 rw [Zi, em, en, times_high hm1 hn1 (fun e => hc1 (by rw [e]; rfl))]; rfl
 intro hc1
 (try simp only [Yt] at hc1)
 refine X9 ?_
 refine Xe ?_
 refine Xu ?_
 refine Xa (Xb rfl) ?_
 refine Xa (av_min2 rfl rfl) ?_
 refine Xa (Xi rfl) ?_
 refine X2 ?_
 refine ⟨_, Xx (Xs rfl), ?_, rfl⟩
 have h00 : m * n / 18446744073709551616 = 0 := by
  have h3 : ¬ ¬ ((m * n / 18446744073709551616 : Nat) : Int) = 0 := hc1
  have h4 := Decidable.not_not.1 h3
  exact Int.ofNat.inj h4
 have h0 : m * n < 18446744073709551616 := by omega
 rw [Zi, em, en, Nat.mod_eq_of_lt h0]
 show Value.int .u64 (if _ then _ else _) = _
 rw [min_if, show ((m * n : Nat) : Int) = (m : Int) * n by simp]
 rfl
theorem Y9 {α : Type} {xs : List α} {i : Nat} (h : i < xs.length) : xs.take i ++ [xs[i]] = xs.take (i + 1) := (List.take_succ_eq_append_getElem h).symm
theorem Few_ints (xs : List Int) (v : Value) (m : Int) (H : Hp) (hs : Sl (Y1 .i64) H v xs) (hl : xs.length ≤ 9223372036854775807) (h0 : 0 ≤ m) (h1 : m ≤ 1000000) :
  ACalls Tryz.prog 25 #[v, .int .i64 m] H (fun r H' => H.le H' ∧ Sl (Y1 .i64) H' r (xs.take m.toNat)) := by
 obtain ⟨A, c, rfl⟩ := hs.shape
 refine Xv Tryz.func25 rfl rfl rfl (by simp) ?_
 refine Xe ?_
 refine Xu ?_
 refine Xa (Yc rfl) ?_
 refine Xe ?_
 refine Xu ?_
 first | refine Xz (Yh (r := []) Tryz.underlying23 inf3.size inf3.zero rfl (by decide) (by decide) (by decide) rfl) ?_
 refine Xa (Yc rfl) ?_
 refine Xe ?_
 refine Xe ?_
 refine Xu ?_
 refine Xa (Xi rfl) ?_
 refine Ye ?_
 refine Y5 (fun n t H' => ∃ (i : Nat) (G : Hp) (B : Option Addr) (c5 : Nat), i ≤ xs.length ∧ (i : Int) ≤ m ∧ n = xs.length - i ∧ H.le G ∧ OwnP (Y1 .i64) G H' (.slice B i c5) (xs.take i) ∧ t 0 = .slice A xs.length c ∧ t 1 = .int .i64 m ∧ t 5 = .slice B i c5 ∧ t 6 = .int .i64 i) (_) (⟨0, H.push .dead, _, _, by omega, h0, rfl, H.le_push _, OwnP.lit (Y1 .i64) H, rfl, rfl, rfl, rfl⟩) ?_
 rintro n t H1 ⟨i, G, B, c5, hi, him, rfl, hle, hown, e0, e1, e5, e6⟩
 refine Xe ?_
 refine Xe ?_
 refine Xu ?_
 refine Xa (Xb e6) ?_
 refine Xa (X1 e0) ?_
 refine Xa (Ys rfl Tryz.underlying23) ?_
 refine Xa (Za rfl rfl) ?_
 refine Xa (Xo rfl) ?_
 refine Ya rfl rfl rfl ?_ ?_
 intro hg1
 have hp1 := hg1; try simp only [Yt] at hp1
 refine Xj (Xh rfl rfl rfl hg1) (Xb e6) ?_
 refine Xj (Xh rfl rfl rfl hg1) (Xb e1) ?_
 refine Xj (Xh rfl rfl rfl hg1) (Za rfl rfl) ?_
 refine Xa (Xl (Yv hg1) rfl) ?_
 refine X5 rfl rfl ?_ ?_
 intro hc2
 (try simp only [Yt] at hc2)
 refine X9 ?_
 refine Xe ?_
 refine Ye ?_
 refine Xu ?_
 refine Xa (X1 e5) ?_
 refine Xa (X1 e0) ?_
 refine Xa (Xb e6) ?_
 obtain ⟨b, o, rfl, hb, hcell⟩ := (hs.mono (hle.sees.trans hown.le.sees)).int_at (i := (i : Int)) (by omega) (by omega)
 refine Xa (Xt rfl rfl Tryz.underlying23 inf3.size X6 X6) ?_
 refine Xa (Xk rfl Tryz.underlying3 rfl Xp) ?_
 first | refine Xz (Yh (r := [.int .i64 _]) Tryz.underlying23 inf3.size inf3.zero rfl (by decide) (by decide) (by decide) rfl) ?_
 have hlen : (xs.take i).length = i := by rw [List.length_take]; omega
 refine Xw (OwnP.append (ys := [xs.getD (i : Int).toNat 0]) (hown.push _) Tryz.underlying23 inf3 rfl rfl rfl (by rw [hown.size]; exact sl_int1) (by simp; omega) (by simp; omega) ?_)
 rintro v5 G' H2 hle' hown'
 obtain ⟨B', c', rfl⟩ := hown'.shape
 refine Xa (Yc rfl) ?_
 refine Xu ?_
 refine Xa (Xb e6) ?_
 refine Xa (Yn rfl rfl Y0) ?_
 refine Xa (Xi rfl) ?_
 rw [Int.toNat_natCast, Zf (show i < xs.length by omega), Y9 (by omega)] at hown'
 have hlen2 : (xs.take (i + 1)).length = i + 1 := by rw [List.length_take]; omega
 rw [hlen2] at hown'
 refine ⟨xs.length - (i + 1), by omega, i + 1, G', B', c', by omega, by omega, rfl, Hp.le_trans (Hp.le_push' hle _) hle', hown', e0, e1, ?_, ?_⟩
 ·show Value.slice B' _ c' = _
  congr 1
  simp; omega
 ·rfl
 intro hc2
 (try simp only [Yt] at hc2)
 refine Yx ?_
 refine Xe ?_
 refine Xu ?_
 refine Xa (X1 e5) ?_
 refine Xa (Yc rfl) ?_
 refine X2 ?_
 refine ⟨.slice B i c5, Xx (Xs rfl), Hp.le_trans hle hown.le, ?_⟩
 have : xs.take m.toNat = xs.take i := by
  rcases Nat.lt_or_ge i xs.length with h | h
  ·have : ¬ (i : Int) < m := by simp_all
   rw [show m.toNat = i by omega]
  ·rw [List.take_of_length_le (by omega), List.take_of_length_le (by omega)]
 rw [this]; exact hown.sl
 intro hg1
 have hp1 := hg1; try simp only [Yt] at hp1
 refine Xc (Xg rfl rfl rfl hg1 rfl) ?_
 refine Xc (Xg rfl rfl rfl hg1 rfl) ?_
 refine Xc (Xg rfl rfl rfl hg1 rfl) ?_
 refine Xa (Xl (Yv hg1) Xm) ?_
 refine Y2 rfl rfl ?_
 refine Yx ?_
 refine Xe ?_
 refine Xu ?_
 refine Xa (X1 e5) ?_
 refine Xa (Yc rfl) ?_
 refine X2 ?_
 refine ⟨.slice B i c5, Xx (Xs rfl), Hp.le_trans hle hown.le, ?_⟩
 have : xs.take m.toNat = xs.take i := by
  rcases Nat.lt_or_ge i xs.length with h | h
  ·have : ¬ (i : Int) < m := by simp_all
   rw [show m.toNat = i by omega]
  ·rw [List.take_of_length_le (by omega), List.take_of_length_le (by omega)]
 rw [this]; exact hown.sl
theorem Clone_own (xs : List Int) (v : Value) (H : Hp) (hs : Sl (Y1 .i64) H v xs) (hl : xs.length ≤ 1000000000) :
  ACalls Tryz.prog 60 #[v] H (fun r H' => ∃ G', H.le G' ∧ OwnP (Y1 .i64) G' H' r xs) := by
 rcases hs with ⟨rfl, rfl⟩ | ⟨b, o, c, rfl, hb, hk, hx⟩
 ·skip
  refine Xv Tryz.func60 rfl rfl rfl (by simp) ?_
  refine Xe ?_
  refine Xu ?_
  refine Xa (Yc rfl) ?_
  refine Xe ?_
  refine Xe ?_
  refine Xu ?_
  refine Xa (X1 rfl) ?_
  refine Xa (av_sl_eq_nil rfl rfl Tryz.underlying23) ?_
  refine Yu (rfl) rfl ?_
  refine Xe ?_
  refine Xu ?_
  refine Xa (Yc rfl) ?_
  refine X2 ?_
  exact ⟨.slice none 0 0, Xx (Xs rfl), H, Hp.le_refl _, OwnP.nil _ _⟩
 ·have hs : Sl (Y1 .i64) H (.slice (some ⟨b, o, none⟩) xs.length c) xs := .inr ⟨b, o, c, rfl, hb, hk, hx⟩
  skip
  refine Xv Tryz.func60 rfl rfl rfl (by simp) ?_
  refine Xe ?_
  refine Xu ?_
  refine Xa (Yc rfl) ?_
  refine Xe ?_
  refine Xe ?_
  refine Xu ?_
  refine Xa (X1 rfl) ?_
  refine Xa (av_sl_eq_nil rfl rfl Tryz.underlying23) ?_
  refine Y2 (rfl) rfl ?_
  refine X9 ?_
  refine Xe ?_
  refine Xu ?_
  first | refine Xz (Yh (r := []) Tryz.underlying23 inf3.size inf3.zero rfl (by decide) (by decide) (by decide) rfl) ?_
  refine Xa (X1 rfl) ?_
  refine Xw (OwnP.append (ys := xs) (OwnP.lit (Y1 .i64) H) Tryz.underlying23 inf3 rfl rfl rfl (hs.mono (H.le_push _).sees) (by simp; omega) (by simp; omega) ?_)
  rintro v5 G' H2 hle' hown'
  rw [List.nil_append] at hown'
  obtain ⟨B', c', rfl⟩ := hown'.shape
  refine Xa (Yc rfl) ?_
  refine X2 ?_
  exact ⟨.slice B' xs.length c', Xx (Xs rfl), G', Hp.le_trans (H.le_push _) hle', hown'⟩
theorem Clone_ints (xs : List Int) (v : Value) (H : Hp) (hs : Sl (Y1 .i64) H v xs) (hl : xs.length ≤ 1000000000) :
  ACalls Tryz.prog 60 #[v] H (fun r H' => H.le H' ∧ Sl (Y1 .i64) H' r xs) :=
 (Clone_own xs v H hs hl).mono fun r H' ⟨G, hle, hown⟩ => ⟨Hp.le_trans hle hown.le, hown.sl⟩
end Go.Proofs.YtmakkmcjocjgmaaGreat.Am
namespace Go.Proofs.YtmakkmcjocjgmaaGreat.Am
open Go Go.RowKit
set_option maxRecDepth 100000
set_option linter.unusedVariables false
set_option linter.unusedSimpArgs false

structure Link where
 a : Int
 b : Int
 cost : Int
 n : Int
theorem Link.ext' {x y : Link} (h1 : x.a = y.a) (h2 : x.b = y.b) (h3 : x.cost = y.cost) (h4 : x.n = y.n) : x = y := by
 cases x; cases y; simp only at h1 h2 h3 h4; subst h1 h2 h3 h4; rfl
instance : DecidableEq Link := fun x y => decidable_of_iff (x.a = y.a ∧ x.b = y.b ∧ x.cost = y.cost ∧ x.n = y.n) ⟨fun ⟨h1, h2, h3, h4⟩ => Link.ext' h1 h2 h3 h4, fun h => by rw [h]; exact ⟨rfl, rfl, rfl, rfl⟩⟩
def Link.cells (x : Link) : List Value := [.int .i64 x.a, .int .i64 x.b, .int .i64 x.cost, .int .u64 x.n]
def kLink : Kd Link where
 sz := 4
 pos := by decide
 rep _ x cs := cs = [.int .i64 x.a, .int .i64 x.b, .int .i64 x.cost, .int .u64 x.n]
 len h := by rw [h]; rfl
 mono _ h := h
 one h v hv := by rw [h] at hv; simp at hv; rcases hv with rfl | rfl | rfl | rfl <;> rfl
theorem Sl.link_at {H : Hp} {A : Option Addr} {n c : Nat} {xs : List Link} (h : Sl kLink H (.slice A n c) xs) {i : Nat} (hi : i < xs.length) :
  ∃ b o, A = some ⟨b, o, none⟩ ∧ b < H.size ∧ Cells H b (o + i * 4) [.int .i64 xs[i].a, .int .i64 xs[i].b, .int .i64 xs[i].cost, .int .u64 xs[i].n] := by
 obtain ⟨b, o, cs, e, hb, hr, hc⟩ := h.elem_at hi
 have : cs = [.int .i64 xs[i].a, .int .i64 xs[i].b, .int .i64 xs[i].cost, .int .u64 xs[i].n] := hr
 subst this
 exact ⟨b, o, e, hb, hc⟩
section
variable {t : Fr} {H : Hp} {d : Option Tmp} {ty : TypeId} {pos : String} {after : Array Edge} {guard : Option (Nat × Bool)} {x y : Operand} {yt : TypeId} {p q : Link}
end
def Vy (x y : Link) : Bool := decide (x.a < y.a) || (decide (x.a = y.a) && decide (x.b < y.b))
theorem Less_link (x y : Link) (H : Hp) : ACalls Tryz.prog 114 #[.agg #[.int .i64 x.a, .int .i64 x.b, .int .i64 x.cost, .int .u64 x.n], .agg #[.int .i64 y.a, .int .i64 y.b, .int .i64 y.cost, .int .u64 y.n]] H (fun r H' => r = .bool (Vy x y) ∧ H' = H) := by
 refine ACalls.pure (R := fun r => r = .bool (Vy x y)) (fun v h => by rw [h]; rfl) ?_
 refine Xv Tryz.func114 rfl rfl rfl (by simp) ?_
 refine Xe ?_
 refine Xu ?_
 refine Xz (Yw rfl) ?_
 refine Xz (Yw rfl) ?_
 refine Xa (Xn rfl) ?_
 refine Xe ?_
 refine Xu ?_
 refine Xa (Xf (off := 0) rfl Tryz.underlying96 rfl inf3.size (by decide) rfl) ?_
 refine Xa (Xk rfl Tryz.underlying3 rfl Xp) ?_
 refine Xa (Xf (off := 0) rfl Tryz.underlying96 rfl inf3.size (by decide) rfl) ?_
 refine Xa (Xk rfl Tryz.underlying3 rfl Xp) ?_
 refine Xa (Za rfl rfl) ?_
 refine Xa (Xo rfl) ?_
 refine Ya rfl rfl rfl ?_ ?_
 intro hg1
 have hp1 := hg1; try simp only [Yt] at hp1
 refine Xc (Xg rfl rfl rfl hg1 rfl) ?_
 refine Xc (Xg rfl rfl rfl hg1 rfl) ?_
 refine Xc (Xg rfl rfl rfl hg1 rfl) ?_
 refine Xc (Xg rfl rfl rfl hg1 rfl) ?_
 refine Xc (Xg rfl rfl rfl hg1 rfl) ?_
 refine Xc (Xg rfl rfl rfl hg1 rfl) ?_
 refine Xc (Yb rfl rfl rfl) ?_
 refine Xc (Yb rfl rfl rfl) ?_
 refine Xc (Yb rfl rfl rfl) ?_
 refine Xc (Yb rfl rfl rfl) ?_
 refine Xc (Yb rfl rfl rfl) ?_
 refine Xc (Xg rfl rfl rfl hg1 rfl) ?_
 refine Xa (Xl (Yv hg1) rfl) ?_
 refine Xa (Xn rfl) ?_
 refine X2 ?_
 refine ⟨.bool (Vy x y), Xx (Xs ?_), rfl⟩
 show Value.bool _ = _
 congr 1
 simp_all [Vy]
 intro hg1
 have hp1 := hg1; try simp only [Yt] at hp1
 refine Xj (Xh rfl rfl rfl hg1) (Xf (off := 0) rfl Tryz.underlying96 rfl inf3.size (by decide) rfl) ?_
 refine Xj (Xh rfl rfl rfl hg1) (Xk rfl Tryz.underlying3 rfl Xp) ?_
 refine Xj (Xh rfl rfl rfl hg1) (Xf (off := 0) rfl Tryz.underlying96 rfl inf3.size (by decide) rfl) ?_
 refine Xj (Xh rfl rfl rfl hg1) (Xk rfl Tryz.underlying3 rfl Xp) ?_
 refine Xj (Xh rfl rfl rfl hg1) (Zx rfl rfl) ?_
 refine Xj (Xh rfl rfl rfl hg1) (Xo rfl) ?_
 refine Ya rfl rfl rfl ?_ ?_
 intro hg2
 have hp2 := hg2; try simp only [Yt] at hp2
 refine Xj (Xh rfl rfl rfl hg2) (Xf (off := 1) rfl Tryz.underlying96 rfl inf3.size (by decide) rfl) ?_
 refine Xj (Xh rfl rfl rfl hg2) (Xk rfl Tryz.underlying3 rfl Xp) ?_
 refine Xj (Xh rfl rfl rfl hg2) (Xf (off := 1) rfl Tryz.underlying96 rfl inf3.size (by decide) rfl) ?_
 refine Xj (Xh rfl rfl rfl hg2) (Xk rfl Tryz.underlying3 rfl Xp) ?_
 refine Xj (Xh rfl rfl rfl hg2) (Za rfl rfl) ?_
 refine Xj (Xh rfl rfl rfl hg1) (Xl (Yv hg2) rfl) ?_
 refine Xa (Xl (Yv hg1) rfl) ?_
 refine Xa (Xn rfl) ?_
 refine X2 ?_
 refine ⟨.bool (Vy x y), Xx (Xs ?_), rfl⟩
 show Value.bool _ = _
 congr 1
 simp_all [Vy]
 intro hg2
 have hp2 := hg2; try simp only [Yt] at hp2
 refine Xc (Xg rfl rfl rfl hg2 rfl) ?_
 refine Xc (Xg rfl rfl rfl hg2 rfl) ?_
 refine Xc (Xg rfl rfl rfl hg2 rfl) ?_
 refine Xc (Xg rfl rfl rfl hg2 rfl) ?_
 refine Xc (Xg rfl rfl rfl hg2 rfl) ?_
 refine Xj (Xh rfl rfl rfl hg1) (Xl (Yv hg2) rfl) ?_
 refine Xa (Xl (Yv hg1) rfl) ?_
 refine Xa (Xn rfl) ?_
 refine X2 ?_
 refine ⟨.bool (Vy x y), Xx (Xs ?_), rfl⟩
 show Value.bool _ = _
 congr 1
 simp_all [Vy]
end Go.Proofs.YtmakkmcjocjgmaaGreat.Am
namespace Go.Proofs.YtmakkmcjocjgmaaGreat.Am
open Go Go.RowKit
set_option linter.unusedVariables false
set_option linter.unusedSimpArgs false
set_option maxRecDepth 100000
def Link.few (x : Link) : Link := if 1000000000 < x.cost then ⟨x.a, x.b, 1000000000, x.n⟩ else x
def Vi (xs : List Link) : List Link := (xs.take 25).map Link.few
theorem Few_links (xs : List Link) (v : Value) (H : Hp) (hs : Sl kLink H v xs) (hl : xs.length ≤ 9223372036854775807) :
  ACalls Tryz.prog 79 #[v] H (fun r H' => ∃ G', H.le G' ∧ OwnP kLink G' H' r (Vi xs)) := by
 obtain ⟨A, c, rfl⟩ := hs.shape
 refine Xv Tryz.func79 rfl rfl rfl (by simp) ?_
 refine Xe ?_
 refine Xu ?_
 refine Xa (Yc rfl) ?_
 refine Xe ?_
 refine Xu ?_
 first | refine Xz (Yh (r := []) Tryz.underlying83 inf96.size inf96.zero rfl (by decide) (by decide) (by decide) rfl) ?_
 refine Xa (Yc rfl) ?_
 refine Xe ?_
 refine Xe ?_
 refine Xu ?_
 refine Xa (Xi rfl) ?_
 refine Ye ?_
 refine Y5 (fun n t H' => ∃ (i : Nat) (G : Hp) (B : Option Addr) (c5 : Nat), i ≤ xs.length ∧ i ≤ 25 ∧ n = xs.length - i ∧ H.le G ∧ OwnP kLink G H' (.slice B i c5) ((xs.take i).map Link.few) ∧ t 0 = .slice A xs.length c ∧ t 3 = .slice B i c5 ∧ t 4 = .int .i64 i) (xs.length) (⟨0, H.push .dead, _, _, by omega, by omega, rfl, H.le_push _, OwnP.lit kLink H, rfl, rfl, rfl⟩) ?_
 rintro n t H1 ⟨i, G, B, c5, hi, hi25, rfl, hle, hown, e0, e3, e4⟩
 have hz := hown.size
 refine Xe ?_
 refine Xe ?_
 refine Xu ?_
 refine Xa (Xb Xm) ?_
 refine Xa (X1 Xm) ?_
 refine Xa (Ys rfl Tryz.underlying83) ?_
 refine Xa (Za rfl rfl) ?_
 refine Xa (Xo rfl) ?_
 refine Ya rfl rfl rfl ?_ ?_
 intro hg1
 have hp1 := hg1; try simp only [Yt] at hp1
 refine Xj (Xh rfl rfl rfl hg1) (Xb Xm) ?_
 refine Xj (Xh rfl rfl rfl hg1) (Za rfl rfl) ?_
 refine Xa (Xl (Yv hg1) rfl) ?_
 refine X5 rfl rfl ?_ ?_
 intro hc2
 (try simp only [Yt] at hc2)
 refine X9 ?_
 refine Xe ?_
 refine Ye ?_
 refine Xe ?_
 refine Xu ?_
 refine Xa (X1 Xm) ?_
 refine Xa (Xb Xm) ?_
 have hix : i < xs.length := by omega
 obtain ⟨b, o, rfl, hb, hcell0⟩ := (hs.mono hle.sees).link_at hix
 have hcells := hown.le.cells hb hcell0
 refine Xa (Xt rfl rfl Tryz.underlying83 inf96.size X6 X6) ?_
 refine Xa (Yl (cs := [.int .i64 _, .int .i64 _, .int .i64 _, .int .u64 _]) rfl Tryz.underlying96 rfl inf96.size X8) ?_
 refine Xz (Yz (l := [.int .i64 0, .int .i64 0, .int .i64 0, .int .u64 0]) inf96.zero rfl (by decide)) ?_
 first | refine Xw (Yf (vs := [.int .i64 _, .int .i64 _, .int .i64 _, .int .u64 _]) rfl rfl inf96.size Yd Yg rfl rfl ?_)
 refine Xe ?_
 refine Xe ?_
 refine Xu ?_
 refine Xa (Xf (off := 2) rfl Tryz.underlying96 rfl inf3.size (by decide) rfl) ?_
 refine Xa (Xk rfl Tryz.underlying3 rfl Xp) ?_
 refine Xa (Vu rfl rfl) ?_
 refine X5 rfl rfl ?_ ?_
 intro hc3
 have hx5 : xs[i].few = ⟨xs[i].a, xs[i].b, 1000000000, xs[i].n⟩ := if_pos (by simpa using hc3)
 have hgb : ((G.push (.own 0 [.int .i64 0, .int .i64 0, .int .i64 0, .int .u64 0])).put H1.size (.own 0 [.int .i64 xs[i].a, .int .i64 xs[i].b, .int .i64 xs[i].cost, .int .u64 xs[i].n])).get H1.size = .own 0 [.int .i64 xs[i].a, .int .i64 xs[i].b, .int .i64 xs[i].cost, .int .u64 xs[i].n] := Hp.put_same _ _ _
 have hownE := (hown.boxed [.int .i64 0, .int .i64 0, .int .i64 0, .int .u64 0] [.int .i64 xs[i].a, .int .i64 xs[i].b, .int .i64 xs[i].cost, .int .u64 xs[i].n]).put (b1 := H1.size) (by rw [hgb]; intro e; cases e) (.own 0 [.int .i64 xs[i].a, .int .i64 xs[i].b, .int .i64 1000000000, .int .u64 xs[i].n]) (Hp.sees_box _ hgb)
 have hleE := Hp.le_put_new (b := H1.size) (Hp.le_put_new (b := H1.size) (Hp.le_push' hle (.own 0 [.int .i64 0, .int .i64 0, .int .i64 0, .int .u64 0])) (by rw [hz]; exact hle.1) (.own 0 [.int .i64 xs[i].a, .int .i64 xs[i].b, .int .i64 xs[i].cost, .int .u64 xs[i].n])) (by rw [hz]; exact hle.1) (.own 0 [.int .i64 xs[i].a, .int .i64 xs[i].b, .int .i64 1000000000, .int .u64 xs[i].n])
 refine Xu ?_
 refine Xa (Xf (off := 2) rfl Tryz.underlying96 rfl inf3.size (by decide) rfl) ?_
 first | refine Xw (Y3 rfl rfl rfl inf3.size Yd Yg rfl ?_)
 refine Xu ?_
 refine Xa (X1 Xm) ?_
 refine Xa (Yl (cs := [.int .i64 _, .int .i64 _, .int .i64 _, .int .u64 _]) rfl Tryz.underlying96 rfl inf96.size X8) ?_
 first | refine Xz (Yh (r := [.int .i64 _, .int .i64 _, .int .i64 _, .int .u64 _]) Tryz.underlying83 inf96.size inf96.zero rfl (by decide) (by decide) (by decide) rfl) ?_
 have hlen : ((xs.take i).map Link.few).length = i := by rw [List.length_map, List.length_take]; omega
 refine Xw (OwnP.append (ys := [xs[i].few]) (hownE.push _) Tryz.underlying83 inf96 rfl rfl rfl (Zo (k := kLink) (by rw [hx5]; rfl) rfl hownE.size rfl) (by rw [hlen]; simp; omega) (by rw [hlen]; simp; omega) ?_)
 rintro v6 G6 H6 hle6 hown6
 obtain ⟨B', c', e6⟩ := hown6.shape
 rw [List.length_append, hlen, List.length_singleton] at e6
 subst e6
 refine Xa (Yc rfl) ?_
 refine Xu ?_
 refine Xa (Xb Xm) ?_
 refine Xa (Yn rfl rfl Y0) ?_
 refine Xa (Xi rfl) ?_
 rw [← List.map_singleton, ← List.map_append, Y9 hix] at hown6
 exact ⟨xs.length - (i + 1), by omega, i + 1, G6, B', c', by omega, by omega, rfl, Hp.le_trans (Hp.le_push' hleE _) hle6, hown6, e0, rfl, rfl⟩
 intro hc3
 have hx5 : xs[i].few = ⟨xs[i].a, xs[i].b, xs[i].cost, xs[i].n⟩ := if_neg (by simpa using hc3)
 have hownE := hown.boxed [.int .i64 0, .int .i64 0, .int .i64 0, .int .u64 0] [.int .i64 xs[i].a, .int .i64 xs[i].b, .int .i64 xs[i].cost, .int .u64 xs[i].n]
 have hleE := Hp.le_put_new (b := H1.size) (Hp.le_push' hle (.own 0 [.int .i64 0, .int .i64 0, .int .i64 0, .int .u64 0])) (by rw [hz]; exact hle.1) (.own 0 [.int .i64 xs[i].a, .int .i64 xs[i].b, .int .i64 xs[i].cost, .int .u64 xs[i].n])
 refine X9 ?_
 refine Xu ?_
 refine Xa (X1 Xm) ?_
 refine Xa (Yl (cs := [.int .i64 _, .int .i64 _, .int .i64 _, .int .u64 _]) rfl Tryz.underlying96 rfl inf96.size X8) ?_
 first | refine Xz (Yh (r := [.int .i64 _, .int .i64 _, .int .i64 _, .int .u64 _]) Tryz.underlying83 inf96.size inf96.zero rfl (by decide) (by decide) (by decide) rfl) ?_
 have hlen : ((xs.take i).map Link.few).length = i := by rw [List.length_map, List.length_take]; omega
 refine Xw (OwnP.append (ys := [xs[i].few]) (hownE.push _) Tryz.underlying83 inf96 rfl rfl rfl (Zo (k := kLink) (by rw [hx5]; rfl) rfl hownE.size rfl) (by rw [hlen]; simp; omega) (by rw [hlen]; simp; omega) ?_)
 rintro v6 G6 H6 hle6 hown6
 obtain ⟨B', c', e6⟩ := hown6.shape
 rw [List.length_append, hlen, List.length_singleton] at e6
 subst e6
 refine Xa (Yc rfl) ?_
 refine Xu ?_
 refine Xa (Xb Xm) ?_
 refine Xa (Yn rfl rfl Y0) ?_
 refine Xa (Xi rfl) ?_
 rw [← List.map_singleton, ← List.map_append, Y9 hix] at hown6
 exact ⟨xs.length - (i + 1), by omega, i + 1, G6, B', c', by omega, by omega, rfl, Hp.le_trans (Hp.le_push' hleE _) hle6, hown6, e0, rfl, rfl⟩
 intro hc2
 (try simp only [Yt] at hc2)
 refine Yx ?_
 refine Xe ?_
 refine Xu ?_
 refine Xa (X1 Xm) ?_
 refine Xa (Yc rfl) ?_
 refine X2 ?_
 ·refine ⟨.slice B i c5, Xx (Xs rfl), G, hle, ?_⟩
  have : Vi xs = (xs.take i).map Link.few := by
   unfold Vi
   rcases Nat.lt_or_ge i xs.length with h | h
   ·rw [show i = 25 by first | omega | (simp_all; done) | (simp_all; omega)]
   ·rw [List.take_of_length_le (by omega), List.take_of_length_le (by omega)]
  rw [this]; exact hown
 intro hg1
 have hp1 := hg1; try simp only [Yt] at hp1
 refine Xc (Xg rfl rfl rfl hg1 rfl) ?_
 refine Xc (Xg rfl rfl rfl hg1 rfl) ?_
 refine Xa (Xl (Yv hg1) Xm) ?_
 refine Y2 rfl rfl ?_
 refine Yx ?_
 refine Xe ?_
 refine Xu ?_
 refine Xa (X1 Xm) ?_
 refine Xa (Yc rfl) ?_
 refine X2 ?_
 ·refine ⟨.slice B i c5, Xx (Xs rfl), G, hle, ?_⟩
  have : Vi xs = (xs.take i).map Link.few := by
   unfold Vi
   rcases Nat.lt_or_ge i xs.length with h | h
   ·rw [show i = 25 by first | omega | (simp_all; done) | (simp_all; omega)]
   ·rw [List.take_of_length_le (by omega), List.take_of_length_le (by omega)]
  rw [this]; exact hown
def OkL (x : Link) : Prop := 0 ≤ x.a ∧ x.a ≤ 9999 ∧ 0 ≤ x.b ∧ x.b ≤ 9999 ∧ 0 ≤ x.cost ∧ 1 ≤ x.n ∧ x.n ≤ 4611686018427387904
def GoodL (xs : List Link) : Prop := ∀ (i : Nat) (h : i < xs.length), OkL xs[i] ∧ (0 < i → Vy (xs[i - 1]'(by omega)) xs[i] = true)
theorem Good_raw (xs : List Link) (v : Value) (H : Hp) (hs : Sl kLink H v xs) (hl : xs.length ≤ 9223372036854775807) :
  ACalls Tryz.prog 86 #[v] H (fun r _ => ∃ g, r = .bool g ∧ (g = true ↔ GoodL xs)) := by
 obtain ⟨A, c, rfl⟩ := hs.shape
 refine Xv Tryz.func86 rfl rfl rfl (by simp) ?_
 refine Xe ?_
 refine Xu ?_
 refine Xa (Xn rfl) ?_
 refine Xe ?_
 refine Xe ?_
 refine Xu ?_
 refine Xa (Xi rfl) ?_
 refine Ye ?_
 refine Y5 (fun n t H' => ∃ (i : Nat), i ≤ xs.length ∧ n = xs.length - i ∧ H.le H' ∧ (∀ (j : Nat) (h : j < xs.length), j < i → OkL xs[j] ∧ (0 < j → Vy (xs[j - 1]'(by omega)) xs[j] = true)) ∧ t 0 = .slice A xs.length c ∧ t 3 = .int .i64 i) (xs.length) (⟨0, by omega, rfl, Hp.le_refl _, fun j h h0 => by omega, rfl, rfl⟩) ?_
 rintro n t H1 ⟨i, hi, rfl, hle, hok, e0, e3⟩
 refine Xe ?_
 refine Xe ?_
 refine Xu ?_
 refine Xa (Xb Xm) ?_
 refine Xa (X1 Xm) ?_
 refine Xa (Ys rfl Tryz.underlying83) ?_
 refine Xa (Za rfl rfl) ?_
 refine X5 rfl rfl ?_ ?_
 intro hc1
 (try simp only [Yt] at hc1)
 refine X9 ?_
 refine Xe ?_
 refine Ye ?_
 refine Xe ?_
 refine Xu ?_
 refine Xa (X1 Xm) ?_
 refine Xa (Xb Xm) ?_
 have hix : i < xs.length := by omega
 obtain ⟨b, o, rfl, hb, hcell0⟩ := (hs.mono hle.sees).link_at hix
 have hbl : b < H1.size := hb
 refine Xa (Xt rfl rfl Tryz.underlying83 inf96.size X6 X6) ?_
 refine Xa (Yl (cs := [.int .i64 _, .int .i64 _, .int .i64 _, .int .u64 _]) rfl Tryz.underlying96 rfl inf96.size X8) ?_
 refine Xz (Yz (l := [.int .i64 0, .int .i64 0, .int .i64 0, .int .u64 0]) inf96.zero rfl (by decide)) ?_
 first | refine Xw (Yf (vs := [.int .i64 _, .int .i64 _, .int .i64 _, .int .u64 _]) rfl rfl inf96.size Yd Yg rfl rfl ?_)
 refine Xe ?_
 refine Xe ?_
 refine Xu ?_
 refine Xa (Xf (off := 0) rfl Tryz.underlying96 rfl inf3.size (by decide) rfl) ?_
 refine Xa (Xk rfl Tryz.underlying3 rfl Xp) ?_
 refine Xa (Za rfl rfl) ?_
 refine Xa (Xo rfl) ?_
 refine Ya rfl rfl rfl ?_ ?_
 intro hg2
 have hp2 := hg2; try simp only [Yt] at hp2
 refine Xc (Xg rfl rfl rfl hg2 rfl) ?_
 refine Xc (Xg rfl rfl rfl hg2 rfl) ?_
 refine Xc (Xg rfl rfl rfl hg2 rfl) ?_
 refine Xa (Xl (Yv hg2) Xm) ?_
 refine Xa (Xo rfl) ?_
 refine Xc (Xg rfl rfl rfl rfl rfl) ?_
 refine Xc (Xg rfl rfl rfl rfl rfl) ?_
 refine Xc (Xg rfl rfl rfl rfl rfl) ?_
 refine Xa (Xl (congrArg Value.bool Xm) Xm) ?_
 refine Xa (Xo rfl) ?_
 refine Xc (Xg rfl rfl rfl rfl rfl) ?_
 refine Xc (Xg rfl rfl rfl rfl rfl) ?_
 refine Xc (Xg rfl rfl rfl rfl rfl) ?_
 refine Xa (Xl (congrArg Value.bool Xm) Xm) ?_
 refine Xa (Xo rfl) ?_
 refine Xc (Xg rfl rfl rfl rfl rfl) ?_
 refine Xc (Xg rfl rfl rfl rfl rfl) ?_
 refine Xc (Xg rfl rfl rfl rfl rfl) ?_
 refine Xa (Xl (congrArg Value.bool Xm) Xm) ?_
 refine Xa (Xo rfl) ?_
 refine Xc (Xg rfl rfl rfl rfl rfl) ?_
 refine Xc (Xg rfl rfl rfl rfl rfl) ?_
 refine Xc (Xg rfl rfl rfl rfl rfl) ?_
 refine Xa (Xl (congrArg Value.bool Xm) Xm) ?_
 refine Xa (Xo rfl) ?_
 refine Xc (Xg rfl rfl rfl rfl rfl) ?_
 refine Xc (Xg rfl rfl rfl rfl rfl) ?_
 refine Xc (Xg rfl rfl rfl rfl rfl) ?_
 refine Xa (Xl (congrArg Value.bool Xm) Xm) ?_
 refine Yu rfl rfl ?_
 refine Xe ?_
 refine Xu ?_
 refine Xa (Xn rfl) ?_
 refine X2 ?_
 refine ⟨.bool false, Xx (Xs rfl), false, rfl, fun h => (by cases h), fun hG => ?_⟩
 obtain ⟨⟨g1, g2, g3, g4, g5, g6, g7⟩, _⟩ := hG i hix
 exfalso; omega
 intro hg2
 have hp2 := hg2; try simp only [Yt] at hp2
 refine Xj (Xh rfl rfl rfl hg2) (Xf (off := 0) rfl Tryz.underlying96 rfl inf3.size (by decide) rfl) ?_
 refine Xj (Xh rfl rfl rfl hg2) (Xk rfl Tryz.underlying3 rfl Xp) ?_
 refine Xj (Xh rfl rfl rfl hg2) (Vu rfl rfl) ?_
 refine Xa (Xl (Yv hg2) rfl) ?_
 refine Xa (Xo rfl) ?_
 refine Ya rfl rfl rfl ?_ ?_
 intro hg4
 have hp4 := hg4; try simp only [Yt] at hp4
 refine Xc (Xg rfl rfl rfl hg4 rfl) ?_
 refine Xc (Xg rfl rfl rfl hg4 rfl) ?_
 refine Xc (Xg rfl rfl rfl hg4 rfl) ?_
 refine Xa (Xl (Yv hg4) Xm) ?_
 refine Xa (Xo rfl) ?_
 refine Xc (Xg rfl rfl rfl rfl rfl) ?_
 refine Xc (Xg rfl rfl rfl rfl rfl) ?_
 refine Xc (Xg rfl rfl rfl rfl rfl) ?_
 refine Xa (Xl (congrArg Value.bool Xm) Xm) ?_
 refine Xa (Xo rfl) ?_
 refine Xc (Xg rfl rfl rfl rfl rfl) ?_
 refine Xc (Xg rfl rfl rfl rfl rfl) ?_
 refine Xc (Xg rfl rfl rfl rfl rfl) ?_
 refine Xa (Xl (congrArg Value.bool Xm) Xm) ?_
 refine Xa (Xo rfl) ?_
 refine Xc (Xg rfl rfl rfl rfl rfl) ?_
 refine Xc (Xg rfl rfl rfl rfl rfl) ?_
 refine Xc (Xg rfl rfl rfl rfl rfl) ?_
 refine Xa (Xl (congrArg Value.bool Xm) Xm) ?_
 refine Xa (Xo rfl) ?_
 refine Xc (Xg rfl rfl rfl rfl rfl) ?_
 refine Xc (Xg rfl rfl rfl rfl rfl) ?_
 refine Xc (Xg rfl rfl rfl rfl rfl) ?_
 refine Xa (Xl (congrArg Value.bool Xm) Xm) ?_
 refine Yu rfl rfl ?_
 refine Xe ?_
 refine Xu ?_
 refine Xa (Xn rfl) ?_
 refine X2 ?_
 refine ⟨.bool false, Xx (Xs rfl), false, rfl, fun h => (by cases h), fun hG => ?_⟩
 obtain ⟨⟨g1, g2, g3, g4, g5, g6, g7⟩, _⟩ := hG i hix
 exfalso; omega
 intro hg4
 have hp4 := hg4; try simp only [Yt] at hp4
 refine Xj (Xh rfl rfl rfl hg4) (Xf (off := 1) rfl Tryz.underlying96 rfl inf3.size (by decide) rfl) ?_
 refine Xj (Xh rfl rfl rfl hg4) (Xk rfl Tryz.underlying3 rfl Xp) ?_
 refine Xj (Xh rfl rfl rfl hg4) (Za rfl rfl) ?_
 refine Xa (Xl (Yv hg4) rfl) ?_
 refine Xa (Xo rfl) ?_
 refine Ya rfl rfl rfl ?_ ?_
 intro hg6
 have hp6 := hg6; try simp only [Yt] at hp6
 refine Xc (Xg rfl rfl rfl hg6 rfl) ?_
 refine Xc (Xg rfl rfl rfl hg6 rfl) ?_
 refine Xc (Xg rfl rfl rfl hg6 rfl) ?_
 refine Xa (Xl (Yv hg6) Xm) ?_
 refine Xa (Xo rfl) ?_
 refine Xc (Xg rfl rfl rfl rfl rfl) ?_
 refine Xc (Xg rfl rfl rfl rfl rfl) ?_
 refine Xc (Xg rfl rfl rfl rfl rfl) ?_
 refine Xa (Xl (congrArg Value.bool Xm) Xm) ?_
 refine Xa (Xo rfl) ?_
 refine Xc (Xg rfl rfl rfl rfl rfl) ?_
 refine Xc (Xg rfl rfl rfl rfl rfl) ?_
 refine Xc (Xg rfl rfl rfl rfl rfl) ?_
 refine Xa (Xl (congrArg Value.bool Xm) Xm) ?_
 refine Xa (Xo rfl) ?_
 refine Xc (Xg rfl rfl rfl rfl rfl) ?_
 refine Xc (Xg rfl rfl rfl rfl rfl) ?_
 refine Xc (Xg rfl rfl rfl rfl rfl) ?_
 refine Xa (Xl (congrArg Value.bool Xm) Xm) ?_
 refine Yu rfl rfl ?_
 refine Xe ?_
 refine Xu ?_
 refine Xa (Xn rfl) ?_
 refine X2 ?_
 refine ⟨.bool false, Xx (Xs rfl), false, rfl, fun h => (by cases h), fun hG => ?_⟩
 obtain ⟨⟨g1, g2, g3, g4, g5, g6, g7⟩, _⟩ := hG i hix
 exfalso; omega
 intro hg6
 have hp6 := hg6; try simp only [Yt] at hp6
 refine Xj (Xh rfl rfl rfl hg6) (Xf (off := 1) rfl Tryz.underlying96 rfl inf3.size (by decide) rfl) ?_
 refine Xj (Xh rfl rfl rfl hg6) (Xk rfl Tryz.underlying3 rfl Xp) ?_
 refine Xj (Xh rfl rfl rfl hg6) (Vu rfl rfl) ?_
 refine Xa (Xl (Yv hg6) rfl) ?_
 refine Xa (Xo rfl) ?_
 refine Ya rfl rfl rfl ?_ ?_
 intro hg8
 have hp8 := hg8; try simp only [Yt] at hp8
 refine Xc (Xg rfl rfl rfl hg8 rfl) ?_
 refine Xc (Xg rfl rfl rfl hg8 rfl) ?_
 refine Xc (Xg rfl rfl rfl hg8 rfl) ?_
 refine Xa (Xl (Yv hg8) Xm) ?_
 refine Xa (Xo rfl) ?_
 refine Xc (Xg rfl rfl rfl rfl rfl) ?_
 refine Xc (Xg rfl rfl rfl rfl rfl) ?_
 refine Xc (Xg rfl rfl rfl rfl rfl) ?_
 refine Xa (Xl (congrArg Value.bool Xm) Xm) ?_
 refine Xa (Xo rfl) ?_
 refine Xc (Xg rfl rfl rfl rfl rfl) ?_
 refine Xc (Xg rfl rfl rfl rfl rfl) ?_
 refine Xc (Xg rfl rfl rfl rfl rfl) ?_
 refine Xa (Xl (congrArg Value.bool Xm) Xm) ?_
 refine Yu rfl rfl ?_
 refine Xe ?_
 refine Xu ?_
 refine Xa (Xn rfl) ?_
 refine X2 ?_
 refine ⟨.bool false, Xx (Xs rfl), false, rfl, fun h => (by cases h), fun hG => ?_⟩
 obtain ⟨⟨g1, g2, g3, g4, g5, g6, g7⟩, _⟩ := hG i hix
 exfalso; omega
 intro hg8
 have hp8 := hg8; try simp only [Yt] at hp8
 refine Xj (Xh rfl rfl rfl hg8) (Xf (off := 2) rfl Tryz.underlying96 rfl inf3.size (by decide) rfl) ?_
 refine Xj (Xh rfl rfl rfl hg8) (Xk rfl Tryz.underlying3 rfl Xp) ?_
 refine Xj (Xh rfl rfl rfl hg8) (Za rfl rfl) ?_
 refine Xa (Xl (Yv hg8) rfl) ?_
 refine Xa (Xo rfl) ?_
 refine Ya rfl rfl rfl ?_ ?_
 intro hg10
 have hp10 := hg10; try simp only [Yt] at hp10
 refine Xc (Xg rfl rfl rfl hg10 rfl) ?_
 refine Xc (Xg rfl rfl rfl hg10 rfl) ?_
 refine Xc (Xg rfl rfl rfl hg10 rfl) ?_
 refine Xa (Xl (Yv hg10) Xm) ?_
 refine Xa (Xo rfl) ?_
 refine Xc (Xg rfl rfl rfl rfl rfl) ?_
 refine Xc (Xg rfl rfl rfl rfl rfl) ?_
 refine Xc (Xg rfl rfl rfl rfl rfl) ?_
 refine Xa (Xl (congrArg Value.bool Xm) Xm) ?_
 refine Yu rfl rfl ?_
 refine Xe ?_
 refine Xu ?_
 refine Xa (Xn rfl) ?_
 refine X2 ?_
 refine ⟨.bool false, Xx (Xs rfl), false, rfl, fun h => (by cases h), fun hG => ?_⟩
 obtain ⟨⟨g1, g2, g3, g4, g5, g6, g7⟩, _⟩ := hG i hix
 exfalso; omega
 intro hg10
 have hp10 := hg10; try simp only [Yt] at hp10
 refine Xj (Xh rfl rfl rfl hg10) (Xf (off := 3) rfl Tryz.underlying96 rfl inf30.size (by decide) rfl) ?_
 refine Xj (Xh rfl rfl rfl hg10) (Xk rfl Tryz.underlying30 rfl Xp) ?_
 refine Xj (Xh rfl rfl rfl hg10) (Za rfl rfl) ?_
 refine Xa (Xl (Yv hg10) rfl) ?_
 refine Xa (Xo rfl) ?_
 refine Ya rfl rfl rfl ?_ ?_
 intro hg12
 have hp12 := hg12; try simp only [Yt] at hp12
 refine Xc (Xg rfl rfl rfl hg12 rfl) ?_
 refine Xc (Xg rfl rfl rfl hg12 rfl) ?_
 refine Xc (Xg rfl rfl rfl hg12 rfl) ?_
 refine Xa (Xl (Yv hg12) Xm) ?_
 refine Yu rfl rfl ?_
 refine Xe ?_
 refine Xu ?_
 refine Xa (Xn rfl) ?_
 refine X2 ?_
 refine ⟨.bool false, Xx (Xs rfl), false, rfl, fun h => (by cases h), fun hG => ?_⟩
 obtain ⟨⟨g1, g2, g3, g4, g5, g6, g7⟩, _⟩ := hG i hix
 exfalso; omega
 intro hg12
 have hp12 := hg12; try simp only [Yt] at hp12
 refine Xj (Xh rfl rfl rfl hg12) (Xf (off := 3) rfl Tryz.underlying96 rfl inf30.size (by decide) rfl) ?_
 refine Xj (Xh rfl rfl rfl hg12) (Xk rfl Tryz.underlying30 rfl Xp) ?_
 refine Xj (Xh rfl rfl rfl hg12) (Vu rfl rfl) ?_
 refine Xa (Xl (Yv hg12) rfl) ?_
 refine X5 rfl rfl ?_ ?_
 intro hc14
 (try simp only [Yt] at hc14)
 refine Xe ?_
 refine Xu ?_
 refine Xa (Xn rfl) ?_
 refine X2 ?_
 refine ⟨.bool false, Xx (Xs rfl), false, rfl, fun h => (by cases h), fun hG => ?_⟩
 obtain ⟨⟨g1, g2, g3, g4, g5, g6, g7⟩, _⟩ := hG i hix
 exfalso; omega
 intro hc14
 (try simp only [Yt] at hc14)
 refine X9 ?_
 refine Xe ?_
 refine Yy (by kernel_rfl) (Y4 (B := [0, 1, 3, 7, 7, 23, 63, 127, 7, 511, 1023, 2047]) (π := [0, 1, 2, 3, 4, 5, 6, 7, 8, 9, 10, 11]) (by kernel_rfl)) ?_
 refine Xd rfl rfl (Xb Xm) Xq ?_
 refine Xd rfl rfl (Vu rfl rfl) Xq ?_
 refine Xd rfl rfl (Xo rfl) Xq ?_
 refine Va rfl rfl rfl rfl ?_ ?_
 intro hg15
 have hgt : (0 : Int) < i := of_decide_eq_true hg15
 refine Yr rfl (Xh rfl rfl rfl hg15) rfl (X1 Xm) Xq ?_
 refine Yr rfl (Xh rfl rfl rfl hg15) rfl (Xb Xm) Xq ?_
 refine Yr rfl (Xh rfl rfl rfl hg15) rfl (av_sub_is (r := ((i - 1 : Nat) : Int)) rfl rfl (by omega) (by omega)) Xq ?_
 have hi0 : 0 < i := by omega
 have hix1 : i - 1 < xs.length := by omega
 obtain ⟨b2, o2, e2, hb2, hcell2⟩ := (hs.mono hle.sees).link_at hix1
 simp only [Option.some.injEq, Addr.mk.injEq, and_true] at e2
 obtain ⟨rfl, rfl⟩ := e2
 refine Yr rfl (Xh rfl rfl rfl hg15) rfl (Xt rfl rfl Tryz.underlying83 inf96.size X6 X6) Xq ?_
 refine Yr rfl (Xh rfl rfl rfl hg15) rfl (Yl (cs := [.int .i64 _, .int .i64 _, .int .i64 _, .int .u64 _]) rfl Tryz.underlying96 rfl inf96.size X8) Xq ?_
 refine Yr rfl (Xh rfl rfl rfl hg15) rfl (Yl (cs := [.int .i64 _, .int .i64 _, .int .i64 _, .int .u64 _]) rfl Tryz.underlying96 rfl inf96.size X8) Xq ?_
 refine adr_wop rfl (Xh rfl rfl rfl hg15) rfl (Xy (Less_link _ _ _) rfl Tryz.func114 rfl rfl rfl ?_)
 rintro v H ⟨rfl, rfl⟩
 refine ⟨Yk, ?_⟩
 refine Yr rfl (Xh rfl rfl rfl hg15) rfl (Zz rfl) Xq ?_
 refine Xd rfl rfl (Xl (Yv hg15) rfl) Xq ?_
 refine X5 rfl rfl ?_ ?_
 intro hc16
 (try simp only [Yt] at hc16)
 refine Xe ?_
 refine Xu ?_
 refine Xa (Xn rfl) ?_
 refine X2 ?_
 refine ⟨.bool false, Xx (Xs rfl), false, rfl, fun h => (by cases h), fun hG => ?_⟩
 obtain ⟨_, g8⟩ := hG i hix
 exfalso; simp_all
 intro hc16
 (try simp only [Yt] at hc16)
 refine X9 ?_
 refine Xu ?_
 refine Xa (Xb Xm) ?_
 refine Xa (Yn rfl rfl Y0) ?_
 refine Xa (Xi rfl) ?_
 refine ⟨xs.length - (i + 1), by omega, i + 1, by omega, rfl, t_le, fun j h h0 => ?_, e0, rfl⟩
 rcases Nat.lt_or_ge j i with h1 | h1
 ·exact hok j h h1
 ·obtain rfl : j = i := by omega
  exact ⟨⟨by omega, by omega, by omega, by omega, by omega, by omega, by omega⟩, fun h2 => by first | omega | simp_all⟩
 intro hg15
 have hgt : ¬ (0 : Int) < i := of_decide_eq_false hg15
 refine X7 rfl (Xg rfl rfl rfl hg15 rfl) ?_
 refine X7 rfl (Xg rfl rfl rfl hg15 rfl) ?_
 refine X7 rfl (Xg rfl rfl rfl hg15 rfl) ?_
 refine X7 rfl (Xg rfl rfl rfl hg15 rfl) ?_
 refine X7 rfl (Xg rfl rfl rfl hg15 rfl) ?_
 refine X7 rfl (Xg rfl rfl rfl hg15 rfl) ?_
 refine X7 rfl (Xg rfl rfl rfl hg15 rfl) ?_
 refine X7 rfl (Xg rfl rfl rfl hg15 rfl) ?_
 refine Xd rfl rfl (Xl (Yv hg15) Xm) Xq ?_
 refine Y2 rfl rfl ?_
 refine X9 ?_
 refine Xu ?_
 refine Xa (Xb Xm) ?_
 refine Xa (Yn rfl rfl Y0) ?_
 refine Xa (Xi rfl) ?_
 refine ⟨xs.length - (i + 1), by omega, i + 1, by omega, rfl, t_le, fun j h h0 => ?_, e0, rfl⟩
 rcases Nat.lt_or_ge j i with h1 | h1
 ·exact hok j h h1
 ·obtain rfl : j = i := by omega
  exact ⟨⟨by omega, by omega, by omega, by omega, by omega, by omega, by omega⟩, fun h2 => by first | omega | simp_all⟩
 intro hc1
 (try simp only [Yt] at hc1)
 refine Yx ?_
 refine Xe ?_
 refine Xu ?_
 refine Xa (Xn rfl) ?_
 refine X2 ?_
 refine ⟨.bool true, Xx (Xs rfl), true, rfl, fun _ j h => hok j h (by omega), fun _ => rfl⟩
theorem Good_links (xs : List Link) (v : Value) (H : Hp) (hs : Sl kLink H v xs) (hl : xs.length ≤ 9223372036854775807) :
  ACalls Tryz.prog 86 #[v] H (fun r H' => (∃ g, r = .bool g ∧ (g = true ↔ GoodL xs)) ∧ H' = H) :=
 ACalls.pure (fun v ⟨g, h, _⟩ => by rw [h]; rfl) (Good_raw xs v H.ro (hs.mono H.sees_ro) hl)
structure Forest where
 vars : List ByteArray
 order : List Int
 parent : List Int
 links : List (List Int)
 loops : List (List Int)
def kForest : Kd Forest where
 sz := 5
 pos := by decide
 rep H f cs := ∃ v0 v1 v2 v3 v4, cs = [v0, v1, v2, v3, v4] ∧ Sl kStr H v0 f.vars ∧ Sl (Y1 .i64) H v1 f.order ∧ Sl (Y1 .i64) H v2 f.parent ∧ Sl (V1 (Y1 .i64)) H v3 f.links ∧ Sl (V1 (Y1 .i64)) H v4 f.loops
 len h := by obtain ⟨_, _, _, _, _, rfl, _⟩ := h; rfl
 mono he h := by obtain ⟨v0, v1, v2, v3, v4, rfl, h0, h1, h2, h3, h4⟩ := h; exact ⟨v0, v1, v2, v3, v4, rfl, h0.mono he, h1.mono he, h2.mono he, h3.mono he, h4.mono he⟩
 one h u hu := by
  obtain ⟨v0, v1, v2, v3, v4, rfl, h0, h1, h2, h3, h4⟩ := h
  obtain ⟨_, _, rfl⟩ := h0.shape
  obtain ⟨_, _, rfl⟩ := h1.shape
  obtain ⟨_, _, rfl⟩ := h2.shape
  obtain ⟨_, _, rfl⟩ := h3.shape
  obtain ⟨_, _, rfl⟩ := h4.shape
  simp at hu
  rcases hu with rfl | rfl | rfl | rfl | rfl <;> rfl
structure Parts where
 nodes : List (List Link)
 links : List (List Link)
def kParts : Kd Parts where
 sz := 2
 pos := by decide
 rep H p cs := ∃ v0 v1, cs = [v0, v1] ∧ Sl (V1 kLink) H v0 p.nodes ∧ Sl (V1 kLink) H v1 p.links
 len h := by obtain ⟨_, _, rfl, _⟩ := h; rfl
 mono he h := by obtain ⟨v0, v1, rfl, h0, h1⟩ := h; exact ⟨v0, v1, rfl, h0.mono he, h1.mono he⟩
 one h u hu := by
  obtain ⟨v0, v1, rfl, h0, h1⟩ := h
  obtain ⟨_, _, rfl⟩ := h0.shape
  obtain ⟨_, _, rfl⟩ := h1.shape
  simp at hu
  rcases hu with rfl | rfl <;> rfl
def cutS (s : ByteArray) (m : Nat) : ByteArray := if m < s.size then s.extract 0 m else s
theorem Cut_str (s : ByteArray) (m : Nat) (H : Hp) : ACalls Tryz.prog 38 #[.string s, .int .i64 m] H (fun r H' => r = .string (cutS s m) ∧ H' = H) := by
 refine Xv Tryz.func38 rfl rfl rfl (by simp) ?_
 refine Xe ?_
 refine Xu ?_
 refine Xa (Zd rfl) ?_
 refine Xe ?_
 refine Xe ?_
 refine Xu ?_
 refine Xa (Z2 rfl) ?_
 refine Xa (av_len_str rfl Tryz.underlying9) ?_
 refine Xa (Xb rfl) ?_
 refine Xa (Vu rfl rfl) ?_
 refine X5 rfl rfl ?_ ?_
 intro hc1
 (try simp only [Yt] at hc1)
 refine Xe ?_
 refine Xu ?_
 refine Xa (Z2 rfl) ?_
 refine Xa (Xb rfl) ?_
 have hlt : m < s.size := by omega
 refine Xa (av_substr (l := 0) (h := m) (by first | rfl | assumption) Tryz.underlying9 (.inl ⟨rfl, rfl⟩) (.inr ⟨_, _, rfl, by first | rfl | assumption⟩) (Nat.zero_le _) (by omega)) ?_
 refine Xa (Zd rfl) ?_
 refine X2 ?_
 exact ⟨.string (s.extract 0 m), Xx (Xs rfl), by rw [cutS, if_pos hlt], rfl⟩
 intro hc1
 (try simp only [Yt] at hc1)
 refine X9 ?_
 refine Xe ?_
 refine Xu ?_
 refine Xa (Z2 rfl) ?_
 refine Xa (Zd rfl) ?_
 refine X2 ?_
 exact ⟨.string s, Xx (Xs rfl), by rw [cutS, if_neg (by omega)], rfl⟩
def Forest.few (f : Forest) : Forest := ⟨(f.vars.take 8).map (cutS · 32), f.order.take 8, f.parent.take 8, (f.links.take 8).map (·.take 4), (f.loops.take 8).map (·.take 4)⟩
theorem pack_u64 {x y : Int} (h0 : 0 ≤ x) (h1 : x < 4294967296) (h2 : 0 ≤ y) (h3 : y < 4294967296) :
  IntKind.u64.wrap (BitVec.ofInt IntKind.u64.bits (IntKind.u64.wrap (x * 2 ^ min (32 : Int).toNat IntKind.u64.bits)) ||| BitVec.ofInt IntKind.u64.bits y).toNat = x * 4294967296 + y := by
 obtain ⟨m, rfl⟩ : ∃ m : Nat, x = m := ⟨x.toNat, by omega⟩
 obtain ⟨k, rfl⟩ : ∃ k : Nat, y = k := ⟨y.toNat, by omega⟩
 have e1 : IntKind.u64.wrap ((m : Int) * 2 ^ min (32 : Int).toNat IntKind.u64.bits) = ((m * 4294967296 : Nat) : Int) := by
  show IntKind.u64.wrap ((m : Int) * 4294967296) = _
  simp [IntKind.wrap, IntKind.bits, IntKind.signed]; omega
 rw [e1]
 have e2 : (BitVec.ofInt IntKind.u64.bits ((m * 4294967296 : Nat) : Int) ||| BitVec.ofInt IntKind.u64.bits (k : Int)).toNat = m * 4294967296 + k := by
  rw [BitVec.toNat_or]
  have a1 : (BitVec.ofInt IntKind.u64.bits ((m * 4294967296 : Nat) : Int)).toNat = m * 4294967296 := by
   show (BitVec.ofInt 64 _).toNat = _
   simp [BitVec.toNat_ofInt]; omega
  have a2 : (BitVec.ofInt IntKind.u64.bits (k : Int)).toNat = k := by
   show (BitVec.ofInt 64 _).toNat = _
   simp [BitVec.toNat_ofInt]; omega
  rw [a1, a2, Nat.mul_comm m, show 4294967296 = 2 ^ 32 from rfl, ← Nat.two_pow_add_eq_or_of_lt (by omega)]
 rw [e2]
 simp [IntKind.wrap, IntKind.bits, IntKind.signed]; omega
def keyI (x : Link) : Int := x.a * 4294967296 + x.b
theorem conv_u32 {a : Int} (h0 : 0 ≤ a) (h1 : a < 4294967296) : IntKind.u32.wrap a = a := by simp [IntKind.wrap, IntKind.bits, IntKind.signed]; omega
theorem conv_u64 {a : Int} (h0 : 0 ≤ a) (h1 : a < 18446744073709551616) : IntKind.u64.wrap a = a := by simp [IntKind.wrap, IntKind.bits, IntKind.signed]; omega
theorem Pack_u32 (a b : Int) (ha : 0 ≤ a) (ha1 : a < 4294967296) (hb : 0 ≤ b) (hb1 : b < 4294967296) (H : Hp) : ACalls Tryz.prog 140 #[.int .u32 a, .int .u32 b] H (fun r H' => r = .int .u64 (a * 4294967296 + b) ∧ H' = H) := by
 refine Xv Tryz.func140 rfl rfl rfl (by simp) ?_
 refine Xe ?_
 refine Xu ?_
 refine Xa (Xi rfl) ?_
 refine Xe ?_
 refine Xu ?_
 refine Xa (Xb rfl) ?_
 refine Xa (av_conv rfl (by rw [Tryz.underlying184]; rfl) Tryz.underlying30) ?_
 refine Xa (av_shl rfl rfl (by omega)) ?_
 refine Xa (Xb rfl) ?_
 refine Xa (av_conv rfl (by rw [Tryz.underlying184]; rfl) Tryz.underlying30) ?_
 refine Xa (av_or rfl rfl) ?_
 refine Xa (Xi rfl) ?_
 refine X2 ?_
 refine ⟨.int .u64 (a * 4294967296 + b), Xx (Xs ?_), rfl, rfl⟩
 show Value.int .u64 _ = _
 rw [← pack_u64 ha ha1 hb hb1]
 first | rfl | rw [conv_u64 ha (by omega), conv_u64 hb (by omega)]
theorem key_link (x : Link) (H : Hp) (ha : 0 ≤ x.a) (ha1 : x.a ≤ 9999) (hb : 0 ≤ x.b) (hb1 : x.b ≤ 9999) : ACalls Tryz.prog 130 #[.agg #[.int .i64 x.a, .int .i64 x.b, .int .i64 x.cost, .int .u64 x.n]] H (fun r H' => r = .int .u64 (keyI x) ∧ H' = H) := by
 refine ACalls.pure (R := fun r => r = .int .u64 (keyI x)) (fun v h => by rw [h]; rfl) ?_
 refine Xv Tryz.func130 rfl rfl rfl (by simp) ?_
 refine Xe ?_
 refine Xu ?_
 refine Xz (Yw rfl) ?_
 refine Xa (Xi rfl) ?_
 refine Xe ?_
 refine Xu ?_
 refine Xa (Xf (off := 0) rfl Tryz.underlying96 rfl inf3.size (by decide) rfl) ?_
 refine Xa (Xk rfl Tryz.underlying3 rfl Xp) ?_
 refine Xa (av_conv rfl (by rw [Tryz.underlying3]; rfl) Tryz.underlying184) ?_
 refine Xa (Xf (off := 1) rfl Tryz.underlying96 rfl inf3.size (by decide) rfl) ?_
 refine Xa (Xk rfl Tryz.underlying3 rfl Xp) ?_
 refine Xa (av_conv rfl (by rw [Tryz.underlying3]; rfl) Tryz.underlying184) ?_
 rw [conv_u32 ha (by omega), conv_u32 hb (by omega)]
 refine Xw (Xy (Pack_u32 _ _ (by omega) (by omega) (by omega) (by omega) _) rfl Tryz.func140 rfl rfl rfl ?_)
 rintro v H ⟨rfl, rfl⟩
 refine Xa (Xi rfl) ?_
 refine X2 ?_
 exact ⟨_, Xx (Xs rfl), rfl⟩
theorem OwnP.box_put {α : Type} {k : Kd α} {G H : Hp} {v : Value} {xs : List α} (h : OwnP k G H v xs) {b1 : Nat} {cs : List Value} (hg : G.get b1 = .own 0 cs) (cs' : List Value) : OwnP k (G.put b1 (.own 0 cs')) (H.put b1 (.own 0 cs')) v xs :=
 h.put (by rw [hg]; intro e; cases e) _ (Hp.sees_box _ hg)
def Hp.les (H H' : Hp) : Prop := H.size ≤ H'.size ∧ ∀ b, b < H.size → H.get b ≠ .dead → (∀ cs, H.get b ≠ .own 0 cs) → H'.get b = H.get b
theorem Hp.le.les {H H' : Hp} (h : H.le H') : H.les H' := ⟨h.1, fun b hb hd _ => h.2 b hb hd⟩
theorem Hp.les.trans {H H1 H2 : Hp} (h : H.les H1) (k : H1.les H2) : H.les H2 :=
 ⟨Nat.le_trans h.1 k.1, fun b hb hd hn => by
  have e := h.2 b hb hd hn
  rw [k.2 b (Nat.lt_of_lt_of_le hb h.1) (by rw [e]; exact hd) (fun cs => by rw [e]; exact hn cs), e]⟩
theorem Hp.les.box {H H1 : Hp} (h : H.les H1) {b : Nat} {cs : List Value} (hb : H1.get b = .own 0 cs) (x : Blk) : H.les (H1.put b x) :=
 ⟨h.1, fun c hc hd hn => by
  have e := h.2 c hc hd hn
  have : c ≠ b := fun e2 => by subst e2; rw [hb] at e; exact hn cs e.symm
  rw [Hp.put_other _ _ this, e]⟩
theorem Hp.les.push {H H1 : Hp} (h : H.les H1) (x : Blk) : H.les (H1.push x) := h.trans (H1.le_push x).les
theorem Hp.les.sees {H H' : Hp} (h : H.les H') : H.sees H' where
 size := h.1
 cell b o v sz hb hz hk hc := by
  unfold Hp.cell? at *
  rw [h.2 b hb (Blk.cut_ne hk) (fun cs e => by rw [e] at hk; exact hz hk.symm)]
  exact hc
 cut b sz hb hz hk := by rw [h.2 b hb (Blk.cut_ne hk) (fun cs e => by rw [e] at hk; exact hz hk.symm)]; exact hk
theorem Sl.links_put {G : Hp} {v : Value} {xs : List Link} (h : Sl kLink G v xs) {b1 : Nat} {cs : List Value} (hb : G.get b1 = .own 1 cs) (x : Blk) : Sl kLink (G.put b1 x) v xs := by
 rcases h with h | ⟨b, o, c, e, h1, h2, h3⟩
 ·exact .inl h
 ·have hne : b ≠ b1 := fun e => by subst e; rw [hb] at h2; cases h2
  refine .inr ⟨b, o, c, e, h1, by rw [Hp.put_other _ _ hne]; exact h2, fun i y hy => ?_⟩
  obtain ⟨d, r, hc⟩ := h3 i y hy
  exact ⟨d, r, fun j u hj => by have := hc j u hj; rw [cell_put_old hne]; exact this⟩
theorem Els.lists_put {G : Hp} {xs : List (List Link)} {ds : List Value} (h : Els (V1 kLink) G xs ds) {b1 : Nat} {cs : List Value} (hb : G.get b1 = .own 1 cs) (x : Blk) : Els (V1 kLink) (G.put b1 x) xs ds :=
 ⟨h.1, fun i y hy => by
  obtain ⟨c, ⟨v, e, hs⟩, h2⟩ := h.2 i y hy
  exact ⟨c, ⟨v, e, hs.links_put hb x⟩, h2⟩⟩
theorem OwnP.other {G Gm Gm' H : Hp} {vn vl : Value} {ns ls : List (List Link)} (h1 : OwnP (V1 kLink) G Gm vn ns) (h2 : OwnP (V1 kLink) Gm' H vl ls) (hle : Gm.les Gm') : ∃ G', (∀ H0 : Hp, H0.le G → H0.le H → H0.le G') ∧ OwnP (V1 kLink) G' H vn ns ∧ Sl (V1 kLink) G' vl ls := by
  rcases h1 with ⟨rfl, rfl, rfl⟩ | ⟨b, cs, c, rfl, hb, hd, rfl, hcap, he⟩
  · exact ⟨H, fun H0 _ h => h, .inl ⟨rfl, rfl, rfl⟩, h2.sl⟩
  · have hgm : Gm'.get b = .own 1 cs := by
      rw [hle.2 b (by simpa using hb) (by rw [Hp.put_same]; intro e; cases e) (fun cs => by rw [Hp.put_same]; intro e; cases e), Hp.put_same]; rfl
    have hbs : b < Gm'.size := Nat.lt_of_lt_of_le hb hle.1
    have hgH : H.get b = .own 1 cs := by rw [h2.le.2 b hbs (by rw [hgm]; intro e; cases e), hgm]
    have hG : G.les (H.put b .dead) := ⟨by have := hle.1; have := h2.le.1; simp at *; omega, fun i hi hn hn2 => by
      have hne : i ≠ b := fun e => by subst e; exact hn hd
      have e1 : Gm'.get i = G.get i := by rw [hle.2 i (by simpa using hi) (by rw [Hp.put_other _ _ hne]; exact hn) (fun cs => by rw [Hp.put_other _ _ hne]; exact hn2 cs), Hp.put_other _ _ hne]
      rw [Hp.put_other _ _ hne, h2.le.2 i (by have := hle.1; simp at this; omega) (by rw [e1]; exact hn), e1]⟩
    refine ⟨H.put b .dead, fun H0 k1 k2 => ⟨by simpa using k2.1, fun i hi hn => by
      have e1 := k1.2 i hi hn
      have hne : i ≠ b := fun e => by subst e; rw [hd] at e1; exact hn e1.symm
      rw [Hp.put_other _ _ hne]; exact k2.2 i hi hn⟩, .inr ⟨b, cs, c, rfl, by have := h2.le.1; simp; omega, Hp.put_same _ _ _, by rw [Hp.put_put]; exact (Hp.put_self _ hgH).symm, hcap, he.mono hG.sees⟩, ?_⟩
    rcases h2 with ⟨rfl, rfl, rfl⟩ | ⟨b2, cs2, c2, rfl, hb2, hd2, rfl, hcap2, he2⟩
    · exact .inl ⟨rfl, rfl⟩
    · have hne : b2 ≠ b := fun e => by subst e; rw [hgm] at hd2; cases hd2
      refine Els.sl (he2.lists_put hgm .dead) ?_ (by simpa using hb2) (by rw [Hp.put_other _ _ hne, Hp.put_same]) rfl
      have : (Gm'.put b .dead).le ((Gm'.put b2 (.own 1 cs2)).put b .dead) := by
        rw [Hp.put_comm _ hne]; exact (Gm'.put b .dead).le_put (by rw [Hp.put_other _ _ hne]; exact hd2) _
      exact this.sees
def Parts.few (p : Parts) : Parts := ⟨(p.nodes.take 8).map Vi, (p.links.take 8).map Vi⟩
def Parts.few4 (p : Parts) : Parts := ⟨p.few.nodes.map (·.take 4), p.few.links⟩
theorem take_few {i : Nat} {xs : List (List Link)} (h : i ≤ xs.length) (h8 : i ≤ 8) (hx : ¬ (i : Int) < xs.length ∨ ¬ (i : Int) < 8) : (xs.take 8).map Vi = (xs.take i).map Vi := by
 rcases Nat.lt_or_ge i xs.length with h1 | h1
 ·rw [show i = 8 by omega]
 ·rw [List.take_of_length_le (by omega), List.take_of_length_le (by omega)]
set_option maxHeartbeats 1000000 in
theorem Few_parts (p : Parts) (cs : List Value) (H : Hp) (hp : kParts.rep H p cs) (hln : p.nodes.length ≤ 9223372036854775807) (hll : p.links.length ≤ 9223372036854775807) (hnnodes : ∀ l ∈ p.nodes, l.length ≤ 9223372036854775807) (hnlinks : ∀ l ∈ p.links, l.length ≤ 9223372036854775807) :
  ACalls Tryz.prog 46 #[.agg cs.toArray] H (fun r H' => ∃ G' vn vl, H.le G' ∧ r = .agg #[vn, vl] ∧ OwnP (V1 kLink) G' H' vn p.few.nodes ∧ Sl (V1 kLink) G' vl p.few.links) := by
 obtain ⟨v0, v1, rfl, hs0, hs1⟩ := hp
 obtain ⟨A0, c0, rfl⟩ := hs0.shape
 obtain ⟨A1, c1, rfl⟩ := hs1.shape
 refine Xv Tryz.func46 rfl rfl rfl (by simp) ?_
 refine Xe ?_
 refine Xu ?_
 refine Xz (Yw rfl) ?_
 refine Xz (Yz (l := [.slice none 0 0, .slice none 0 0]) inf29.zero rfl (by decide)) ?_
 refine Xe ?_
 refine Xu ?_
 refine Xa (Y6 (pl := [(0, 1), (1, 1)]) (r := [.slice _ _ _, .slice _ _ _]) Tryz.underlying29 inf29.zero (by decide) rfl rfl) ?_
 refine Xz (Yz (l := [.slice none 0 0, .slice none 0 0]) inf29.zero rfl (by decide)) ?_
 refine Xw (Yf (vs := [.slice _ _ _, .slice _ _ _]) rfl rfl inf29.size Yd Yg rfl rfl ?_)
 refine Xe ?_
 refine Xe ?_
 refine Xu ?_
 refine Xa (Xi rfl) ?_
 refine Ye ?_
 refine Y5 (fun n t H' => ∃ (i : Nat) (G : Hp) (B : Option Addr) (c5 : Nat), i ≤ p.nodes.length ∧ i ≤ 8 ∧ n = p.nodes.length - i ∧ H.le G ∧ OwnP (V1 kLink) G H' (.slice B i c5) ((p.nodes.take i).map Vi) ∧ G.get H.size = .own 0 [.slice A0 p.nodes.length c0, .slice A1 p.links.length c1] ∧ G.get (H.size + 1) = .own 0 [.slice none 0 0, .slice none 0 0] ∧ G.get (H.size + 2) = .own 0 [.slice B i c5, .slice none 0 0] ∧ H.size + 2 < G.size ∧ t 1 = .pointer (some ⟨H.size, 0, none⟩) ∧ t 2 = .pointer (some ⟨H.size + 1, 0, none⟩) ∧ t 3 = .pointer (some ⟨H.size + 2, 0, none⟩) ∧ t 4 = .int .i64 i) (p.nodes.length) (⟨0, (((H.push (.own 0 [.slice A0 p.nodes.length c0, .slice A1 p.links.length c1])).push (.own 0 [.slice none 0 0, .slice none 0 0])).push (.own 0 [.slice none 0 0, .slice none 0 0])).put (H.size + 2) (.own 0 [.slice none 0 0, .slice none 0 0]), _, _, by omega, by omega, rfl, Hp.le_put_new (Hp.le_push' (Hp.le_push' (H.le_push _) _) _) (by omega) _, OwnP.nil _ _, Yd, Yd, Yd, by simp, rfl, rfl, rfl, rfl⟩) ?_
 rintro n t H1 ⟨i, G, B, c5, hi, hi8, rfl, hle, hown, kb0, kb1, kb2, hgs, e1, e2, e3, e4⟩
 have hz := hown.size
 have hleH1 := Hp.le_trans hle hown.le
 have hh0 : H1.get H.size = .own 0 [.slice A0 p.nodes.length c0, .slice A1 p.links.length c1] := Xr hown.le (by omega) (by intro e; cases e) kb0
 have hh1 : H1.get (H.size + 1) = .own 0 [.slice none 0 0, .slice none 0 0] := Xr hown.le (by omega) (by intro e; cases e) kb1
 have hh2 : H1.get (H.size + 2) = .own 0 [.slice B i c5, .slice none 0 0] := Xr hown.le hgs (by intro e; cases e) kb2
 have hlen : ((p.nodes.take i).map Vi).length = i := by rw [List.length_map, List.length_take]; omega
 refine Xe ?_
 refine Xe ?_
 refine Xu ?_
 refine Xa (Xb Xm) ?_
 refine Xa (Xf (off := 0) Xm Tryz.underlying29 Xm inf27.size (by decide) Xm) ?_
 refine Xa (Xk rfl Tryz.underlying27 rfl Xp) ?_
 refine Xa (Ys rfl Tryz.underlying27) ?_
 refine Xa (Za rfl rfl) ?_
 refine Xa (Xo rfl) ?_
 refine Ya rfl rfl rfl ?_ ?_
 intro hg1
 have hp1 := hg1; try simp only [Yt] at hp1
 refine Xj (Xh rfl rfl rfl hg1) (Xb Xm) ?_
 refine Xj (Xh rfl rfl rfl hg1) (Za rfl rfl) ?_
 refine Xa (Xl (Yv hg1) rfl) ?_
 refine X5 rfl rfl ?_ ?_
 intro hc2
 (try simp only [Yt] at hc2)
 refine X9 ?_
 refine Xe ?_
 refine Ye ?_
 have hix : i < p.nodes.length := by omega
 obtain ⟨b, o, rfl, _, hb4, hcut, hx4⟩ := hs0.place (by omega)
 obtain ⟨cs, ⟨u, rfl, hu⟩, hcell0⟩ := hx4 i _ (List.getElem?_eq_getElem hix)
 obtain ⟨A6, c6, rfl⟩ := hu.shape
 have hcell1 := (hleH1.cells hb4 hcell0).one
 have hdd := Blk.cut_ne hcut
 have hS4 : ∀ x ∈ [b], x < H.size ∧ H.get x ≠ .dead := fun x hx => by simp at hx; subst hx; exact ⟨hb4, hdd⟩
 have hbH : b < H1.size := by omega
 refine Yy (by kernel_rfl) (Y4 (B := [0, 1, 0, 4, 0, 28, 60, 124, 252, 511, 1023, 2047]) (π := [0, 1, 2, 3, 4, 5, 6, 7, 8, 9, 10, 11]) (by kernel_rfl)) ?_
 refine Xd rfl rfl (Xf (off := 0) Xm Tryz.underlying29 Xm inf27.size (by decide) Xm) Xq ?_
 refine Xd rfl rfl (Xk rfl Tryz.underlying27 rfl Xp) Xq ?_
 refine Xd rfl rfl (Xf (off := 0) Xm Tryz.underlying29 Xm inf27.size (by decide) Xm) Xq ?_
 refine Xd rfl rfl (Xk rfl Tryz.underlying27 rfl Xp) Xq ?_
 refine Xd rfl rfl (Xb Xm) Xq ?_
 refine Xd rfl rfl (Xt rfl rfl Tryz.underlying27 inf83.size X6 X6) Xq ?_
 refine Xd rfl rfl (Xk rfl Tryz.underlying83 rfl Xp) Xq ?_
 refine Ym rfl rfl (Xy (hown.calls (Few_links p.nodes[i] _ _ (hu.mono hle.sees) (hnnodes _ (List.getElem_mem hix))) (fun r G' ⟨G2, a, b⟩ => Hp.le_trans a b.le)) rfl Tryz.func79 rfl rfl rfl ?_)
 rintro v5 H5 ⟨G5, ⟨G50, hle50, hown50⟩, hown5, hleH5⟩; have hs5 := hown50.sl; have hle5 := Hp.le_trans hle50 hown50.le; have hz5 := hleH5.1; have hsame : ∀ x ∈ [b], H5.get x = H1.get x := (fun x hx => hleH5.2 x (by simp at hx; omega) (by rw [hleH1.2 x (hS4 x hx).1 (hS4 x hx).2]; exact (hS4 x hx).2)); obtain ⟨A5, c50, rfl⟩ := hs5.shape
 refine ⟨Yk, ?_⟩
 refine Zb rfl rfl (Yh (r := [.slice _ _ _]) Tryz.underlying27 inf83.size inf83.zero rfl (by decide) (by decide) (by decide) rfl) ?_
 have hg52 := Xr hle5 hgs (by intro e; cases e) kb2
 have hg50 := Xr hle5 (by omega) (by intro e; cases e) kb0
 have hg51 := Xr hle5 (by omega) (by intro e; cases e) kb1
 have hgs5 : H.size + 2 < G5.size := Nat.lt_of_lt_of_le hgs hle5.1
 refine Ym rfl rfl (OwnP.append (ys := [Vi p.nodes[i]]) (hown5.push _) Tryz.underlying27 inf83 rfl rfl rfl (Zo (k := V1 kLink) ⟨_, rfl, hs5⟩ rfl hown5.size rfl) (by rw [hlen]; simp only [List.length_singleton]; omega) (by rw [hlen]; simp only [List.length_singleton]; omega) ?_)
 rintro v6 G6 H6 hle6 hown6
 have hsame := OwnP.sameS (hown5.push _) hle6 hown6 (H0 := H) (Hp.le_push' (Hp.le_trans hle hle5) _) hS4
 have hsameO := OwnP.sameO (hown5.push _) hle6 hown6
 have hs6 := hle6.1
 simp only [Hp.push_size] at hs6
 have hg62 := Xr hle6 (by simp; omega) (by intro e; cases e) ((Hp.push_old _ _ hgs5).trans hg52)
 have hg60 := Xr hle6 (by simp; omega) (by intro e; cases e) ((Hp.push_old _ _ (by omega)).trans hg50)
 have hg61 := Xr hle6 (by simp; omega) (by intro e; cases e) ((Hp.push_old _ _ (by omega)).trans hg51)
 have hg62H := Xr hown6.le (by omega) (by intro e; cases e) hg62
 obtain ⟨B', c', e6⟩ := hown6.shape
 rw [List.length_append, hlen, List.length_singleton] at e6
 subst e6
 refine ⟨Yk, ?_⟩
 refine Xd rfl rfl (Xf (off := 0) Xm Tryz.underlying29 Xm inf27.size (by decide) Xm) Xq ?_
 first | refine Ym rfl rfl (Y3 rfl rfl rfl inf27.size Yd Yg rfl ?_)
 refine ⟨Yk, ?_⟩
 refine Xu ?_
 refine Xa (Xb Xm) ?_
 refine Xa (Yn rfl rfl Y0) ?_
 refine Xa (Xi rfl) ?_
 rw [← List.map_singleton, ← List.map_append, Y9 hix] at hown6
 have hleHG6 := Hp.le_trans (Hp.le_push' (Hp.le_trans hle hle5) (.own 1 [.slice A5 (Vi p.nodes[i]).length c50])) hle6
 exact ⟨p.nodes.length - (i + 1), by omega, i + 1, G6.put (H.size + 2) (.own 0 [.slice B' (i + 1) c', .slice none 0 0]), B', c', by omega, by omega, rfl, Hp.le_put_new hleHG6 (by omega) _, hown6.box_put hg62 _, by rw [Hp.put_other _ _ (by omega)]; exact hg60, by rw [Hp.put_other _ _ (by omega)]; exact hg61, Hp.put_same _ _ _, by simp; omega, e1, e2, e3, rfl⟩
 intro hc2
 (try simp only [Yt] at hc2)
 refine Yx ?_
 refine Xe ?_
 refine Xe ?_
 have hnod : p.few.nodes = (p.nodes.take i).map Vi := take_few hi hi8 (by first | exact .inl (by omega) | exact .inr (by omega))
 have hownN := hown
 have hleN := hle
 rw [← hnod] at hownN
 generalize hB2 : B = BN at hownN hh2
 generalize hc2 : c5 = cN at hownN hh2
 generalize hn2 : i = nN at hownN hh2
 have hleHN := hleH1
 have hzN := hown.size
 obtain ⟨HN, hHN⟩ : ∃ HN, HN = H1 := ⟨_, rfl⟩
 rw [← hHN] at hownN hh0 hh1 hh2 hleHN hzN ⊢
 refine Xu ?_
 refine Xa (Xi rfl) ?_
 refine Ye ?_
 refine Y5 (fun n t H' => ∃ (i : Nat) (G : Hp) (B : Option Addr) (c5 : Nat), i ≤ p.links.length ∧ i ≤ 8 ∧ n = p.links.length - i ∧ H.le G ∧ OwnP (V1 kLink) G H' (.slice B i c5) ((p.links.take i).map Vi) ∧ G.get H.size = .own 0 [.slice A0 p.nodes.length c0, .slice A1 p.links.length c1] ∧ G.get (H.size + 1) = .own 0 [.slice none 0 0, .slice none 0 0] ∧ G.get (H.size + 2) = .own 0 [.slice BN nN cN, .slice B i c5] ∧ H.size + 2 < G.size ∧ HN.les G ∧ t 1 = .pointer (some ⟨H.size, 0, none⟩) ∧ t 2 = .pointer (some ⟨H.size + 1, 0, none⟩) ∧ t 3 = .pointer (some ⟨H.size + 2, 0, none⟩) ∧ t 5 = .int .i64 i) (p.links.length) (⟨0, HN, _, _, by omega, by omega, rfl, hleHN, OwnP.nil _ _, hh0, hh1, hh2, by omega, ⟨Nat.le_refl _, fun _ _ _ _ => rfl⟩, e1, e2, e3, rfl⟩) ?_
 rintro n t H1 ⟨i, G, B, c5, hi, hi8, rfl, hle, hown, kb0, kb1, kb2, hgs, hles, e1, e2, e3, e4⟩
 have hz := hown.size
 have hleH1 := Hp.le_trans hle hown.le
 have hh0 : H1.get H.size = .own 0 [.slice A0 p.nodes.length c0, .slice A1 p.links.length c1] := Xr hown.le (by omega) (by intro e; cases e) kb0
 have hh1 : H1.get (H.size + 1) = .own 0 [.slice none 0 0, .slice none 0 0] := Xr hown.le (by omega) (by intro e; cases e) kb1
 have hh2 : H1.get (H.size + 2) = .own 0 [.slice BN nN cN, .slice B i c5] := Xr hown.le hgs (by intro e; cases e) kb2
 have hlen : ((p.links.take i).map Vi).length = i := by rw [List.length_map, List.length_take]; omega
 refine Xe ?_
 refine Xe ?_
 refine Xu ?_
 refine Xa (Xb Xm) ?_
 refine Xa (Xf (off := 1) Xm Tryz.underlying29 Xm inf27.size (by decide) Xm) ?_
 refine Xa (Xk rfl Tryz.underlying27 rfl Xp) ?_
 refine Xa (Ys rfl Tryz.underlying27) ?_
 refine Xa (Za rfl rfl) ?_
 refine Xa (Xo rfl) ?_
 refine Ya rfl rfl rfl ?_ ?_
 intro hg3
 have hp3 := hg3; try simp only [Yt] at hp3
 refine Xj (Xh rfl rfl rfl hg3) (Xb Xm) ?_
 refine Xj (Xh rfl rfl rfl hg3) (Za rfl rfl) ?_
 refine Xa (Xl (Yv hg3) rfl) ?_
 refine X5 rfl rfl ?_ ?_
 intro hc4
 (try simp only [Yt] at hc4)
 refine X9 ?_
 refine Xe ?_
 refine Ye ?_
 have hix : i < p.links.length := by omega
 obtain ⟨b, o, rfl, _, hb4, hcut, hx4⟩ := hs1.place (by omega)
 obtain ⟨cs, ⟨u, rfl, hu⟩, hcell0⟩ := hx4 i _ (List.getElem?_eq_getElem hix)
 obtain ⟨A6, c6, rfl⟩ := hu.shape
 have hcell1 := (hleH1.cells hb4 hcell0).one
 have hdd := Blk.cut_ne hcut
 have hS4 : ∀ x ∈ [b], x < H.size ∧ H.get x ≠ .dead := fun x hx => by simp at hx; subst hx; exact ⟨hb4, hdd⟩
 have hbH : b < H1.size := by omega
 refine Yy (by kernel_rfl) (Y4 (B := [0, 1, 0, 4, 0, 28, 60, 124, 252, 511, 1023, 2047]) (π := [0, 1, 2, 3, 4, 5, 6, 7, 8, 9, 10, 11]) (by kernel_rfl)) ?_
 refine Xd rfl rfl (Xf (off := 1) Xm Tryz.underlying29 Xm inf27.size (by decide) Xm) Xq ?_
 refine Xd rfl rfl (Xk rfl Tryz.underlying27 rfl Xp) Xq ?_
 refine Xd rfl rfl (Xf (off := 1) Xm Tryz.underlying29 Xm inf27.size (by decide) Xm) Xq ?_
 refine Xd rfl rfl (Xk rfl Tryz.underlying27 rfl Xp) Xq ?_
 refine Xd rfl rfl (Xb Xm) Xq ?_
 refine Xd rfl rfl (Xt rfl rfl Tryz.underlying27 inf83.size X6 X6) Xq ?_
 refine Xd rfl rfl (Xk rfl Tryz.underlying83 rfl Xp) Xq ?_
 refine Ym rfl rfl (Xy (hown.calls (Few_links p.links[i] _ _ (hu.mono hle.sees) (hnlinks _ (List.getElem_mem hix))) (fun r G' ⟨G2, a, b⟩ => Hp.le_trans a b.le)) rfl Tryz.func79 rfl rfl rfl ?_)
 rintro v5 H5 ⟨G5, ⟨G50, hle50, hown50⟩, hown5, hleH5⟩; have hs5 := hown50.sl; have hle5 := Hp.le_trans hle50 hown50.le; have hz5 := hleH5.1; have hsame : ∀ x ∈ [b], H5.get x = H1.get x := (fun x hx => hleH5.2 x (by simp at hx; omega) (by rw [hleH1.2 x (hS4 x hx).1 (hS4 x hx).2]; exact (hS4 x hx).2)); obtain ⟨A5, c50, rfl⟩ := hs5.shape
 refine ⟨Yk, ?_⟩
 refine Zb rfl rfl (Yh (r := [.slice _ _ _]) Tryz.underlying27 inf83.size inf83.zero rfl (by decide) (by decide) (by decide) rfl) ?_
 have hg52 := Xr hle5 hgs (by intro e; cases e) kb2
 have hg50 := Xr hle5 (by omega) (by intro e; cases e) kb0
 have hg51 := Xr hle5 (by omega) (by intro e; cases e) kb1
 have hgs5 : H.size + 2 < G5.size := Nat.lt_of_lt_of_le hgs hle5.1
 refine Ym rfl rfl (OwnP.append (ys := [Vi p.links[i]]) (hown5.push _) Tryz.underlying27 inf83 rfl rfl rfl (Zo (k := V1 kLink) ⟨_, rfl, hs5⟩ rfl hown5.size rfl) (by rw [hlen]; simp only [List.length_singleton]; omega) (by rw [hlen]; simp only [List.length_singleton]; omega) ?_)
 rintro v6 G6 H6 hle6 hown6
 have hsame := OwnP.sameS (hown5.push _) hle6 hown6 (H0 := H) (Hp.le_push' (Hp.le_trans hle hle5) _) hS4
 have hsameO := OwnP.sameO (hown5.push _) hle6 hown6
 have hs6 := hle6.1
 simp only [Hp.push_size] at hs6
 have hg62 := Xr hle6 (by simp; omega) (by intro e; cases e) ((Hp.push_old _ _ hgs5).trans hg52)
 have hg60 := Xr hle6 (by simp; omega) (by intro e; cases e) ((Hp.push_old _ _ (by omega)).trans hg50)
 have hg61 := Xr hle6 (by simp; omega) (by intro e; cases e) ((Hp.push_old _ _ (by omega)).trans hg51)
 have hg62H := Xr hown6.le (by omega) (by intro e; cases e) hg62
 obtain ⟨B', c', e6⟩ := hown6.shape
 rw [List.length_append, hlen, List.length_singleton] at e6
 subst e6
 refine ⟨Yk, ?_⟩
 refine Xd rfl rfl (Xf (off := 1) Xm Tryz.underlying29 Xm inf27.size (by decide) Xm) Xq ?_
 first | refine Ym rfl rfl (Y3 rfl rfl rfl inf27.size Yd Yg rfl ?_)
 refine ⟨Yk, ?_⟩
 refine Xu ?_
 refine Xa (Xb Xm) ?_
 refine Xa (Yn rfl rfl Y0) ?_
 refine Xa (Xi rfl) ?_
 rw [← List.map_singleton, ← List.map_append, Y9 hix] at hown6
 have hleHG6 := Hp.le_trans (Hp.le_push' (Hp.le_trans hle hle5) (.own 1 [.slice A5 (Vi p.links[i]).length c50])) hle6
 exact ⟨p.links.length - (i + 1), by omega, i + 1, G6.put (H.size + 2) (.own 0 [.slice BN nN cN, .slice B' (i + 1) c']), B', c', by omega, by omega, rfl, Hp.le_put_new hleHG6 (by omega) _, hown6.box_put hg62 _, by rw [Hp.put_other _ _ (by omega)]; exact hg60, by rw [Hp.put_other _ _ (by omega)]; exact hg61, Hp.put_same _ _ _, by simp; omega, (((hles.trans hle5.les).push _).trans hle6.les).box hg62 _, e1, e2, e3, rfl⟩
 intro hc4
 (try simp only [Yt] at hc4)
 refine Yx ?_
 refine Xe ?_
 refine Xu ?_
 refine Xa (Yl (cs := [.slice _ _ _, .slice _ _ _]) Xm Tryz.underlying29 Xm inf29.size X8) ?_
 refine Xw (Yf (vs := [.slice _ _ _, .slice _ _ _]) Xm Xm inf29.size Yd Yg Xm Xm ?_)
 refine X2 ?_
 have hlin : p.few.links = (p.links.take i).map Vi := take_few hi hi8 (by first | exact .inl (by omega) | exact .inr (by omega))
 obtain ⟨G', hG', ho', hs'⟩ := OwnP.other hownN (hown.box_put kb1 [.slice BN nN cN, .slice B i c5]) (hles.box kb1 _)
 exact ⟨.agg #[.slice BN nN cN, .slice B i c5], Xx (Yq Xm (Yo (cs := [.slice BN nN cN, .slice B i c5]) Tryz.underlying29 rfl inf29.size X8)), G', .slice BN nN cN, .slice B i c5, hG' H hleN (Hp.le_put_new hleH1 (by omega) _), rfl, ho', by rw [hlin]; exact hs'⟩
 intro hg3
 have hp3 := hg3; try simp only [Yt] at hp3
 refine Xc (Xg rfl rfl rfl hg3 rfl) ?_
 refine Xc (Xg rfl rfl rfl hg3 rfl) ?_
 refine Xa (Xl (Yv hg3) Xm) ?_
 refine Y2 rfl rfl ?_
 refine Yx ?_
 refine Xe ?_
 refine Xu ?_
 refine Xa (Yl (cs := [.slice _ _ _, .slice _ _ _]) Xm Tryz.underlying29 Xm inf29.size X8) ?_
 refine Xw (Yf (vs := [.slice _ _ _, .slice _ _ _]) Xm Xm inf29.size Yd Yg Xm Xm ?_)
 refine X2 ?_
 have hlin : p.few.links = (p.links.take i).map Vi := take_few hi hi8 (by first | exact .inl (by omega) | exact .inr (by omega))
 obtain ⟨G', hG', ho', hs'⟩ := OwnP.other hownN (hown.box_put kb1 [.slice BN nN cN, .slice B i c5]) (hles.box kb1 _)
 exact ⟨.agg #[.slice BN nN cN, .slice B i c5], Xx (Yq Xm (Yo (cs := [.slice BN nN cN, .slice B i c5]) Tryz.underlying29 rfl inf29.size X8)), G', .slice BN nN cN, .slice B i c5, hG' H hleN (Hp.le_put_new hleH1 (by omega) _), rfl, ho', by rw [hlin]; exact hs'⟩
 intro hg1
 have hp1 := hg1; try simp only [Yt] at hp1
 refine Xc (Xg rfl rfl rfl hg1 rfl) ?_
 refine Xc (Xg rfl rfl rfl hg1 rfl) ?_
 refine Xa (Xl (Yv hg1) Xm) ?_
 refine Y2 rfl rfl ?_
 refine Yx ?_
 refine Xe ?_
 refine Xe ?_
 have hnod : p.few.nodes = (p.nodes.take i).map Vi := take_few hi hi8 (by first | exact .inl (by omega) | exact .inr (by omega))
 have hownN := hown
 have hleN := hle
 rw [← hnod] at hownN
 generalize hB2 : B = BN at hownN hh2
 generalize hc2 : c5 = cN at hownN hh2
 generalize hn2 : i = nN at hownN hh2
 have hleHN := hleH1
 have hzN := hown.size
 obtain ⟨HN, hHN⟩ : ∃ HN, HN = H1 := ⟨_, rfl⟩
 rw [← hHN] at hownN hh0 hh1 hh2 hleHN hzN ⊢
 refine Xu ?_
 refine Xa (Xi rfl) ?_
 refine Ye ?_
 refine Y5 (fun n t H' => ∃ (i : Nat) (G : Hp) (B : Option Addr) (c5 : Nat), i ≤ p.links.length ∧ i ≤ 8 ∧ n = p.links.length - i ∧ H.le G ∧ OwnP (V1 kLink) G H' (.slice B i c5) ((p.links.take i).map Vi) ∧ G.get H.size = .own 0 [.slice A0 p.nodes.length c0, .slice A1 p.links.length c1] ∧ G.get (H.size + 1) = .own 0 [.slice none 0 0, .slice none 0 0] ∧ G.get (H.size + 2) = .own 0 [.slice BN nN cN, .slice B i c5] ∧ H.size + 2 < G.size ∧ HN.les G ∧ t 1 = .pointer (some ⟨H.size, 0, none⟩) ∧ t 2 = .pointer (some ⟨H.size + 1, 0, none⟩) ∧ t 3 = .pointer (some ⟨H.size + 2, 0, none⟩) ∧ t 5 = .int .i64 i) (p.links.length) (⟨0, HN, _, _, by omega, by omega, rfl, hleHN, OwnP.nil _ _, hh0, hh1, hh2, by omega, ⟨Nat.le_refl _, fun _ _ _ _ => rfl⟩, e1, e2, e3, rfl⟩) ?_
 rintro n t H1 ⟨i, G, B, c5, hi, hi8, rfl, hle, hown, kb0, kb1, kb2, hgs, hles, e1, e2, e3, e4⟩
 have hz := hown.size
 have hleH1 := Hp.le_trans hle hown.le
 have hh0 : H1.get H.size = .own 0 [.slice A0 p.nodes.length c0, .slice A1 p.links.length c1] := Xr hown.le (by omega) (by intro e; cases e) kb0
 have hh1 : H1.get (H.size + 1) = .own 0 [.slice none 0 0, .slice none 0 0] := Xr hown.le (by omega) (by intro e; cases e) kb1
 have hh2 : H1.get (H.size + 2) = .own 0 [.slice BN nN cN, .slice B i c5] := Xr hown.le hgs (by intro e; cases e) kb2
 have hlen : ((p.links.take i).map Vi).length = i := by rw [List.length_map, List.length_take]; omega
 refine Xe ?_
 refine Xe ?_
 refine Xu ?_
 refine Xa (Xb Xm) ?_
 refine Xa (Xf (off := 1) Xm Tryz.underlying29 Xm inf27.size (by decide) Xm) ?_
 refine Xa (Xk rfl Tryz.underlying27 rfl Xp) ?_
 refine Xa (Ys rfl Tryz.underlying27) ?_
 refine Xa (Za rfl rfl) ?_
 refine Xa (Xo rfl) ?_
 refine Ya rfl rfl rfl ?_ ?_
 intro hg7
 have hp7 := hg7; try simp only [Yt] at hp7
 refine Xj (Xh rfl rfl rfl hg7) (Xb Xm) ?_
 refine Xj (Xh rfl rfl rfl hg7) (Za rfl rfl) ?_
 refine Xa (Xl (Yv hg7) rfl) ?_
 refine X5 rfl rfl ?_ ?_
 intro hc8
 (try simp only [Yt] at hc8)
 refine X9 ?_
 refine Xe ?_
 refine Ye ?_
 have hix : i < p.links.length := by omega
 obtain ⟨b, o, rfl, _, hb4, hcut, hx4⟩ := hs1.place (by omega)
 obtain ⟨cs, ⟨u, rfl, hu⟩, hcell0⟩ := hx4 i _ (List.getElem?_eq_getElem hix)
 obtain ⟨A6, c6, rfl⟩ := hu.shape
 have hcell1 := (hleH1.cells hb4 hcell0).one
 have hdd := Blk.cut_ne hcut
 have hS4 : ∀ x ∈ [b], x < H.size ∧ H.get x ≠ .dead := fun x hx => by simp at hx; subst hx; exact ⟨hb4, hdd⟩
 have hbH : b < H1.size := by omega
 refine Yy (by kernel_rfl) (Y4 (B := [0, 1, 0, 4, 0, 28, 60, 124, 252, 511, 1023, 2047]) (π := [0, 1, 2, 3, 4, 5, 6, 7, 8, 9, 10, 11]) (by kernel_rfl)) ?_
 refine Xd rfl rfl (Xf (off := 1) Xm Tryz.underlying29 Xm inf27.size (by decide) Xm) Xq ?_
 refine Xd rfl rfl (Xk rfl Tryz.underlying27 rfl Xp) Xq ?_
 refine Xd rfl rfl (Xf (off := 1) Xm Tryz.underlying29 Xm inf27.size (by decide) Xm) Xq ?_
 refine Xd rfl rfl (Xk rfl Tryz.underlying27 rfl Xp) Xq ?_
 refine Xd rfl rfl (Xb Xm) Xq ?_
 refine Xd rfl rfl (Xt rfl rfl Tryz.underlying27 inf83.size X6 X6) Xq ?_
 refine Xd rfl rfl (Xk rfl Tryz.underlying83 rfl Xp) Xq ?_
 refine Ym rfl rfl (Xy (hown.calls (Few_links p.links[i] _ _ (hu.mono hle.sees) (hnlinks _ (List.getElem_mem hix))) (fun r G' ⟨G2, a, b⟩ => Hp.le_trans a b.le)) rfl Tryz.func79 rfl rfl rfl ?_)
 rintro v5 H5 ⟨G5, ⟨G50, hle50, hown50⟩, hown5, hleH5⟩; have hs5 := hown50.sl; have hle5 := Hp.le_trans hle50 hown50.le; have hz5 := hleH5.1; have hsame : ∀ x ∈ [b], H5.get x = H1.get x := (fun x hx => hleH5.2 x (by simp at hx; omega) (by rw [hleH1.2 x (hS4 x hx).1 (hS4 x hx).2]; exact (hS4 x hx).2)); obtain ⟨A5, c50, rfl⟩ := hs5.shape
 refine ⟨Yk, ?_⟩
 refine Zb rfl rfl (Yh (r := [.slice _ _ _]) Tryz.underlying27 inf83.size inf83.zero rfl (by decide) (by decide) (by decide) rfl) ?_
 have hg52 := Xr hle5 hgs (by intro e; cases e) kb2
 have hg50 := Xr hle5 (by omega) (by intro e; cases e) kb0
 have hg51 := Xr hle5 (by omega) (by intro e; cases e) kb1
 have hgs5 : H.size + 2 < G5.size := Nat.lt_of_lt_of_le hgs hle5.1
 refine Ym rfl rfl (OwnP.append (ys := [Vi p.links[i]]) (hown5.push _) Tryz.underlying27 inf83 rfl rfl rfl (Zo (k := V1 kLink) ⟨_, rfl, hs5⟩ rfl hown5.size rfl) (by rw [hlen]; simp only [List.length_singleton]; omega) (by rw [hlen]; simp only [List.length_singleton]; omega) ?_)
 rintro v6 G6 H6 hle6 hown6
 have hsame := OwnP.sameS (hown5.push _) hle6 hown6 (H0 := H) (Hp.le_push' (Hp.le_trans hle hle5) _) hS4
 have hsameO := OwnP.sameO (hown5.push _) hle6 hown6
 have hs6 := hle6.1
 simp only [Hp.push_size] at hs6
 have hg62 := Xr hle6 (by simp; omega) (by intro e; cases e) ((Hp.push_old _ _ hgs5).trans hg52)
 have hg60 := Xr hle6 (by simp; omega) (by intro e; cases e) ((Hp.push_old _ _ (by omega)).trans hg50)
 have hg61 := Xr hle6 (by simp; omega) (by intro e; cases e) ((Hp.push_old _ _ (by omega)).trans hg51)
 have hg62H := Xr hown6.le (by omega) (by intro e; cases e) hg62
 obtain ⟨B', c', e6⟩ := hown6.shape
 rw [List.length_append, hlen, List.length_singleton] at e6
 subst e6
 refine ⟨Yk, ?_⟩
 refine Xd rfl rfl (Xf (off := 1) Xm Tryz.underlying29 Xm inf27.size (by decide) Xm) Xq ?_
 first | refine Ym rfl rfl (Y3 rfl rfl rfl inf27.size Yd Yg rfl ?_)
 refine ⟨Yk, ?_⟩
 refine Xu ?_
 refine Xa (Xb Xm) ?_
 refine Xa (Yn rfl rfl Y0) ?_
 refine Xa (Xi rfl) ?_
 rw [← List.map_singleton, ← List.map_append, Y9 hix] at hown6
 have hleHG6 := Hp.le_trans (Hp.le_push' (Hp.le_trans hle hle5) (.own 1 [.slice A5 (Vi p.links[i]).length c50])) hle6
 exact ⟨p.links.length - (i + 1), by omega, i + 1, G6.put (H.size + 2) (.own 0 [.slice BN nN cN, .slice B' (i + 1) c']), B', c', by omega, by omega, rfl, Hp.le_put_new hleHG6 (by omega) _, hown6.box_put hg62 _, by rw [Hp.put_other _ _ (by omega)]; exact hg60, by rw [Hp.put_other _ _ (by omega)]; exact hg61, Hp.put_same _ _ _, by simp; omega, (((hles.trans hle5.les).push _).trans hle6.les).box hg62 _, e1, e2, e3, rfl⟩
 intro hc8
 (try simp only [Yt] at hc8)
 refine Yx ?_
 refine Xe ?_
 refine Xu ?_
 refine Xa (Yl (cs := [.slice _ _ _, .slice _ _ _]) Xm Tryz.underlying29 Xm inf29.size X8) ?_
 refine Xw (Yf (vs := [.slice _ _ _, .slice _ _ _]) Xm Xm inf29.size Yd Yg Xm Xm ?_)
 refine X2 ?_
 have hlin : p.few.links = (p.links.take i).map Vi := take_few hi hi8 (by first | exact .inl (by omega) | exact .inr (by omega))
 obtain ⟨G', hG', ho', hs'⟩ := OwnP.other hownN (hown.box_put kb1 [.slice BN nN cN, .slice B i c5]) (hles.box kb1 _)
 exact ⟨.agg #[.slice BN nN cN, .slice B i c5], Xx (Yq Xm (Yo (cs := [.slice BN nN cN, .slice B i c5]) Tryz.underlying29 rfl inf29.size X8)), G', .slice BN nN cN, .slice B i c5, hG' H hleN (Hp.le_put_new hleH1 (by omega) _), rfl, ho', by rw [hlin]; exact hs'⟩
 intro hg7
 have hp7 := hg7; try simp only [Yt] at hp7
 refine Xc (Xg rfl rfl rfl hg7 rfl) ?_
 refine Xc (Xg rfl rfl rfl hg7 rfl) ?_
 refine Xa (Xl (Yv hg7) Xm) ?_
 refine Y2 rfl rfl ?_
 refine Yx ?_
 refine Xe ?_
 refine Xu ?_
 refine Xa (Yl (cs := [.slice _ _ _, .slice _ _ _]) Xm Tryz.underlying29 Xm inf29.size X8) ?_
 refine Xw (Yf (vs := [.slice _ _ _, .slice _ _ _]) Xm Xm inf29.size Yd Yg Xm Xm ?_)
 refine X2 ?_
 have hlin : p.few.links = (p.links.take i).map Vi := take_few hi hi8 (by first | exact .inl (by omega) | exact .inr (by omega))
 obtain ⟨G', hG', ho', hs'⟩ := OwnP.other hownN (hown.box_put kb1 [.slice BN nN cN, .slice B i c5]) (hles.box kb1 _)
 exact ⟨.agg #[.slice BN nN cN, .slice B i c5], Xx (Yq Xm (Yo (cs := [.slice BN nN cN, .slice B i c5]) Tryz.underlying29 rfl inf29.size X8)), G', .slice BN nN cN, .slice B i c5, hG' H hleN (Hp.le_put_new hleH1 (by omega) _), rfl, ho', by rw [hlin]; exact hs'⟩
def cutTo (ns : List (List Link)) (i : Nat) : List (List Link) := (ns.take i).map (·.take 4) ++ ns.drop i
theorem cutTo_len (ns : List (List Link)) {i : Nat} (h : i ≤ ns.length) : (cutTo ns i).length = ns.length := by
 unfold cutTo; rw [List.length_append, List.length_map, List.length_take, List.length_drop]; omega
theorem cutTo_get? (ns : List (List Link)) {i : Nat} (h : i < ns.length) : (cutTo ns i)[i]? = some ns[i] := by
 have hl : ((ns.take i).map (·.take 4)).length = i := by rw [List.length_map, List.length_take]; omega
 unfold cutTo
 rw [List.getElem?_append_right (by omega), hl, Nat.sub_self, List.getElem?_drop, Nat.add_zero, List.getElem?_eq_getElem h]
theorem cutTo_get (ns : List (List Link)) {i : Nat} (h : i < ns.length) (h2 : i < (cutTo ns i).length) : (cutTo ns i)[i] = ns[i] := by
 have := cutTo_get? ns h
 rw [List.getElem?_eq_getElem h2] at this
 injection this
theorem cutTo_set (ns : List (List Link)) {i : Nat} (h : i < ns.length) : (cutTo ns i).set i (ns[i].take 4) = cutTo ns (i + 1) := by
 have hl : ((ns.take i).map (·.take 4)).length = i := by rw [List.length_map, List.length_take]; omega
 unfold cutTo
 rw [List.set_append_right _ _ (by omega), hl, Nat.sub_self, List.drop_eq_getElem_cons h, List.set_cons_zero, ← Y9 h, List.map_append, List.append_assoc]
 rfl
theorem cutTo_skip (ns : List (List Link)) {i : Nat} (h : i < ns.length) (h4 : ns[i].length ≤ 4) : cutTo ns i = cutTo ns (i + 1) := by
 rw [← cutTo_set ns h, List.take_of_length_le h4]
 have := cutTo_get ns h (by rw [cutTo_len ns (by omega)]; exact h)
 conv => rhs; arg 3; rw [← this]
 exact (List.set_getElem_self _).symm
set_option maxHeartbeats 1000000 in
theorem Few4_parts (p : Parts) (cs : List Value) (H : Hp) (hp : kParts.rep H p cs) (hln : p.nodes.length ≤ 9223372036854775807) (hll : p.links.length ≤ 9223372036854775807) (hnnodes : ∀ l ∈ p.nodes, l.length ≤ 9223372036854775807) (hnlinks : ∀ l ∈ p.links, l.length ≤ 9223372036854775807) :
  ACalls Tryz.prog 11 #[.agg cs.toArray] H (fun r H' => H.le H' ∧ ∃ ds, r = .agg ds.toArray ∧ kParts.rep H' p.few4 ds) := by
 have hp0 := hp
 have hl8 : p.few.nodes.length ≤ 8 := by unfold Parts.few; rw [List.length_map, List.length_take]; omega
 obtain ⟨v0, v1, rfl, hs0, hs1⟩ := hp
 obtain ⟨A0, c0, rfl⟩ := hs0.shape
 obtain ⟨A1, c1, rfl⟩ := hs1.shape
 refine Xv Tryz.func11 rfl rfl rfl (by simp) ?_
 refine Xe ?_
 refine Xu ?_
 refine Xz (Yw rfl) ?_
 refine Xz (Yz (l := [.slice none 0 0, .slice none 0 0]) inf29.zero rfl (by decide)) ?_
 refine Xe ?_
 refine Xu ?_
 refine Xa (Yl (cs := [.slice _ _ _, .slice _ _ _]) rfl Tryz.underlying29 rfl inf29.size X8) ?_
 refine Xw (Xy (Few_parts p _ _ (kParts.mono (Hp.le_push' (H.le_push (.own 0 [.slice A0 p.nodes.length c0, .slice A1 p.links.length c1])) (.own 0 [.slice none 0 0, .slice none 0 0])).sees hp0) hln hll hnnodes hnlinks) rfl Tryz.func46 rfl rfl rfl ?_)
 rintro v2 H2 ⟨G2, vn, vl, hle2, rfl, hown2, hsl2⟩; obtain ⟨B, c, rfl⟩ := hown2.shape; obtain ⟨A3, c3, rfl⟩ := hsl2.shape; have hz2 := hown2.size; have hs2 := hle2.1; simp only [Hp.push_size] at hs2
 have kb0 : G2.get H.size = .own 0 [.slice A0 p.nodes.length c0, .slice A1 p.links.length c1] := Xr hle2 (by simp only [Hp.push_size]; omega) (by intro e; cases e) Yd
 have kb1 : G2.get (H.size + 1) = .own 0 [.slice none 0 0, .slice none 0 0] := Xr hle2 (by simp only [Hp.push_size]; omega) (by intro e; cases e) Yd
 have hh0 := Xr hown2.le (by omega) (by intro e; cases e) kb0
 have hleH2 : H.le G2 := Hp.le_trans (Hp.le_push' (H.le_push _) _) hle2
 refine Xw (Yf (vs := [.slice _ _ _, .slice _ _ _]) rfl rfl inf29.size Yd Yg rfl rfl ?_)
 refine Xe ?_
 refine Xe ?_
 refine Xu ?_
 refine Xa (Xi rfl) ?_
 refine Ye ?_
 refine Y5 (fun n t H' => ∃ (i : Nat) (G : Hp), i ≤ p.few.nodes.length ∧ n = p.few.nodes.length - i ∧ H.le G ∧ OwnP (V1 kLink) G H' (.slice B p.few.nodes.length c) (cutTo p.few.nodes i) ∧ G.get H.size = .own 0 [.slice B p.few.nodes.length c, .slice A3 p.few.links.length c3] ∧ G.get (H.size + 1) = .own 0 [.slice none 0 0, .slice none 0 0] ∧ H.size + 1 < G.size ∧ Sl (V1 kLink) G (.slice A3 p.few.links.length c3) p.few.links ∧ t 1 = .pointer (some ⟨H.size, 0, none⟩) ∧ t 2 = .pointer (some ⟨H.size + 1, 0, none⟩) ∧ t 3 = .int .i64 i) (p.few.nodes.length) (⟨0, G2.put H.size (.own 0 [.slice B p.few.nodes.length c, .slice A3 p.few.links.length c3]), by omega, rfl, Hp.le_put_new hleH2 (Nat.le_refl _) _, hown2.box_put kb0 _, Hp.put_same _ _ _, by rw [Hp.put_other _ _ (by omega)]; exact kb1, by simp; omega, hsl2.mono (Hp.sees_box _ kb0), rfl, rfl, rfl⟩) ?_
 rintro n t H1 ⟨i, G, hi, rfl, hle, hown, kb0, kb1, hgs, hsl, e1, e2, e3⟩
 have hz := hown.size
 have hh0 := Xr hown.le (by omega) (by intro e; cases e) kb0
 have hh1 := Xr hown.le (by omega) (by intro e; cases e) kb1
 have hcl := cutTo_len p.few.nodes hi
 refine Xe ?_
 refine Xe ?_
 refine Xu ?_
 refine Xa (Xb Xm) ?_
 refine Xa (Xf (off := 0) Xm Tryz.underlying29 Xm inf27.size (by decide) Xm) ?_
 refine Xa (Xk rfl Tryz.underlying27 rfl Xp) ?_
 refine Xa (Ys rfl Tryz.underlying27) ?_
 refine Xa (Za rfl rfl) ?_
 refine X5 rfl rfl ?_ ?_
 intro hc1
 (try simp only [Yt] at hc1)
 refine X9 ?_
 refine Xe ?_
 refine Ye ?_
 refine Xe ?_
 have hix : i < p.few.nodes.length := by omega
 have hixc : i < (cutTo p.few.nodes i).length := by omega
 obtain ⟨b, cs, rfl, _, hbb, hbd, rfl, hcap, hels⟩ := hown.place (by omega)
 obtain ⟨d, ⟨w, rfl, hw⟩, hc1, hr1⟩ := hels.at hixc b
 rw [cutTo_get _ hix] at hw
 obtain ⟨A6, c6, rfl⟩ := hw.shape
 have hcell1 := hc1.one
 have hgb : (G.put b (.own 1 cs)).get b = .own 1 cs := Hp.put_same _ _ _
 have hr1' : i * 1 + 1 ≤ cs.length := hr1
 have hne : b ≠ H.size := fun e => by subst e; rw [kb0] at hbd; cases hbd
 refine Xu ?_
 refine Xa (Xf (off := 0) Xm Tryz.underlying29 Xm inf27.size (by decide) Xm) ?_
 refine Xa (Xk rfl Tryz.underlying27 rfl Xp) ?_
 refine Xa (Xb Xm) ?_
 refine Xa (Xt rfl rfl Tryz.underlying27 inf83.size X6 X6) ?_
 refine Xa (Xk rfl Tryz.underlying83 rfl Xp) ?_
 refine Xa (Ys rfl Tryz.underlying83) ?_
 refine Xa (Vu rfl rfl) ?_
 refine X5 rfl rfl ?_ ?_
 intro hc2
 have h4 : 4 < p.few.nodes[i].length := by have := of_decide_eq_true hc2; omega
 refine Yy (by kernel_rfl) (Y4 (B := [0, 1, 0, 0, 8, 0, 56, 120, 248, 511, 1023]) (π := [0, 1, 2, 3, 4, 5, 6, 7, 8, 9, 10]) (by kernel_rfl)) ?_
 refine Xd rfl rfl (Xf (off := 0) Xm Tryz.underlying29 Xm inf27.size (by decide) Xm) Xq ?_
 refine Xd rfl rfl (Xk rfl Tryz.underlying27 rfl Xp) Xq ?_
 refine Xd rfl rfl (Xb Xm) Xq ?_
 refine Xd rfl rfl (Xf (off := 0) Xm Tryz.underlying29 Xm inf27.size (by decide) Xm) Xq ?_
 refine Xd rfl rfl (Xk rfl Tryz.underlying27 rfl Xp) Xq ?_
 refine Xd rfl rfl (Xb Xm) Xq ?_
 refine Xd rfl rfl (Xt rfl rfl Tryz.underlying27 inf83.size X6 X6) Xq ?_
 refine Xd rfl rfl (Xk rfl Tryz.underlying83 rfl Xp) Xq ?_
 obtain ⟨A9, c9, S9, hsl9, hS9, hop9⟩ := hw.takes (i := 4) (by omega)
 refine Xd rfl rfl (hop9 _ _ _ _ _ _ _ _ _ _ _ _ _ hown.le (by first | rfl | assumption) Tryz.underlying83 inf96.size (by first | rfl | assumption)) (fun b hb => Nat.lt_of_lt_of_le (hS9 b hb).1 hown.le.1) ?_
 refine Xd rfl rfl (Xt rfl rfl Tryz.underlying27 inf83.size X6 X6) Xq ?_
 first | refine Ym rfl rfl (Y3 rfl rfl rfl inf83.size Yd Yg rfl ?_)
 refine ⟨Yk, ?_⟩
 refine Xu ?_
 refine Xa (Xb Xm) ?_
 refine Xa (Yn rfl rfl Y0) ?_
 refine Xa (Xi rfl) ?_
 have hst := hown.store (i := i) (cs0 := cs) (st := 1) hgb hixc (off := 0 + (i : Int).toNat * 1) (x := p.few.nodes[i].take 4) ⟨_, rfl, hsl9⟩ (by show 0 + (i : Int).toNat * 1 = i * 1; simp)
 rw [setR_one (by simp; omega), cutTo_set p.few.nodes hix] at hst
 exact ⟨p.few.nodes.length - (i + 1), by omega, i + 1, G, by omega, rfl, hle, hst, kb0, kb1, hgs, hsl, e1, e2, rfl⟩
 intro hc2
 have h4 : ¬ 4 < p.few.nodes[i].length := by have := of_decide_eq_false hc2; omega
 refine X9 ?_
 refine Xu ?_
 refine Xa (Xb Xm) ?_
 refine Xa (Yn rfl rfl Y0) ?_
 refine Xa (Xi rfl) ?_
 exact ⟨p.few.nodes.length - (i + 1), by omega, i + 1, G, by omega, rfl, hle, by rw [← cutTo_skip p.few.nodes hix (by omega)]; exact hown, kb0, kb1, hgs, hsl, e1, e2, rfl⟩
 intro hc1
 (try simp only [Yt] at hc1)
 refine Yx ?_
 refine Xe ?_
 refine Xu ?_
 refine Xa (Yl (cs := [.slice _ _ _, .slice _ _ _]) Xm Tryz.underlying29 Xm inf29.size X8) ?_
 refine Xw (Yf (vs := [.slice _ _ _, .slice _ _ _]) Xm Xm inf29.size Yd Yg Xm Xm ?_)
 refine X2 ?_
 have hfull : cutTo p.few.nodes i = p.few4.nodes := by
  rw [show i = p.few.nodes.length by omega]
  unfold cutTo; rw [List.take_length, List.drop_length, List.append_nil]; rfl
 rw [hfull] at hown
 refine ⟨.agg #[.slice B p.few.nodes.length c, .slice A3 p.few.links.length c3], Xx (Yq Xm (Yo (cs := [.slice B p.few.nodes.length c, .slice A3 p.few.links.length c3]) Tryz.underlying29 rfl inf29.size X8)), Hp.le_put_new (Hp.le_trans hle hown.le) (by omega) _, _, rfl, _, _, rfl, ?_, ?_⟩
 ·exact hown.sl.mono (Hp.sees_box _ hh1)
 ·exact hsl.mono (hown.le.sees.trans (Hp.sees_box _ hh1))
theorem Zr {α β : Type} {i : Nat} {xs : List α} (g : α → β) (h : i ≤ xs.length) (h8 : i ≤ 8) (hx : ¬ (i : Int) < xs.length ∨ ¬ (i : Int) < 8) : (xs.take 8).map g = (xs.take i).map g := by
 rcases Nat.lt_or_ge i xs.length with h1 | h1
 ·rw [show i = 8 by omega]
 ·rw [List.take_of_length_le (by omega), List.take_of_length_le (by omega)]
set_option maxHeartbeats 2000000 in
theorem Few_forest (f : Forest) (cs : List Value) (H : Hp) (hp : kForest.rep H f cs) (hl0 : f.vars.length ≤ 9223372036854775807) (hl1 : f.order.length ≤ 9223372036854775807) (hl2 : f.parent.length ≤ 9223372036854775807) (hl3 : f.links.length ≤ 9223372036854775807) (hl4 : f.loops.length ≤ 9223372036854775807) (hnlinks : ∀ l ∈ f.links, l.length ≤ 9223372036854775807) (hnloops : ∀ l ∈ f.loops, l.length ≤ 9223372036854775807) :
  ACalls Tryz.prog 45 #[.agg cs.toArray] H (fun r H' => H.le H' ∧ ∃ ds, r = .agg ds.toArray ∧ kForest.rep H' f.few ds) := by
 obtain ⟨v0, v1, v2, v3, v4, rfl, hs0, hs1, hs2, hs3, hs4⟩ := hp
 obtain ⟨A0, c0, rfl⟩ := hs0.shape
 obtain ⟨A1, c1, rfl⟩ := hs1.shape
 obtain ⟨A2, c2, rfl⟩ := hs2.shape
 obtain ⟨A3, c3, rfl⟩ := hs3.shape
 obtain ⟨A4, c4, rfl⟩ := hs4.shape
 refine Xv Tryz.func45 rfl rfl rfl (by simp) ?_
 refine Xe ?_
 refine Xu ?_
 refine Xz (Yw rfl) ?_
 refine Xz (Yz (l := [.slice none 0 0, .slice none 0 0, .slice none 0 0, .slice none 0 0, .slice none 0 0]) inf26.zero rfl (by decide)) ?_
 refine Xe ?_
 refine Yy (by kernel_rfl) (Y4 (B := [0, 1, 3, 0, 8, 31, 63, 0, 255]) (π := [0, 1, 3, 4, 7, 2, 5, 6, 8]) (by kernel_rfl)) ?_
 refine Xd rfl rfl (Xf (off := 1) rfl Tryz.underlying26 rfl inf23.size (by decide) rfl) Xq ?_
 refine Xd rfl rfl (Xk rfl Tryz.underlying23 rfl Xp) Xq ?_
 refine Xd rfl rfl (Xf (off := 2) rfl Tryz.underlying26 rfl inf23.size (by decide) rfl) Xq ?_
 refine Xd rfl rfl (Xk rfl Tryz.underlying23 rfl Xp) Xq ?_
 refine Zb rfl rfl (Yz (l := [.slice none 0 0, .slice none 0 0, .slice none 0 0, .slice none 0 0, .slice none 0 0]) inf26.zero rfl (by decide)) ?_
 refine Ym rfl rfl (Xy (Few_ints f.order _ 8 _ (hs1.mono (Hp.le_push' (Hp.le_push' (H.le_push _) _) _).sees) hl1 (by omega) (by omega)) rfl Tryz.func25 rfl rfl rfl ?_)
 rintro w1 H1 ⟨hle1, hr1⟩; rw [show (8 : Int).toNat = 8 from rfl] at hr1; obtain ⟨O, co, rfl⟩ := hr1.shape; have js := hle1.1; simp only [Hp.push_size] at js; have j0 : H1.get H.size = .own 0 [.slice A0 f.vars.length c0, .slice A1 f.order.length c1, .slice A2 f.parent.length c2, .slice A3 f.links.length c3, .slice A4 f.loops.length c4] := Xr hle1 (by simp only [Hp.push_size]; omega) (by intro e; cases e) Yd; have j1 : H1.get (H.size + 1) = .own 0 [.slice none 0 0, .slice none 0 0, .slice none 0 0, .slice none 0 0, .slice none 0 0] := Xr hle1 (by simp only [Hp.push_size]; omega) (by intro e; cases e) Yd; have j2 : H1.get (H.size + 2) = .own 0 [.slice none 0 0, .slice none 0 0, .slice none 0 0, .slice none 0 0, .slice none 0 0] := Xr hle1 (by simp only [Hp.push_size]; omega) (by intro e; cases e) Yd
 refine ⟨Yk, ?_⟩
 refine Ym rfl rfl (Xy (Few_ints f.parent _ 8 _ (hs2.mono ((Hp.le_push' (Hp.le_push' (H.le_push _) _) _).sees.trans hle1.sees)) hl2 (by omega) (by omega)) rfl Tryz.func25 rfl rfl rfl ?_)
 rintro w2 H2 ⟨hle2, hr2⟩; rw [show (8 : Int).toNat = 8 from rfl] at hr2; obtain ⟨Q, cq, rfl⟩ := hr2.shape; have ks := hle2.1; have k0 := Xr hle2 (by omega) (by intro e; cases e) j0; have k1 := Xr hle2 (by omega) (by intro e; cases e) j1; have k2 := Xr hle2 (by omega) (by intro e; cases e) j2
 refine ⟨Yk, ?_⟩
 refine Xd rfl rfl (Y6 (pl := [(0, 1), (1, 1), (2, 1), (3, 1), (4, 1)]) (r := [.slice _ _ _, .slice _ _ _, .slice _ _ _, .slice _ _ _, .slice _ _ _]) Tryz.underlying26 inf26.zero (by decide) rfl rfl) Xq ?_
 refine Ym rfl rfl (Yf (vs := [.slice _ _ _, .slice _ _ _, .slice _ _ _, .slice _ _ _, .slice _ _ _]) rfl rfl inf26.size Yd Yg rfl rfl ?_)
 refine ⟨Yk, ?_⟩
 refine Xe ?_
 refine Xe ?_
 have hle02 := Hp.le_trans hle1 hle2
 have hs02 := hle02.1
 simp only [Hp.push_size] at hs02
 have hleH2 : H.le H2 := Hp.le_trans (Hp.le_push' (Hp.le_push' (H.le_push _) _) _) hle02
 obtain ⟨b3, hb3⟩ : ∃ b3, b3 = H.size + 2 := ⟨_, rfl⟩
 have h3s : H.size + 1 < b3 := by omega
 refine Xu ?_
 refine Xa (Xi rfl) ?_
 refine Ye ?_
 refine Y5 (fun n t H' => ∃ (i : Nat) (G : Hp) (B : Option Addr) (c5 : Nat), i ≤ f.vars.length ∧ i ≤ 8 ∧ n = f.vars.length - i ∧ H.le G ∧ OwnP kStr G H' (.slice B i c5) ((f.vars.take i).map (fun s => cutS s 32)) ∧ G.get H.size = .own 0 [.slice A0 f.vars.length c0, .slice A1 f.order.length c1, .slice A2 f.parent.length c2, .slice A3 f.links.length c3, .slice A4 f.loops.length c4] ∧ G.get (H.size + 1) = .own 0 [.slice none 0 0, .slice none 0 0, .slice none 0 0, .slice none 0 0, .slice none 0 0] ∧ G.get b3 = .own 0 [.slice B i c5, .slice O (f.order.take 8).length co, .slice Q (f.parent.take 8).length cq, .slice none 0 0, .slice none 0 0] ∧ b3 < G.size ∧ Sl (Y1 .i64) G (.slice O (f.order.take 8).length co) (f.order.take 8) ∧ Sl (Y1 .i64) G (.slice Q (f.parent.take 8).length cq) (f.parent.take 8) ∧ t 1 = .pointer (some ⟨H.size, 0, none⟩) ∧ t 2 = .pointer (some ⟨H.size + 1, 0, none⟩) ∧ t 3 = .pointer (some ⟨b3, 0, none⟩) ∧ t 4 = .int .i64 i) (f.vars.length) (⟨0, H2.put b3 (.own 0 [.slice none 0 0, .slice O (f.order.take 8).length co, .slice Q (f.parent.take 8).length cq, .slice none 0 0, .slice none 0 0]), _, _, by omega, by omega, rfl, Hp.le_put_new hleH2 (by omega) _, by rw [hb3]; exact OwnP.nil _ _, by rw [Hp.put_other _ _ (by omega)]; exact k0, by rw [Hp.put_other _ _ (by omega)]; exact k1, Hp.put_same _ _ _, by simp; omega, (hr1.mono hle2.sees).mono (Hp.sees_box _ (by rw [hb3]; exact k2)), hr2.mono (Hp.sees_box _ (by rw [hb3]; exact k2)), rfl, rfl, by rw [hb3]; rfl, rfl⟩) ?_
 rintro n t H1 ⟨i, G, B, c5, hi, hi8, rfl, hle, hown, kb0, kb1, kb2, hgs, so, sp, e1, e2, e3, e4⟩
 have hz := hown.size
 have hleH1 := Hp.le_trans hle hown.le
 have hh0 := Xr hown.le (by omega) (by intro e; cases e) kb0
 have hh1 := Xr hown.le (by omega) (by intro e; cases e) kb1
 have hh2 := Xr hown.le hgs (by intro e; cases e) kb2
 have hlen : ((f.vars.take i).map (fun s => cutS s 32)).length = i := by rw [List.length_map, List.length_take]; omega
 refine Xe ?_
 refine Xe ?_
 refine Xu ?_
 refine Xa (Xb Xm) ?_
 refine Xa (Xf (off := 0) Xm Tryz.underlying26 Xm inf22.size (by decide) Xm) ?_
 refine Xa (Xk rfl Tryz.underlying22 rfl Xp) ?_
 refine Xa (Ys rfl Tryz.underlying22) ?_
 refine Xa (Za rfl rfl) ?_
 refine Xa (Xo rfl) ?_
 refine Ya rfl rfl rfl ?_ ?_
 intro hg1
 have hp1 := hg1; try simp only [Yt] at hp1
 refine Xj (Xh rfl rfl rfl hg1) (Xb Xm) ?_
 refine Xj (Xh rfl rfl rfl hg1) (Za rfl rfl) ?_
 refine Xa (Xl (Yv hg1) rfl) ?_
 refine X5 rfl rfl ?_ ?_
 intro hc2
 (try simp only [Yt] at hc2)
 refine X9 ?_
 refine Xe ?_
 refine Ye ?_
 have hix : i < f.vars.length := by omega
 obtain ⟨b, o, rfl, _, hb4, hcut, hx4⟩ := hs0.place (by omega)
 obtain ⟨cs, hr0, hcell0⟩ := hx4 i _ (List.getElem?_eq_getElem hix)
 have hcs : cs = [.string f.vars[i]] := hr0
 subst hcs
 have hcell1 := (hleH1.cells hb4 hcell0).one
 have hdd := Blk.cut_ne hcut
 have hS4 : ∀ x ∈ [b], x < H.size ∧ H.get x ≠ .dead := fun x hx => by simp at hx; subst hx; exact ⟨hb4, hdd⟩
 have hbH : b < H1.size := by omega
 refine Yy (by kernel_rfl) (Y4 (B := [0, 1, 0, 4, 0, 28, 60, 124, 252, 511, 1023, 2047]) (π := [0, 1, 2, 3, 4, 5, 6, 7, 8, 9, 10, 11]) (by kernel_rfl)) ?_
 refine Xd rfl rfl (Xf (off := 0) Xm Tryz.underlying26 Xm inf22.size (by decide) Xm) Xq ?_
 refine Xd rfl rfl (Xk rfl Tryz.underlying22 rfl Xp) Xq ?_
 refine Xd rfl rfl (Xf (off := 0) Xm Tryz.underlying26 Xm inf22.size (by decide) Xm) Xq ?_
 refine Xd rfl rfl (Xk rfl Tryz.underlying22 rfl Xp) Xq ?_
 refine Xd rfl rfl (Xb Xm) Xq ?_
 refine Xd rfl rfl (Xt rfl rfl Tryz.underlying22 inf9.size X6 X6) Xq ?_
 refine Xd rfl rfl (Xk rfl Tryz.underlying9 rfl Xp) Xq ?_
 refine Ym rfl rfl (Xy (Cut_str f.vars[i] 32 _) rfl Tryz.func38 rfl rfl rfl ?_)
 rintro v5 H1 ⟨rfl, rfl⟩
 refine ⟨Yk, ?_⟩
 first | refine Zb rfl rfl (Yh (r := [.string _]) Tryz.underlying22 inf9.size inf9.zero rfl (by decide) (by decide) (by decide) rfl) ?_
 have hX := trivial
 have hown5 := hown
 have hle5 := Hp.le_refl G
 have hle5' := Hp.le_refl H1
 have hg52 := Xr hle5 hgs (by intro e; cases e) kb2
 have hg50 := Xr hle5 (by omega) (by intro e; cases e) kb0
 have hg51 := Xr hle5 (by omega) (by intro e; cases e) kb1
 have hgs5 : b3 < G.size := Nat.lt_of_lt_of_le hgs hle5.1
 refine Ym rfl rfl (OwnP.append (ys := [cutS f.vars[i] 32]) (hown5.push _) Tryz.underlying22 inf9 rfl rfl rfl (Zo (k := kStr) rfl rfl hown5.size rfl) (by rw [hlen]; simp only [List.length_singleton]; omega) (by rw [hlen]; simp only [List.length_singleton]; omega) ?_)
 rintro v6 G6 H6 hle6 hown6
 have hsame := OwnP.sameS (hown5.push _) hle6 hown6 (H0 := H) (Hp.le_push' (Hp.le_trans hle hle5) _) hS4
 have hsameO := OwnP.sameO (hown5.push _) hle6 hown6
 have hs6 := hle6.1
 simp only [Hp.push_size] at hs6
 have hg62 := Xr hle6 (by simp; omega) (by intro e; cases e) ((Hp.push_old _ _ hgs5).trans hg52)
 have hg60 := Xr hle6 (by simp; omega) (by intro e; cases e) ((Hp.push_old _ _ (by omega)).trans hg50)
 have hg61 := Xr hle6 (by simp; omega) (by intro e; cases e) ((Hp.push_old _ _ (by omega)).trans hg51)
 have hg62H := Xr hown6.le (by omega) (by intro e; cases e) hg62
 obtain ⟨B', c', e6⟩ := hown6.shape
 rw [List.length_append, hlen, List.length_singleton] at e6
 subst e6
 refine ⟨Yk, ?_⟩
 refine Xd rfl rfl (Xf (off := 0) Xm Tryz.underlying26 Xm inf22.size (by decide) Xm) Xq ?_
 first | refine Ym rfl rfl (Y3 rfl rfl rfl inf22.size Yd Yg rfl ?_)
 refine ⟨Yk, ?_⟩
 refine Xu ?_
 refine Xa (Xb Xm) ?_
 refine Xa (Yn rfl rfl Y0) ?_
 refine Xa (Xi rfl) ?_
 rw [show ((f.vars.take i).map (fun s => cutS s 32)) ++ [cutS f.vars[i] 32] = ((f.vars.take (i + 1)).map (fun s => cutS s 32)) by rw [← Y9 hix, List.map_append]; rfl] at hown6
 have hleHG6 := Hp.le_trans (Hp.le_push' (Hp.le_trans hle hle5) _) hle6
 have hse := ((hle5.sees.push _).trans hle6.sees).trans (Hp.sees_box (cs' := [.slice B' (i + 1) c', .slice O (f.order.take 8).length co, .slice Q (f.parent.take 8).length cq, .slice none 0 0, .slice none 0 0]) _ hg62)
 exact ⟨f.vars.length - (i + 1), by omega, i + 1, G6.put b3 (.own 0 [.slice B' (i + 1) c', .slice O (f.order.take 8).length co, .slice Q (f.parent.take 8).length cq, .slice none 0 0, .slice none 0 0]), B', c', by omega, by omega, rfl, Hp.le_put_new hleHG6 (by omega) _, hown6.box_put hg62 _, by rw [Hp.put_other _ _ (by omega)]; exact hg60, by rw [Hp.put_other _ _ (by omega)]; exact hg61, Hp.put_same _ _ _, by simp; omega, so.mono hse, sp.mono hse, e1, e2, e3, rfl⟩
 intro hc2
 (try simp only [Yt] at hc2)
 refine Yx ?_
 refine Xe ?_
 refine Xe ?_
 have hfv : f.few.vars = (f.vars.take i).map (fun s => cutS s 32) := Zr _ hi hi8 (by first | exact .inl (by omega) | exact .inr (by omega))
 have sv := hown.sl
 rw [← hfv] at sv
 have so := so.mono hown.le.sees
 have sp := sp.mono hown.le.sees
 generalize hB2 : B = BV at sv hh2
 generalize hc2 : c5 = cV at sv hh2
 generalize hn2 : i = nV at sv hh2
 refine Xu ?_
 refine Xa (Xi rfl) ?_
 refine Ye ?_
 refine Y5 (fun n t H' => ∃ (i : Nat) (G : Hp) (B : Option Addr) (c5 : Nat), i ≤ f.links.length ∧ i ≤ 8 ∧ n = f.links.length - i ∧ H.le G ∧ OwnP (V1 (Y1 .i64)) G H' (.slice B i c5) ((f.links.take i).map (fun l => l.take 4)) ∧ G.get H.size = .own 0 [.slice A0 f.vars.length c0, .slice A1 f.order.length c1, .slice A2 f.parent.length c2, .slice A3 f.links.length c3, .slice A4 f.loops.length c4] ∧ G.get (H.size + 1) = .own 0 [.slice none 0 0, .slice none 0 0, .slice none 0 0, .slice none 0 0, .slice none 0 0] ∧ G.get b3 = .own 0 [.slice BV nV cV, .slice O (f.order.take 8).length co, .slice Q (f.parent.take 8).length cq, .slice B i c5, .slice none 0 0] ∧ b3 < G.size ∧ Sl (Y1 .i64) G (.slice O (f.order.take 8).length co) (f.order.take 8) ∧ Sl (Y1 .i64) G (.slice Q (f.parent.take 8).length cq) (f.parent.take 8) ∧ Sl kStr G (.slice BV nV cV) f.few.vars ∧ t 1 = .pointer (some ⟨H.size, 0, none⟩) ∧ t 2 = .pointer (some ⟨H.size + 1, 0, none⟩) ∧ t 3 = .pointer (some ⟨b3, 0, none⟩) ∧ t 5 = .int .i64 i) (f.links.length) (⟨0, H1, _, _, by omega, by omega, rfl, hleH1, OwnP.nil _ _, hh0, hh1, hh2, by omega, so, sp, sv, e1, e2, e3, rfl⟩) ?_
 rintro n t H1 ⟨i, G, B, c5, hi, hi8, rfl, hle, hown, kb0, kb1, kb2, hgs, so, sp, sv, e1, e2, e3, e4⟩
 have hz := hown.size
 have hleH1 := Hp.le_trans hle hown.le
 have hh0 := Xr hown.le (by omega) (by intro e; cases e) kb0
 have hh1 := Xr hown.le (by omega) (by intro e; cases e) kb1
 have hh2 := Xr hown.le hgs (by intro e; cases e) kb2
 have hlen : ((f.links.take i).map (fun l => l.take 4)).length = i := by rw [List.length_map, List.length_take]; omega
 refine Xe ?_
 refine Xe ?_
 refine Xu ?_
 refine Xa (Xb Xm) ?_
 refine Xa (Xf (off := 3) Xm Tryz.underlying26 Xm inf24.size (by decide) Xm) ?_
 refine Xa (Xk rfl Tryz.underlying24 rfl Xp) ?_
 refine Xa (Ys rfl Tryz.underlying24) ?_
 refine Xa (Za rfl rfl) ?_
 refine Xa (Xo rfl) ?_
 refine Ya rfl rfl rfl ?_ ?_
 intro hg3
 have hp3 := hg3; try simp only [Yt] at hp3
 refine Xj (Xh rfl rfl rfl hg3) (Xb Xm) ?_
 refine Xj (Xh rfl rfl rfl hg3) (Za rfl rfl) ?_
 refine Xa (Xl (Yv hg3) rfl) ?_
 refine X5 rfl rfl ?_ ?_
 intro hc4
 (try simp only [Yt] at hc4)
 refine X9 ?_
 refine Xe ?_
 refine Ye ?_
 have hix : i < f.links.length := by omega
 obtain ⟨b, o, rfl, _, hb4, hcut, hx4⟩ := hs3.place (by omega)
 obtain ⟨cs, hr0, hcell0⟩ := hx4 i _ (List.getElem?_eq_getElem hix)
 obtain ⟨u, rfl, hu⟩ := hr0
 obtain ⟨A6, c6, rfl⟩ := hu.shape
 have hcell1 := (hleH1.cells hb4 hcell0).one
 have hdd := Blk.cut_ne hcut
 have hS4 : ∀ x ∈ [b], x < H.size ∧ H.get x ≠ .dead := fun x hx => by simp at hx; subst hx; exact ⟨hb4, hdd⟩
 have hbH : b < H1.size := by omega
 refine Yy (by kernel_rfl) (Y4 (B := [0, 1, 0, 4, 0, 28, 60, 124, 252, 511, 1023, 2047]) (π := [0, 1, 2, 3, 4, 5, 6, 7, 8, 9, 10, 11]) (by kernel_rfl)) ?_
 refine Xd rfl rfl (Xf (off := 3) Xm Tryz.underlying26 Xm inf24.size (by decide) Xm) Xq ?_
 refine Xd rfl rfl (Xk rfl Tryz.underlying24 rfl Xp) Xq ?_
 refine Xd rfl rfl (Xf (off := 3) Xm Tryz.underlying26 Xm inf24.size (by decide) Xm) Xq ?_
 refine Xd rfl rfl (Xk rfl Tryz.underlying24 rfl Xp) Xq ?_
 refine Xd rfl rfl (Xb Xm) Xq ?_
 refine Xd rfl rfl (Xt rfl rfl Tryz.underlying24 inf23.size X6 X6) Xq ?_
 refine Xd rfl rfl (Xk rfl Tryz.underlying23 rfl Xp) Xq ?_
 refine Ym rfl rfl (Xy (hown.calls (Few_ints f.links[i] _ 4 _ (hu.mono hle.sees) (hnlinks _ (List.getElem_mem hix)) (by omega) (by omega)) (fun r G' h => h.1)) rfl Tryz.func25 rfl rfl rfl ?_)
 rintro v5 H5 ⟨G5, ⟨hle5, hs5⟩, hown5, hleH5⟩; rw [show (4 : Int).toNat = 4 from rfl] at hs5; have hz5 := hleH5.1; have hsame : ∀ x ∈ [b], H5.get x = H1.get x := (fun x hx => hleH5.2 x (by simp at hx; omega) (by rw [hleH1.2 x (hS4 x hx).1 (hS4 x hx).2]; exact (hS4 x hx).2)); obtain ⟨A5, c50, rfl⟩ := hs5.shape
 refine ⟨Yk, ?_⟩
 refine Zb rfl rfl (Yh (r := [.slice _ _ _]) Tryz.underlying24 inf23.size inf23.zero rfl (by decide) (by decide) (by decide) rfl) ?_
 have hX := trivial
 have hg52 := Xr hle5 hgs (by intro e; cases e) kb2
 have hg50 := Xr hle5 (by omega) (by intro e; cases e) kb0
 have hg51 := Xr hle5 (by omega) (by intro e; cases e) kb1
 have hgs5 : b3 < G5.size := Nat.lt_of_lt_of_le hgs hle5.1
 refine Ym rfl rfl (OwnP.append (ys := [f.links[i].take 4]) (hown5.push _) Tryz.underlying24 inf23 rfl rfl rfl (Zo (k := (V1 (Y1 .i64))) ⟨_, rfl, hs5⟩ rfl hown5.size rfl) (by rw [hlen]; simp only [List.length_singleton]; omega) (by rw [hlen]; simp only [List.length_singleton]; omega) ?_)
 rintro v6 G6 H6 hle6 hown6
 have hsame := OwnP.sameS (hown5.push _) hle6 hown6 (H0 := H) (Hp.le_push' (Hp.le_trans hle hle5) _) hS4
 have hsameO := OwnP.sameO (hown5.push _) hle6 hown6
 have hs6 := hle6.1
 simp only [Hp.push_size] at hs6
 have hg62 := Xr hle6 (by simp; omega) (by intro e; cases e) ((Hp.push_old _ _ hgs5).trans hg52)
 have hg60 := Xr hle6 (by simp; omega) (by intro e; cases e) ((Hp.push_old _ _ (by omega)).trans hg50)
 have hg61 := Xr hle6 (by simp; omega) (by intro e; cases e) ((Hp.push_old _ _ (by omega)).trans hg51)
 have hg62H := Xr hown6.le (by omega) (by intro e; cases e) hg62
 obtain ⟨B', c', e6⟩ := hown6.shape
 rw [List.length_append, hlen, List.length_singleton] at e6
 subst e6
 refine ⟨Yk, ?_⟩
 refine Xd rfl rfl (Xf (off := 3) Xm Tryz.underlying26 Xm inf24.size (by decide) Xm) Xq ?_
 first | refine Ym rfl rfl (Y3 rfl rfl rfl inf24.size Yd Yg rfl ?_)
 refine ⟨Yk, ?_⟩
 refine Xu ?_
 refine Xa (Xb Xm) ?_
 refine Xa (Yn rfl rfl Y0) ?_
 refine Xa (Xi rfl) ?_
 rw [show ((f.links.take i).map (fun l => l.take 4)) ++ [f.links[i].take 4] = ((f.links.take (i + 1)).map (fun l => l.take 4)) by rw [← Y9 hix, List.map_append]; rfl] at hown6
 have hleHG6 := Hp.le_trans (Hp.le_push' (Hp.le_trans hle hle5) _) hle6
 have hse := ((hle5.sees.push _).trans hle6.sees).trans (Hp.sees_box (cs' := [.slice BV nV cV, .slice O (f.order.take 8).length co, .slice Q (f.parent.take 8).length cq, .slice B' (i + 1) c', .slice none 0 0]) _ hg62)
 exact ⟨f.links.length - (i + 1), by omega, i + 1, G6.put b3 (.own 0 [.slice BV nV cV, .slice O (f.order.take 8).length co, .slice Q (f.parent.take 8).length cq, .slice B' (i + 1) c', .slice none 0 0]), B', c', by omega, by omega, rfl, Hp.le_put_new hleHG6 (by omega) _, hown6.box_put hg62 _, by rw [Hp.put_other _ _ (by omega)]; exact hg60, by rw [Hp.put_other _ _ (by omega)]; exact hg61, Hp.put_same _ _ _, by simp; omega, so.mono hse, sp.mono hse, sv.mono hse, e1, e2, e3, rfl⟩
 intro hc4
 (try simp only [Yt] at hc4)
 refine Yx ?_
 refine Xe ?_
 refine Xe ?_
 have hfl : f.few.links = (f.links.take i).map (fun l => l.take 4) := Zr _ hi hi8 (by first | exact .inl (by omega) | exact .inr (by omega))
 have sl := hown.sl
 rw [← hfl] at sl
 have so := so.mono hown.le.sees
 have sp := sp.mono hown.le.sees
 have sv := sv.mono hown.le.sees
 generalize hB3 : B = BL at sl hh2
 generalize hc3 : c5 = cL at sl hh2
 generalize hn3 : i = nL at sl hh2
 refine Xu ?_
 refine Xa (Xi rfl) ?_
 refine Ye ?_
 refine Y5 (fun n t H' => ∃ (i : Nat) (G : Hp) (B : Option Addr) (c5 : Nat), i ≤ f.loops.length ∧ i ≤ 8 ∧ n = f.loops.length - i ∧ H.le G ∧ OwnP (V1 (Y1 .i64)) G H' (.slice B i c5) ((f.loops.take i).map (fun l => l.take 4)) ∧ G.get H.size = .own 0 [.slice A0 f.vars.length c0, .slice A1 f.order.length c1, .slice A2 f.parent.length c2, .slice A3 f.links.length c3, .slice A4 f.loops.length c4] ∧ G.get (H.size + 1) = .own 0 [.slice none 0 0, .slice none 0 0, .slice none 0 0, .slice none 0 0, .slice none 0 0] ∧ G.get b3 = .own 0 [.slice BV nV cV, .slice O (f.order.take 8).length co, .slice Q (f.parent.take 8).length cq, .slice BL nL cL, .slice B i c5] ∧ b3 < G.size ∧ Sl (Y1 .i64) G (.slice O (f.order.take 8).length co) (f.order.take 8) ∧ Sl (Y1 .i64) G (.slice Q (f.parent.take 8).length cq) (f.parent.take 8) ∧ Sl kStr G (.slice BV nV cV) f.few.vars ∧ Sl (V1 (Y1 .i64)) G (.slice BL nL cL) f.few.links ∧ t 1 = .pointer (some ⟨H.size, 0, none⟩) ∧ t 2 = .pointer (some ⟨H.size + 1, 0, none⟩) ∧ t 3 = .pointer (some ⟨b3, 0, none⟩) ∧ t 6 = .int .i64 i) (f.loops.length) (⟨0, H1, _, _, by omega, by omega, rfl, hleH1, OwnP.nil _ _, hh0, hh1, hh2, by omega, so, sp, sv, sl, e1, e2, e3, rfl⟩) ?_
 rintro n t H1 ⟨i, G, B, c5, hi, hi8, rfl, hle, hown, kb0, kb1, kb2, hgs, so, sp, sv, sl, e1, e2, e3, e4⟩
 have hz := hown.size
 have hleH1 := Hp.le_trans hle hown.le
 have hh0 := Xr hown.le (by omega) (by intro e; cases e) kb0
 have hh1 := Xr hown.le (by omega) (by intro e; cases e) kb1
 have hh2 := Xr hown.le hgs (by intro e; cases e) kb2
 have hlen : ((f.loops.take i).map (fun l => l.take 4)).length = i := by rw [List.length_map, List.length_take]; omega
 refine Xe ?_
 refine Xe ?_
 refine Xu ?_
 refine Xa (Xb Xm) ?_
 refine Xa (Xf (off := 4) Xm Tryz.underlying26 Xm inf24.size (by decide) Xm) ?_
 refine Xa (Xk rfl Tryz.underlying24 rfl Xp) ?_
 refine Xa (Ys rfl Tryz.underlying24) ?_
 refine Xa (Za rfl rfl) ?_
 refine Xa (Xo rfl) ?_
 refine Ya rfl rfl rfl ?_ ?_
 intro hg5
 have hp5 := hg5; try simp only [Yt] at hp5
 refine Xj (Xh rfl rfl rfl hg5) (Xb Xm) ?_
 refine Xj (Xh rfl rfl rfl hg5) (Za rfl rfl) ?_
 refine Xa (Xl (Yv hg5) rfl) ?_
 refine X5 rfl rfl ?_ ?_
 intro hc6
 (try simp only [Yt] at hc6)
 refine X9 ?_
 refine Xe ?_
 refine Ye ?_
 have hix : i < f.loops.length := by omega
 obtain ⟨b, o, rfl, _, hb4, hcut, hx4⟩ := hs4.place (by omega)
 obtain ⟨cs, hr0, hcell0⟩ := hx4 i _ (List.getElem?_eq_getElem hix)
 obtain ⟨u, rfl, hu⟩ := hr0
 obtain ⟨A6, c6, rfl⟩ := hu.shape
 have hcell1 := (hleH1.cells hb4 hcell0).one
 have hdd := Blk.cut_ne hcut
 have hS4 : ∀ x ∈ [b], x < H.size ∧ H.get x ≠ .dead := fun x hx => by simp at hx; subst hx; exact ⟨hb4, hdd⟩
 have hbH : b < H1.size := by omega
 refine Yy (by kernel_rfl) (Y4 (B := [0, 1, 0, 4, 0, 28, 60, 124, 252, 511, 1023, 2047]) (π := [0, 1, 2, 3, 4, 5, 6, 7, 8, 9, 10, 11]) (by kernel_rfl)) ?_
 refine Xd rfl rfl (Xf (off := 4) Xm Tryz.underlying26 Xm inf24.size (by decide) Xm) Xq ?_
 refine Xd rfl rfl (Xk rfl Tryz.underlying24 rfl Xp) Xq ?_
 refine Xd rfl rfl (Xf (off := 4) Xm Tryz.underlying26 Xm inf24.size (by decide) Xm) Xq ?_
 refine Xd rfl rfl (Xk rfl Tryz.underlying24 rfl Xp) Xq ?_
 refine Xd rfl rfl (Xb Xm) Xq ?_
 refine Xd rfl rfl (Xt rfl rfl Tryz.underlying24 inf23.size X6 X6) Xq ?_
 refine Xd rfl rfl (Xk rfl Tryz.underlying23 rfl Xp) Xq ?_
 refine Ym rfl rfl (Xy (hown.calls (Few_ints f.loops[i] _ 4 _ (hu.mono hle.sees) (hnloops _ (List.getElem_mem hix)) (by omega) (by omega)) (fun r G' h => h.1)) rfl Tryz.func25 rfl rfl rfl ?_)
 rintro v5 H5 ⟨G5, ⟨hle5, hs5⟩, hown5, hleH5⟩; rw [show (4 : Int).toNat = 4 from rfl] at hs5; have hz5 := hleH5.1; have hsame : ∀ x ∈ [b], H5.get x = H1.get x := (fun x hx => hleH5.2 x (by simp at hx; omega) (by rw [hleH1.2 x (hS4 x hx).1 (hS4 x hx).2]; exact (hS4 x hx).2)); obtain ⟨A5, c50, rfl⟩ := hs5.shape
 refine ⟨Yk, ?_⟩
 refine Zb rfl rfl (Yh (r := [.slice _ _ _]) Tryz.underlying24 inf23.size inf23.zero rfl (by decide) (by decide) (by decide) rfl) ?_
 have hX := trivial
 have hg52 := Xr hle5 hgs (by intro e; cases e) kb2
 have hg50 := Xr hle5 (by omega) (by intro e; cases e) kb0
 have hg51 := Xr hle5 (by omega) (by intro e; cases e) kb1
 have hgs5 : b3 < G5.size := Nat.lt_of_lt_of_le hgs hle5.1
 refine Ym rfl rfl (OwnP.append (ys := [f.loops[i].take 4]) (hown5.push _) Tryz.underlying24 inf23 rfl rfl rfl (Zo (k := (V1 (Y1 .i64))) ⟨_, rfl, hs5⟩ rfl hown5.size rfl) (by rw [hlen]; simp only [List.length_singleton]; omega) (by rw [hlen]; simp only [List.length_singleton]; omega) ?_)
 rintro v6 G6 H6 hle6 hown6
 have hsame := OwnP.sameS (hown5.push _) hle6 hown6 (H0 := H) (Hp.le_push' (Hp.le_trans hle hle5) _) hS4
 have hsameO := OwnP.sameO (hown5.push _) hle6 hown6
 have hs6 := hle6.1
 simp only [Hp.push_size] at hs6
 have hg62 := Xr hle6 (by simp; omega) (by intro e; cases e) ((Hp.push_old _ _ hgs5).trans hg52)
 have hg60 := Xr hle6 (by simp; omega) (by intro e; cases e) ((Hp.push_old _ _ (by omega)).trans hg50)
 have hg61 := Xr hle6 (by simp; omega) (by intro e; cases e) ((Hp.push_old _ _ (by omega)).trans hg51)
 have hg62H := Xr hown6.le (by omega) (by intro e; cases e) hg62
 obtain ⟨B', c', e6⟩ := hown6.shape
 rw [List.length_append, hlen, List.length_singleton] at e6
 subst e6
 refine ⟨Yk, ?_⟩
 refine Xd rfl rfl (Xf (off := 4) Xm Tryz.underlying26 Xm inf24.size (by decide) Xm) Xq ?_
 first | refine Ym rfl rfl (Y3 rfl rfl rfl inf24.size Yd Yg rfl ?_)
 refine ⟨Yk, ?_⟩
 refine Xu ?_
 refine Xa (Xb Xm) ?_
 refine Xa (Yn rfl rfl Y0) ?_
 refine Xa (Xi rfl) ?_
 rw [show ((f.loops.take i).map (fun l => l.take 4)) ++ [f.loops[i].take 4] = ((f.loops.take (i + 1)).map (fun l => l.take 4)) by rw [← Y9 hix, List.map_append]; rfl] at hown6
 have hleHG6 := Hp.le_trans (Hp.le_push' (Hp.le_trans hle hle5) _) hle6
 have hse := ((hle5.sees.push _).trans hle6.sees).trans (Hp.sees_box (cs' := [.slice BV nV cV, .slice O (f.order.take 8).length co, .slice Q (f.parent.take 8).length cq, .slice BL nL cL, .slice B' (i + 1) c']) _ hg62)
 exact ⟨f.loops.length - (i + 1), by omega, i + 1, G6.put b3 (.own 0 [.slice BV nV cV, .slice O (f.order.take 8).length co, .slice Q (f.parent.take 8).length cq, .slice BL nL cL, .slice B' (i + 1) c']), B', c', by omega, by omega, rfl, Hp.le_put_new hleHG6 (by omega) _, hown6.box_put hg62 _, by rw [Hp.put_other _ _ (by omega)]; exact hg60, by rw [Hp.put_other _ _ (by omega)]; exact hg61, Hp.put_same _ _ _, by simp; omega, so.mono hse, sp.mono hse, sv.mono hse, sl.mono hse, e1, e2, e3, rfl⟩
 intro hc6
 (try simp only [Yt] at hc6)
 refine Yx ?_
 refine Xe ?_
 refine Xu ?_
 refine Xa (Yl (cs := [.slice _ _ _, .slice _ _ _, .slice _ _ _, .slice _ _ _, .slice _ _ _]) Xm Tryz.underlying26 Xm inf26.size X8) ?_
 refine Xw (Yf (vs := [.slice _ _ _, .slice _ _ _, .slice _ _ _, .slice _ _ _, .slice _ _ _]) Xm Xm inf26.size Yd Yg Xm Xm ?_)
 refine X2 ?_
 have hfo : f.few.loops = (f.loops.take i).map (fun l => l.take 4) := Zr _ hi hi8 (by first | exact .inl (by omega) | exact .inr (by omega))
 have so5 := hown.sl
 rw [← hfo] at so5
 have hse := hown.le.sees
 have hbx : H1.sees (H1.put (H.size + 1) (.own 0 [.slice BV nV cV, .slice O (f.order.take 8).length co, .slice Q (f.parent.take 8).length cq, .slice BL nL cL, .slice B i c5])) := Hp.sees_box _ hh1
 exact ⟨.agg #[.slice BV nV cV, .slice O (f.order.take 8).length co, .slice Q (f.parent.take 8).length cq, .slice BL nL cL, .slice B i c5], Xx (Yq Xm (Yo (cs := [.slice BV nV cV, .slice O (f.order.take 8).length co, .slice Q (f.parent.take 8).length cq, .slice BL nL cL, .slice B i c5]) Tryz.underlying26 rfl inf26.size X8)), Hp.le_put_new hleH1 (by omega) _, [.slice BV nV cV, .slice O (f.order.take 8).length co, .slice Q (f.parent.take 8).length cq, .slice BL nL cL, .slice B i c5], rfl, _, _, _, _, _, rfl, (sv.mono hse).mono hbx, (so.mono hse).mono hbx, (sp.mono hse).mono hbx, (sl.mono hse).mono hbx, so5.mono hbx⟩
 intro hg5
 have hp5 := hg5; try simp only [Yt] at hp5
 refine Xc (Xg rfl rfl rfl hg5 rfl) ?_
 refine Xc (Xg rfl rfl rfl hg5 rfl) ?_
 refine Xa (Xl (Yv hg5) Xm) ?_
 refine Y2 rfl rfl ?_
 refine Yx ?_
 refine Xe ?_
 refine Xu ?_
 refine Xa (Yl (cs := [.slice _ _ _, .slice _ _ _, .slice _ _ _, .slice _ _ _, .slice _ _ _]) Xm Tryz.underlying26 Xm inf26.size X8) ?_
 refine Xw (Yf (vs := [.slice _ _ _, .slice _ _ _, .slice _ _ _, .slice _ _ _, .slice _ _ _]) Xm Xm inf26.size Yd Yg Xm Xm ?_)
 refine X2 ?_
 have hfo : f.few.loops = (f.loops.take i).map (fun l => l.take 4) := Zr _ hi hi8 (by first | exact .inl (by omega) | exact .inr (by omega))
 have so5 := hown.sl
 rw [← hfo] at so5
 have hse := hown.le.sees
 have hbx : H1.sees (H1.put (H.size + 1) (.own 0 [.slice BV nV cV, .slice O (f.order.take 8).length co, .slice Q (f.parent.take 8).length cq, .slice BL nL cL, .slice B i c5])) := Hp.sees_box _ hh1
 exact ⟨.agg #[.slice BV nV cV, .slice O (f.order.take 8).length co, .slice Q (f.parent.take 8).length cq, .slice BL nL cL, .slice B i c5], Xx (Yq Xm (Yo (cs := [.slice BV nV cV, .slice O (f.order.take 8).length co, .slice Q (f.parent.take 8).length cq, .slice BL nL cL, .slice B i c5]) Tryz.underlying26 rfl inf26.size X8)), Hp.le_put_new hleH1 (by omega) _, [.slice BV nV cV, .slice O (f.order.take 8).length co, .slice Q (f.parent.take 8).length cq, .slice BL nL cL, .slice B i c5], rfl, _, _, _, _, _, rfl, (sv.mono hse).mono hbx, (so.mono hse).mono hbx, (sp.mono hse).mono hbx, (sl.mono hse).mono hbx, so5.mono hbx⟩
 intro hg3
 have hp3 := hg3; try simp only [Yt] at hp3
 refine Xc (Xg rfl rfl rfl hg3 rfl) ?_
 refine Xc (Xg rfl rfl rfl hg3 rfl) ?_
 refine Xa (Xl (Yv hg3) Xm) ?_
 refine Y2 rfl rfl ?_
 refine Yx ?_
 refine Xe ?_
 refine Xe ?_
 have hfl : f.few.links = (f.links.take i).map (fun l => l.take 4) := Zr _ hi hi8 (by first | exact .inl (by omega) | exact .inr (by omega))
 have sl := hown.sl
 rw [← hfl] at sl
 have so := so.mono hown.le.sees
 have sp := sp.mono hown.le.sees
 have sv := sv.mono hown.le.sees
 generalize hB3 : B = BL at sl hh2
 generalize hc3 : c5 = cL at sl hh2
 generalize hn3 : i = nL at sl hh2
 refine Xu ?_
 refine Xa (Xi rfl) ?_
 refine Ye ?_
 refine Y5 (fun n t H' => ∃ (i : Nat) (G : Hp) (B : Option Addr) (c5 : Nat), i ≤ f.loops.length ∧ i ≤ 8 ∧ n = f.loops.length - i ∧ H.le G ∧ OwnP (V1 (Y1 .i64)) G H' (.slice B i c5) ((f.loops.take i).map (fun l => l.take 4)) ∧ G.get H.size = .own 0 [.slice A0 f.vars.length c0, .slice A1 f.order.length c1, .slice A2 f.parent.length c2, .slice A3 f.links.length c3, .slice A4 f.loops.length c4] ∧ G.get (H.size + 1) = .own 0 [.slice none 0 0, .slice none 0 0, .slice none 0 0, .slice none 0 0, .slice none 0 0] ∧ G.get b3 = .own 0 [.slice BV nV cV, .slice O (f.order.take 8).length co, .slice Q (f.parent.take 8).length cq, .slice BL nL cL, .slice B i c5] ∧ b3 < G.size ∧ Sl (Y1 .i64) G (.slice O (f.order.take 8).length co) (f.order.take 8) ∧ Sl (Y1 .i64) G (.slice Q (f.parent.take 8).length cq) (f.parent.take 8) ∧ Sl kStr G (.slice BV nV cV) f.few.vars ∧ Sl (V1 (Y1 .i64)) G (.slice BL nL cL) f.few.links ∧ t 1 = .pointer (some ⟨H.size, 0, none⟩) ∧ t 2 = .pointer (some ⟨H.size + 1, 0, none⟩) ∧ t 3 = .pointer (some ⟨b3, 0, none⟩) ∧ t 6 = .int .i64 i) (f.loops.length) (⟨0, H1, _, _, by omega, by omega, rfl, hleH1, OwnP.nil _ _, hh0, hh1, hh2, by omega, so, sp, sv, sl, e1, e2, e3, rfl⟩) ?_
 rintro n t H1 ⟨i, G, B, c5, hi, hi8, rfl, hle, hown, kb0, kb1, kb2, hgs, so, sp, sv, sl, e1, e2, e3, e4⟩
 have hz := hown.size
 have hleH1 := Hp.le_trans hle hown.le
 have hh0 := Xr hown.le (by omega) (by intro e; cases e) kb0
 have hh1 := Xr hown.le (by omega) (by intro e; cases e) kb1
 have hh2 := Xr hown.le hgs (by intro e; cases e) kb2
 have hlen : ((f.loops.take i).map (fun l => l.take 4)).length = i := by rw [List.length_map, List.length_take]; omega
 refine Xe ?_
 refine Xe ?_
 refine Xu ?_
 refine Xa (Xb Xm) ?_
 refine Xa (Xf (off := 4) Xm Tryz.underlying26 Xm inf24.size (by decide) Xm) ?_
 refine Xa (Xk rfl Tryz.underlying24 rfl Xp) ?_
 refine Xa (Ys rfl Tryz.underlying24) ?_
 refine Xa (Za rfl rfl) ?_
 refine Xa (Xo rfl) ?_
 refine Ya rfl rfl rfl ?_ ?_
 intro hg9
 have hp9 := hg9; try simp only [Yt] at hp9
 refine Xj (Xh rfl rfl rfl hg9) (Xb Xm) ?_
 refine Xj (Xh rfl rfl rfl hg9) (Za rfl rfl) ?_
 refine Xa (Xl (Yv hg9) rfl) ?_
 refine X5 rfl rfl ?_ ?_
 intro hc10
 (try simp only [Yt] at hc10)
 refine X9 ?_
 refine Xe ?_
 refine Ye ?_
 have hix : i < f.loops.length := by omega
 obtain ⟨b, o, rfl, _, hb4, hcut, hx4⟩ := hs4.place (by omega)
 obtain ⟨cs, hr0, hcell0⟩ := hx4 i _ (List.getElem?_eq_getElem hix)
 obtain ⟨u, rfl, hu⟩ := hr0
 obtain ⟨A6, c6, rfl⟩ := hu.shape
 have hcell1 := (hleH1.cells hb4 hcell0).one
 have hdd := Blk.cut_ne hcut
 have hS4 : ∀ x ∈ [b], x < H.size ∧ H.get x ≠ .dead := fun x hx => by simp at hx; subst hx; exact ⟨hb4, hdd⟩
 have hbH : b < H1.size := by omega
 refine Yy (by kernel_rfl) (Y4 (B := [0, 1, 0, 4, 0, 28, 60, 124, 252, 511, 1023, 2047]) (π := [0, 1, 2, 3, 4, 5, 6, 7, 8, 9, 10, 11]) (by kernel_rfl)) ?_
 refine Xd rfl rfl (Xf (off := 4) Xm Tryz.underlying26 Xm inf24.size (by decide) Xm) Xq ?_
 refine Xd rfl rfl (Xk rfl Tryz.underlying24 rfl Xp) Xq ?_
 refine Xd rfl rfl (Xf (off := 4) Xm Tryz.underlying26 Xm inf24.size (by decide) Xm) Xq ?_
 refine Xd rfl rfl (Xk rfl Tryz.underlying24 rfl Xp) Xq ?_
 refine Xd rfl rfl (Xb Xm) Xq ?_
 refine Xd rfl rfl (Xt rfl rfl Tryz.underlying24 inf23.size X6 X6) Xq ?_
 refine Xd rfl rfl (Xk rfl Tryz.underlying23 rfl Xp) Xq ?_
 refine Ym rfl rfl (Xy (hown.calls (Few_ints f.loops[i] _ 4 _ (hu.mono hle.sees) (hnloops _ (List.getElem_mem hix)) (by omega) (by omega)) (fun r G' h => h.1)) rfl Tryz.func25 rfl rfl rfl ?_)
 rintro v5 H5 ⟨G5, ⟨hle5, hs5⟩, hown5, hleH5⟩; rw [show (4 : Int).toNat = 4 from rfl] at hs5; have hz5 := hleH5.1; have hsame : ∀ x ∈ [b], H5.get x = H1.get x := (fun x hx => hleH5.2 x (by simp at hx; omega) (by rw [hleH1.2 x (hS4 x hx).1 (hS4 x hx).2]; exact (hS4 x hx).2)); obtain ⟨A5, c50, rfl⟩ := hs5.shape
 refine ⟨Yk, ?_⟩
 refine Zb rfl rfl (Yh (r := [.slice _ _ _]) Tryz.underlying24 inf23.size inf23.zero rfl (by decide) (by decide) (by decide) rfl) ?_
 have hX := trivial
 have hg52 := Xr hle5 hgs (by intro e; cases e) kb2
 have hg50 := Xr hle5 (by omega) (by intro e; cases e) kb0
 have hg51 := Xr hle5 (by omega) (by intro e; cases e) kb1
 have hgs5 : b3 < G5.size := Nat.lt_of_lt_of_le hgs hle5.1
 refine Ym rfl rfl (OwnP.append (ys := [f.loops[i].take 4]) (hown5.push _) Tryz.underlying24 inf23 rfl rfl rfl (Zo (k := (V1 (Y1 .i64))) ⟨_, rfl, hs5⟩ rfl hown5.size rfl) (by rw [hlen]; simp only [List.length_singleton]; omega) (by rw [hlen]; simp only [List.length_singleton]; omega) ?_)
 rintro v6 G6 H6 hle6 hown6
 have hsame := OwnP.sameS (hown5.push _) hle6 hown6 (H0 := H) (Hp.le_push' (Hp.le_trans hle hle5) _) hS4
 have hsameO := OwnP.sameO (hown5.push _) hle6 hown6
 have hs6 := hle6.1
 simp only [Hp.push_size] at hs6
 have hg62 := Xr hle6 (by simp; omega) (by intro e; cases e) ((Hp.push_old _ _ hgs5).trans hg52)
 have hg60 := Xr hle6 (by simp; omega) (by intro e; cases e) ((Hp.push_old _ _ (by omega)).trans hg50)
 have hg61 := Xr hle6 (by simp; omega) (by intro e; cases e) ((Hp.push_old _ _ (by omega)).trans hg51)
 have hg62H := Xr hown6.le (by omega) (by intro e; cases e) hg62
 obtain ⟨B', c', e6⟩ := hown6.shape
 rw [List.length_append, hlen, List.length_singleton] at e6
 subst e6
 refine ⟨Yk, ?_⟩
 refine Xd rfl rfl (Xf (off := 4) Xm Tryz.underlying26 Xm inf24.size (by decide) Xm) Xq ?_
 first | refine Ym rfl rfl (Y3 rfl rfl rfl inf24.size Yd Yg rfl ?_)
 refine ⟨Yk, ?_⟩
 refine Xu ?_
 refine Xa (Xb Xm) ?_
 refine Xa (Yn rfl rfl Y0) ?_
 refine Xa (Xi rfl) ?_
 rw [show ((f.loops.take i).map (fun l => l.take 4)) ++ [f.loops[i].take 4] = ((f.loops.take (i + 1)).map (fun l => l.take 4)) by rw [← Y9 hix, List.map_append]; rfl] at hown6
 have hleHG6 := Hp.le_trans (Hp.le_push' (Hp.le_trans hle hle5) _) hle6
 have hse := ((hle5.sees.push _).trans hle6.sees).trans (Hp.sees_box (cs' := [.slice BV nV cV, .slice O (f.order.take 8).length co, .slice Q (f.parent.take 8).length cq, .slice BL nL cL, .slice B' (i + 1) c']) _ hg62)
 exact ⟨f.loops.length - (i + 1), by omega, i + 1, G6.put b3 (.own 0 [.slice BV nV cV, .slice O (f.order.take 8).length co, .slice Q (f.parent.take 8).length cq, .slice BL nL cL, .slice B' (i + 1) c']), B', c', by omega, by omega, rfl, Hp.le_put_new hleHG6 (by omega) _, hown6.box_put hg62 _, by rw [Hp.put_other _ _ (by omega)]; exact hg60, by rw [Hp.put_other _ _ (by omega)]; exact hg61, Hp.put_same _ _ _, by simp; omega, so.mono hse, sp.mono hse, sv.mono hse, sl.mono hse, e1, e2, e3, rfl⟩
 intro hc10
 (try simp only [Yt] at hc10)
 refine Yx ?_
 refine Xe ?_
 refine Xu ?_
 refine Xa (Yl (cs := [.slice _ _ _, .slice _ _ _, .slice _ _ _, .slice _ _ _, .slice _ _ _]) Xm Tryz.underlying26 Xm inf26.size X8) ?_
 refine Xw (Yf (vs := [.slice _ _ _, .slice _ _ _, .slice _ _ _, .slice _ _ _, .slice _ _ _]) Xm Xm inf26.size Yd Yg Xm Xm ?_)
 refine X2 ?_
 have hfo : f.few.loops = (f.loops.take i).map (fun l => l.take 4) := Zr _ hi hi8 (by first | exact .inl (by omega) | exact .inr (by omega))
 have so5 := hown.sl
 rw [← hfo] at so5
 have hse := hown.le.sees
 have hbx : H1.sees (H1.put (H.size + 1) (.own 0 [.slice BV nV cV, .slice O (f.order.take 8).length co, .slice Q (f.parent.take 8).length cq, .slice BL nL cL, .slice B i c5])) := Hp.sees_box _ hh1
 exact ⟨.agg #[.slice BV nV cV, .slice O (f.order.take 8).length co, .slice Q (f.parent.take 8).length cq, .slice BL nL cL, .slice B i c5], Xx (Yq Xm (Yo (cs := [.slice BV nV cV, .slice O (f.order.take 8).length co, .slice Q (f.parent.take 8).length cq, .slice BL nL cL, .slice B i c5]) Tryz.underlying26 rfl inf26.size X8)), Hp.le_put_new hleH1 (by omega) _, [.slice BV nV cV, .slice O (f.order.take 8).length co, .slice Q (f.parent.take 8).length cq, .slice BL nL cL, .slice B i c5], rfl, _, _, _, _, _, rfl, (sv.mono hse).mono hbx, (so.mono hse).mono hbx, (sp.mono hse).mono hbx, (sl.mono hse).mono hbx, so5.mono hbx⟩
 intro hg9
 have hp9 := hg9; try simp only [Yt] at hp9
 refine Xc (Xg rfl rfl rfl hg9 rfl) ?_
 refine Xc (Xg rfl rfl rfl hg9 rfl) ?_
 refine Xa (Xl (Yv hg9) Xm) ?_
 refine Y2 rfl rfl ?_
 refine Yx ?_
 refine Xe ?_
 refine Xu ?_
 refine Xa (Yl (cs := [.slice _ _ _, .slice _ _ _, .slice _ _ _, .slice _ _ _, .slice _ _ _]) Xm Tryz.underlying26 Xm inf26.size X8) ?_
 refine Xw (Yf (vs := [.slice _ _ _, .slice _ _ _, .slice _ _ _, .slice _ _ _, .slice _ _ _]) Xm Xm inf26.size Yd Yg Xm Xm ?_)
 refine X2 ?_
 have hfo : f.few.loops = (f.loops.take i).map (fun l => l.take 4) := Zr _ hi hi8 (by first | exact .inl (by omega) | exact .inr (by omega))
 have so5 := hown.sl
 rw [← hfo] at so5
 have hse := hown.le.sees
 have hbx : H1.sees (H1.put (H.size + 1) (.own 0 [.slice BV nV cV, .slice O (f.order.take 8).length co, .slice Q (f.parent.take 8).length cq, .slice BL nL cL, .slice B i c5])) := Hp.sees_box _ hh1
 exact ⟨.agg #[.slice BV nV cV, .slice O (f.order.take 8).length co, .slice Q (f.parent.take 8).length cq, .slice BL nL cL, .slice B i c5], Xx (Yq Xm (Yo (cs := [.slice BV nV cV, .slice O (f.order.take 8).length co, .slice Q (f.parent.take 8).length cq, .slice BL nL cL, .slice B i c5]) Tryz.underlying26 rfl inf26.size X8)), Hp.le_put_new hleH1 (by omega) _, [.slice BV nV cV, .slice O (f.order.take 8).length co, .slice Q (f.parent.take 8).length cq, .slice BL nL cL, .slice B i c5], rfl, _, _, _, _, _, rfl, (sv.mono hse).mono hbx, (so.mono hse).mono hbx, (sp.mono hse).mono hbx, (sl.mono hse).mono hbx, so5.mono hbx⟩
 intro hg1
 have hp1 := hg1; try simp only [Yt] at hp1
 refine Xc (Xg rfl rfl rfl hg1 rfl) ?_
 refine Xc (Xg rfl rfl rfl hg1 rfl) ?_
 refine Xa (Xl (Yv hg1) Xm) ?_
 refine Y2 rfl rfl ?_
 refine Yx ?_
 refine Xe ?_
 refine Xe ?_
 have hfv : f.few.vars = (f.vars.take i).map (fun s => cutS s 32) := Zr _ hi hi8 (by first | exact .inl (by omega) | exact .inr (by omega))
 have sv := hown.sl
 rw [← hfv] at sv
 have so := so.mono hown.le.sees
 have sp := sp.mono hown.le.sees
 generalize hB2 : B = BV at sv hh2
 generalize hc2 : c5 = cV at sv hh2
 generalize hn2 : i = nV at sv hh2
 refine Xu ?_
 refine Xa (Xi rfl) ?_
 refine Ye ?_
 refine Y5 (fun n t H' => ∃ (i : Nat) (G : Hp) (B : Option Addr) (c5 : Nat), i ≤ f.links.length ∧ i ≤ 8 ∧ n = f.links.length - i ∧ H.le G ∧ OwnP (V1 (Y1 .i64)) G H' (.slice B i c5) ((f.links.take i).map (fun l => l.take 4)) ∧ G.get H.size = .own 0 [.slice A0 f.vars.length c0, .slice A1 f.order.length c1, .slice A2 f.parent.length c2, .slice A3 f.links.length c3, .slice A4 f.loops.length c4] ∧ G.get (H.size + 1) = .own 0 [.slice none 0 0, .slice none 0 0, .slice none 0 0, .slice none 0 0, .slice none 0 0] ∧ G.get b3 = .own 0 [.slice BV nV cV, .slice O (f.order.take 8).length co, .slice Q (f.parent.take 8).length cq, .slice B i c5, .slice none 0 0] ∧ b3 < G.size ∧ Sl (Y1 .i64) G (.slice O (f.order.take 8).length co) (f.order.take 8) ∧ Sl (Y1 .i64) G (.slice Q (f.parent.take 8).length cq) (f.parent.take 8) ∧ Sl kStr G (.slice BV nV cV) f.few.vars ∧ t 1 = .pointer (some ⟨H.size, 0, none⟩) ∧ t 2 = .pointer (some ⟨H.size + 1, 0, none⟩) ∧ t 3 = .pointer (some ⟨b3, 0, none⟩) ∧ t 5 = .int .i64 i) (f.links.length) (⟨0, H1, _, _, by omega, by omega, rfl, hleH1, OwnP.nil _ _, hh0, hh1, hh2, by omega, so, sp, sv, e1, e2, e3, rfl⟩) ?_
 rintro n t H1 ⟨i, G, B, c5, hi, hi8, rfl, hle, hown, kb0, kb1, kb2, hgs, so, sp, sv, e1, e2, e3, e4⟩
 have hz := hown.size
 have hleH1 := Hp.le_trans hle hown.le
 have hh0 := Xr hown.le (by omega) (by intro e; cases e) kb0
 have hh1 := Xr hown.le (by omega) (by intro e; cases e) kb1
 have hh2 := Xr hown.le hgs (by intro e; cases e) kb2
 have hlen : ((f.links.take i).map (fun l => l.take 4)).length = i := by rw [List.length_map, List.length_take]; omega
 refine Xe ?_
 refine Xe ?_
 refine Xu ?_
 refine Xa (Xb Xm) ?_
 refine Xa (Xf (off := 3) Xm Tryz.underlying26 Xm inf24.size (by decide) Xm) ?_
 refine Xa (Xk rfl Tryz.underlying24 rfl Xp) ?_
 refine Xa (Ys rfl Tryz.underlying24) ?_
 refine Xa (Za rfl rfl) ?_
 refine Xa (Xo rfl) ?_
 refine Ya rfl rfl rfl ?_ ?_
 intro hg13
 have hp13 := hg13; try simp only [Yt] at hp13
 refine Xj (Xh rfl rfl rfl hg13) (Xb Xm) ?_
 refine Xj (Xh rfl rfl rfl hg13) (Za rfl rfl) ?_
 refine Xa (Xl (Yv hg13) rfl) ?_
 refine X5 rfl rfl ?_ ?_
 intro hc14
 (try simp only [Yt] at hc14)
 refine X9 ?_
 refine Xe ?_
 refine Ye ?_
 have hix : i < f.links.length := by omega
 obtain ⟨b, o, rfl, _, hb4, hcut, hx4⟩ := hs3.place (by omega)
 obtain ⟨cs, hr0, hcell0⟩ := hx4 i _ (List.getElem?_eq_getElem hix)
 obtain ⟨u, rfl, hu⟩ := hr0
 obtain ⟨A6, c6, rfl⟩ := hu.shape
 have hcell1 := (hleH1.cells hb4 hcell0).one
 have hdd := Blk.cut_ne hcut
 have hS4 : ∀ x ∈ [b], x < H.size ∧ H.get x ≠ .dead := fun x hx => by simp at hx; subst hx; exact ⟨hb4, hdd⟩
 have hbH : b < H1.size := by omega
 refine Yy (by kernel_rfl) (Y4 (B := [0, 1, 0, 4, 0, 28, 60, 124, 252, 511, 1023, 2047]) (π := [0, 1, 2, 3, 4, 5, 6, 7, 8, 9, 10, 11]) (by kernel_rfl)) ?_
 refine Xd rfl rfl (Xf (off := 3) Xm Tryz.underlying26 Xm inf24.size (by decide) Xm) Xq ?_
 refine Xd rfl rfl (Xk rfl Tryz.underlying24 rfl Xp) Xq ?_
 refine Xd rfl rfl (Xf (off := 3) Xm Tryz.underlying26 Xm inf24.size (by decide) Xm) Xq ?_
 refine Xd rfl rfl (Xk rfl Tryz.underlying24 rfl Xp) Xq ?_
 refine Xd rfl rfl (Xb Xm) Xq ?_
 refine Xd rfl rfl (Xt rfl rfl Tryz.underlying24 inf23.size X6 X6) Xq ?_
 refine Xd rfl rfl (Xk rfl Tryz.underlying23 rfl Xp) Xq ?_
 refine Ym rfl rfl (Xy (hown.calls (Few_ints f.links[i] _ 4 _ (hu.mono hle.sees) (hnlinks _ (List.getElem_mem hix)) (by omega) (by omega)) (fun r G' h => h.1)) rfl Tryz.func25 rfl rfl rfl ?_)
 rintro v5 H5 ⟨G5, ⟨hle5, hs5⟩, hown5, hleH5⟩; rw [show (4 : Int).toNat = 4 from rfl] at hs5; have hz5 := hleH5.1; have hsame : ∀ x ∈ [b], H5.get x = H1.get x := (fun x hx => hleH5.2 x (by simp at hx; omega) (by rw [hleH1.2 x (hS4 x hx).1 (hS4 x hx).2]; exact (hS4 x hx).2)); obtain ⟨A5, c50, rfl⟩ := hs5.shape
 refine ⟨Yk, ?_⟩
 refine Zb rfl rfl (Yh (r := [.slice _ _ _]) Tryz.underlying24 inf23.size inf23.zero rfl (by decide) (by decide) (by decide) rfl) ?_
 have hX := trivial
 have hg52 := Xr hle5 hgs (by intro e; cases e) kb2
 have hg50 := Xr hle5 (by omega) (by intro e; cases e) kb0
 have hg51 := Xr hle5 (by omega) (by intro e; cases e) kb1
 have hgs5 : b3 < G5.size := Nat.lt_of_lt_of_le hgs hle5.1
 refine Ym rfl rfl (OwnP.append (ys := [f.links[i].take 4]) (hown5.push _) Tryz.underlying24 inf23 rfl rfl rfl (Zo (k := (V1 (Y1 .i64))) ⟨_, rfl, hs5⟩ rfl hown5.size rfl) (by rw [hlen]; simp only [List.length_singleton]; omega) (by rw [hlen]; simp only [List.length_singleton]; omega) ?_)
 rintro v6 G6 H6 hle6 hown6
 have hsame := OwnP.sameS (hown5.push _) hle6 hown6 (H0 := H) (Hp.le_push' (Hp.le_trans hle hle5) _) hS4
 have hsameO := OwnP.sameO (hown5.push _) hle6 hown6
 have hs6 := hle6.1
 simp only [Hp.push_size] at hs6
 have hg62 := Xr hle6 (by simp; omega) (by intro e; cases e) ((Hp.push_old _ _ hgs5).trans hg52)
 have hg60 := Xr hle6 (by simp; omega) (by intro e; cases e) ((Hp.push_old _ _ (by omega)).trans hg50)
 have hg61 := Xr hle6 (by simp; omega) (by intro e; cases e) ((Hp.push_old _ _ (by omega)).trans hg51)
 have hg62H := Xr hown6.le (by omega) (by intro e; cases e) hg62
 obtain ⟨B', c', e6⟩ := hown6.shape
 rw [List.length_append, hlen, List.length_singleton] at e6
 subst e6
 refine ⟨Yk, ?_⟩
 refine Xd rfl rfl (Xf (off := 3) Xm Tryz.underlying26 Xm inf24.size (by decide) Xm) Xq ?_
 first | refine Ym rfl rfl (Y3 rfl rfl rfl inf24.size Yd Yg rfl ?_)
 refine ⟨Yk, ?_⟩
 refine Xu ?_
 refine Xa (Xb Xm) ?_
 refine Xa (Yn rfl rfl Y0) ?_
 refine Xa (Xi rfl) ?_
 rw [show ((f.links.take i).map (fun l => l.take 4)) ++ [f.links[i].take 4] = ((f.links.take (i + 1)).map (fun l => l.take 4)) by rw [← Y9 hix, List.map_append]; rfl] at hown6
 have hleHG6 := Hp.le_trans (Hp.le_push' (Hp.le_trans hle hle5) _) hle6
 have hse := ((hle5.sees.push _).trans hle6.sees).trans (Hp.sees_box (cs' := [.slice BV nV cV, .slice O (f.order.take 8).length co, .slice Q (f.parent.take 8).length cq, .slice B' (i + 1) c', .slice none 0 0]) _ hg62)
 exact ⟨f.links.length - (i + 1), by omega, i + 1, G6.put b3 (.own 0 [.slice BV nV cV, .slice O (f.order.take 8).length co, .slice Q (f.parent.take 8).length cq, .slice B' (i + 1) c', .slice none 0 0]), B', c', by omega, by omega, rfl, Hp.le_put_new hleHG6 (by omega) _, hown6.box_put hg62 _, by rw [Hp.put_other _ _ (by omega)]; exact hg60, by rw [Hp.put_other _ _ (by omega)]; exact hg61, Hp.put_same _ _ _, by simp; omega, so.mono hse, sp.mono hse, sv.mono hse, e1, e2, e3, rfl⟩
 intro hc14
 (try simp only [Yt] at hc14)
 refine Yx ?_
 refine Xe ?_
 refine Xe ?_
 have hfl : f.few.links = (f.links.take i).map (fun l => l.take 4) := Zr _ hi hi8 (by first | exact .inl (by omega) | exact .inr (by omega))
 have sl := hown.sl
 rw [← hfl] at sl
 have so := so.mono hown.le.sees
 have sp := sp.mono hown.le.sees
 have sv := sv.mono hown.le.sees
 generalize hB3 : B = BL at sl hh2
 generalize hc3 : c5 = cL at sl hh2
 generalize hn3 : i = nL at sl hh2
 refine Xu ?_
 refine Xa (Xi rfl) ?_
 refine Ye ?_
 refine Y5 (fun n t H' => ∃ (i : Nat) (G : Hp) (B : Option Addr) (c5 : Nat), i ≤ f.loops.length ∧ i ≤ 8 ∧ n = f.loops.length - i ∧ H.le G ∧ OwnP (V1 (Y1 .i64)) G H' (.slice B i c5) ((f.loops.take i).map (fun l => l.take 4)) ∧ G.get H.size = .own 0 [.slice A0 f.vars.length c0, .slice A1 f.order.length c1, .slice A2 f.parent.length c2, .slice A3 f.links.length c3, .slice A4 f.loops.length c4] ∧ G.get (H.size + 1) = .own 0 [.slice none 0 0, .slice none 0 0, .slice none 0 0, .slice none 0 0, .slice none 0 0] ∧ G.get b3 = .own 0 [.slice BV nV cV, .slice O (f.order.take 8).length co, .slice Q (f.parent.take 8).length cq, .slice BL nL cL, .slice B i c5] ∧ b3 < G.size ∧ Sl (Y1 .i64) G (.slice O (f.order.take 8).length co) (f.order.take 8) ∧ Sl (Y1 .i64) G (.slice Q (f.parent.take 8).length cq) (f.parent.take 8) ∧ Sl kStr G (.slice BV nV cV) f.few.vars ∧ Sl (V1 (Y1 .i64)) G (.slice BL nL cL) f.few.links ∧ t 1 = .pointer (some ⟨H.size, 0, none⟩) ∧ t 2 = .pointer (some ⟨H.size + 1, 0, none⟩) ∧ t 3 = .pointer (some ⟨b3, 0, none⟩) ∧ t 6 = .int .i64 i) (f.loops.length) (⟨0, H1, _, _, by omega, by omega, rfl, hleH1, OwnP.nil _ _, hh0, hh1, hh2, by omega, so, sp, sv, sl, e1, e2, e3, rfl⟩) ?_
 rintro n t H1 ⟨i, G, B, c5, hi, hi8, rfl, hle, hown, kb0, kb1, kb2, hgs, so, sp, sv, sl, e1, e2, e3, e4⟩
 have hz := hown.size
 have hleH1 := Hp.le_trans hle hown.le
 have hh0 := Xr hown.le (by omega) (by intro e; cases e) kb0
 have hh1 := Xr hown.le (by omega) (by intro e; cases e) kb1
 have hh2 := Xr hown.le hgs (by intro e; cases e) kb2
 have hlen : ((f.loops.take i).map (fun l => l.take 4)).length = i := by rw [List.length_map, List.length_take]; omega
 refine Xe ?_
 refine Xe ?_
 refine Xu ?_
 refine Xa (Xb Xm) ?_
 refine Xa (Xf (off := 4) Xm Tryz.underlying26 Xm inf24.size (by decide) Xm) ?_
 refine Xa (Xk rfl Tryz.underlying24 rfl Xp) ?_
 refine Xa (Ys rfl Tryz.underlying24) ?_
 refine Xa (Za rfl rfl) ?_
 refine Xa (Xo rfl) ?_
 refine Ya rfl rfl rfl ?_ ?_
 intro hg15
 have hp15 := hg15; try simp only [Yt] at hp15
 refine Xj (Xh rfl rfl rfl hg15) (Xb Xm) ?_
 refine Xj (Xh rfl rfl rfl hg15) (Za rfl rfl) ?_
 refine Xa (Xl (Yv hg15) rfl) ?_
 refine X5 rfl rfl ?_ ?_
 intro hc16
 (try simp only [Yt] at hc16)
 refine X9 ?_
 refine Xe ?_
 refine Ye ?_
 have hix : i < f.loops.length := by omega
 obtain ⟨b, o, rfl, _, hb4, hcut, hx4⟩ := hs4.place (by omega)
 obtain ⟨cs, hr0, hcell0⟩ := hx4 i _ (List.getElem?_eq_getElem hix)
 obtain ⟨u, rfl, hu⟩ := hr0
 obtain ⟨A6, c6, rfl⟩ := hu.shape
 have hcell1 := (hleH1.cells hb4 hcell0).one
 have hdd := Blk.cut_ne hcut
 have hS4 : ∀ x ∈ [b], x < H.size ∧ H.get x ≠ .dead := fun x hx => by simp at hx; subst hx; exact ⟨hb4, hdd⟩
 have hbH : b < H1.size := by omega
 refine Yy (by kernel_rfl) (Y4 (B := [0, 1, 0, 4, 0, 28, 60, 124, 252, 511, 1023, 2047]) (π := [0, 1, 2, 3, 4, 5, 6, 7, 8, 9, 10, 11]) (by kernel_rfl)) ?_
 refine Xd rfl rfl (Xf (off := 4) Xm Tryz.underlying26 Xm inf24.size (by decide) Xm) Xq ?_
 refine Xd rfl rfl (Xk rfl Tryz.underlying24 rfl Xp) Xq ?_
 refine Xd rfl rfl (Xf (off := 4) Xm Tryz.underlying26 Xm inf24.size (by decide) Xm) Xq ?_
 refine Xd rfl rfl (Xk rfl Tryz.underlying24 rfl Xp) Xq ?_
 refine Xd rfl rfl (Xb Xm) Xq ?_
 refine Xd rfl rfl (Xt rfl rfl Tryz.underlying24 inf23.size X6 X6) Xq ?_
 refine Xd rfl rfl (Xk rfl Tryz.underlying23 rfl Xp) Xq ?_
 refine Ym rfl rfl (Xy (hown.calls (Few_ints f.loops[i] _ 4 _ (hu.mono hle.sees) (hnloops _ (List.getElem_mem hix)) (by omega) (by omega)) (fun r G' h => h.1)) rfl Tryz.func25 rfl rfl rfl ?_)
 rintro v5 H5 ⟨G5, ⟨hle5, hs5⟩, hown5, hleH5⟩; rw [show (4 : Int).toNat = 4 from rfl] at hs5; have hz5 := hleH5.1; have hsame : ∀ x ∈ [b], H5.get x = H1.get x := (fun x hx => hleH5.2 x (by simp at hx; omega) (by rw [hleH1.2 x (hS4 x hx).1 (hS4 x hx).2]; exact (hS4 x hx).2)); obtain ⟨A5, c50, rfl⟩ := hs5.shape
 refine ⟨Yk, ?_⟩
 refine Zb rfl rfl (Yh (r := [.slice _ _ _]) Tryz.underlying24 inf23.size inf23.zero rfl (by decide) (by decide) (by decide) rfl) ?_
 have hX := trivial
 have hg52 := Xr hle5 hgs (by intro e; cases e) kb2
 have hg50 := Xr hle5 (by omega) (by intro e; cases e) kb0
 have hg51 := Xr hle5 (by omega) (by intro e; cases e) kb1
 have hgs5 : b3 < G5.size := Nat.lt_of_lt_of_le hgs hle5.1
 refine Ym rfl rfl (OwnP.append (ys := [f.loops[i].take 4]) (hown5.push _) Tryz.underlying24 inf23 rfl rfl rfl (Zo (k := (V1 (Y1 .i64))) ⟨_, rfl, hs5⟩ rfl hown5.size rfl) (by rw [hlen]; simp only [List.length_singleton]; omega) (by rw [hlen]; simp only [List.length_singleton]; omega) ?_)
 rintro v6 G6 H6 hle6 hown6
 have hsame := OwnP.sameS (hown5.push _) hle6 hown6 (H0 := H) (Hp.le_push' (Hp.le_trans hle hle5) _) hS4
 have hsameO := OwnP.sameO (hown5.push _) hle6 hown6
 have hs6 := hle6.1
 simp only [Hp.push_size] at hs6
 have hg62 := Xr hle6 (by simp; omega) (by intro e; cases e) ((Hp.push_old _ _ hgs5).trans hg52)
 have hg60 := Xr hle6 (by simp; omega) (by intro e; cases e) ((Hp.push_old _ _ (by omega)).trans hg50)
 have hg61 := Xr hle6 (by simp; omega) (by intro e; cases e) ((Hp.push_old _ _ (by omega)).trans hg51)
 have hg62H := Xr hown6.le (by omega) (by intro e; cases e) hg62
 obtain ⟨B', c', e6⟩ := hown6.shape
 rw [List.length_append, hlen, List.length_singleton] at e6
 subst e6
 refine ⟨Yk, ?_⟩
 refine Xd rfl rfl (Xf (off := 4) Xm Tryz.underlying26 Xm inf24.size (by decide) Xm) Xq ?_
 first | refine Ym rfl rfl (Y3 rfl rfl rfl inf24.size Yd Yg rfl ?_)
 refine ⟨Yk, ?_⟩
 refine Xu ?_
 refine Xa (Xb Xm) ?_
 refine Xa (Yn rfl rfl Y0) ?_
 refine Xa (Xi rfl) ?_
 rw [show ((f.loops.take i).map (fun l => l.take 4)) ++ [f.loops[i].take 4] = ((f.loops.take (i + 1)).map (fun l => l.take 4)) by rw [← Y9 hix, List.map_append]; rfl] at hown6
 have hleHG6 := Hp.le_trans (Hp.le_push' (Hp.le_trans hle hle5) _) hle6
 have hse := ((hle5.sees.push _).trans hle6.sees).trans (Hp.sees_box (cs' := [.slice BV nV cV, .slice O (f.order.take 8).length co, .slice Q (f.parent.take 8).length cq, .slice BL nL cL, .slice B' (i + 1) c']) _ hg62)
 exact ⟨f.loops.length - (i + 1), by omega, i + 1, G6.put b3 (.own 0 [.slice BV nV cV, .slice O (f.order.take 8).length co, .slice Q (f.parent.take 8).length cq, .slice BL nL cL, .slice B' (i + 1) c']), B', c', by omega, by omega, rfl, Hp.le_put_new hleHG6 (by omega) _, hown6.box_put hg62 _, by rw [Hp.put_other _ _ (by omega)]; exact hg60, by rw [Hp.put_other _ _ (by omega)]; exact hg61, Hp.put_same _ _ _, by simp; omega, so.mono hse, sp.mono hse, sv.mono hse, sl.mono hse, e1, e2, e3, rfl⟩
 intro hc16
 (try simp only [Yt] at hc16)
 refine Yx ?_
 refine Xe ?_
 refine Xu ?_
 refine Xa (Yl (cs := [.slice _ _ _, .slice _ _ _, .slice _ _ _, .slice _ _ _, .slice _ _ _]) Xm Tryz.underlying26 Xm inf26.size X8) ?_
 refine Xw (Yf (vs := [.slice _ _ _, .slice _ _ _, .slice _ _ _, .slice _ _ _, .slice _ _ _]) Xm Xm inf26.size Yd Yg Xm Xm ?_)
 refine X2 ?_
 have hfo : f.few.loops = (f.loops.take i).map (fun l => l.take 4) := Zr _ hi hi8 (by first | exact .inl (by omega) | exact .inr (by omega))
 have so5 := hown.sl
 rw [← hfo] at so5
 have hse := hown.le.sees
 have hbx : H1.sees (H1.put (H.size + 1) (.own 0 [.slice BV nV cV, .slice O (f.order.take 8).length co, .slice Q (f.parent.take 8).length cq, .slice BL nL cL, .slice B i c5])) := Hp.sees_box _ hh1
 exact ⟨.agg #[.slice BV nV cV, .slice O (f.order.take 8).length co, .slice Q (f.parent.take 8).length cq, .slice BL nL cL, .slice B i c5], Xx (Yq Xm (Yo (cs := [.slice BV nV cV, .slice O (f.order.take 8).length co, .slice Q (f.parent.take 8).length cq, .slice BL nL cL, .slice B i c5]) Tryz.underlying26 rfl inf26.size X8)), Hp.le_put_new hleH1 (by omega) _, [.slice BV nV cV, .slice O (f.order.take 8).length co, .slice Q (f.parent.take 8).length cq, .slice BL nL cL, .slice B i c5], rfl, _, _, _, _, _, rfl, (sv.mono hse).mono hbx, (so.mono hse).mono hbx, (sp.mono hse).mono hbx, (sl.mono hse).mono hbx, so5.mono hbx⟩
 intro hg15
 have hp15 := hg15; try simp only [Yt] at hp15
 refine Xc (Xg rfl rfl rfl hg15 rfl) ?_
 refine Xc (Xg rfl rfl rfl hg15 rfl) ?_
 refine Xa (Xl (Yv hg15) Xm) ?_
 refine Y2 rfl rfl ?_
 refine Yx ?_
 refine Xe ?_
 refine Xu ?_
 refine Xa (Yl (cs := [.slice _ _ _, .slice _ _ _, .slice _ _ _, .slice _ _ _, .slice _ _ _]) Xm Tryz.underlying26 Xm inf26.size X8) ?_
 refine Xw (Yf (vs := [.slice _ _ _, .slice _ _ _, .slice _ _ _, .slice _ _ _, .slice _ _ _]) Xm Xm inf26.size Yd Yg Xm Xm ?_)
 refine X2 ?_
 have hfo : f.few.loops = (f.loops.take i).map (fun l => l.take 4) := Zr _ hi hi8 (by first | exact .inl (by omega) | exact .inr (by omega))
 have so5 := hown.sl
 rw [← hfo] at so5
 have hse := hown.le.sees
 have hbx : H1.sees (H1.put (H.size + 1) (.own 0 [.slice BV nV cV, .slice O (f.order.take 8).length co, .slice Q (f.parent.take 8).length cq, .slice BL nL cL, .slice B i c5])) := Hp.sees_box _ hh1
 exact ⟨.agg #[.slice BV nV cV, .slice O (f.order.take 8).length co, .slice Q (f.parent.take 8).length cq, .slice BL nL cL, .slice B i c5], Xx (Yq Xm (Yo (cs := [.slice BV nV cV, .slice O (f.order.take 8).length co, .slice Q (f.parent.take 8).length cq, .slice BL nL cL, .slice B i c5]) Tryz.underlying26 rfl inf26.size X8)), Hp.le_put_new hleH1 (by omega) _, [.slice BV nV cV, .slice O (f.order.take 8).length co, .slice Q (f.parent.take 8).length cq, .slice BL nL cL, .slice B i c5], rfl, _, _, _, _, _, rfl, (sv.mono hse).mono hbx, (so.mono hse).mono hbx, (sp.mono hse).mono hbx, (sl.mono hse).mono hbx, so5.mono hbx⟩
 intro hg13
 have hp13 := hg13; try simp only [Yt] at hp13
 refine Xc (Xg rfl rfl rfl hg13 rfl) ?_
 refine Xc (Xg rfl rfl rfl hg13 rfl) ?_
 refine Xa (Xl (Yv hg13) Xm) ?_
 refine Y2 rfl rfl ?_
 refine Yx ?_
 refine Xe ?_
 refine Xe ?_
 have hfl : f.few.links = (f.links.take i).map (fun l => l.take 4) := Zr _ hi hi8 (by first | exact .inl (by omega) | exact .inr (by omega))
 have sl := hown.sl
 rw [← hfl] at sl
 have so := so.mono hown.le.sees
 have sp := sp.mono hown.le.sees
 have sv := sv.mono hown.le.sees
 generalize hB3 : B = BL at sl hh2
 generalize hc3 : c5 = cL at sl hh2
 generalize hn3 : i = nL at sl hh2
 refine Xu ?_
 refine Xa (Xi rfl) ?_
 refine Ye ?_
 refine Y5 (fun n t H' => ∃ (i : Nat) (G : Hp) (B : Option Addr) (c5 : Nat), i ≤ f.loops.length ∧ i ≤ 8 ∧ n = f.loops.length - i ∧ H.le G ∧ OwnP (V1 (Y1 .i64)) G H' (.slice B i c5) ((f.loops.take i).map (fun l => l.take 4)) ∧ G.get H.size = .own 0 [.slice A0 f.vars.length c0, .slice A1 f.order.length c1, .slice A2 f.parent.length c2, .slice A3 f.links.length c3, .slice A4 f.loops.length c4] ∧ G.get (H.size + 1) = .own 0 [.slice none 0 0, .slice none 0 0, .slice none 0 0, .slice none 0 0, .slice none 0 0] ∧ G.get b3 = .own 0 [.slice BV nV cV, .slice O (f.order.take 8).length co, .slice Q (f.parent.take 8).length cq, .slice BL nL cL, .slice B i c5] ∧ b3 < G.size ∧ Sl (Y1 .i64) G (.slice O (f.order.take 8).length co) (f.order.take 8) ∧ Sl (Y1 .i64) G (.slice Q (f.parent.take 8).length cq) (f.parent.take 8) ∧ Sl kStr G (.slice BV nV cV) f.few.vars ∧ Sl (V1 (Y1 .i64)) G (.slice BL nL cL) f.few.links ∧ t 1 = .pointer (some ⟨H.size, 0, none⟩) ∧ t 2 = .pointer (some ⟨H.size + 1, 0, none⟩) ∧ t 3 = .pointer (some ⟨b3, 0, none⟩) ∧ t 6 = .int .i64 i) (f.loops.length) (⟨0, H1, _, _, by omega, by omega, rfl, hleH1, OwnP.nil _ _, hh0, hh1, hh2, by omega, so, sp, sv, sl, e1, e2, e3, rfl⟩) ?_
 rintro n t H1 ⟨i, G, B, c5, hi, hi8, rfl, hle, hown, kb0, kb1, kb2, hgs, so, sp, sv, sl, e1, e2, e3, e4⟩
 have hz := hown.size
 have hleH1 := Hp.le_trans hle hown.le
 have hh0 := Xr hown.le (by omega) (by intro e; cases e) kb0
 have hh1 := Xr hown.le (by omega) (by intro e; cases e) kb1
 have hh2 := Xr hown.le hgs (by intro e; cases e) kb2
 have hlen : ((f.loops.take i).map (fun l => l.take 4)).length = i := by rw [List.length_map, List.length_take]; omega
 refine Xe ?_
 refine Xe ?_
 refine Xu ?_
 refine Xa (Xb Xm) ?_
 refine Xa (Xf (off := 4) Xm Tryz.underlying26 Xm inf24.size (by decide) Xm) ?_
 refine Xa (Xk rfl Tryz.underlying24 rfl Xp) ?_
 refine Xa (Ys rfl Tryz.underlying24) ?_
 refine Xa (Za rfl rfl) ?_
 refine Xa (Xo rfl) ?_
 refine Ya rfl rfl rfl ?_ ?_
 intro hg19
 have hp19 := hg19; try simp only [Yt] at hp19
 refine Xj (Xh rfl rfl rfl hg19) (Xb Xm) ?_
 refine Xj (Xh rfl rfl rfl hg19) (Za rfl rfl) ?_
 refine Xa (Xl (Yv hg19) rfl) ?_
 refine X5 rfl rfl ?_ ?_
 intro hc20
 (try simp only [Yt] at hc20)
 refine X9 ?_
 refine Xe ?_
 refine Ye ?_
 have hix : i < f.loops.length := by omega
 obtain ⟨b, o, rfl, _, hb4, hcut, hx4⟩ := hs4.place (by omega)
 obtain ⟨cs, hr0, hcell0⟩ := hx4 i _ (List.getElem?_eq_getElem hix)
 obtain ⟨u, rfl, hu⟩ := hr0
 obtain ⟨A6, c6, rfl⟩ := hu.shape
 have hcell1 := (hleH1.cells hb4 hcell0).one
 have hdd := Blk.cut_ne hcut
 have hS4 : ∀ x ∈ [b], x < H.size ∧ H.get x ≠ .dead := fun x hx => by simp at hx; subst hx; exact ⟨hb4, hdd⟩
 have hbH : b < H1.size := by omega
 refine Yy (by kernel_rfl) (Y4 (B := [0, 1, 0, 4, 0, 28, 60, 124, 252, 511, 1023, 2047]) (π := [0, 1, 2, 3, 4, 5, 6, 7, 8, 9, 10, 11]) (by kernel_rfl)) ?_
 refine Xd rfl rfl (Xf (off := 4) Xm Tryz.underlying26 Xm inf24.size (by decide) Xm) Xq ?_
 refine Xd rfl rfl (Xk rfl Tryz.underlying24 rfl Xp) Xq ?_
 refine Xd rfl rfl (Xf (off := 4) Xm Tryz.underlying26 Xm inf24.size (by decide) Xm) Xq ?_
 refine Xd rfl rfl (Xk rfl Tryz.underlying24 rfl Xp) Xq ?_
 refine Xd rfl rfl (Xb Xm) Xq ?_
 refine Xd rfl rfl (Xt rfl rfl Tryz.underlying24 inf23.size X6 X6) Xq ?_
 refine Xd rfl rfl (Xk rfl Tryz.underlying23 rfl Xp) Xq ?_
 refine Ym rfl rfl (Xy (hown.calls (Few_ints f.loops[i] _ 4 _ (hu.mono hle.sees) (hnloops _ (List.getElem_mem hix)) (by omega) (by omega)) (fun r G' h => h.1)) rfl Tryz.func25 rfl rfl rfl ?_)
 rintro v5 H5 ⟨G5, ⟨hle5, hs5⟩, hown5, hleH5⟩; rw [show (4 : Int).toNat = 4 from rfl] at hs5; have hz5 := hleH5.1; have hsame : ∀ x ∈ [b], H5.get x = H1.get x := (fun x hx => hleH5.2 x (by simp at hx; omega) (by rw [hleH1.2 x (hS4 x hx).1 (hS4 x hx).2]; exact (hS4 x hx).2)); obtain ⟨A5, c50, rfl⟩ := hs5.shape
 refine ⟨Yk, ?_⟩
 refine Zb rfl rfl (Yh (r := [.slice _ _ _]) Tryz.underlying24 inf23.size inf23.zero rfl (by decide) (by decide) (by decide) rfl) ?_
 have hX := trivial
 have hg52 := Xr hle5 hgs (by intro e; cases e) kb2
 have hg50 := Xr hle5 (by omega) (by intro e; cases e) kb0
 have hg51 := Xr hle5 (by omega) (by intro e; cases e) kb1
 have hgs5 : b3 < G5.size := Nat.lt_of_lt_of_le hgs hle5.1
 refine Ym rfl rfl (OwnP.append (ys := [f.loops[i].take 4]) (hown5.push _) Tryz.underlying24 inf23 rfl rfl rfl (Zo (k := (V1 (Y1 .i64))) ⟨_, rfl, hs5⟩ rfl hown5.size rfl) (by rw [hlen]; simp only [List.length_singleton]; omega) (by rw [hlen]; simp only [List.length_singleton]; omega) ?_)
 rintro v6 G6 H6 hle6 hown6
 have hsame := OwnP.sameS (hown5.push _) hle6 hown6 (H0 := H) (Hp.le_push' (Hp.le_trans hle hle5) _) hS4
 have hsameO := OwnP.sameO (hown5.push _) hle6 hown6
 have hs6 := hle6.1
 simp only [Hp.push_size] at hs6
 have hg62 := Xr hle6 (by simp; omega) (by intro e; cases e) ((Hp.push_old _ _ hgs5).trans hg52)
 have hg60 := Xr hle6 (by simp; omega) (by intro e; cases e) ((Hp.push_old _ _ (by omega)).trans hg50)
 have hg61 := Xr hle6 (by simp; omega) (by intro e; cases e) ((Hp.push_old _ _ (by omega)).trans hg51)
 have hg62H := Xr hown6.le (by omega) (by intro e; cases e) hg62
 obtain ⟨B', c', e6⟩ := hown6.shape
 rw [List.length_append, hlen, List.length_singleton] at e6
 subst e6
 refine ⟨Yk, ?_⟩
 refine Xd rfl rfl (Xf (off := 4) Xm Tryz.underlying26 Xm inf24.size (by decide) Xm) Xq ?_
 first | refine Ym rfl rfl (Y3 rfl rfl rfl inf24.size Yd Yg rfl ?_)
 refine ⟨Yk, ?_⟩
 refine Xu ?_
 refine Xa (Xb Xm) ?_
 refine Xa (Yn rfl rfl Y0) ?_
 refine Xa (Xi rfl) ?_
 rw [show ((f.loops.take i).map (fun l => l.take 4)) ++ [f.loops[i].take 4] = ((f.loops.take (i + 1)).map (fun l => l.take 4)) by rw [← Y9 hix, List.map_append]; rfl] at hown6
 have hleHG6 := Hp.le_trans (Hp.le_push' (Hp.le_trans hle hle5) _) hle6
 have hse := ((hle5.sees.push _).trans hle6.sees).trans (Hp.sees_box (cs' := [.slice BV nV cV, .slice O (f.order.take 8).length co, .slice Q (f.parent.take 8).length cq, .slice BL nL cL, .slice B' (i + 1) c']) _ hg62)
 exact ⟨f.loops.length - (i + 1), by omega, i + 1, G6.put b3 (.own 0 [.slice BV nV cV, .slice O (f.order.take 8).length co, .slice Q (f.parent.take 8).length cq, .slice BL nL cL, .slice B' (i + 1) c']), B', c', by omega, by omega, rfl, Hp.le_put_new hleHG6 (by omega) _, hown6.box_put hg62 _, by rw [Hp.put_other _ _ (by omega)]; exact hg60, by rw [Hp.put_other _ _ (by omega)]; exact hg61, Hp.put_same _ _ _, by simp; omega, so.mono hse, sp.mono hse, sv.mono hse, sl.mono hse, e1, e2, e3, rfl⟩
 intro hc20
 (try simp only [Yt] at hc20)
 refine Yx ?_
 refine Xe ?_
 refine Xu ?_
 refine Xa (Yl (cs := [.slice _ _ _, .slice _ _ _, .slice _ _ _, .slice _ _ _, .slice _ _ _]) Xm Tryz.underlying26 Xm inf26.size X8) ?_
 refine Xw (Yf (vs := [.slice _ _ _, .slice _ _ _, .slice _ _ _, .slice _ _ _, .slice _ _ _]) Xm Xm inf26.size Yd Yg Xm Xm ?_)
 refine X2 ?_
 have hfo : f.few.loops = (f.loops.take i).map (fun l => l.take 4) := Zr _ hi hi8 (by first | exact .inl (by omega) | exact .inr (by omega))
 have so5 := hown.sl
 rw [← hfo] at so5
 have hse := hown.le.sees
 have hbx : H1.sees (H1.put (H.size + 1) (.own 0 [.slice BV nV cV, .slice O (f.order.take 8).length co, .slice Q (f.parent.take 8).length cq, .slice BL nL cL, .slice B i c5])) := Hp.sees_box _ hh1
 exact ⟨.agg #[.slice BV nV cV, .slice O (f.order.take 8).length co, .slice Q (f.parent.take 8).length cq, .slice BL nL cL, .slice B i c5], Xx (Yq Xm (Yo (cs := [.slice BV nV cV, .slice O (f.order.take 8).length co, .slice Q (f.parent.take 8).length cq, .slice BL nL cL, .slice B i c5]) Tryz.underlying26 rfl inf26.size X8)), Hp.le_put_new hleH1 (by omega) _, [.slice BV nV cV, .slice O (f.order.take 8).length co, .slice Q (f.parent.take 8).length cq, .slice BL nL cL, .slice B i c5], rfl, _, _, _, _, _, rfl, (sv.mono hse).mono hbx, (so.mono hse).mono hbx, (sp.mono hse).mono hbx, (sl.mono hse).mono hbx, so5.mono hbx⟩
 intro hg19
 have hp19 := hg19; try simp only [Yt] at hp19
 refine Xc (Xg rfl rfl rfl hg19 rfl) ?_
 refine Xc (Xg rfl rfl rfl hg19 rfl) ?_
 refine Xa (Xl (Yv hg19) Xm) ?_
 refine Y2 rfl rfl ?_
 refine Yx ?_
 refine Xe ?_
 refine Xu ?_
 refine Xa (Yl (cs := [.slice _ _ _, .slice _ _ _, .slice _ _ _, .slice _ _ _, .slice _ _ _]) Xm Tryz.underlying26 Xm inf26.size X8) ?_
 refine Xw (Yf (vs := [.slice _ _ _, .slice _ _ _, .slice _ _ _, .slice _ _ _, .slice _ _ _]) Xm Xm inf26.size Yd Yg Xm Xm ?_)
 refine X2 ?_
 have hfo : f.few.loops = (f.loops.take i).map (fun l => l.take 4) := Zr _ hi hi8 (by first | exact .inl (by omega) | exact .inr (by omega))
 have so5 := hown.sl
 rw [← hfo] at so5
 have hse := hown.le.sees
 have hbx : H1.sees (H1.put (H.size + 1) (.own 0 [.slice BV nV cV, .slice O (f.order.take 8).length co, .slice Q (f.parent.take 8).length cq, .slice BL nL cL, .slice B i c5])) := Hp.sees_box _ hh1
 exact ⟨.agg #[.slice BV nV cV, .slice O (f.order.take 8).length co, .slice Q (f.parent.take 8).length cq, .slice BL nL cL, .slice B i c5], Xx (Yq Xm (Yo (cs := [.slice BV nV cV, .slice O (f.order.take 8).length co, .slice Q (f.parent.take 8).length cq, .slice BL nL cL, .slice B i c5]) Tryz.underlying26 rfl inf26.size X8)), Hp.le_put_new hleH1 (by omega) _, [.slice BV nV cV, .slice O (f.order.take 8).length co, .slice Q (f.parent.take 8).length cq, .slice BL nL cL, .slice B i c5], rfl, _, _, _, _, _, rfl, (sv.mono hse).mono hbx, (so.mono hse).mono hbx, (sp.mono hse).mono hbx, (sl.mono hse).mono hbx, so5.mono hbx⟩
end Go.Proofs.YtmakkmcjocjgmaaGreat.Am
