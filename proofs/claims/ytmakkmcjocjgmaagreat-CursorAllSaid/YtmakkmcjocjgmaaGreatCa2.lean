/- Texts that the proof rests on, part 2: lemmas for every heap that is related to a world, no condition beyond each lemma's own. -/
import Derived.Test.YtmakkmcjocjgmaaGreatCa1
import Derived.Test.YtmakkmcjocjgmaaGreatCaTy
import Derived.Test.YtmakkmcjocjgmaaGreatCaOwn
import Derived.Test.YtmakkmcjocjgmaaGreatCaSortInt
namespace Go.Proofs.YtmakkmcjocjgmaaGreat.Am
open Go Go.RowKit
set_option linter.unusedVariables false
set_option linter.unusedSimpArgs false
set_option maxRecDepth 100000
theorem has_raw (xs : List Int) (v : Value) (m : Int) (H : Hp) (hs : Sl (Y1 .i64) H v xs) (hl : xs.length ≤ 9223372036854775807) :
  ACalls Tryz.prog 113 #[v, .int .i64 m] H (fun r _ => r = .bool (decide (m ∈ xs))) := by
 obtain ⟨A, c, rfl⟩ := hs.shape
 refine Xv Tryz.func113 rfl rfl rfl (by simp) ?_
 refine Xe ?_
 refine Xu ?_
 refine Xa (Xn rfl) ?_
 refine Xe ?_
 refine Xe ?_
 refine Xu ?_
 refine Xa (Xi rfl) ?_
 refine Ye ?_
 refine Y5 (fun n t H' => ∃ i : Nat, i ≤ xs.length ∧ n = xs.length - i ∧ H' = H ∧ m ∉ xs.take i ∧ t 0 = .slice A xs.length c ∧ t 1 = .int .i64 m ∧ t 5 = .int .i64 i) (xs.length) (⟨0, by omega, rfl, rfl, by simp, rfl, rfl, rfl⟩) ?_
 rintro n t _ ⟨i, hi, rfl, rfl, hno, e0, e1, e5⟩
 refine Xe ?_
 refine Xe ?_
 refine Xu ?_
 refine Xa (Xb Xm) ?_
 refine Xa (X1 Xm) ?_
 refine Xa (Ys rfl Tryz.underlying23) ?_
 refine Xa (Za rfl rfl) ?_
 refine X5 rfl rfl ?_ ?_
 intro hc1
 (try simp only [Yt] at hc1)
 refine X9 ?_
 refine Xe ?_
 refine Ye ?_
 refine Xe ?_
 refine Xu ?_
 refine Xa (X1 Xm) ?_
 refine Xa (Xb Xm) ?_
 have hix : i < xs.length := by omega
 obtain ⟨b, o, rfl, hb, hcell1⟩ := hs.int_at (i := (i : Int)) (by omega) (by omega)
 have hgi : xs.getD (i : Int).toNat 0 = xs[i] := by rw [Int.toNat_natCast]; exact Zf hix
 refine Xa (Xt rfl rfl Tryz.underlying23 inf3.size X6 X6) ?_
 refine Xa (Xk rfl Tryz.underlying3 rfl Xp) ?_
 refine Xa (Xb Xm) ?_
 refine Xa (Zx rfl rfl) ?_
 refine X5 rfl rfl ?_ ?_
 intro hc2
 (try simp only [Yt] at hc2)
 refine Xe ?_
 refine Xu ?_
 refine Xa (Xn rfl) ?_
 refine X2 ?_
 refine ⟨.bool true, Xx (Xs rfl), ?_⟩
 have e : xs.getD (i : Int).toNat 0 = m := by simp_all
 rw [decide_eq_true]; rw [← e, hgi]; exact List.getElem_mem _
 intro hc2
 have hne : xs[i] ≠ m := by rw [← hgi]; simpa using hc2
 refine X9 ?_
 refine Xu ?_
 refine Xa (Xb Xm) ?_
 refine Xa (Yn rfl rfl Y0) ?_
 refine Xa (Xi rfl) ?_
 exact ⟨xs.length - (i + 1), by omega, i + 1, by omega, rfl, rfl, by rw [← Y9 hix]; simp only [List.mem_append, List.mem_singleton, not_or]; exact ⟨hno, fun e => hne e.symm⟩, e0, e1, rfl⟩
 intro hc1
 (try simp only [Yt] at hc1)
 refine Yx ?_
 refine Xe ?_
 refine Xu ?_
 refine Xa (Xn rfl) ?_
 refine X2 ?_
 refine ⟨.bool false, Xx (Xs rfl), ?_⟩
 rw [List.take_of_length_le (by omega)] at hno
 rw [decide_eq_false hno]
theorem has_ints (xs : List Int) (v : Value) (m : Int) (H : Hp) (hs : Sl (Y1 .i64) H v xs) (hl : xs.length ≤ 9223372036854775807) :
  ACalls Tryz.prog 113 #[v, .int .i64 m] H (fun r H' => r = .bool (decide (m ∈ xs)) ∧ H' = H) :=
 ACalls.pure (fun v h => by rw [h]; rfl) (has_raw xs v m H.ro (hs.mono H.sees_ro) hl)
def OkF (f : Forest) (i : Nat) : Prop := 0 ≤ f.order.getD i 0 ∧ f.order.getD i 0 < f.vars.length ∧ f.order.getD i 0 ∉ f.order.take i ∧ (f.parent.getD (f.order.getD i 0).toNat 0 = -1 ∨ f.parent.getD (f.order.getD i 0).toNat 0 ∈ f.order.take i)
structure GoodF (f : Forest) : Prop where
 l1 : f.order.length = f.vars.length
 l2 : f.parent.length = f.vars.length
 l3 : f.links.length = f.vars.length
 l4 : f.loops.length = f.vars.length
 ok : ∀ i, i < f.vars.length → OkF f i
theorem GoodF_ref_raw (f : Forest) (cs : List Value) (H : Hp) (hp : kForest.rep H f cs) (hl0 : f.vars.length ≤ 1000000) (hl1 : f.order.length ≤ 1000000) (hl2 : f.parent.length ≤ 1000000) :
  ACalls Tryz.prog 85 #[.agg cs.toArray] H (fun r _ => ∃ g, r = .bool g ∧ (g = true ↔ GoodF f)) := by
 obtain ⟨v0, v1, v2, v3, v4, rfl, hs0, hs1, hs2, hs3, hs4⟩ := hp
 obtain ⟨A0, c0, rfl⟩ := hs0.shape
 obtain ⟨A1, c1, rfl⟩ := hs1.shape
 obtain ⟨A2, c2, rfl⟩ := hs2.shape
 obtain ⟨A3, c3, rfl⟩ := hs3.shape
 obtain ⟨A4, c4, rfl⟩ := hs4.shape
 refine Xv Tryz.func85 rfl rfl rfl (by simp) ?_
 refine Xe ?_
 refine Xu ?_
 refine Xz (Yw rfl) ?_
 refine Xa (Xn rfl) ?_
 refine Xe ?_
 refine Xu ?_
 refine Xa (Xf (off := 0) rfl Tryz.underlying26 rfl inf22.size (by decide) rfl) ?_
 refine Xa (Xk rfl Tryz.underlying22 rfl Xp) ?_
 refine Xa (Ys rfl Tryz.underlying22) ?_
 refine Xa (Xi rfl) ?_
 refine Xe ?_
 refine Xe ?_
 refine Xu ?_
 refine Xa (Xf (off := 1) rfl Tryz.underlying26 rfl inf23.size (by decide) rfl) ?_
 refine Xa (Xk rfl Tryz.underlying23 rfl Xp) ?_
 refine Xa (Ys rfl Tryz.underlying23) ?_
 refine Xa (Xb rfl) ?_
 refine Xa (Zw rfl rfl) ?_
 refine Xa (Xo rfl) ?_
 refine Ya rfl rfl rfl ?_ ?_
 intro hg1
 have hp1 := hg1; try simp only [Yt] at hp1
 refine Xc (Xg rfl rfl rfl hg1 rfl) ?_
 refine Xc (Xg rfl rfl rfl hg1 rfl) ?_
 refine Xc (Xg rfl rfl rfl hg1 rfl) ?_
 refine Xc (Xg rfl rfl rfl hg1 rfl) ?_
 refine Xc (Xg rfl rfl rfl hg1 rfl) ?_
 refine Xa (Xl (Yv hg1) rfl) ?_
 refine Xa (Xo rfl) ?_
 refine Xc (Xg rfl rfl rfl rfl rfl) ?_
 refine Xc (Xg rfl rfl rfl rfl rfl) ?_
 refine Xc (Xg rfl rfl rfl rfl rfl) ?_
 refine Xc (Xg rfl rfl rfl rfl rfl) ?_
 refine Xc (Xg rfl rfl rfl rfl rfl) ?_
 refine Xa (Xl (congrArg Value.bool rfl) rfl) ?_
 refine Xa (Xo rfl) ?_
 refine Xc (Xg rfl rfl rfl rfl rfl) ?_
 refine Xc (Xg rfl rfl rfl rfl rfl) ?_
 refine Xc (Xg rfl rfl rfl rfl rfl) ?_
 refine Xc (Xg rfl rfl rfl rfl rfl) ?_
 refine Xc (Xg rfl rfl rfl rfl rfl) ?_
 refine Xa (Xl (congrArg Value.bool rfl) rfl) ?_
 refine Yu rfl rfl ?_
 refine Xe ?_
 refine Xu ?_
 refine Xa (Xn rfl) ?_
 refine X2 ?_
 refine ⟨.bool false, Xx (Xs rfl), false, rfl, fun h => (by cases h), fun hG => ?_⟩
 exfalso
 have q1 := hG.l1; have q2 := hG.l2; have q3 := hG.l3; have q4 := hG.l4
 first | omega | simp_all
 intro hg1
 have hp1 := hg1; try simp only [Yt] at hp1
 refine Xj (Xh rfl rfl rfl hg1) (Xf (off := 2) rfl Tryz.underlying26 rfl inf23.size (by decide) rfl) ?_
 refine Xj (Xh rfl rfl rfl hg1) (Xk rfl Tryz.underlying23 rfl Xp) ?_
 refine Xj (Xh rfl rfl rfl hg1) (Ys rfl Tryz.underlying23) ?_
 refine Xj (Xh rfl rfl rfl hg1) (Xb rfl) ?_
 refine Xj (Xh rfl rfl rfl hg1) (Zw rfl rfl) ?_
 refine Xa (Xl (Yv hg1) rfl) ?_
 refine Xa (Xo rfl) ?_
 refine Ya rfl rfl rfl ?_ ?_
 intro hg3
 have hp3 := hg3; try simp only [Yt] at hp3
 refine Xc (Xg rfl rfl rfl hg3 rfl) ?_
 refine Xc (Xg rfl rfl rfl hg3 rfl) ?_
 refine Xc (Xg rfl rfl rfl hg3 rfl) ?_
 refine Xc (Xg rfl rfl rfl hg3 rfl) ?_
 refine Xc (Xg rfl rfl rfl hg3 rfl) ?_
 refine Xa (Xl (Yv hg3) rfl) ?_
 refine Xa (Xo rfl) ?_
 refine Xc (Xg rfl rfl rfl rfl rfl) ?_
 refine Xc (Xg rfl rfl rfl rfl rfl) ?_
 refine Xc (Xg rfl rfl rfl rfl rfl) ?_
 refine Xc (Xg rfl rfl rfl rfl rfl) ?_
 refine Xc (Xg rfl rfl rfl rfl rfl) ?_
 refine Xa (Xl (congrArg Value.bool rfl) rfl) ?_
 refine Yu rfl rfl ?_
 refine Xe ?_
 refine Xu ?_
 refine Xa (Xn rfl) ?_
 refine X2 ?_
 refine ⟨.bool false, Xx (Xs rfl), false, rfl, fun h => (by cases h), fun hG => ?_⟩
 exfalso
 have q1 := hG.l1; have q2 := hG.l2; have q3 := hG.l3; have q4 := hG.l4
 first | omega | simp_all
 intro hg3
 have hp3 := hg3; try simp only [Yt] at hp3
 refine Xj (Xh rfl rfl rfl hg3) (Xf (off := 3) rfl Tryz.underlying26 rfl inf24.size (by decide) rfl) ?_
 refine Xj (Xh rfl rfl rfl hg3) (Xk rfl Tryz.underlying24 rfl Xp) ?_
 refine Xj (Xh rfl rfl rfl hg3) (Ys rfl Tryz.underlying24) ?_
 refine Xj (Xh rfl rfl rfl hg3) (Xb rfl) ?_
 refine Xj (Xh rfl rfl rfl hg3) (Zw rfl rfl) ?_
 refine Xa (Xl (Yv hg3) rfl) ?_
 refine Xa (Xo rfl) ?_
 refine Ya rfl rfl rfl ?_ ?_
 intro hg5
 have hp5 := hg5; try simp only [Yt] at hp5
 refine Xc (Xg rfl rfl rfl hg5 rfl) ?_
 refine Xc (Xg rfl rfl rfl hg5 rfl) ?_
 refine Xc (Xg rfl rfl rfl hg5 rfl) ?_
 refine Xc (Xg rfl rfl rfl hg5 rfl) ?_
 refine Xc (Xg rfl rfl rfl hg5 rfl) ?_
 refine Xa (Xl (Yv hg5) rfl) ?_
 refine Yu rfl rfl ?_
 refine Xe ?_
 refine Xu ?_
 refine Xa (Xn rfl) ?_
 refine X2 ?_
 refine ⟨.bool false, Xx (Xs rfl), false, rfl, fun h => (by cases h), fun hG => ?_⟩
 exfalso
 have q1 := hG.l1; have q2 := hG.l2; have q3 := hG.l3; have q4 := hG.l4
 first | omega | simp_all
 intro hg5
 have hp5 := hg5; try simp only [Yt] at hp5
 refine Xj (Xh rfl rfl rfl hg5) (Xf (off := 4) rfl Tryz.underlying26 rfl inf24.size (by decide) rfl) ?_
 refine Xj (Xh rfl rfl rfl hg5) (Xk rfl Tryz.underlying24 rfl Xp) ?_
 refine Xj (Xh rfl rfl rfl hg5) (Ys rfl Tryz.underlying24) ?_
 refine Xj (Xh rfl rfl rfl hg5) (Xb rfl) ?_
 refine Xj (Xh rfl rfl rfl hg5) (Zw rfl rfl) ?_
 refine Xa (Xl (Yv hg5) rfl) ?_
 refine X5 rfl rfl ?_ ?_
 intro hc7
 (try simp only [Yt] at hc7)
 refine Xe ?_
 refine Xu ?_
 refine Xa (Xn rfl) ?_
 refine X2 ?_
 refine ⟨.bool false, Xx (Xs rfl), false, rfl, fun h => (by cases h), fun hG => ?_⟩
 exfalso
 have q1 := hG.l1; have q2 := hG.l2; have q3 := hG.l3; have q4 := hG.l4
 first | omega | simp_all
 intro hc7
 have hlens : f.order.length = f.vars.length ∧ f.parent.length = f.vars.length ∧ f.links.length = f.vars.length ∧ f.loops.length = f.vars.length := by
  have hc7' := of_decide_eq_false hc7
  refine ⟨?_, ?_, ?_, ?_⟩ <;> omega
 refine X9 ?_
 refine Xe ?_
 refine Xe ?_
 refine Xu ?_
 refine Xa (Xi rfl) ?_
 refine Ye ?_
 refine Y5 (fun n t H' => ∃ i : Nat, i ≤ f.vars.length ∧ n = f.vars.length - i ∧ H' = H.push (.own 0 [.slice A0 f.vars.length c0, .slice A1 f.order.length c1, .slice A2 f.parent.length c2, .slice A3 f.links.length c3, .slice A4 f.loops.length c4]) ∧ (∀ j, j < i → OkF f j) ∧ t 1 = .pointer (some ⟨H.size, 0, none⟩) ∧ t 3 = .int .i64 f.vars.length ∧ t 4 = .int .i64 i) (f.vars.length) (⟨0, by omega, rfl, rfl, fun j h => by omega, rfl, rfl, rfl⟩) ?_
 rintro n t _ ⟨i, hi, rfl, rfl, hok, e1, e3, e4⟩
 refine Xe ?_
 refine Xe ?_
 refine Xu ?_
 refine Xa (Xb Xm) ?_
 refine Xa (Xb Xm) ?_
 refine Xa (Za rfl rfl) ?_
 refine X5 rfl rfl ?_ ?_
 intro hc8
 (try simp only [Yt] at hc8)
 refine X9 ?_
 refine Xe ?_
 refine Ye ?_
 refine Xe ?_
 have hix : i < f.vars.length := by omega
 have hix1 : i < f.order.length := by omega
 have hs1' := hs1.mono (H.le_push (.own 0 [.slice A0 f.vars.length c0, .slice A1 f.order.length c1, .slice A2 f.parent.length c2, .slice A3 f.links.length c3, .slice A4 f.loops.length c4])).sees
 have hs2' := hs2.mono (H.le_push (.own 0 [.slice A0 f.vars.length c0, .slice A1 f.order.length c1, .slice A2 f.parent.length c2, .slice A3 f.links.length c3, .slice A4 f.loops.length c4])).sees
 obtain ⟨A9, c9, S9, hsl9, hS9, hop9⟩ := hs1'.takes (i := i) (by omega)
 obtain ⟨b, o, rfl, hb, hcell1⟩ := hs1'.int_at (i := (i : Int)) (by omega) (by omega)
 obtain ⟨m, hm⟩ : ∃ m, m = f.order.getD (i : Int).toNat 0 := ⟨_, rfl⟩
 rw [← hm] at hcell1
 have hmi : f.order.getD i 0 = m := by rw [hm, Int.toNat_natCast]
 refine Xu ?_
 refine Xa (Xf (off := 1) Xm Tryz.underlying26 Xm inf23.size (by decide) Xm) ?_
 refine Xa (Xk rfl Tryz.underlying23 rfl Xp) ?_
 refine Xa (Xb Xm) ?_
 refine Xa (Xt rfl rfl Tryz.underlying23 inf3.size X6 X6) ?_
 refine Xa (Xk rfl Tryz.underlying3 rfl Xp) ?_
 refine Xa (Xi rfl) ?_
 refine Xe ?_
 refine Xe ?_
 refine Xu ?_
 refine Xa (Xb rfl) ?_
 refine Xa (Za rfl rfl) ?_
 refine Xa (Xo rfl) ?_
 refine Ya rfl rfl rfl ?_ ?_
 intro hg9
 have hp9 := hg9; try simp only [Yt] at hp9
 refine Xc (Xg rfl rfl rfl hg9 rfl) ?_
 refine Xc (Xg rfl rfl rfl hg9 rfl) ?_
 refine Xc (Xg rfl rfl rfl hg9 rfl) ?_
 refine Xa (Xl (Yv hg9) Xm) ?_
 refine Xa (Xo rfl) ?_
 refine Xc (Xg rfl rfl rfl rfl rfl) ?_
 refine Xc (Xg rfl rfl rfl rfl rfl) ?_
 refine Xc (Xg rfl rfl rfl rfl rfl) ?_
 refine Xc (Xg rfl rfl rfl rfl rfl) ?_
 refine Xc (Xg rfl rfl rfl rfl rfl) ?_
 refine Xc (Xg rfl rfl rfl rfl rfl) ?_
 refine Xa (Xl (congrArg Value.bool Xm) Xm) ?_
 refine Yu rfl rfl ?_
 refine Xe ?_
 refine Xu ?_
 refine Xa (Xn rfl) ?_
 refine X2 ?_
 refine ⟨.bool false, Xx (Xs rfl), false, rfl, fun h => (by cases h), fun hG => ?_⟩
 obtain ⟨q1, q2, q3, q4⟩ := hG.ok i hix
 rw [hmi] at q1 q2 q3 q4
 exfalso
 first | omega | simp_all
 intro hg9
 have hp9 := hg9; try simp only [Yt] at hp9
 refine Xj (Xh rfl rfl rfl hg9) (Xb rfl) ?_
 refine Xj (Xh rfl rfl rfl hg9) (Xb Xm) ?_
 refine Xj (Xh rfl rfl rfl hg9) (av_ge rfl rfl) ?_
 refine Xa (Xl (Yv hg9) rfl) ?_
 refine Xa (Xo rfl) ?_
 refine Ya rfl rfl rfl ?_ ?_
 intro hg11
 have hp11 := hg11; try simp only [Yt] at hp11
 refine Xc (Xg rfl rfl rfl hg11 rfl) ?_
 refine Xc (Xg rfl rfl rfl hg11 rfl) ?_
 refine Xc (Xg rfl rfl rfl hg11 rfl) ?_
 refine Xc (Xg rfl rfl rfl hg11 rfl) ?_
 refine Xc (Xg rfl rfl rfl hg11 rfl) ?_
 refine Xc (Xg rfl rfl rfl hg11 rfl) ?_
 refine Xa (Xl (Yv hg11) Xm) ?_
 refine Yu rfl rfl ?_
 refine Xe ?_
 refine Xu ?_
 refine Xa (Xn rfl) ?_
 refine X2 ?_
 refine ⟨.bool false, Xx (Xs rfl), false, rfl, fun h => (by cases h), fun hG => ?_⟩
 obtain ⟨q1, q2, q3, q4⟩ := hG.ok i hix
 rw [hmi] at q1 q2 q3 q4
 exfalso
 first | omega | simp_all
 intro hg11
 have hp11 := hg11; try simp only [Yt] at hp11
 refine Xj (Xh rfl rfl rfl hg11) (Xf (off := 1) Xm Tryz.underlying26 Xm inf23.size (by decide) Xm) ?_
 refine Xj (Xh rfl rfl rfl hg11) (Xk rfl Tryz.underlying23 rfl Xp) ?_
 refine Xj (Xh rfl rfl rfl hg11) (Xb Xm) ?_
 refine Xj (Xh rfl rfl rfl hg11) (hop9 _ _ _ _ _ _ _ _ _ _ _ _ _ (Hp.le_refl _) (by first | rfl | assumption) Tryz.underlying23 inf3.size (by first | rfl | assumption)) ?_
 refine Xj (Xh rfl rfl rfl hg11) (Xb rfl) ?_
 refine Z1 (Xh rfl rfl rfl hg11) (Xy (has_ints _ _ m _ hsl9 (by rw [List.length_take]; omega)) rfl Tryz.func113 rfl rfl rfl ?_)
 rintro v H ⟨rfl, rfl⟩
 refine Xa (Xl (Yv hg11) rfl) ?_
 refine X5 rfl rfl ?_ ?_
 intro hc13
 (try simp only [Yt] at hc13)
 refine Xe ?_
 refine Xu ?_
 refine Xa (Xn rfl) ?_
 refine X2 ?_
 refine ⟨.bool false, Xx (Xs rfl), false, rfl, fun h => (by cases h), fun hG => ?_⟩
 obtain ⟨q1, q2, q3, q4⟩ := hG.ok i hix
 rw [hmi] at q1 q2 q3 q4
 exfalso
 first | omega | simp_all
 intro hc13
 (try simp only [Yt] at hc13)
 refine X9 ?_
 refine Xe ?_
 have hm0 : 0 ≤ m ∧ m < f.vars.length := by first | omega | (constructor <;> simp_all; done) | (simp_all; omega)
 have hmn : m ∉ f.order.take i := by simp_all
 obtain ⟨b2, o2, rfl, hb2, hcell2⟩ := hs2'.int_at (i := m) (by omega) (by omega)
 have hb2' : b2 < H.size + 1 := hb2
 obtain ⟨q, hq⟩ : ∃ q, q = f.parent.getD m.toNat 0 := ⟨_, rfl⟩
 rw [← hq] at hcell2
 refine Yy (by kernel_rfl) (Y4 (B := [0, 1, 0, 7, 15, 31, 63, 127, 255, 127, 1023, 127, 2175, 127, 14463, 30847, 65535, 131071, 262143]) (π := [0, 1, 2, 3, 4, 5, 6, 7, 8, 9, 10, 11, 12, 13, 14, 15, 16, 17, 18]) (by kernel_rfl)) ?_
 refine Xd rfl rfl (Xf (off := 2) Xm Tryz.underlying26 Xm inf23.size (by decide) Xm) Xq ?_
 refine Xd rfl rfl (Xk rfl Tryz.underlying23 rfl Xp) Xq ?_
 refine Xd rfl rfl (Xb rfl) Xq ?_
 refine Xd rfl rfl (Xt rfl rfl Tryz.underlying23 inf3.size X6 X6) Xq ?_
 refine Xd rfl rfl (Xk rfl Tryz.underlying3 rfl Xp) Xq ?_
 refine Xd rfl rfl (Zw rfl rfl) Xq ?_
 refine Xd rfl rfl (Xo rfl) Xq ?_
 refine Va rfl rfl rfl rfl ?_ ?_
 intro hg14
 have hp14 := hg14; try simp only [Yt] at hp14
 refine Yr rfl (Xh rfl rfl rfl hg14) rfl (Xf (off := 1) Xm Tryz.underlying26 Xm inf23.size (by decide) Xm) Xq ?_
 refine Yr rfl (Xh rfl rfl rfl hg14) rfl (Xk rfl Tryz.underlying23 rfl Xp) Xq ?_
 refine Yr rfl (Xh rfl rfl rfl hg14) rfl (Xb Xm) Xq ?_
 refine Yr rfl (Xh rfl rfl rfl hg14) rfl (hop9 _ _ _ _ _ _ _ _ _ _ _ _ _ (Hp.le_refl _) (by first | rfl | assumption) Tryz.underlying23 inf3.size (by first | rfl | assumption)) (fun b hb => (hS9 b hb).1) ?_
 refine Yr rfl (Xh rfl rfl rfl hg14) rfl (Xf (off := 2) Xm Tryz.underlying26 Xm inf23.size (by decide) Xm) Xq ?_
 refine Yr rfl (Xh rfl rfl rfl hg14) rfl (Xk rfl Tryz.underlying23 rfl Xp) Xq ?_
 refine Yr rfl (Xh rfl rfl rfl hg14) rfl (Xb rfl) Xq ?_
 refine Yr rfl (Xh rfl rfl rfl hg14) rfl (Xt rfl rfl Tryz.underlying23 inf3.size X6 X6) Xq ?_
 refine Yr rfl (Xh rfl rfl rfl hg14) rfl (Xk rfl Tryz.underlying3 rfl Xp) Xq ?_
 refine adr_wop rfl (Xh rfl rfl rfl hg14) rfl (Xy (has_ints _ _ q _ hsl9 (by rw [List.length_take]; omega)) rfl Tryz.func113 rfl rfl rfl ?_)
 rintro v H ⟨rfl, rfl⟩
 refine ⟨Yk, ?_⟩
 refine Yr rfl (Xh rfl rfl rfl hg14) rfl (Zz rfl) Xq ?_
 refine Xd rfl rfl (Xl (Yv hg14) rfl) Xq ?_
 refine X5 rfl rfl ?_ ?_
 intro hc15
 (try simp only [Yt] at hc15)
 refine Xe ?_
 refine Xu ?_
 refine Xa (Xn rfl) ?_
 refine X2 ?_
 refine ⟨.bool false, Xx (Xs rfl), false, rfl, fun h => (by cases h), fun hG => ?_⟩
 obtain ⟨q1, q2, q3, q4⟩ := hG.ok i hix
 rw [hmi, ← hq] at q4
 exfalso
 simp_all
 intro hc15
 (try simp only [Yt] at hc15)
 refine X9 ?_
 refine Xu ?_
 refine Xa (Xb Xm) ?_
 refine Xa (Yn rfl rfl Y0) ?_
 refine Xa (Xi rfl) ?_
 refine ⟨f.vars.length - (i + 1), by omega, i + 1, by omega, rfl, rfl, fun j h => ?_, e1, e3, rfl⟩
 rcases Nat.lt_or_ge j i with h1 | h1
 ·exact hok j h1
 ·obtain rfl : j = i := by omega
  exact ⟨by rw [hmi]; exact hm0.1, by rw [hmi]; exact hm0.2, by rw [hmi]; exact hmn, by rw [hmi, ← hq]; simp_all⟩
 intro hg14
 have hp14 := hg14; try simp only [Yt] at hp14
 refine X7 rfl (Xg rfl rfl rfl hg14 rfl) ?_
 refine X7 rfl (Xg rfl rfl rfl hg14 rfl) ?_
 refine X7 rfl (Xg rfl rfl rfl hg14 rfl) ?_
 refine X7 rfl (Xg rfl rfl rfl hg14 rfl) ?_
 refine X7 rfl (Xg rfl rfl rfl hg14 rfl) ?_
 refine X7 rfl (Xg rfl rfl rfl hg14 rfl) ?_
 refine X7 rfl (Xg rfl rfl rfl hg14 rfl) ?_
 refine X7 rfl (Xg rfl rfl rfl hg14 rfl) ?_
 refine X7 rfl (Xg rfl rfl rfl hg14 rfl) ?_
 refine X7 rfl (Xg rfl rfl rfl hg14 rfl) ?_
 refine X7 rfl (Xg rfl rfl rfl hg14 rfl) ?_
 refine Xd rfl rfl (Xl (Yv hg14) Xm) Xq ?_
 refine Y2 rfl rfl ?_
 refine X9 ?_
 refine Xu ?_
 refine Xa (Xb Xm) ?_
 refine Xa (Yn rfl rfl Y0) ?_
 refine Xa (Xi rfl) ?_
 refine ⟨f.vars.length - (i + 1), by omega, i + 1, by omega, rfl, rfl, fun j h => ?_, e1, e3, rfl⟩
 rcases Nat.lt_or_ge j i with h1 | h1
 ·exact hok j h1
 ·obtain rfl : j = i := by omega
  exact ⟨by rw [hmi]; exact hm0.1, by rw [hmi]; exact hm0.2, by rw [hmi]; exact hmn, by rw [hmi, ← hq]; simp_all⟩
 intro hc8
 (try simp only [Yt] at hc8)
 refine Yx ?_
 refine Xe ?_
 refine Xu ?_
 refine Xa (Xn rfl) ?_
 refine X2 ?_
 exact ⟨.bool true, Xx (Xs rfl), true, rfl, fun _ => ⟨hlens.1, hlens.2.1, hlens.2.2.1, hlens.2.2.2, fun j h => hok j (by omega)⟩, fun _ => rfl⟩
theorem GoodF_ref (f : Forest) (cs : List Value) (H : Hp) (hp : kForest.rep H f cs) (hl0 : f.vars.length ≤ 1000000) (hl1 : f.order.length ≤ 1000000) (hl2 : f.parent.length ≤ 1000000) :
  ACalls Tryz.prog 85 #[.agg cs.toArray] H (fun r H' => (∃ g, r = .bool g ∧ (g = true ↔ GoodF f)) ∧ H' = H) :=
 ACalls.pure (fun v ⟨g, h, _⟩ => by rw [h]; rfl) (GoodF_ref_raw f cs H.ro (kForest.mono H.sees_ro hp) hl0 hl1 hl2)
def Seen (n : Nat) (l : List Int) (seen : List Bool) : Prop := seen.length = n ∧ ∀ v, v < n → seen[v]? = some (decide ((v : Int) ∈ l))
theorem Seen.at {n : Nat} {l : List Int} {seen : List Bool} (h : Seen n l seen) {m : Int} (h0 : 0 ≤ m) (h1 : m < n) : seen[m.toNat]? = some (decide (m ∈ l)) := by
 have := h.2 m.toNat (by omega)
 rwa [show ((m.toNat : Nat) : Int) = m by omega] at this
theorem Seen.set {n : Nat} {l : List Int} {seen : List Bool} (h : Seen n l seen) {m : Int} (h0 : 0 ≤ m) (h1 : m < n) : Seen n (l ++ [m]) (seen.set m.toNat true) := by
 refine ⟨by rw [List.length_set]; exact h.1, fun v hv => ?_⟩
 have hl := h.1
 rw [List.getElem?_set]
 by_cases e : m.toNat = v
 ·rw [if_pos e, if_pos (by omega)]
  congr 1
  symm
  rw [decide_eq_true]
  simp; right; omega
 ·rw [if_neg e, h.2 v hv]
  congr 1
  have : (v : Int) ≠ m := by omega
  simp [this]
set_option maxHeartbeats 1000000 in
theorem GoodF_for_raw (f : Forest) (cs : List Value) (H : Hp) (hp : kForest.rep H f cs) (hl0 : f.vars.length ≤ 1000000) (hl1 : f.order.length ≤ 1000000) (hl2 : f.parent.length ≤ 1000000) :
  ACalls Tryz.prog 128 #[.agg cs.toArray] H (fun r _ => ∃ g, r = .bool g ∧ (g = true ↔ GoodF f)) := by
 obtain ⟨v0, v1, v2, v3, v4, rfl, hs0, hs1, hs2, hs3, hs4⟩ := hp
 obtain ⟨A0, c0, rfl⟩ := hs0.shape
 obtain ⟨A1, c1, rfl⟩ := hs1.shape
 obtain ⟨A2, c2, rfl⟩ := hs2.shape
 obtain ⟨A3, c3, rfl⟩ := hs3.shape
 obtain ⟨A4, c4, rfl⟩ := hs4.shape
 refine Xv Tryz.func128 rfl rfl rfl (by simp) ?_
 refine Xe ?_
 refine Xu ?_
 refine Xz (Yw rfl) ?_
 refine Xa (Xn rfl) ?_
 refine Xe ?_
 refine Xu ?_
 refine Xa (Xf (off := 0) rfl Tryz.underlying26 rfl inf22.size (by decide) rfl) ?_
 refine Xa (Xk rfl Tryz.underlying22 rfl Xp) ?_
 refine Xa (Ys rfl Tryz.underlying22) ?_
 refine Xa (Xi rfl) ?_
 refine Xe ?_
 refine Xe ?_
 refine Xu ?_
 refine Xa (Xf (off := 1) rfl Tryz.underlying26 rfl inf23.size (by decide) rfl) ?_
 refine Xa (Xk rfl Tryz.underlying23 rfl Xp) ?_
 refine Xa (Ys rfl Tryz.underlying23) ?_
 refine Xa (Xb rfl) ?_
 refine Xa (Zw rfl rfl) ?_
 refine Xa (Xo rfl) ?_
 refine Ya rfl rfl rfl ?_ ?_
 intro hg1
 have hp1 := hg1; try simp only [Yt] at hp1
 refine Xc (Xg rfl rfl rfl hg1 rfl) ?_
 refine Xc (Xg rfl rfl rfl hg1 rfl) ?_
 refine Xc (Xg rfl rfl rfl hg1 rfl) ?_
 refine Xc (Xg rfl rfl rfl hg1 rfl) ?_
 refine Xc (Xg rfl rfl rfl hg1 rfl) ?_
 refine Xa (Xl (Yv hg1) rfl) ?_
 refine Xa (Xo rfl) ?_
 refine Xc (Xg rfl rfl rfl rfl rfl) ?_
 refine Xc (Xg rfl rfl rfl rfl rfl) ?_
 refine Xc (Xg rfl rfl rfl rfl rfl) ?_
 refine Xc (Xg rfl rfl rfl rfl rfl) ?_
 refine Xc (Xg rfl rfl rfl rfl rfl) ?_
 refine Xa (Xl (congrArg Value.bool rfl) rfl) ?_
 refine Xa (Xo rfl) ?_
 refine Xc (Xg rfl rfl rfl rfl rfl) ?_
 refine Xc (Xg rfl rfl rfl rfl rfl) ?_
 refine Xc (Xg rfl rfl rfl rfl rfl) ?_
 refine Xc (Xg rfl rfl rfl rfl rfl) ?_
 refine Xc (Xg rfl rfl rfl rfl rfl) ?_
 refine Xa (Xl (congrArg Value.bool rfl) rfl) ?_
 refine Yu rfl rfl ?_
 refine Xe ?_
 refine Xu ?_
 refine Xa (Xn rfl) ?_
 refine X2 ?_
 refine ⟨.bool false, Xx (Xs rfl), false, rfl, fun h => (by cases h), fun hG => ?_⟩
 exfalso
 have q1 := hG.l1; have q2 := hG.l2; have q3 := hG.l3; have q4 := hG.l4
 first | omega | simp_all
 intro hg1
 have hp1 := hg1; try simp only [Yt] at hp1
 refine Xj (Xh rfl rfl rfl hg1) (Xf (off := 2) rfl Tryz.underlying26 rfl inf23.size (by decide) rfl) ?_
 refine Xj (Xh rfl rfl rfl hg1) (Xk rfl Tryz.underlying23 rfl Xp) ?_
 refine Xj (Xh rfl rfl rfl hg1) (Ys rfl Tryz.underlying23) ?_
 refine Xj (Xh rfl rfl rfl hg1) (Xb rfl) ?_
 refine Xj (Xh rfl rfl rfl hg1) (Zw rfl rfl) ?_
 refine Xa (Xl (Yv hg1) rfl) ?_
 refine Xa (Xo rfl) ?_
 refine Ya rfl rfl rfl ?_ ?_
 intro hg3
 have hp3 := hg3; try simp only [Yt] at hp3
 refine Xc (Xg rfl rfl rfl hg3 rfl) ?_
 refine Xc (Xg rfl rfl rfl hg3 rfl) ?_
 refine Xc (Xg rfl rfl rfl hg3 rfl) ?_
 refine Xc (Xg rfl rfl rfl hg3 rfl) ?_
 refine Xc (Xg rfl rfl rfl hg3 rfl) ?_
 refine Xa (Xl (Yv hg3) rfl) ?_
 refine Xa (Xo rfl) ?_
 refine Xc (Xg rfl rfl rfl rfl rfl) ?_
 refine Xc (Xg rfl rfl rfl rfl rfl) ?_
 refine Xc (Xg rfl rfl rfl rfl rfl) ?_
 refine Xc (Xg rfl rfl rfl rfl rfl) ?_
 refine Xc (Xg rfl rfl rfl rfl rfl) ?_
 refine Xa (Xl (congrArg Value.bool rfl) rfl) ?_
 refine Yu rfl rfl ?_
 refine Xe ?_
 refine Xu ?_
 refine Xa (Xn rfl) ?_
 refine X2 ?_
 refine ⟨.bool false, Xx (Xs rfl), false, rfl, fun h => (by cases h), fun hG => ?_⟩
 exfalso
 have q1 := hG.l1; have q2 := hG.l2; have q3 := hG.l3; have q4 := hG.l4
 first | omega | simp_all
 intro hg3
 have hp3 := hg3; try simp only [Yt] at hp3
 refine Xj (Xh rfl rfl rfl hg3) (Xf (off := 3) rfl Tryz.underlying26 rfl inf24.size (by decide) rfl) ?_
 refine Xj (Xh rfl rfl rfl hg3) (Xk rfl Tryz.underlying24 rfl Xp) ?_
 refine Xj (Xh rfl rfl rfl hg3) (Ys rfl Tryz.underlying24) ?_
 refine Xj (Xh rfl rfl rfl hg3) (Xb rfl) ?_
 refine Xj (Xh rfl rfl rfl hg3) (Zw rfl rfl) ?_
 refine Xa (Xl (Yv hg3) rfl) ?_
 refine Xa (Xo rfl) ?_
 refine Ya rfl rfl rfl ?_ ?_
 intro hg5
 have hp5 := hg5; try simp only [Yt] at hp5
 refine Xc (Xg rfl rfl rfl hg5 rfl) ?_
 refine Xc (Xg rfl rfl rfl hg5 rfl) ?_
 refine Xc (Xg rfl rfl rfl hg5 rfl) ?_
 refine Xc (Xg rfl rfl rfl hg5 rfl) ?_
 refine Xc (Xg rfl rfl rfl hg5 rfl) ?_
 refine Xa (Xl (Yv hg5) rfl) ?_
 refine Yu rfl rfl ?_
 refine Xe ?_
 refine Xu ?_
 refine Xa (Xn rfl) ?_
 refine X2 ?_
 refine ⟨.bool false, Xx (Xs rfl), false, rfl, fun h => (by cases h), fun hG => ?_⟩
 exfalso
 have q1 := hG.l1; have q2 := hG.l2; have q3 := hG.l3; have q4 := hG.l4
 first | omega | simp_all
 intro hg5
 have hp5 := hg5; try simp only [Yt] at hp5
 refine Xj (Xh rfl rfl rfl hg5) (Xf (off := 4) rfl Tryz.underlying26 rfl inf24.size (by decide) rfl) ?_
 refine Xj (Xh rfl rfl rfl hg5) (Xk rfl Tryz.underlying24 rfl Xp) ?_
 refine Xj (Xh rfl rfl rfl hg5) (Ys rfl Tryz.underlying24) ?_
 refine Xj (Xh rfl rfl rfl hg5) (Xb rfl) ?_
 refine Xj (Xh rfl rfl rfl hg5) (Zw rfl rfl) ?_
 refine Xa (Xl (Yv hg5) rfl) ?_
 refine X5 rfl rfl ?_ ?_
 intro hc7
 (try simp only [Yt] at hc7)
 refine Xe ?_
 refine Xu ?_
 refine Xa (Xn rfl) ?_
 refine X2 ?_
 refine ⟨.bool false, Xx (Xs rfl), false, rfl, fun h => (by cases h), fun hG => ?_⟩
 exfalso
 have q1 := hG.l1; have q2 := hG.l2; have q3 := hG.l3; have q4 := hG.l4
 first | omega | simp_all
 intro hc7
 have hlens : f.order.length = f.vars.length ∧ f.parent.length = f.vars.length ∧ f.links.length = f.vars.length ∧ f.loops.length = f.vars.length := by
  have hc7' := of_decide_eq_false hc7
  refine ⟨?_, ?_, ?_, ?_⟩ <;> omega
 refine X9 ?_
 refine Xe ?_
 refine Xu ?_
 refine Xa (Xb rfl) ?_
 refine Xz (am_makeSlice Tryz.underlying182 inf4 rfl (by decide) (by decide) rfl rfl (by omega) (by omega) (by omega)) ?_
 refine Xa (Yc rfl) ?_
 refine Xe ?_
 refine Xe ?_
 refine Xu ?_
 refine Xa (Xf (off := 1) rfl Tryz.underlying26 rfl inf23.size (by decide) rfl) ?_
 refine Xa (Xk rfl Tryz.underlying23 rfl Xp) ?_
 refine Xa (Ys rfl Tryz.underlying23) ?_
 refine Xa (Xb rfl) ?_
 refine Ye ?_
 refine Y5 (fun n t H' => ∃ (i : Nat) (seen : List Bool), i ≤ f.order.length ∧ n = f.order.length - i ∧ Seen f.vars.length (f.order.take i) seen ∧ H' = (H.push (.own 0 [.slice A0 f.vars.length c0, .slice A1 f.order.length c1, .slice A2 f.parent.length c2, .slice A3 f.links.length c3, .slice A4 f.loops.length c4])).push (.own 1 (seen.map Value.bool)) ∧ (∀ j, j < i → OkF f j) ∧ t 1 = .pointer (some ⟨H.size, 0, none⟩) ∧ t 3 = .int .i64 f.vars.length ∧ t 4 = .slice (some ⟨H.size + 1, 0, none⟩) f.vars.length f.vars.length ∧ t 40 = .slice A1 f.order.length c1 ∧ t 41 = .int .i64 f.order.length ∧ t 42 = .int .i64 i) (f.order.length) (⟨0, List.replicate f.vars.length false, by omega, rfl, ⟨by simp, fun v hv => by simp [hv]⟩, by congr 2; simp [Value.cells, List.flatten_replicate_singleton], fun j h => by omega, rfl, rfl, rfl, rfl, rfl, rfl⟩) ?_
 rintro n t _ ⟨i, seen, hi, rfl, hseen, rfl, hok, e1, e3, e4, e40, e41, e42⟩
 have hsl := hseen.1
 have hg0 : ((H.push (.own 0 [.slice A0 f.vars.length c0, .slice A1 f.order.length c1, .slice A2 f.parent.length c2, .slice A3 f.links.length c3, .slice A4 f.loops.length c4])).push (.own 1 (seen.map Value.bool))).get H.size = .own 0 [.slice A0 f.vars.length c0, .slice A1 f.order.length c1, .slice A2 f.parent.length c2, .slice A3 f.links.length c3, .slice A4 f.loops.length c4] := Yd
 have kg1 : ((H.push (.own 0 [.slice A0 f.vars.length c0, .slice A1 f.order.length c1, .slice A2 f.parent.length c2, .slice A3 f.links.length c3, .slice A4 f.loops.length c4])).push (.own 1 (seen.map Value.bool))).get (H.size + 1) = .own 1 (seen.map Value.bool) := Hp.push_new _ _
 have hleS := Hp.le_push' (H.le_push (.own 0 [.slice A0 f.vars.length c0, .slice A1 f.order.length c1, .slice A2 f.parent.length c2, .slice A3 f.links.length c3, .slice A4 f.loops.length c4])) (.own 1 (seen.map Value.bool))
 refine Xe ?_
 refine Xu ?_
 refine Xa (Za Xm Xm) ?_
 refine Xe ?_
 refine X5 rfl rfl ?_ ?_
 intro hc8
 (try simp only [Yt] at hc8)
 refine X9 ?_
 refine Xe ?_
 refine Ye ?_
 refine Xe ?_
 have hix : i < f.vars.length := by omega
 have hix1 : i < f.order.length := by omega
 have hs1' := hs1.mono hleS.sees
 have hs2' := hs2.mono hleS.sees
 obtain ⟨b, o, rfl, hb, hcell1⟩ := hs1'.int_at (i := (i : Int)) (by omega) (by omega)
 obtain ⟨m, hm⟩ : ∃ m, m = f.order.getD (i : Int).toNat 0 := ⟨_, rfl⟩
 rw [← hm] at hcell1
 have hmi : f.order.getD i 0 = m := by rw [hm, Int.toNat_natCast]
 refine Xu ?_
 refine Xa (Xt Xm Xm Tryz.underlying23 inf3.size X6 X6) ?_
 refine Xa (Xk rfl Tryz.underlying3 rfl Xp) ?_
 refine Xa (Xi rfl) ?_
 refine Xe ?_
 refine Xe ?_
 refine Xu ?_
 refine Xa (Xb rfl) ?_
 refine Xa (Za rfl rfl) ?_
 refine Xa (Xo rfl) ?_
 refine Ya rfl rfl rfl ?_ ?_
 intro hg9
 have hp9 := hg9; try simp only [Yt] at hp9
 refine Xc (Xg rfl rfl rfl hg9 rfl) ?_
 refine Xc (Xg rfl rfl rfl hg9 rfl) ?_
 refine Xc (Xg rfl rfl rfl hg9 rfl) ?_
 refine Xa (Xl (Yv hg9) Xm) ?_
 refine Xa (Xo rfl) ?_
 refine Xc (Xg rfl rfl rfl rfl rfl) ?_
 refine Xc (Xg rfl rfl rfl rfl rfl) ?_
 refine Xc (Xg rfl rfl rfl rfl rfl) ?_
 refine Xc (Xg rfl rfl rfl rfl rfl) ?_
 refine Xa (Xl (congrArg Value.bool Xm) Xm) ?_
 refine Yu rfl rfl ?_
 refine Xe ?_
 refine Xu ?_
 refine Xa (Xn rfl) ?_
 refine X2 ?_
 refine ⟨.bool false, Xx (Xs rfl), false, rfl, fun h => (by cases h), fun hG => ?_⟩
 obtain ⟨q1, q2, q3, q4⟩ := hG.ok i hix
 rw [hmi] at q1 q2 q3 q4
 exfalso
 first | omega | exact q3 hmt
 intro hg9
 have hp9 := hg9; try simp only [Yt] at hp9
 refine Xj (Xh rfl rfl rfl hg9) (Xb rfl) ?_
 refine Xj (Xh rfl rfl rfl hg9) (Xb Xm) ?_
 refine Xj (Xh rfl rfl rfl hg9) (av_ge rfl rfl) ?_
 refine Xa (Xl (Yv hg9) rfl) ?_
 refine Xa (Xo rfl) ?_
 refine Ya rfl rfl rfl ?_ ?_
 intro hg11
 have hp11 := hg11; try simp only [Yt] at hp11
 refine Xc (Xg rfl rfl rfl hg11 rfl) ?_
 refine Xc (Xg rfl rfl rfl hg11 rfl) ?_
 refine Xc (Xg rfl rfl rfl hg11 rfl) ?_
 refine Xc (Xg rfl rfl rfl hg11 rfl) ?_
 refine Xa (Xl (Yv hg11) Xm) ?_
 refine Yu rfl rfl ?_
 refine Xe ?_
 refine Xu ?_
 refine Xa (Xn rfl) ?_
 refine X2 ?_
 refine ⟨.bool false, Xx (Xs rfl), false, rfl, fun h => (by cases h), fun hG => ?_⟩
 obtain ⟨q1, q2, q3, q4⟩ := hG.ok i hix
 rw [hmi] at q1 q2 q3 q4
 exfalso
 first | omega | exact q3 hmt
 intro hg11
 have hp11 := hg11; try simp only [Yt] at hp11
 refine Xj (Xh rfl rfl rfl hg11) (X1 Xm) ?_
 refine Xj (Xh rfl rfl rfl hg11) (Xb rfl) ?_
 have hm1 : 0 ≤ m ∧ m < f.vars.length := by omega
 have hcell3 : Hp.cell? _ (H.size + 1) (0 + m.toNat * 1) = some (.bool (decide (m ∈ f.order.take i))) := (Z7 kg1).trans (by
  rw [Nat.zero_add, Nat.mul_one, List.getElem?_map, hseen.at hm1.1 hm1.2]; rfl)
 refine Xj (Xh rfl rfl rfl hg11) (Xt rfl rfl Tryz.underlying182 inf4.size X6 X6) ?_
 refine Xj (Xh rfl rfl rfl hg11) (Xk rfl Tryz.underlying4 rfl Xp) ?_
 refine Xa (Xl (Yv hg11) rfl) ?_
 refine X5 rfl rfl ?_ ?_
 intro hc13
 have hmt : m ∈ f.order.take i := by simpa using hc13
 refine Xe ?_
 refine Xu ?_
 refine Xa (Xn rfl) ?_
 refine X2 ?_
 refine ⟨.bool false, Xx (Xs rfl), false, rfl, fun h => (by cases h), fun hG => ?_⟩
 obtain ⟨q1, q2, q3, q4⟩ := hG.ok i hix
 rw [hmi] at q1 q2 q3 q4
 exfalso
 first | omega | exact q3 hmt
 intro hc13
 have hmn : m ∉ f.order.take i := by simpa using hc13
 refine X9 ?_
 refine Xe ?_
 have hm0 : 0 ≤ m ∧ m < f.vars.length := by omega
 obtain ⟨b2, o2, rfl, hb2, hcell2⟩ := hs2'.int_at (i := m) (by omega) (by omega)
 obtain ⟨q, hq⟩ : ∃ q, q = f.parent.getD m.toNat 0 := ⟨_, rfl⟩
 rw [← hq] at hcell2
 refine Xu ?_
 refine Xa (Xf (off := 2) Xm Tryz.underlying26 Xm inf23.size (by decide) Xm) ?_
 refine Xa (Xk rfl Tryz.underlying23 rfl Xp) ?_
 refine Xa (Xb rfl) ?_
 refine Xa (Xt rfl rfl Tryz.underlying23 inf3.size X6 X6) ?_
 refine Xa (Xk rfl Tryz.underlying3 rfl Xp) ?_
 refine Xa (Xi rfl) ?_
 refine Xe ?_
 refine Xe ?_
 refine Xu ?_
 refine Xa (Xb rfl) ?_
 refine Xa (Za rfl rfl) ?_
 refine Xa (Xo rfl) ?_
 refine Ya rfl rfl rfl ?_ ?_
 intro hg14
 have hp14 := hg14; try simp only [Yt] at hp14
 refine Xc (Xg rfl rfl rfl hg14 rfl) ?_
 refine Xc (Xg rfl rfl rfl hg14 rfl) ?_
 refine Xc (Xg rfl rfl rfl hg14 rfl) ?_
 refine Xa (Xl (Yv hg14) Xm) ?_
 refine Xa (Xo rfl) ?_
 refine Xc (Xg rfl rfl rfl rfl rfl) ?_
 refine Xc (Xg rfl rfl rfl rfl rfl) ?_
 refine Xc (Xg rfl rfl rfl rfl rfl) ?_
 refine Xc (Yb rfl rfl rfl) ?_
 refine Xc (Yb rfl rfl rfl) ?_
 refine Xc (Yb rfl rfl rfl) ?_
 refine Xc (Yb rfl rfl rfl) ?_
 refine Xc (Yb rfl rfl rfl) ?_
 refine Xc (Xg rfl rfl rfl rfl rfl) ?_
 refine Xa (Xl (congrArg Value.bool Xm) Xm) ?_
 refine Yu rfl rfl ?_
 refine Xe ?_
 refine Xu ?_
 refine Xa (Xn rfl) ?_
 refine X2 ?_
 refine ⟨.bool false, Xx (Xs rfl), false, rfl, fun h => (by cases h), fun hG => ?_⟩
 obtain ⟨q1, q2, q3, q4⟩ := hG.ok i hix
 rw [hmi, ← hq] at q4
 have hpre : ∀ x ∈ f.order.take i, 0 ≤ x ∧ x < f.vars.length := fun x hx => by
  obtain ⟨j, hj, rfl⟩ := List.getElem_of_mem hx
  rw [List.length_take] at hj
  have hj2 := hok j (by omega)
  rw [List.getElem_take]
  have e : f.order.getD j 0 = f.order[j] := Zf (by omega)
  rw [← e]
  exact ⟨hj2.1, hj2.2.1⟩
 exfalso
 rcases q4 with q4 | q4
 ·omega
 ·first | exact hqt q4 | (have := hpre q q4; omega)
 intro hg14
 have hp14 := hg14; try simp only [Yt] at hp14
 refine Xj (Xh rfl rfl rfl hg14) (Xb rfl) ?_
 refine Xj (Xh rfl rfl rfl hg14) (Xb Xm) ?_
 refine Xj (Xh rfl rfl rfl hg14) (av_ge rfl rfl) ?_
 refine Xa (Xl (Yv hg14) rfl) ?_
 refine Xa (Xo rfl) ?_
 refine Ya rfl rfl rfl ?_ ?_
 intro hg16
 have hp16 := hg16; try simp only [Yt] at hp16
 refine Xc (Xg rfl rfl rfl hg16 rfl) ?_
 refine Xc (Xg rfl rfl rfl hg16 rfl) ?_
 refine Xc (Xg rfl rfl rfl hg16 rfl) ?_
 refine Xc (Yb rfl rfl rfl) ?_
 refine Xc (Yb rfl rfl rfl) ?_
 refine Xc (Yb rfl rfl rfl) ?_
 refine Xc (Yb rfl rfl rfl) ?_
 refine Xc (Yb rfl rfl rfl) ?_
 refine Xc (Xg rfl rfl rfl hg16 rfl) ?_
 refine Xa (Xl (Yv hg16) Xm) ?_
 refine Yu rfl rfl ?_
 refine Xe ?_
 refine Xu ?_
 refine Xa (Xn rfl) ?_
 refine X2 ?_
 refine ⟨.bool false, Xx (Xs rfl), false, rfl, fun h => (by cases h), fun hG => ?_⟩
 obtain ⟨q1, q2, q3, q4⟩ := hG.ok i hix
 rw [hmi, ← hq] at q4
 have hpre : ∀ x ∈ f.order.take i, 0 ≤ x ∧ x < f.vars.length := fun x hx => by
  obtain ⟨j, hj, rfl⟩ := List.getElem_of_mem hx
  rw [List.length_take] at hj
  have hj2 := hok j (by omega)
  rw [List.getElem_take]
  have e : f.order.getD j 0 = f.order[j] := Zf (by omega)
  rw [← e]
  exact ⟨hj2.1, hj2.2.1⟩
 exfalso
 rcases q4 with q4 | q4
 ·omega
 ·first | exact hqt q4 | (have := hpre q q4; omega)
 intro hg16
 have hp16 := hg16; try simp only [Yt] at hp16
 refine Xj (Xh rfl rfl rfl hg16) (Xb rfl) ?_
 refine Xj (Xh rfl rfl rfl hg16) (av_ge rfl rfl) ?_
 refine Xj (Xh rfl rfl rfl hg16) (Xo rfl) ?_
 refine Ya rfl rfl rfl ?_ ?_
 intro hg18
 have hp18 := hg18; try simp only [Yt] at hp18
 refine Xj (Xh rfl rfl rfl hg18) (X1 Xm) ?_
 refine Xj (Xh rfl rfl rfl hg18) (Xb rfl) ?_
 have hq1 : 0 ≤ q ∧ q < f.vars.length := by omega
 have hcell4 : Hp.cell? _ (H.size + 1) (0 + q.toNat * 1) = some (.bool (decide (q ∈ f.order.take i))) := (Z7 kg1).trans (by
  rw [Nat.zero_add, Nat.mul_one, List.getElem?_map, hseen.at hq1.1 hq1.2]; rfl)
 refine Xj (Xh rfl rfl rfl hg18) (Xt rfl rfl Tryz.underlying182 inf4.size X6 X6) ?_
 refine Xj (Xh rfl rfl rfl hg18) (Xk rfl Tryz.underlying4 rfl Xp) ?_
 refine Xj (Xh rfl rfl rfl hg18) (Zz rfl) ?_
 refine Xj (Xh rfl rfl rfl hg16) (Xl (Yv hg18) rfl) ?_
 refine Xa (Xl (Yv hg16) rfl) ?_
 refine X5 rfl rfl ?_ ?_
 intro hc19
 have hqt : q ∉ f.order.take i := by simpa using hc19
 refine Xe ?_
 refine Xu ?_
 refine Xa (Xn rfl) ?_
 refine X2 ?_
 refine ⟨.bool false, Xx (Xs rfl), false, rfl, fun h => (by cases h), fun hG => ?_⟩
 obtain ⟨q1, q2, q3, q4⟩ := hG.ok i hix
 rw [hmi, ← hq] at q4
 have hpre : ∀ x ∈ f.order.take i, 0 ≤ x ∧ x < f.vars.length := fun x hx => by
  obtain ⟨j, hj, rfl⟩ := List.getElem_of_mem hx
  rw [List.length_take] at hj
  have hj2 := hok j (by omega)
  rw [List.getElem_take]
  have e : f.order.getD j 0 = f.order[j] := Zf (by omega)
  rw [← e]
  exact ⟨hj2.1, hj2.2.1⟩
 exfalso
 rcases q4 with q4 | q4
 ·omega
 ·first | exact hqt q4 | (have := hpre q q4; omega)
 intro hc19
 have hqm : q ∈ f.order.take i := by simpa using hc19
 refine X9 ?_
 refine Xu ?_
 refine Xa (X1 Xm) ?_
 refine Xa (Xb rfl) ?_
 refine Xa (Xt rfl rfl Tryz.underlying182 inf4.size X6 X6) ?_
 first | refine Xw (Y3 rfl rfl rfl inf4.size Yd Yg rfl ?_)
 refine Xu ?_
 refine Xa (Yn Xm Xm Y0) ?_
 refine Xa (Xb rfl) ?_
 have hq4 : q = -1 ∨ q ∈ f.order.take i := by first | exact .inr hqm | exact .inl (by omega)
 refine ⟨f.order.length - (i + 1), by omega, i + 1, seen.set m.toNat true, by omega, rfl, ?_, ?_, fun j h => ?_, e1, e3, e4, e40, e41, rfl⟩
 ·have := hseen.set hm0.1 hm0.2
  rwa [show f.order.take i ++ [m] = f.order.take (i + 1) by rw [← Y9 hix1, ← hmi, Zf hix1]] at this
 ·exact (Hp.push_put (H.push (.own 0 _)) _ _).trans (by rw [List.map_set, Nat.zero_add, Nat.mul_one]; rfl)
 ·rcases Nat.lt_or_ge j i with h1 | h1
  ·exact hok j h1
  ·obtain rfl : j = i := by omega
   exact ⟨by rw [hmi]; exact hm0.1, by rw [hmi]; exact hm0.2, by rw [hmi]; exact hmn, by rw [hmi, ← hq]; exact hq4⟩
 intro hg18
 have hp18 := hg18; try simp only [Yt] at hp18
 refine Xc (Xg rfl rfl rfl hg18 rfl) ?_
 refine Xc (Xg rfl rfl rfl hg18 rfl) ?_
 refine Xc (Xg rfl rfl rfl hg18 rfl) ?_
 refine Xc (Xg rfl rfl rfl hg18 rfl) ?_
 refine Xc (Xg rfl rfl rfl hg18 rfl) ?_
 refine Xj (Xh rfl rfl rfl hg16) (Xl (Yv hg18) Xm) ?_
 refine Xa (Xl (Yv hg16) rfl) ?_
 refine Y2 rfl rfl ?_
 refine X9 ?_
 refine Xu ?_
 refine Xa (X1 Xm) ?_
 refine Xa (Xb rfl) ?_
 refine Xa (Xt rfl rfl Tryz.underlying182 inf4.size X6 X6) ?_
 first | refine Xw (Y3 rfl rfl rfl inf4.size Yd Yg rfl ?_)
 refine Xu ?_
 refine Xa (Yn Xm Xm Y0) ?_
 refine Xa (Xb rfl) ?_
 have hq4 : q = -1 ∨ q ∈ f.order.take i := by first | exact .inr hqm | exact .inl (by omega)
 refine ⟨f.order.length - (i + 1), by omega, i + 1, seen.set m.toNat true, by omega, rfl, ?_, ?_, fun j h => ?_, e1, e3, e4, e40, e41, rfl⟩
 ·have := hseen.set hm0.1 hm0.2
  rwa [show f.order.take i ++ [m] = f.order.take (i + 1) by rw [← Y9 hix1, ← hmi, Zf hix1]] at this
 ·exact (Hp.push_put (H.push (.own 0 _)) _ _).trans (by rw [List.map_set, Nat.zero_add, Nat.mul_one]; rfl)
 ·rcases Nat.lt_or_ge j i with h1 | h1
  ·exact hok j h1
  ·obtain rfl : j = i := by omega
   exact ⟨by rw [hmi]; exact hm0.1, by rw [hmi]; exact hm0.2, by rw [hmi]; exact hmn, by rw [hmi, ← hq]; exact hq4⟩
 intro hc8
 (try simp only [Yt] at hc8)
 refine Yx ?_
 refine Xe ?_
 refine Xu ?_
 refine Xa (Xn rfl) ?_
 refine X2 ?_
 exact ⟨.bool true, Xx (Xs rfl), true, rfl, fun _ => ⟨hlens.1, hlens.2.1, hlens.2.2.1, hlens.2.2.2, fun j h => hok j (by omega)⟩, fun _ => rfl⟩
theorem GoodF_for (f : Forest) (cs : List Value) (H : Hp) (hp : kForest.rep H f cs) (hl0 : f.vars.length ≤ 1000000) (hl1 : f.order.length ≤ 1000000) (hl2 : f.parent.length ≤ 1000000) :
  ACalls Tryz.prog 128 #[.agg cs.toArray] H (fun r H' => (∃ g, r = .bool g ∧ (g = true ↔ GoodF f)) ∧ H' = H) :=
 ACalls.pure (fun v ⟨g, h, _⟩ => by rw [h]; rfl) (GoodF_for_raw f cs H.ro (kForest.mono H.sees_ro hp) hl0 hl1 hl2)
theorem GoodF_For (f : Forest) (cs : List Value) (H : Hp) (hp : kForest.rep H f cs) (hl0 : f.vars.length ≤ 1000000) (hl1 : f.order.length ≤ 1000000) (hl2 : f.parent.length ≤ 1000000) :
  ACalls Tryz.prog 106 #[.agg cs.toArray] H (fun r H' => (∃ g, r = .bool g ∧ (g = true ↔ GoodF f)) ∧ H' = H) := by
 refine ACalls.pure (R := fun r => ∃ g, r = .bool g ∧ (g = true ↔ GoodF f)) (fun v ⟨g, h, _⟩ => by rw [h]; rfl) ?_
 have hp' := kForest.mono H.sees_ro hp
 have hp0 := hp'
 obtain ⟨v0, v1, v2, v3, v4, rfl, hs0, hs1, hs2, hs3, hs4⟩ := hp'
 obtain ⟨A0, c0, rfl⟩ := hs0.shape
 obtain ⟨A1, c1, rfl⟩ := hs1.shape
 obtain ⟨A2, c2, rfl⟩ := hs2.shape
 obtain ⟨A3, c3, rfl⟩ := hs3.shape
 obtain ⟨A4, c4, rfl⟩ := hs4.shape
 refine Xv Tryz.func106 rfl rfl rfl (by simp) ?_
 refine Xe ?_
 refine Xu ?_
 refine Xz (Yw rfl) ?_
 refine Xa (Xn rfl) ?_
 refine Xe ?_
 refine Xu ?_
 refine Xa (Yl (cs := [.slice _ _ _, .slice _ _ _, .slice _ _ _, .slice _ _ _, .slice _ _ _]) rfl Tryz.underlying26 rfl inf26.size X8) ?_
 refine Xw (Xy (GoodF_for f _ _ (kForest.mono (Hp.le_push _ _).sees hp0) hl0 hl1 hl2) rfl Tryz.func128 rfl rfl rfl ?_)
 rintro v2 H2 ⟨⟨g, rfl, hg⟩, rfl⟩
 refine Xa (Xn rfl) ?_
 refine X2 ?_
 exact ⟨.bool g, Xx (Xs rfl), g, rfl, hg⟩
theorem In_link (n : Int) (H : Hp) : ACalls Tryz.prog 129 #[.int .i64 n] H (fun r H' => r = .bool (decide (0 ≤ n) && decide (n < 10000)) ∧ H' = H) := by
 refine Xv Tryz.func129 rfl rfl rfl (by simp) ?_
 refine Xe ?_
 refine Xu ?_
 refine Xa (Xn rfl) ?_
 refine Xe ?_
 refine Xu ?_
 refine Xa (Xb rfl) ?_
 refine Xa (av_ge rfl rfl) ?_
 refine Xa (Xo rfl) ?_
 refine Ya rfl rfl rfl ?_ ?_
 intro hg1
 have hp1 := hg1; try simp only [Yt] at hp1
 refine Xj (Xh rfl rfl rfl hg1) (Xb rfl) ?_
 refine Xj (Xh rfl rfl rfl hg1) (Za rfl rfl) ?_
 refine Xa (Xl (Yv hg1) rfl) ?_
 refine Xa (Xn rfl) ?_
 refine X2 ?_
 ·refine ⟨.bool (decide (0 ≤ n) && decide (n < 10000)), Xx (Xs ?_), rfl, rfl⟩
  show Value.bool _ = _
  congr 1
  first | (simp_all; done) | (simp_all; omega)
 intro hg1
 have hp1 := hg1; try simp only [Yt] at hp1
 refine Xc (Xg rfl rfl rfl hg1 rfl) ?_
 refine Xc (Xg rfl rfl rfl hg1 rfl) ?_
 refine Xa (Xl (Yv hg1) rfl) ?_
 refine Xa (Xn rfl) ?_
 refine X2 ?_
 ·refine ⟨.bool (decide (0 ≤ n) && decide (n < 10000)), Xx (Xs ?_), rfl, rfl⟩
  show Value.bool _ = _
  congr 1
  first | (simp_all; done) | (simp_all; omega)
theorem not_in {a : Int} (h : (!(decide (0 ≤ a) && decide (a < 10000))) = true) : ¬ (0 ≤ a ∧ a ≤ 9999) := fun ⟨h1, h2⟩ => by
 rw [decide_eq_true h1, decide_eq_true (by omega)] at h; cases h
theorem is_in {a : Int} (h : (!(decide (0 ≤ a) && decide (a < 10000))) = false) : 0 ≤ a ∧ a ≤ 9999 := by
 simp at h; omega
theorem less_key {x y : Link} (h1 : 0 ≤ x.b) (h2 : x.b ≤ 9999) (h3 : 0 ≤ y.b) (h4 : y.b ≤ 9999) : Vy x y = true ↔ keyI x < keyI y := by
 unfold Vy keyI
 simp only [Bool.or_eq_true, Bool.and_eq_true, decide_eq_true_eq]
 omega
theorem PGood_raw (xs : List Link) (v : Value) (H : Hp) (hs : Sl kLink H v xs) (hl : xs.length ≤ 9223372036854775807) :
  ACalls Tryz.prog 108 #[v] H (fun r _ => ∃ g, r = .bool g ∧ (g = true ↔ GoodL xs)) := by
 obtain ⟨A, c, rfl⟩ := hs.shape
 refine Xv Tryz.func108 rfl rfl rfl (by simp) ?_
 refine Xe ?_
 refine Xu ?_
 refine Xa (Xn rfl) ?_
 refine Xe ?_
 refine Xu ?_
 refine Xa (U4 rfl) ?_
 refine Xe ?_
 refine Xe ?_
 refine Xu ?_
 refine Xa (X1 rfl) ?_
 refine Xa (Ys rfl Tryz.underlying83) ?_
 refine Xa (Xb rfl) ?_
 refine Ye ?_
 refine Y5 (fun n t H' => ∃ (i : Nat), i ≤ xs.length ∧ n = xs.length - i ∧ H.le H' ∧ (∀ (j : Nat) (h : j < xs.length), j < i → OkL xs[j] ∧ (0 < j → Vy (xs[j - 1]'(by omega)) xs[j] = true)) ∧ t 0 = .slice A xs.length c ∧ t 3 = .func (.func 129) #[] #[] ∧ t 6 = .slice A xs.length c ∧ t 7 = .int .i64 xs.length ∧ t 8 = .int .i64 i) (xs.length) (⟨0, by omega, rfl, Hp.le_refl _, fun j h h0 => by omega, rfl, rfl, rfl, rfl, rfl⟩) ?_
 rintro n t H1 ⟨i, hi, rfl, hle, hok, e0, e3, e6, e7, e8⟩
 refine Xe ?_
 refine Xu ?_
 refine Xa (Za Xm Xm) ?_
 refine Xe ?_
 refine X5 rfl rfl ?_ ?_
 intro hc1
 (try simp only [Yt] at hc1)
 refine X9 ?_
 refine Xe ?_
 refine Ye ?_
 refine Xe ?_
 refine Xu ?_
 refine Xa (Xb Xm) ?_
 have hix : i < xs.length := by omega
 obtain ⟨b, o, rfl, hb, hcell0⟩ := (hs.mono hle.sees).link_at hix
 have hbl : b < H1.size := hb
 refine Xa (Xt Xm Xm Tryz.underlying83 inf96.size X6 X6) ?_
 refine Xa (Yl (cs := [.int .i64 _, .int .i64 _, .int .i64 _, .int .u64 _]) rfl Tryz.underlying96 rfl inf96.size X8) ?_
 refine Xz (Yz (l := [.int .i64 0, .int .i64 0, .int .i64 0, .int .u64 0]) inf96.zero rfl (by decide)) ?_
 refine Xa (Xi rfl) ?_
 first | refine Xw (Yf (vs := [.int .i64 _, .int .i64 _, .int .i64 _, .int .u64 _]) rfl rfl inf96.size Yd Yg rfl rfl ?_)
 refine Xe ?_
 refine Yy (by kernel_rfl) (Y4 (B := [0, 0, 2, 7, 15, 31, 63, 63, 191, 511, 1023, 2047, 4095, 8191, 16383, 32767, 65535, 131071, 262143, 524287, 1048575, 2097151, 4194303, 8388607, 16777215, 33554431, 67108863, 134217727, 268435455, 536870911, 1073741823, 2147483647, 2147483647, 6442450943, 17179869183, 34359738367, 68719476735, 2147483647, 274877906943, 549755813887, 1099511627775, 2199023255551]) (π := [0, 1, 2, 3, 4, 5, 6, 7, 8, 9, 10, 11, 12, 13, 14, 15, 16, 17, 18, 19, 20, 21, 22, 23, 24, 25, 26, 27, 28, 29, 30, 31, 32, 33, 34, 35, 37, 36, 38, 39, 40, 41]) (by kernel_rfl)) ?_
 refine Xd rfl rfl (Vd Xm) Xq ?_
 refine Xd rfl rfl (Xf (off := 0) rfl Tryz.underlying96 rfl inf3.size (by decide) rfl) Xq ?_
 refine Xd rfl rfl (Xk rfl Tryz.underlying3 rfl Xp) Xq ?_
 refine Ym rfl rfl (Xy (In_link _ _) rfl Tryz.func129 rfl rfl rfl ?_)
 rintro v H ⟨rfl, rfl⟩
 refine ⟨Yk, ?_⟩
 refine Xd rfl rfl (Zz rfl) Xq ?_
 refine Xd rfl rfl (Xo rfl) Xq ?_
 refine Va rfl rfl rfl rfl ?_ ?_
 intro hg2
 have hna := not_in hg2
 refine X7 rfl (Xg rfl rfl rfl hg2 rfl) ?_
 refine X7 rfl (Xg rfl rfl rfl hg2 rfl) ?_
 refine X7 rfl (Xg rfl rfl rfl hg2 rfl) ?_
 refine X7 rfl (Xg rfl rfl rfl hg2 rfl) ?_
 refine X7 rfl (Xg rfl rfl rfl hg2 rfl) ?_
 refine Xd rfl rfl (Xl (Yv hg2) Xm) Xq ?_
 refine Xd rfl rfl (Xo rfl) Xq ?_
 refine X7 rfl (Xg rfl rfl rfl rfl rfl) ?_
 refine X7 rfl (Xg rfl rfl rfl rfl rfl) ?_
 refine X7 rfl (Xg rfl rfl rfl rfl rfl) ?_
 refine Xd rfl rfl (Xl (congrArg Value.bool Xm) Xm) Xq ?_
 refine Xd rfl rfl (Xo rfl) Xq ?_
 refine X7 rfl (Xg rfl rfl rfl rfl rfl) ?_
 refine X7 rfl (Xg rfl rfl rfl rfl rfl) ?_
 refine X7 rfl (Xg rfl rfl rfl rfl rfl) ?_
 refine Xd rfl rfl (Xl (congrArg Value.bool Xm) Xm) Xq ?_
 refine Xd rfl rfl (Xo rfl) Xq ?_
 refine X7 rfl (Xg rfl rfl rfl rfl rfl) ?_
 refine X7 rfl (Xg rfl rfl rfl rfl rfl) ?_
 refine X7 rfl (Xg rfl rfl rfl rfl rfl) ?_
 refine Xd rfl rfl (Xl (congrArg Value.bool Xm) Xm) Xq ?_
 refine Xd rfl rfl (Xo rfl) Xq ?_
 refine X7 rfl (Xg rfl rfl rfl rfl rfl) ?_
 refine X7 rfl (Xg rfl rfl rfl rfl rfl) ?_
 refine X7 rfl (Xg rfl rfl rfl rfl rfl) ?_
 refine X7 rfl (Yb rfl rfl rfl) ?_
 refine X7 rfl (Yb rfl rfl rfl) ?_
 refine X7 rfl (Yb rfl rfl rfl) ?_
 refine X7 rfl (Yb rfl rfl rfl) ?_
 refine X7 rfl (Yb rfl rfl rfl) ?_
 refine X7 rfl (Yb rfl rfl rfl) ?_
 refine X7 rfl (Yb rfl rfl rfl) ?_
 refine X7 rfl (Yb rfl rfl rfl) ?_
 refine X7 rfl (Yb rfl rfl rfl) ?_
 refine X7 rfl (Xg rfl rfl rfl rfl rfl) ?_
 refine Xd rfl rfl (Xl (congrArg Value.bool Xm) Xm) Xq ?_
 refine Yu rfl rfl ?_
 refine Xe ?_
 refine Xu ?_
 refine Xa (Xn rfl) ?_
 refine X2 ?_
 refine ⟨.bool false, Xx (Xs rfl), false, rfl, fun h => (by cases h), fun hG => ?_⟩
 obtain ⟨⟨g1, g2, g3, g4, g5, g6, g7⟩, g8⟩ := hG i hix
 exfalso
 first
  | exact hna ⟨g1, g2⟩
  | exact hnb ⟨g3, g4⟩
  | (have h9 := (less_key p3 p4 g3 g4).1 (g8 hi0); omega)
  | omega
 intro hg2
 have hya := is_in hg2
 refine Yr rfl (Xh rfl rfl rfl hg2) rfl (Vd Xm) Xq ?_
 refine Yr rfl (Xh rfl rfl rfl hg2) rfl (Xf (off := 1) rfl Tryz.underlying96 rfl inf3.size (by decide) rfl) Xq ?_
 refine Yr rfl (Xh rfl rfl rfl hg2) rfl (Xk rfl Tryz.underlying3 rfl Xp) Xq ?_
 refine adr_wop rfl (Xh rfl rfl rfl hg2) rfl (Xy (In_link _ _) rfl Tryz.func129 rfl rfl rfl ?_)
 rintro v H ⟨rfl, rfl⟩
 refine ⟨Yk, ?_⟩
 refine Yr rfl (Xh rfl rfl rfl hg2) rfl (Zz rfl) Xq ?_
 refine Xd rfl rfl (Xl (Yv hg2) rfl) Xq ?_
 refine Xd rfl rfl (Xo rfl) Xq ?_
 refine Va rfl rfl rfl rfl ?_ ?_
 intro hg4
 have hnb := not_in hg4
 refine X7 rfl (Xg rfl rfl rfl hg4 rfl) ?_
 refine X7 rfl (Xg rfl rfl rfl hg4 rfl) ?_
 refine X7 rfl (Xg rfl rfl rfl hg4 rfl) ?_
 refine Xd rfl rfl (Xl (Yv hg4) Xm) Xq ?_
 refine Xd rfl rfl (Xo rfl) Xq ?_
 refine X7 rfl (Xg rfl rfl rfl rfl rfl) ?_
 refine X7 rfl (Xg rfl rfl rfl rfl rfl) ?_
 refine X7 rfl (Xg rfl rfl rfl rfl rfl) ?_
 refine Xd rfl rfl (Xl (congrArg Value.bool Xm) Xm) Xq ?_
 refine Xd rfl rfl (Xo rfl) Xq ?_
 refine X7 rfl (Xg rfl rfl rfl rfl rfl) ?_
 refine X7 rfl (Xg rfl rfl rfl rfl rfl) ?_
 refine X7 rfl (Xg rfl rfl rfl rfl rfl) ?_
 refine Xd rfl rfl (Xl (congrArg Value.bool Xm) Xm) Xq ?_
 refine Xd rfl rfl (Xo rfl) Xq ?_
 refine X7 rfl (Xg rfl rfl rfl rfl rfl) ?_
 refine X7 rfl (Xg rfl rfl rfl rfl rfl) ?_
 refine X7 rfl (Xg rfl rfl rfl rfl rfl) ?_
 refine X7 rfl (Yb rfl rfl rfl) ?_
 refine X7 rfl (Yb rfl rfl rfl) ?_
 refine X7 rfl (Yb rfl rfl rfl) ?_
 refine X7 rfl (Yb rfl rfl rfl) ?_
 refine X7 rfl (Yb rfl rfl rfl) ?_
 refine X7 rfl (Yb rfl rfl rfl) ?_
 refine X7 rfl (Yb rfl rfl rfl) ?_
 refine X7 rfl (Yb rfl rfl rfl) ?_
 refine X7 rfl (Yb rfl rfl rfl) ?_
 refine X7 rfl (Xg rfl rfl rfl rfl rfl) ?_
 refine Xd rfl rfl (Xl (congrArg Value.bool Xm) Xm) Xq ?_
 refine Yu rfl rfl ?_
 refine Xe ?_
 refine Xu ?_
 refine Xa (Xn rfl) ?_
 refine X2 ?_
 refine ⟨.bool false, Xx (Xs rfl), false, rfl, fun h => (by cases h), fun hG => ?_⟩
 obtain ⟨⟨g1, g2, g3, g4, g5, g6, g7⟩, g8⟩ := hG i hix
 exfalso
 first
  | exact hna ⟨g1, g2⟩
  | exact hnb ⟨g3, g4⟩
  | (have h9 := (less_key p3 p4 g3 g4).1 (g8 hi0); omega)
  | omega
 intro hg4
 have hyb := is_in hg4
 refine Yr rfl (Xh rfl rfl rfl hg4) rfl (Xf (off := 2) rfl Tryz.underlying96 rfl inf3.size (by decide) rfl) Xq ?_
 refine Yr rfl (Xh rfl rfl rfl hg4) rfl (Xk rfl Tryz.underlying3 rfl Xp) Xq ?_
 refine Yr rfl (Xh rfl rfl rfl hg4) rfl (Za rfl rfl) Xq ?_
 refine Xd rfl rfl (Xl (Yv hg4) rfl) Xq ?_
 refine Xd rfl rfl (Xo rfl) Xq ?_
 refine Va rfl rfl rfl rfl ?_ ?_
 intro hg6
 have hp6 := hg6; try simp only [Yt] at hp6
 refine X7 rfl (Xg rfl rfl rfl hg6 rfl) ?_
 refine X7 rfl (Xg rfl rfl rfl hg6 rfl) ?_
 refine X7 rfl (Xg rfl rfl rfl hg6 rfl) ?_
 refine Xd rfl rfl (Xl (Yv hg6) Xm) Xq ?_
 refine Xd rfl rfl (Xo rfl) Xq ?_
 refine X7 rfl (Xg rfl rfl rfl rfl rfl) ?_
 refine X7 rfl (Xg rfl rfl rfl rfl rfl) ?_
 refine X7 rfl (Xg rfl rfl rfl rfl rfl) ?_
 refine Xd rfl rfl (Xl (congrArg Value.bool Xm) Xm) Xq ?_
 refine Xd rfl rfl (Xo rfl) Xq ?_
 refine X7 rfl (Xg rfl rfl rfl rfl rfl) ?_
 refine X7 rfl (Xg rfl rfl rfl rfl rfl) ?_
 refine X7 rfl (Xg rfl rfl rfl rfl rfl) ?_
 refine X7 rfl (Yb rfl rfl rfl) ?_
 refine X7 rfl (Yb rfl rfl rfl) ?_
 refine X7 rfl (Yb rfl rfl rfl) ?_
 refine X7 rfl (Yb rfl rfl rfl) ?_
 refine X7 rfl (Yb rfl rfl rfl) ?_
 refine X7 rfl (Yb rfl rfl rfl) ?_
 refine X7 rfl (Yb rfl rfl rfl) ?_
 refine X7 rfl (Yb rfl rfl rfl) ?_
 refine X7 rfl (Yb rfl rfl rfl) ?_
 refine X7 rfl (Xg rfl rfl rfl rfl rfl) ?_
 refine Xd rfl rfl (Xl (congrArg Value.bool Xm) Xm) Xq ?_
 refine Yu rfl rfl ?_
 refine Xe ?_
 refine Xu ?_
 refine Xa (Xn rfl) ?_
 refine X2 ?_
 refine ⟨.bool false, Xx (Xs rfl), false, rfl, fun h => (by cases h), fun hG => ?_⟩
 obtain ⟨⟨g1, g2, g3, g4, g5, g6, g7⟩, g8⟩ := hG i hix
 exfalso
 first
  | exact hna ⟨g1, g2⟩
  | exact hnb ⟨g3, g4⟩
  | (have h9 := (less_key p3 p4 g3 g4).1 (g8 hi0); omega)
  | omega
 intro hg6
 have hp6 := hg6; try simp only [Yt] at hp6
 refine Yr rfl (Xh rfl rfl rfl hg6) rfl (Xf (off := 3) rfl Tryz.underlying96 rfl inf30.size (by decide) rfl) Xq ?_
 refine Yr rfl (Xh rfl rfl rfl hg6) rfl (Xk rfl Tryz.underlying30 rfl Xp) Xq ?_
 refine Yr rfl (Xh rfl rfl rfl hg6) rfl (Za rfl rfl) Xq ?_
 refine Xd rfl rfl (Xl (Yv hg6) rfl) Xq ?_
 refine Xd rfl rfl (Xo rfl) Xq ?_
 refine Va rfl rfl rfl rfl ?_ ?_
 intro hg8
 have hp8 := hg8; try simp only [Yt] at hp8
 refine X7 rfl (Xg rfl rfl rfl hg8 rfl) ?_
 refine X7 rfl (Xg rfl rfl rfl hg8 rfl) ?_
 refine X7 rfl (Xg rfl rfl rfl hg8 rfl) ?_
 refine Xd rfl rfl (Xl (Yv hg8) Xm) Xq ?_
 refine Xd rfl rfl (Xo rfl) Xq ?_
 refine X7 rfl (Xg rfl rfl rfl rfl rfl) ?_
 refine X7 rfl (Xg rfl rfl rfl rfl rfl) ?_
 refine X7 rfl (Xg rfl rfl rfl rfl rfl) ?_
 refine X7 rfl (Yb rfl rfl rfl) ?_
 refine X7 rfl (Yb rfl rfl rfl) ?_
 refine X7 rfl (Yb rfl rfl rfl) ?_
 refine X7 rfl (Yb rfl rfl rfl) ?_
 refine X7 rfl (Yb rfl rfl rfl) ?_
 refine X7 rfl (Yb rfl rfl rfl) ?_
 refine X7 rfl (Yb rfl rfl rfl) ?_
 refine X7 rfl (Yb rfl rfl rfl) ?_
 refine X7 rfl (Yb rfl rfl rfl) ?_
 refine X7 rfl (Xg rfl rfl rfl rfl rfl) ?_
 refine Xd rfl rfl (Xl (congrArg Value.bool Xm) Xm) Xq ?_
 refine Yu rfl rfl ?_
 refine Xe ?_
 refine Xu ?_
 refine Xa (Xn rfl) ?_
 refine X2 ?_
 refine ⟨.bool false, Xx (Xs rfl), false, rfl, fun h => (by cases h), fun hG => ?_⟩
 obtain ⟨⟨g1, g2, g3, g4, g5, g6, g7⟩, g8⟩ := hG i hix
 exfalso
 first
  | exact hna ⟨g1, g2⟩
  | exact hnb ⟨g3, g4⟩
  | (have h9 := (less_key p3 p4 g3 g4).1 (g8 hi0); omega)
  | omega
 intro hg8
 have hp8 := hg8; try simp only [Yt] at hp8
 refine Yr rfl (Xh rfl rfl rfl hg8) rfl (Xf (off := 3) rfl Tryz.underlying96 rfl inf30.size (by decide) rfl) Xq ?_
 refine Yr rfl (Xh rfl rfl rfl hg8) rfl (Xk rfl Tryz.underlying30 rfl Xp) Xq ?_
 refine Yr rfl (Xh rfl rfl rfl hg8) rfl (Vu rfl rfl) Xq ?_
 refine Xd rfl rfl (Xl (Yv hg8) rfl) Xq ?_
 refine Xd rfl rfl (Xo rfl) Xq ?_
 refine Va rfl rfl rfl rfl ?_ ?_
 intro hg10
 have hp10 := hg10; try simp only [Yt] at hp10
 refine X7 rfl (Xg rfl rfl rfl hg10 rfl) ?_
 refine X7 rfl (Xg rfl rfl rfl hg10 rfl) ?_
 refine X7 rfl (Xg rfl rfl rfl hg10 rfl) ?_
 refine X7 rfl (Yb rfl rfl rfl) ?_
 refine X7 rfl (Yb rfl rfl rfl) ?_
 refine X7 rfl (Yb rfl rfl rfl) ?_
 refine X7 rfl (Yb rfl rfl rfl) ?_
 refine X7 rfl (Yb rfl rfl rfl) ?_
 refine X7 rfl (Yb rfl rfl rfl) ?_
 refine X7 rfl (Yb rfl rfl rfl) ?_
 refine X7 rfl (Yb rfl rfl rfl) ?_
 refine X7 rfl (Yb rfl rfl rfl) ?_
 refine X7 rfl (Xg rfl rfl rfl hg10 rfl) ?_
 refine Xd rfl rfl (Xl (Yv hg10) Xm) Xq ?_
 refine Yu rfl rfl ?_
 refine Xe ?_
 refine Xu ?_
 refine Xa (Xn rfl) ?_
 refine X2 ?_
 refine ⟨.bool false, Xx (Xs rfl), false, rfl, fun h => (by cases h), fun hG => ?_⟩
 obtain ⟨⟨g1, g2, g3, g4, g5, g6, g7⟩, g8⟩ := hG i hix
 exfalso
 first
  | exact hna ⟨g1, g2⟩
  | exact hnb ⟨g3, g4⟩
  | (have h9 := (less_key p3 p4 g3 g4).1 (g8 hi0); omega)
  | omega
 intro hg10
 have hp10 := hg10; try simp only [Yt] at hp10
 refine Yr rfl (Xh rfl rfl rfl hg10) rfl (Xb rfl) Xq ?_
 refine Yr rfl (Xh rfl rfl rfl hg10) rfl (Vu rfl rfl) Xq ?_
 refine Yr rfl (Xh rfl rfl rfl hg10) rfl (Xo rfl) Xq ?_
 refine Va rfl rfl rfl rfl ?_ ?_
 intro hg12
 have hp12 := hg12; try simp only [Yt] at hp12
 refine Yr rfl (Xh rfl rfl rfl hg12) rfl (X1 Xm) Xq ?_
 refine Yr rfl (Xh rfl rfl rfl hg12) rfl (Xb rfl) Xq ?_
 refine Yr rfl (Xh rfl rfl rfl hg12) rfl (av_sub_is (r := ((i - 1 : Nat) : Int)) rfl rfl (by omega) (by omega)) Xq ?_
 have hi0 : 0 < i := by omega
 have hix1 : i - 1 < xs.length := by omega
 obtain ⟨b2, o2, e2, hb2, hcell2⟩ := (hs.mono hle.sees).link_at hix1
 simp only [Option.some.injEq, Addr.mk.injEq, and_true] at e2
 obtain ⟨rfl, rfl⟩ := e2
 obtain ⟨p1, p2, p3, p4, p5, p6, p7⟩ := (hok (i - 1) hix1 (by omega)).1
 refine Yr rfl (Xh rfl rfl rfl hg12) rfl (Xt rfl rfl Tryz.underlying83 inf96.size X6 X6) Xq ?_
 refine Yr rfl (Xh rfl rfl rfl hg12) rfl (Yl (cs := [.int .i64 _, .int .i64 _, .int .i64 _, .int .u64 _]) rfl Tryz.underlying96 rfl inf96.size X8) Xq ?_
 refine Yr rfl (Xh rfl rfl rfl hg12) rfl (Yl (cs := [.int .i64 _, .int .i64 _, .int .i64 _, .int .u64 _]) rfl Tryz.underlying96 rfl inf96.size X8) Xq ?_
 refine adr_wop rfl (Xh rfl rfl rfl hg12) rfl (Xy (key_link xs[i - 1] _ p1 p2 p3 p4) rfl Tryz.func130 rfl rfl rfl ?_)
 rintro v H ⟨rfl, rfl⟩
 refine ⟨Yk, ?_⟩
 refine adr_wop rfl (Xh rfl rfl rfl hg12) rfl (Xy (key_link xs[i] _ hya.1 hya.2 hyb.1 hyb.2) rfl Tryz.func130 rfl rfl rfl ?_)
 rintro v H ⟨rfl, rfl⟩
 refine ⟨Yk, ?_⟩
 refine Yr rfl (Xh rfl rfl rfl hg12) rfl (av_ge rfl rfl) Xq ?_
 refine Yr rfl (Xh rfl rfl rfl hg10) rfl (Xl (Yv hg12) rfl) Xq ?_
 refine Xd rfl rfl (Xl (Yv hg10) rfl) Xq ?_
 refine X5 rfl rfl ?_ ?_
 intro hc13
 have hge : keyI xs[i] ≤ keyI (xs[i - 1]'(by omega)) := of_decide_eq_true hc13
 refine Xe ?_
 refine Xu ?_
 refine Xa (Xn rfl) ?_
 refine X2 ?_
 refine ⟨.bool false, Xx (Xs rfl), false, rfl, fun h => (by cases h), fun hG => ?_⟩
 obtain ⟨⟨g1, g2, g3, g4, g5, g6, g7⟩, g8⟩ := hG i hix
 exfalso
 first
  | exact hna ⟨g1, g2⟩
  | exact hnb ⟨g3, g4⟩
  | (have h9 := (less_key p3 p4 g3 g4).1 (g8 hi0); omega)
  | omega
 intro hc13
 have hlt : ¬ keyI xs[i] ≤ keyI (xs[i - 1]'(by omega)) := of_decide_eq_false hc13
 refine X9 ?_
 refine Xu ?_
 refine Xa (Yn Xm Xm Y0) ?_
 refine Xa (Xb rfl) ?_
 refine ⟨xs.length - (i + 1), by omega, i + 1, by omega, rfl, t_le, fun j h h0 => ?_, e0, e3, e6, e7, rfl⟩
 rcases Nat.lt_or_ge j i with h1 | h1
 ·exact hok j h h1
 ·obtain rfl : j = i := by omega
  exact ⟨⟨hya.1, hya.2, hyb.1, hyb.2, by omega, by omega, by omega⟩, fun h2 => by first | omega | exact (less_key p3 p4 hyb.1 hyb.2).2 (by omega)⟩
 intro hg12
 have hp12 := hg12; try simp only [Yt] at hp12
 refine X7 rfl (Xg rfl rfl rfl hg12 rfl) ?_
 refine X7 rfl (Xg rfl rfl rfl hg12 rfl) ?_
 refine X7 rfl (Xg rfl rfl rfl hg12 rfl) ?_
 refine X7 rfl (Xg rfl rfl rfl hg12 rfl) ?_
 refine X7 rfl (Xg rfl rfl rfl hg12 rfl) ?_
 refine X7 rfl (Xg rfl rfl rfl hg12 rfl) ?_
 refine X7 rfl (Xg rfl rfl rfl hg12 rfl) ?_
 refine X7 rfl (Xg rfl rfl rfl hg12 rfl) ?_
 refine X7 rfl (Xg rfl rfl rfl hg12 rfl) ?_
 refine Yr rfl (Xh rfl rfl rfl hg10) rfl (Xl (Yv hg12) Xm) Xq ?_
 refine Xd rfl rfl (Xl (Yv hg10) rfl) Xq ?_
 refine Y2 rfl rfl ?_
 refine X9 ?_
 refine Xu ?_
 refine Xa (Yn Xm Xm Y0) ?_
 refine Xa (Xb rfl) ?_
 refine ⟨xs.length - (i + 1), by omega, i + 1, by omega, rfl, t_le, fun j h h0 => ?_, e0, e3, e6, e7, rfl⟩
 rcases Nat.lt_or_ge j i with h1 | h1
 ·exact hok j h h1
 ·obtain rfl : j = i := by omega
  exact ⟨⟨hya.1, hya.2, hyb.1, hyb.2, by omega, by omega, by omega⟩, fun h2 => by first | omega | exact (less_key p3 p4 hyb.1 hyb.2).2 (by omega)⟩
 intro hc1
 (try simp only [Yt] at hc1)
 refine Yx ?_
 refine Xe ?_
 refine Xu ?_
 refine Xa (Xn rfl) ?_
 refine X2 ?_
 refine ⟨.bool true, Xx (Xs rfl), true, rfl, fun _ j h => hok j h (by omega), fun _ => rfl⟩
theorem PGood_links (xs : List Link) (v : Value) (H : Hp) (hs : Sl kLink H v xs) (hl : xs.length ≤ 9223372036854775807) :
  ACalls Tryz.prog 108 #[v] H (fun r H' => (∃ g, r = .bool g ∧ (g = true ↔ GoodL xs)) ∧ H' = H) :=
 ACalls.pure (fun v ⟨g, h, _⟩ => by rw [h]; rfl) (PGood_raw xs v H.ro (hs.mono H.sees_ro) hl)
theorem Away_link (x : Link) (H : Hp) : ACalls Tryz.prog 107 #[.agg #[.int .i64 x.a, .int .i64 x.b, .int .i64 x.cost, .int .u64 x.n]] H (fun r H' => r = .bool (decide (x.a ≠ x.b)) ∧ H' = H) := by
 refine ACalls.pure (R := fun r => r = .bool (decide (x.a ≠ x.b))) (fun v h => by rw [h]; rfl) ?_
 refine Xv Tryz.func107 rfl rfl rfl (by simp) ?_
 refine Xe ?_
 refine Xu ?_
 refine Xz (Yw rfl) ?_
 refine Xa (Xn rfl) ?_
 refine Xe ?_
 refine Xu ?_
 refine Xa (Xf (off := 0) rfl Tryz.underlying96 rfl inf3.size (by decide) rfl) ?_
 refine Xa (Xk rfl Tryz.underlying3 rfl Xp) ?_
 refine Xa (Xf (off := 1) rfl Tryz.underlying96 rfl inf3.size (by decide) rfl) ?_
 refine Xa (Xk rfl Tryz.underlying3 rfl Xp) ?_
 refine Xa (Zw rfl rfl) ?_
 refine Xa (Xn rfl) ?_
 refine X2 ?_
 exact ⟨_, Xx (Xs rfl), rfl⟩
theorem Index_raw (xs : List Link) (v : Value) (H : Hp) (hs : Sl kLink H v xs) (hl : xs.length ≤ 9223372036854775807) :
  ACalls Tryz.prog 131 #[v, .func (.func 107) #[] #[]] H (fun r _ => ∃ k : Int, r = .int .i64 k ∧ -1 ≤ k ∧ (0 ≤ k ↔ ¬ ∀ x ∈ xs, x.a = x.b)) := by
 obtain ⟨A, c, rfl⟩ := hs.shape
 refine Xv Tryz.func131 rfl rfl rfl (by simp) ?_
 refine Xe ?_
 refine Xu ?_
 refine Xa (Xi rfl) ?_
 refine Xe ?_
 refine Xe ?_
 refine Xu ?_
 refine Xa (X1 rfl) ?_
 refine Xa (Ys rfl Tryz.underlying83) ?_
 refine Xa (Xb rfl) ?_
 refine Ye ?_
 refine Y5 (fun n t H' => ∃ (i : Nat), i ≤ xs.length ∧ n = xs.length - i ∧ H' = H ∧ (∀ x ∈ xs.take i, x.a = x.b) ∧ t 0 = .slice A xs.length c ∧ t 1 = .func (.func 107) #[] #[] ∧ t 7 = .int .i64 xs.length ∧ t 8 = .int .i64 i) (xs.length) (⟨0, by omega, rfl, rfl, by simp, rfl, rfl, rfl, rfl⟩) ?_
 rintro n t _ ⟨i, hi, rfl, rfl, hno, e0, e1, e7, e8⟩
 refine Xe ?_
 refine Xu ?_
 refine Xa (Za Xm Xm) ?_
 refine Xe ?_
 refine X5 rfl rfl ?_ ?_
 intro hc1
 (try simp only [Yt] at hc1)
 refine X9 ?_
 refine Xe ?_
 refine Ye ?_
 refine Xe ?_
 refine Xu ?_
 refine Xa (Xb Xm) ?_
 refine Xa (Xi rfl) ?_
 refine Xe ?_
 refine Xu ?_
 refine Xa (Vd Xm) ?_
 refine Xa (X1 Xm) ?_
 refine Xa (Xb rfl) ?_
 have hix : i < xs.length := by omega
 obtain ⟨b, o, rfl, hb, hcell1⟩ := hs.link_at hix
 refine Xa (Xt rfl rfl Tryz.underlying83 inf96.size X6 X6) ?_
 refine Xa (Yl (cs := [.int .i64 _, .int .i64 _, .int .i64 _, .int .u64 _]) rfl Tryz.underlying96 rfl inf96.size X8) ?_
 refine Xw (Xy (Away_link xs[i] _) rfl Tryz.func107 rfl rfl rfl ?_)
 rintro v5 H1 ⟨rfl, rfl⟩
 refine X5 rfl rfl ?_ ?_
 intro hc2
 have hne : xs[i].a ≠ xs[i].b := of_decide_eq_true hc2
 refine Xe ?_
 refine Xu ?_
 refine Xa (Xb rfl) ?_
 refine Xa (Xi rfl) ?_
 refine X2 ?_
 exact ⟨.int .i64 i, Xx (Xs Xm), i, rfl, by omega, fun _ h => hne (h _ (List.getElem_mem hix)), fun _ => by omega⟩
 intro hc2
 have heq : xs[i].a = xs[i].b := Decidable.not_not.1 (of_decide_eq_false hc2)
 refine X9 ?_
 refine Xu ?_
 refine Xa (Yn Xm Xm Y0) ?_
 refine Xa (Xb rfl) ?_
 refine ⟨xs.length - (i + 1), by omega, i + 1, by omega, rfl, rfl, ?_, e0, e1, e7, rfl⟩
 rw [← Y9 hix]
 intro x hx
 rcases List.mem_append.1 hx with hx | hx
 ·exact hno x hx
 ·simp at hx; rw [hx]; exact heq
 intro hc1
 (try simp only [Yt] at hc1)
 refine Yx ?_
 refine Xe ?_
 refine Xu ?_
 refine Xa (Xi rfl) ?_
 refine X2 ?_
 rw [List.take_of_length_le (by omega)] at hno
 exact ⟨.int .i64 (-1), Xx (Xs rfl), -1, rfl, by omega, fun h => by omega, fun h => absurd hno h⟩
theorem Contains_links (xs : List Link) (v : Value) (H : Hp) (hs : Sl kLink H v xs) (hl : xs.length ≤ 9223372036854775807) :
  ACalls Tryz.prog 109 #[v, .func (.func 107) #[] #[]] H (fun r H' => (∃ g, r = .bool g ∧ (g = false ↔ ∀ x ∈ xs, x.a = x.b)) ∧ H' = H) := by
 refine ACalls.pure (R := fun r => ∃ g, r = .bool g ∧ (g = false ↔ ∀ x ∈ xs, x.a = x.b)) (fun v ⟨g, h, _⟩ => by rw [h]; rfl) ?_
 have hs := hs.mono H.sees_ro
 obtain ⟨A, c, rfl⟩ := hs.shape
 refine Xv Tryz.func109 rfl rfl rfl (by simp) ?_
 refine Xe ?_
 refine Xu ?_
 refine Xa (Xn rfl) ?_
 refine Xe ?_
 refine Xu ?_
 refine Xa (X1 rfl) ?_
 refine Xa (Vd rfl) ?_
 refine Xw (Xy (Index_raw xs _ _ hs hl) rfl Tryz.func131 rfl rfl rfl ?_)
 rintro v2 H2 ⟨k, rfl, hk, hk2⟩
 refine Xa (av_ge rfl rfl) ?_
 refine Xa (Xn rfl) ?_
 refine X2 ?_
 refine ⟨_, Xx (Xs rfl), decide (k ≥ 0), rfl, ?_⟩
 rw [decide_eq_false_iff_not]
 exact ⟨fun h => Decidable.not_not.1 fun h2 => h (hk2.2 h2), fun h h2 => hk2.1 h2 h⟩
theorem nodup_len : ∀ (n : Nat) (l : List Int), l.Nodup → (∀ x ∈ l, 0 ≤ x ∧ x < n) → l.length ≤ n
  | 0, l, _, h => by
    cases l with
    | nil => exact Nat.le_refl _
    | cons a l => have := h a List.mem_cons_self; omega
  | n + 1, l, hd, h => by
    have h1 : (l.filter fun x => decide (x ≠ (n : Int))).length ≤ n := nodup_len n _ (hd.filter _) fun x hx => by
      have h2 := List.mem_filter.1 hx
      have h3 := h x h2.1
      have h4 := of_decide_eq_true h2.2
      omega
    have h2 : l.length ≤ (l.filter fun x => decide (x ≠ (n : Int))).length + 1 := by
      clear h1 h
      induction l with
      | nil => simp
      | cons a l ih =>
        obtain ⟨ha, hl⟩ := List.nodup_cons.1 hd
        by_cases e : a = n
        · have : (l.filter fun x => decide (x ≠ (n : Int))) = l := by
            rw [List.filter_eq_self]
            intro x hx
            exact decide_eq_true fun e2 => ha (by rw [e, ← e2]; exact hx)
          rw [List.filter_cons, if_neg (by simp [e]), this]
          exact Nat.le_refl _
        · rw [List.filter_cons, if_pos (by simp [e])]
          have := ih hl
          simp only [List.length_cons]; omega
    omega
theorem GoodF.order_at {f : Forest} (h : GoodF f) {i : Nat} (hi : i < f.vars.length) : f.order.getD i 0 = f.order[i]'(by have := h.l1; omega) := Zf _
theorem GoodF.nodup {f : Forest} (h : GoodF f) : f.order.Nodup := by
 rw [List.nodup_iff_pairwise_ne] <;> skip
 rw [List.pairwise_iff_getElem]
 intro i j hi hj hij e
 have h1 := h.l1
 have h3 := (h.ok j (by omega)).2.2.1
 rw [h.order_at (by omega)] at h3
 apply h3
 rw [← e]
 exact List.mem_take_iff_getElem.2 ⟨i, by omega, rfl⟩
theorem GoodF.in_order {f : Forest} (h : GoodF f) {v : Nat} (hv : v < f.vars.length) : (v : Int) ∈ f.order := by
 rcases Classical.em ((v : Int) ∈ f.order) with h1 | h1
 ·exact h1
 ·exfalso
  have h2 := nodup_len f.vars.length ((v : Int) :: f.order) (List.nodup_cons.2 ⟨h1, h.nodup⟩) fun x hx => by
   rcases List.mem_cons.1 hx with rfl | hx
   ·omega
   ·obtain ⟨i, hi, rfl⟩ := List.getElem_of_mem hx
    have hl := h.l1
    have := h.ok i (by omega)
    rw [OkF, h.order_at (by omega)] at this
    exact ⟨this.1, this.2.1⟩
  have := h.l1
  simp at h2
  omega
theorem GoodF.parent_ge {f : Forest} (h : GoodF f) {v : Nat} (hv : v < f.vars.length) : -1 ≤ f.parent.getD v 0 ∧ f.parent.getD v 0 < f.vars.length := by
 obtain ⟨i, hi, e⟩ := List.getElem_of_mem (h.in_order hv)
 have hl := h.l1
 have h4 := (h.ok i (by omega)).2.2.2
 rw [h.order_at (by omega), e] at h4
 rw [Int.toNat_natCast] at h4
 rcases h4 with h4 | h4
 ·omega
 ·obtain ⟨j, hj, e2⟩ := List.getElem_of_mem (List.mem_of_mem_take h4)
  have h5 := h.ok j (by omega)
  rw [OkF, h.order_at (by omega), e2] at h5
  omega
def OkP (f : Forest) (p : Parts) (v : Nat) : Prop := GoodL (p.nodes.getD v []) ∧ GoodL (p.links.getD v []) ∧ (∀ x ∈ p.nodes.getD v [], x.a = x.b) ∧ (f.parent.getD v 0 = -1 → p.links.getD v [] = [])
structure GoodP (f : Forest) (p : Parts) : Prop where
 gf : GoodF f
 n1 : p.nodes.length = f.vars.length
 n2 : p.links.length = f.vars.length
 ok : ∀ v, v < f.vars.length → OkP f p v
theorem Ze {ns : List (List Link)} {i : Nat} (h : i < ns.length) : ns.getD i [] = ns[i] := by rw [List.getD_eq_getElem?_getD, List.getElem?_eq_getElem h]; rfl
structure Small (f : Forest) (p : Parts) : Prop where
 s0 : f.vars.length ≤ 1000000
 s1 : f.order.length ≤ 1000000
 s2 : f.parent.length ≤ 1000000
 s3 : p.nodes.length ≤ 1000000
 s4 : p.links.length ≤ 1000000
 s5 : ∀ l ∈ p.nodes, l.length ≤ 1000000
 s6 : ∀ l ∈ p.links, l.length ≤ 1000000
set_option maxHeartbeats 1000000 in
theorem GoodP_dom_raw (f : Forest) (p : Parts) (cs ds : List Value) (H : Hp) (hp : kForest.rep H f cs) (hq : kParts.rep H p ds) (hsm : Small f p) :
  ACalls Tryz.prog 80 #[.agg cs.toArray, .agg ds.toArray] H (fun r _ => ∃ g, r = .bool g ∧ (g = true ↔ GoodP f p)) := by
 have hp0 := hp
 obtain ⟨z0, z1, z2, z3, z4, z5, z6⟩ := hsm
 obtain ⟨v0, v1, v2, v3, v4, rfl, hs0, hs1, hs2, hs3, hs4⟩ := hp
 obtain ⟨A0, c0, rfl⟩ := hs0.shape
 obtain ⟨A1, c1, rfl⟩ := hs1.shape
 obtain ⟨A2, c2, rfl⟩ := hs2.shape
 obtain ⟨A3, c3, rfl⟩ := hs3.shape
 obtain ⟨A4, c4, rfl⟩ := hs4.shape
 obtain ⟨u0, u1, rfl, hn0, hn1⟩ := hq
 obtain ⟨B0, d0, rfl⟩ := hn0.shape
 obtain ⟨B1, d1, rfl⟩ := hn1.shape
 refine Xv Tryz.func80 rfl rfl rfl (by simp) ?_
 refine Xe ?_
 refine Xu ?_
 refine Xz (Yw rfl) ?_
 refine Xz (Yw rfl) ?_
 refine Xa (Xn rfl) ?_
 refine Xe ?_
 refine Xu ?_
 refine Xa (Xf (off := 0) rfl Tryz.underlying26 rfl inf22.size (by decide) rfl) ?_
 refine Xa (Xk rfl Tryz.underlying22 rfl Xp) ?_
 refine Xa (Ys rfl Tryz.underlying22) ?_
 refine Xa (Xi rfl) ?_
 refine Xe ?_
 refine Xe ?_
 refine Xu ?_
 refine Xa (Yl (cs := [.slice _ _ _, .slice _ _ _, .slice _ _ _, .slice _ _ _, .slice _ _ _]) rfl Tryz.underlying26 rfl inf26.size X8) ?_
 refine Xw (Xy (GoodF_For f _ _ (kForest.mono Zp hp0) z0 z1 z2) rfl Tryz.func106 rfl rfl rfl ?_)
 rintro v2 H2 ⟨⟨g, rfl, hg⟩, hH2⟩; subst hH2
 refine Xa (Zz rfl) ?_
 refine Xa (Xo rfl) ?_
 refine Ya rfl rfl rfl ?_ ?_
 intro hg1
 have hgf : ¬ GoodF f := fun h => by rw [hg.2 h] at hg1; cases hg1
 refine Xc (Xg rfl rfl rfl hg1 rfl) ?_
 refine Xc (Xg rfl rfl rfl hg1 rfl) ?_
 refine Xc (Xg rfl rfl rfl hg1 rfl) ?_
 refine Xc (Xg rfl rfl rfl hg1 rfl) ?_
 refine Xc (Xg rfl rfl rfl hg1 rfl) ?_
 refine Xa (Xl (Yv hg1) rfl) ?_
 refine Xa (Xo rfl) ?_
 refine Xc (Xg rfl rfl rfl rfl rfl) ?_
 refine Xc (Xg rfl rfl rfl rfl rfl) ?_
 refine Xc (Xg rfl rfl rfl rfl rfl) ?_
 refine Xc (Xg rfl rfl rfl rfl rfl) ?_
 refine Xc (Xg rfl rfl rfl rfl rfl) ?_
 refine Xa (Xl (congrArg Value.bool rfl) rfl) ?_
 refine Yu rfl rfl ?_
 refine Xe ?_
 refine Xu ?_
 refine Xa (Xn rfl) ?_
 refine X2 ?_
 refine ⟨.bool false, Xx (Xs rfl), false, rfl, fun h => (by cases h), fun hG => ?_⟩
 exfalso
 have q1 := hG.n1
 have q2 := hG.n2
 first | exact hgf hG.gf | omega
 intro hg1
 have hgt : GoodF f := hg.1 (by simpa using hg1)
 refine Xj (Xh rfl rfl rfl hg1) (Xf (off := 0) rfl Tryz.underlying29 rfl inf27.size (by decide) rfl) ?_
 refine Xj (Xh rfl rfl rfl hg1) (Xk rfl Tryz.underlying27 rfl Xp) ?_
 refine Xj (Xh rfl rfl rfl hg1) (Ys rfl Tryz.underlying27) ?_
 refine Xj (Xh rfl rfl rfl hg1) (Xb rfl) ?_
 refine Xj (Xh rfl rfl rfl hg1) (Zw rfl rfl) ?_
 refine Xa (Xl (Yv hg1) rfl) ?_
 refine Xa (Xo rfl) ?_
 refine Ya rfl rfl rfl ?_ ?_
 intro hg3
 have hp3 := hg3; try simp only [Yt] at hp3
 refine Xc (Xg rfl rfl rfl hg3 rfl) ?_
 refine Xc (Xg rfl rfl rfl hg3 rfl) ?_
 refine Xc (Xg rfl rfl rfl hg3 rfl) ?_
 refine Xc (Xg rfl rfl rfl hg3 rfl) ?_
 refine Xc (Xg rfl rfl rfl hg3 rfl) ?_
 refine Xa (Xl (Yv hg3) rfl) ?_
 refine Yu rfl rfl ?_
 refine Xe ?_
 refine Xu ?_
 refine Xa (Xn rfl) ?_
 refine X2 ?_
 refine ⟨.bool false, Xx (Xs rfl), false, rfl, fun h => (by cases h), fun hG => ?_⟩
 exfalso
 have q1 := hG.n1
 have q2 := hG.n2
 first | exact hgf hG.gf | omega
 intro hg3
 have hp3 := hg3; try simp only [Yt] at hp3
 refine Xj (Xh rfl rfl rfl hg3) (Xf (off := 1) rfl Tryz.underlying29 rfl inf27.size (by decide) rfl) ?_
 refine Xj (Xh rfl rfl rfl hg3) (Xk rfl Tryz.underlying27 rfl Xp) ?_
 refine Xj (Xh rfl rfl rfl hg3) (Ys rfl Tryz.underlying27) ?_
 refine Xj (Xh rfl rfl rfl hg3) (Xb rfl) ?_
 refine Xj (Xh rfl rfl rfl hg3) (Zw rfl rfl) ?_
 refine Xa (Xl (Yv hg3) rfl) ?_
 refine X5 rfl rfl ?_ ?_
 intro hc5
 (try simp only [Yt] at hc5)
 refine Xe ?_
 refine Xu ?_
 refine Xa (Xn rfl) ?_
 refine X2 ?_
 refine ⟨.bool false, Xx (Xs rfl), false, rfl, fun h => (by cases h), fun hG => ?_⟩
 exfalso
 have q1 := hG.n1
 have q2 := hG.n2
 first | exact hgf hG.gf | omega
 intro hc5
 have hlen : p.nodes.length = f.vars.length ∧ p.links.length = f.vars.length := by
  have hc5' := of_decide_eq_false hc5
  constructor <;> omega
 refine X9 ?_
 refine Xe ?_
 refine Xe ?_
 refine Xu ?_
 refine Xa (Xf (off := 0) rfl Tryz.underlying26 rfl inf22.size (by decide) rfl) ?_
 refine Xa (Xk rfl Tryz.underlying22 rfl Xp) ?_
 refine Xa (Ys rfl Tryz.underlying22) ?_
 refine Xa (Xb rfl) ?_
 refine Ye ?_
 refine Y5 (fun n t H' => ∃ (i : Nat), i ≤ f.vars.length ∧ n = f.vars.length - i ∧ H' = (H.push (.own 0 [.slice A0 f.vars.length c0, .slice A1 f.order.length c1, .slice A2 f.parent.length c2, .slice A3 f.links.length c3, .slice A4 f.loops.length c4])).push (.own 0 [.slice B0 p.nodes.length d0, .slice B1 p.links.length d1]) ∧ (∀ j, j < i → OkP f p j) ∧ t 2 = .pointer (some ⟨H.size, 0, none⟩) ∧ t 3 = .pointer (some ⟨H.size + 1, 0, none⟩) ∧ t 5 = .int .i64 f.vars.length ∧ t 30 = .int .i64 f.vars.length ∧ t 31 = .int .i64 i) (f.vars.length) (⟨0, by omega, rfl, rfl, fun j h => by omega, rfl, rfl, rfl, rfl, rfl⟩) ?_
 rintro n t _ ⟨i, hi, rfl, rfl, hok, e2, e3, e5, e30, e31⟩
 refine Xe ?_
 refine Xu ?_
 refine Xa (Za Xm Xm) ?_
 refine Xe ?_
 refine X5 rfl rfl ?_ ?_
 intro hc6
 (try simp only [Yt] at hc6)
 refine X9 ?_
 refine Xe ?_
 refine Ye ?_
 refine Xe ?_
 refine Xu ?_
 refine Xa (Xb Xm) ?_
 refine Xa (Xi rfl) ?_
 refine Xe ?_
 refine Xu ?_
 refine Xa (U4 rfl) ?_
 refine Xe ?_
 have hpl := hgt.l2
 have hix : i < f.vars.length := by omega
 have hseS := (Hp.le_push' (H.le_push (.own 0 [.slice A0 f.vars.length c0, .slice A1 f.order.length c1, .slice A2 f.parent.length c2, .slice A3 f.links.length c3, .slice A4 f.loops.length c4])) (.own 0 [.slice B0 p.nodes.length d0, .slice B1 p.links.length d1])).sees
 have hixn : i < p.nodes.length := by omega
 have hixl : i < p.links.length := by omega
 obtain ⟨b, o, ks, rfl, hb, ⟨w0, rfl, hw0⟩, hcell0⟩ := (hn0.mono hseS).elem_at hixn
 obtain ⟨b1, o1, ks1, rfl, hb1, ⟨w1, rfl, hw1⟩, hcell1⟩ := (hn1.mono hseS).elem_at hixl
 have hcell0' := hcell0.one
 have hcell1' := hcell1.one
 obtain ⟨A6, c6, rfl⟩ := hw0.shape
 obtain ⟨A7, c7, rfl⟩ := hw1.shape
 obtain ⟨b2, o2, rfl, hb2, hcell2⟩ := (hs2.mono hseS).int_at (i := (i : Int)) (by omega) (by have := hgt.l2; omega)
 rw [Int.toNat_natCast] at hcell2
 have hzn := z5 _ (List.getElem_mem hixn)
 have hzl := z6 _ (List.getElem_mem hixl)
 have gn := Ze hixn
 have gl := Ze hixl
 refine Xu ?_
 refine Xa (Xf (off := 0) Xm Tryz.underlying29 Xm inf27.size (by decide) Xm) ?_
 refine Xa (Xk rfl Tryz.underlying27 rfl Xp) ?_
 refine Xa (Xb rfl) ?_
 refine Xa (Xt rfl rfl Tryz.underlying27 inf83.size X6 X6) ?_
 refine Xa (Xk rfl Tryz.underlying83 rfl Xp) ?_
 refine Xw (Xy (PGood_links p.nodes[i] _ _ hw0 (by omega)) rfl Tryz.func108 rfl rfl rfl ?_)
 rintro v5 H5 ⟨⟨g1, rfl, hg1⟩, hH5⟩; subst hH5
 refine Xa (Zz rfl) ?_
 refine Xa (Xo rfl) ?_
 refine Ya rfl rfl rfl ?_ ?_
 intro hg7
 have hno : ¬ GoodL p.nodes[i] := fun h => by rw [hg1.2 h] at hg7; cases hg7
 refine Xc (Xg rfl rfl rfl hg7 rfl) ?_
 refine Xc (Xg rfl rfl rfl hg7 rfl) ?_
 refine Xc (Xg rfl rfl rfl hg7 rfl) ?_
 refine Xc (Xg rfl rfl rfl hg7 rfl) ?_
 refine Xc (Xg rfl rfl rfl hg7 rfl) ?_
 refine Xc (Xg rfl rfl rfl hg7 rfl) ?_
 refine Xc (Xg rfl rfl rfl hg7 rfl) ?_
 refine Xa (Xl (Yv hg7) Xm) ?_
 refine Xa (Xo rfl) ?_
 refine Xc (Xg rfl rfl rfl rfl rfl) ?_
 refine Xc (Xg rfl rfl rfl rfl rfl) ?_
 refine Xc (Xg rfl rfl rfl rfl rfl) ?_
 refine Xc (Xg rfl rfl rfl rfl rfl) ?_
 refine Xc (Xg rfl rfl rfl rfl rfl) ?_
 refine Xc (Xg rfl rfl rfl rfl rfl) ?_
 refine Xc (Xg rfl rfl rfl rfl rfl) ?_
 refine Xa (Xl (congrArg Value.bool Xm) Xm) ?_
 refine Xa (Xo rfl) ?_
 refine Xc (Xg rfl rfl rfl rfl rfl) ?_
 refine Xc (Xg rfl rfl rfl rfl rfl) ?_
 refine Xc (Xg rfl rfl rfl rfl rfl) ?_
 refine Xc (Xg rfl rfl rfl rfl rfl) ?_
 refine Xc (Xg rfl rfl rfl rfl rfl) ?_
 refine Xc (Xg rfl rfl rfl rfl rfl) ?_
 refine Xc (Xg rfl rfl rfl rfl rfl) ?_
 refine Xc (Yb rfl rfl rfl) ?_
 refine Xc (Yb rfl rfl rfl) ?_
 refine Xc (Yb rfl rfl rfl) ?_
 refine Xc (Yb rfl rfl rfl) ?_
 refine Xc (Yb rfl rfl rfl) ?_
 refine Xc (Yb rfl rfl rfl) ?_
 refine Xc (Yb rfl rfl rfl) ?_
 refine Xc (Xg rfl rfl rfl rfl rfl) ?_
 refine Xa (Xl (congrArg Value.bool Xm) Xm) ?_
 refine Yu rfl rfl ?_
 refine Xe ?_
 refine Xu ?_
 refine Xa (Xn rfl) ?_
 refine X2 ?_
 refine ⟨.bool false, Xx (Xs rfl), false, rfl, fun h => (by cases h), fun hG => ?_⟩
 obtain ⟨q1, q2, q3, q4⟩ := hG.ok i hix
 rw [gn] at q1 q3
 rw [gl] at q2 q4
 exfalso
 first | exact hno q1 | exact hno q2 | exact hno q3 | (rw [q4 hpar] at hll; simp at hll)
 intro hg7
 have hgn : GoodL p.nodes[i] := hg1.1 (by simpa using hg7)
 refine Xj (Xh rfl rfl rfl hg7) (Xf (off := 1) Xm Tryz.underlying29 Xm inf27.size (by decide) Xm) ?_
 refine Xj (Xh rfl rfl rfl hg7) (Xk rfl Tryz.underlying27 rfl Xp) ?_
 refine Xj (Xh rfl rfl rfl hg7) (Xb rfl) ?_
 refine Xj (Xh rfl rfl rfl hg7) (Xt rfl rfl Tryz.underlying27 inf83.size X6 X6) ?_
 refine Xj (Xh rfl rfl rfl hg7) (Xk rfl Tryz.underlying83 rfl Xp) ?_
 refine Z1 (Xh rfl rfl rfl hg7) (Xy (PGood_links p.links[i] _ _ hw1 (by omega)) rfl Tryz.func108 rfl rfl rfl ?_)
 rintro v6 H6 ⟨⟨g2, rfl, hg2⟩, hH6⟩; subst hH6
 refine Xj (Xh rfl rfl rfl hg7) (Zz rfl) ?_
 refine Xa (Xl (Yv hg7) rfl) ?_
 refine Xa (Xo rfl) ?_
 refine Ya rfl rfl rfl ?_ ?_
 intro hg9
 have hno : ¬ GoodL p.links[i] := fun h => by rw [hg2.2 h] at hg9; cases hg9
 refine Xc (Xg rfl rfl rfl hg9 rfl) ?_
 refine Xc (Xg rfl rfl rfl hg9 rfl) ?_
 refine Xc (Xg rfl rfl rfl hg9 rfl) ?_
 refine Xc (Xg rfl rfl rfl hg9 rfl) ?_
 refine Xc (Xg rfl rfl rfl hg9 rfl) ?_
 refine Xc (Xg rfl rfl rfl hg9 rfl) ?_
 refine Xc (Xg rfl rfl rfl hg9 rfl) ?_
 refine Xa (Xl (Yv hg9) Xm) ?_
 refine Xa (Xo rfl) ?_
 refine Xc (Xg rfl rfl rfl rfl rfl) ?_
 refine Xc (Xg rfl rfl rfl rfl rfl) ?_
 refine Xc (Xg rfl rfl rfl rfl rfl) ?_
 refine Xc (Xg rfl rfl rfl rfl rfl) ?_
 refine Xc (Xg rfl rfl rfl rfl rfl) ?_
 refine Xc (Xg rfl rfl rfl rfl rfl) ?_
 refine Xc (Xg rfl rfl rfl rfl rfl) ?_
 refine Xc (Yb rfl rfl rfl) ?_
 refine Xc (Yb rfl rfl rfl) ?_
 refine Xc (Yb rfl rfl rfl) ?_
 refine Xc (Yb rfl rfl rfl) ?_
 refine Xc (Yb rfl rfl rfl) ?_
 refine Xc (Yb rfl rfl rfl) ?_
 refine Xc (Yb rfl rfl rfl) ?_
 refine Xc (Xg rfl rfl rfl rfl rfl) ?_
 refine Xa (Xl (congrArg Value.bool Xm) Xm) ?_
 refine Yu rfl rfl ?_
 refine Xe ?_
 refine Xu ?_
 refine Xa (Xn rfl) ?_
 refine X2 ?_
 refine ⟨.bool false, Xx (Xs rfl), false, rfl, fun h => (by cases h), fun hG => ?_⟩
 obtain ⟨q1, q2, q3, q4⟩ := hG.ok i hix
 rw [gn] at q1 q3
 rw [gl] at q2 q4
 exfalso
 first | exact hno q1 | exact hno q2 | exact hno q3 | (rw [q4 hpar] at hll; simp at hll)
 intro hg9
 have hgl : GoodL p.links[i] := hg2.1 (by simpa using hg9)
 refine Xj (Xh rfl rfl rfl hg9) (Xf (off := 0) Xm Tryz.underlying29 Xm inf27.size (by decide) Xm) ?_
 refine Xj (Xh rfl rfl rfl hg9) (Xk rfl Tryz.underlying27 rfl Xp) ?_
 refine Xj (Xh rfl rfl rfl hg9) (Xb rfl) ?_
 refine Xj (Xh rfl rfl rfl hg9) (Xt rfl rfl Tryz.underlying27 inf83.size X6 X6) ?_
 refine Xj (Xh rfl rfl rfl hg9) (Xk rfl Tryz.underlying83 rfl Xp) ?_
 refine Xj (Xh rfl rfl rfl hg9) (Vd rfl) ?_
 refine Z1 (Xh rfl rfl rfl hg9) (Xy (Contains_links p.nodes[i] _ _ hw0 (by omega)) rfl Tryz.func109 rfl rfl rfl ?_)
 rintro v7 H7 ⟨⟨g3, rfl, hg3⟩, hH7⟩; subst hH7
 refine Xa (Xl (Yv hg9) rfl) ?_
 refine Xa (Xo rfl) ?_
 refine Ya rfl rfl rfl ?_ ?_
 intro hg11
 have hno : ¬ ∀ x ∈ p.nodes[i], x.a = x.b := fun h => by rw [hg3.2 h] at hg11; cases hg11
 refine Xc (Xg rfl rfl rfl hg11 rfl) ?_
 refine Xc (Xg rfl rfl rfl hg11 rfl) ?_
 refine Xc (Xg rfl rfl rfl hg11 rfl) ?_
 refine Xc (Xg rfl rfl rfl hg11 rfl) ?_
 refine Xc (Xg rfl rfl rfl hg11 rfl) ?_
 refine Xc (Xg rfl rfl rfl hg11 rfl) ?_
 refine Xc (Xg rfl rfl rfl hg11 rfl) ?_
 refine Xc (Yb rfl rfl rfl) ?_
 refine Xc (Yb rfl rfl rfl) ?_
 refine Xc (Yb rfl rfl rfl) ?_
 refine Xc (Yb rfl rfl rfl) ?_
 refine Xc (Yb rfl rfl rfl) ?_
 refine Xc (Yb rfl rfl rfl) ?_
 refine Xc (Yb rfl rfl rfl) ?_
 refine Xc (Xg rfl rfl rfl hg11 rfl) ?_
 refine Xa (Xl (Yv hg11) Xm) ?_
 refine Yu rfl rfl ?_
 refine Xe ?_
 refine Xu ?_
 refine Xa (Xn rfl) ?_
 refine X2 ?_
 refine ⟨.bool false, Xx (Xs rfl), false, rfl, fun h => (by cases h), fun hG => ?_⟩
 obtain ⟨q1, q2, q3, q4⟩ := hG.ok i hix
 rw [gn] at q1 q3
 rw [gl] at q2 q4
 exfalso
 first | exact hno q1 | exact hno q2 | exact hno q3 | (rw [q4 hpar] at hll; simp at hll)
 intro hg11
 have haw : ∀ x ∈ p.nodes[i], x.a = x.b := hg3.1 hg11
 refine Xj (Xh rfl rfl rfl hg11) (Xf (off := 2) Xm Tryz.underlying26 Xm inf23.size (by decide) Xm) ?_
 refine Xj (Xh rfl rfl rfl hg11) (Xk rfl Tryz.underlying23 rfl Xp) ?_
 refine Xj (Xh rfl rfl rfl hg11) (Xb rfl) ?_
 refine Xj (Xh rfl rfl rfl hg11) (Xt rfl rfl Tryz.underlying23 inf3.size X6 X6) ?_
 refine Xj (Xh rfl rfl rfl hg11) (Xk rfl Tryz.underlying3 rfl Xp) ?_
 refine Xj (Xh rfl rfl rfl hg11) (Zx rfl rfl) ?_
 refine Xj (Xh rfl rfl rfl hg11) (Xo rfl) ?_
 refine Ya rfl rfl rfl ?_ ?_
 intro hg13
 have hpar : f.parent.getD i 0 = -1 := of_decide_eq_true hg13
 refine Xj (Xh rfl rfl rfl hg13) (Xf (off := 1) Xm Tryz.underlying29 Xm inf27.size (by decide) Xm) ?_
 refine Xj (Xh rfl rfl rfl hg13) (Xk rfl Tryz.underlying27 rfl Xp) ?_
 refine Xj (Xh rfl rfl rfl hg13) (Xb rfl) ?_
 refine Xj (Xh rfl rfl rfl hg13) (Xt rfl rfl Tryz.underlying27 inf83.size X6 X6) ?_
 refine Xj (Xh rfl rfl rfl hg13) (Xk rfl Tryz.underlying83 rfl Xp) ?_
 refine Xj (Xh rfl rfl rfl hg13) (Ys rfl Tryz.underlying83) ?_
 refine Xj (Xh rfl rfl rfl hg13) (Vu rfl rfl) ?_
 refine Xj (Xh rfl rfl rfl hg11) (Xl (Yv hg13) rfl) ?_
 refine Xa (Xl (Yv hg11) rfl) ?_
 refine X5 rfl rfl ?_ ?_
 intro hc14
 have hll : 0 < p.links[i].length := by have := of_decide_eq_true hc14; omega
 refine Xe ?_
 refine Xu ?_
 refine Xa (Xn rfl) ?_
 refine X2 ?_
 refine ⟨.bool false, Xx (Xs rfl), false, rfl, fun h => (by cases h), fun hG => ?_⟩
 obtain ⟨q1, q2, q3, q4⟩ := hG.ok i hix
 rw [gn] at q1 q3
 rw [gl] at q2 q4
 exfalso
 first | exact hno q1 | exact hno q2 | exact hno q3 | (rw [q4 hpar] at hll; simp at hll)
 intro hc14
 have hll : p.links[i] = [] := List.eq_nil_of_length_eq_zero (by have := of_decide_eq_false hc14; omega)
 refine X9 ?_
 refine Xu ?_
 refine Xa (Yn Xm Xm Y0) ?_
 refine Xa (Xb rfl) ?_
 refine ⟨f.vars.length - (i + 1), by omega, i + 1, by omega, rfl, rfl, fun j h => ?_, e2, e3, e5, e30, rfl⟩
 rcases Nat.lt_or_ge j i with h1 | h1
 ·exact hok j h1
 ·obtain rfl : j = i := by omega
  exact ⟨by rw [gn]; exact hgn, by rw [gl]; exact hgl, by rw [gn]; exact haw, fun h => by rw [gl]; first | exact hll | exact absurd h hpar⟩
 intro hg13
 have hpar : ¬ f.parent.getD i 0 = -1 := of_decide_eq_false hg13
 refine Xc (Xg rfl rfl rfl hg13 rfl) ?_
 refine Xc (Xg rfl rfl rfl hg13 rfl) ?_
 refine Xc (Xg rfl rfl rfl hg13 rfl) ?_
 refine Xc (Xg rfl rfl rfl hg13 rfl) ?_
 refine Xc (Xg rfl rfl rfl hg13 rfl) ?_
 refine Xc (Xg rfl rfl rfl hg13 rfl) ?_
 refine Xc (Xg rfl rfl rfl hg13 rfl) ?_
 refine Xj (Xh rfl rfl rfl hg11) (Xl (Yv hg13) Xm) ?_
 refine Xa (Xl (Yv hg11) rfl) ?_
 refine Y2 rfl rfl ?_
 refine X9 ?_
 refine Xu ?_
 refine Xa (Yn Xm Xm Y0) ?_
 refine Xa (Xb rfl) ?_
 refine ⟨f.vars.length - (i + 1), by omega, i + 1, by omega, rfl, rfl, fun j h => ?_, e2, e3, e5, e30, rfl⟩
 rcases Nat.lt_or_ge j i with h1 | h1
 ·exact hok j h1
 ·obtain rfl : j = i := by omega
  exact ⟨by rw [gn]; exact hgn, by rw [gl]; exact hgl, by rw [gn]; exact haw, fun h => by rw [gl]; first | exact hll | exact absurd h hpar⟩
 intro hc6
 (try simp only [Yt] at hc6)
 refine Yx ?_
 refine Xe ?_
 refine Xu ?_
 refine Xa (Xn rfl) ?_
 refine X2 ?_
 exact ⟨.bool true, Xx (Xs rfl), true, rfl, fun _ => ⟨hgt, hlen.1, hlen.2, fun j h => hok j (by omega)⟩, fun _ => rfl⟩
theorem GoodP_dom (f : Forest) (p : Parts) (cs ds : List Value) (H : Hp) (hp : kForest.rep H f cs) (hq : kParts.rep H p ds) (hsm : Small f p) :
  ACalls Tryz.prog 80 #[.agg cs.toArray, .agg ds.toArray] H (fun r H' => (∃ g, r = .bool g ∧ (g = true ↔ GoodP f p)) ∧ H' = H) :=
 ACalls.pure (fun v ⟨g, h, _⟩ => by rw [h]; rfl) (GoodP_dom_raw f p cs ds H.ro (kForest.mono H.sees_ro hp) (kParts.mono H.sees_ro hq) hsm)
def atI (xs : List Int) (v : Int) : Int := match xs.findIdx? (fun x => decide (x = v)) with
 | some i => i
 | none => -1
theorem atI_some {xs : List Int} {v : Int} {i : Nat} (hi : i < xs.length) (h : xs[i] = v) (hno : v ∉ xs.take i) : atI xs v = i := by
 unfold atI
 have : xs.findIdx? (fun x => decide (x = v)) = some i := by
  rw [List.findIdx?_eq_some_iff_getElem]
  refine ⟨hi, decide_eq_true h, fun j hj => ?_⟩
  have : xs[j] ≠ v := fun e => hno (List.mem_take_iff_getElem.2 ⟨j, by omega, e⟩)
  simp [this]
 rw [this]
theorem atI_none {xs : List Int} {v : Int} (hno : v ∉ xs) : atI xs v = -1 := by
 unfold atI
 have : xs.findIdx? (fun x => decide (x = v)) = none := by
  rw [List.findIdx?_eq_none_iff]; intro x hx; simp; intro e; exact hno (e ▸ hx)
 rw [this]
theorem at_raw (f : Forest) (cs : List Value) (v : Int) (H : Hp) (hp : kForest.rep H f cs) (hl : f.order.length ≤ 1000000) :
  ACalls Tryz.prog 56 #[.agg cs.toArray, .int .i64 v] H (fun r _ => r = .int .i64 (atI f.order v)) := by
 obtain ⟨v0, v1, v2, v3, v4, rfl, hs0, hs1, hs2, hs3, hs4⟩ := hp
 obtain ⟨A0, c0, rfl⟩ := hs0.shape
 obtain ⟨A1, c1, rfl⟩ := hs1.shape
 obtain ⟨A2, c2, rfl⟩ := hs2.shape
 obtain ⟨A3, c3, rfl⟩ := hs3.shape
 obtain ⟨A4, c4, rfl⟩ := hs4.shape
 refine Xv Tryz.func56 rfl rfl rfl (by simp) ?_
 refine Xe ?_
 refine Xu ?_
 refine Xz (Yw rfl) ?_
 refine Xa (Xi rfl) ?_
 refine Xe ?_
 refine Xe ?_
 refine Xu ?_
 refine Xa (Xi rfl) ?_
 refine Ye ?_
 refine Y5 (fun n t H' => ∃ i : Nat, i ≤ f.order.length ∧ n = f.order.length - i ∧ H' = H.push (.own 0 [.slice A0 f.vars.length c0, .slice A1 f.order.length c1, .slice A2 f.parent.length c2, .slice A3 f.links.length c3, .slice A4 f.loops.length c4]) ∧ v ∉ f.order.take i ∧ t 1 = .int .i64 v ∧ t 2 = .pointer (some ⟨H.size, 0, none⟩) ∧ t 5 = .int .i64 i) (f.order.length) (⟨0, by omega, rfl, rfl, by simp, rfl, rfl, rfl⟩) ?_
 rintro n t _ ⟨i, hi, rfl, rfl, hno, e1, e2, e5⟩
 refine Xe ?_
 refine Xe ?_
 refine Xu ?_
 refine Xa (Xb Xm) ?_
 refine Xa (Xf (off := 1) Xm Tryz.underlying26 Xm inf23.size (by decide) Xm) ?_
 refine Xa (Xk rfl Tryz.underlying23 rfl Xp) ?_
 refine Xa (Ys rfl Tryz.underlying23) ?_
 refine Xa (Za rfl rfl) ?_
 refine X5 rfl rfl ?_ ?_
 intro hc1
 (try simp only [Yt] at hc1)
 refine X9 ?_
 refine Xe ?_
 refine Ye ?_
 refine Xe ?_
 have hix : i < f.order.length := by omega
 obtain ⟨b, o, rfl, hb, hcell1⟩ := (hs1.mono (H.le_push (.own 0 [.slice A0 f.vars.length c0, .slice A1 f.order.length c1, .slice A2 f.parent.length c2, .slice A3 f.links.length c3, .slice A4 f.loops.length c4])).sees).int_at (i := (i : Int)) (by omega) (by omega)
 have hgi : f.order.getD (i : Int).toNat 0 = f.order[i] := by rw [Int.toNat_natCast]; exact Zf hix
 rw [hgi] at hcell1
 refine Xu ?_
 refine Xa (Xf (off := 1) Xm Tryz.underlying26 Xm inf23.size (by decide) Xm) ?_
 refine Xa (Xk rfl Tryz.underlying23 rfl Xp) ?_
 refine Xa (Xb Xm) ?_
 refine Xa (Xt rfl rfl Tryz.underlying23 inf3.size X6 X6) ?_
 refine Xa (Xk rfl Tryz.underlying3 rfl Xp) ?_
 refine Xa (Xb Xm) ?_
 refine Xa (Zx rfl rfl) ?_
 refine X5 rfl rfl ?_ ?_
 intro hc2
 have he : f.order[i] = v := of_decide_eq_true hc2
 refine Xe ?_
 refine Xu ?_
 refine Xa (Xb Xm) ?_
 refine Xa (Xi rfl) ?_
 refine X2 ?_
 exact ⟨.int .i64 i, Xx (Xs rfl), by rw [atI_some hix he hno]⟩
 intro hc2
 have hne : f.order[i] ≠ v := of_decide_eq_false hc2
 refine X9 ?_
 refine Xu ?_
 refine Xa (Xb Xm) ?_
 refine Xa (Yn rfl rfl Y0) ?_
 refine Xa (Xi rfl) ?_
 exact ⟨f.order.length - (i + 1), by omega, i + 1, by omega, rfl, rfl, by rw [← Y9 hix]; simp only [List.mem_append, List.mem_singleton, not_or]; exact ⟨hno, fun e => hne e.symm⟩, e1, e2, rfl⟩
 intro hc1
 (try simp only [Yt] at hc1)
 refine Yx ?_
 refine Xe ?_
 refine Xu ?_
 refine Xa (Xi rfl) ?_
 refine X2 ?_
 rw [List.take_of_length_le (by omega)] at hno
 exact ⟨.int .i64 (-1), Xx (Xs rfl), by rw [atI_none hno]⟩
theorem at_forest (f : Forest) (cs : List Value) (v : Int) (H : Hp) (hp : kForest.rep H f cs) (hl : f.order.length ≤ 1000000) :
  ACalls Tryz.prog 56 #[.agg cs.toArray, .int .i64 v] H (fun r H' => r = .int .i64 (atI f.order v) ∧ H' = H) :=
 ACalls.pure (fun v h => by rw [h]; rfl) (at_raw f cs v H.ro (kForest.mono H.sees_ro hp) hl)
theorem top_u64 (a : Int) (H : Hp) : ACalls Tryz.prog 87 #[.int .u64 a] H (fun r H' => r = .int .u64 (min a Zh) ∧ H' = H) := by
 refine Xv Tryz.func87 rfl rfl rfl (by simp) ?_
 refine Xe ?_
 refine Xu ?_
 refine Xa (Xi rfl) ?_
 refine Xe ?_
 refine Xe ?_
 refine Xu ?_
 refine Xa (Xb rfl) ?_
 refine Xa (Vu rfl rfl) ?_
 refine X5 rfl rfl ?_ ?_
 intro hc1
 have hgt : a > 4611686018427387904 := of_decide_eq_true hc1
 refine Xe ?_
 refine Xu ?_
 refine Xa (Xi rfl) ?_
 refine X2 ?_
 exact ⟨.int .u64 4611686018427387904, Xx (Xs rfl), by rw [show min a Zh = 4611686018427387904 by unfold Zh; omega], rfl⟩
 intro hc1
 have hgt : ¬ a > 4611686018427387904 := of_decide_eq_false hc1
 refine X9 ?_
 refine Xe ?_
 refine Xu ?_
 refine Xa (Xb rfl) ?_
 refine Xa (Xi rfl) ?_
 refine X2 ?_
 exact ⟨.int .u64 a, Xx (Xs rfl), by rw [show min a Zh = a by unfold Zh; omega], rfl⟩
theorem timesR_u64 (a b : Int) (ha : 0 ≤ a) (hb : 0 ≤ b) (H : Hp) : ACalls Tryz.prog 57 #[.int .u64 a, .int .u64 b] H (fun r H' => r = .int .u64 (Zi a b) ∧ H' = H) := by
 obtain ⟨m, hm⟩ : ∃ m, m = min a Zh := ⟨_, rfl⟩
 obtain ⟨n, hn⟩ : ∃ n, n = min b Zh := ⟨_, rfl⟩
 have hm1 : 0 ≤ m ∧ m ≤ 4611686018427387904 := by unfold Zh at hm; omega
 have hn1 : 0 ≤ n ∧ n ≤ 4611686018427387904 := by unfold Zh at hn; omega
 have ht : Zi a b = min (m * n) Zh := by unfold Zi; rw [← hm, ← hn]
 have hw : ∀ x : Int, 0 ≤ x → x < 18446744073709551616 → IntKind.u64.wrap x = x := fun x h1 h2 => by simp [IntKind.wrap, IntKind.bits, IntKind.signed]; omega
 refine Xv Tryz.func57 rfl rfl rfl (by simp) ?_
 refine Xe ?_
 refine Xu ?_
 refine Xa (Xi rfl) ?_
 refine Xe ?_
 refine Xu ?_
 refine Xa (Xb rfl) ?_
 refine Xw (Xy (top_u64 a _) rfl Tryz.func87 rfl rfl rfl ?_)
 rintro v1 H1 ⟨rfl, rfl⟩; rw [← hm]
 refine Xa (Xb rfl) ?_
 refine Xw (Xy (top_u64 b _) rfl Tryz.func87 rfl rfl rfl ?_)
 rintro v2 H2 ⟨rfl, rfl⟩; rw [← hn]
 refine Xa (Xi rfl) ?_
 refine Xa (Xi rfl) ?_
 refine Xe ?_
 refine Xe ?_
 refine Xu ?_
 refine Xa (Xb rfl) ?_
 refine Xa (Zx rfl rfl) ?_
 refine Xa (Xo rfl) ?_
 refine Ya rfl rfl rfl ?_ ?_
 intro hg1
 have hm0 : m = 0 := of_decide_eq_true hg1
 refine Xc (Xg rfl rfl rfl hg1 rfl) ?_
 refine Xc (Xg rfl rfl rfl hg1 rfl) ?_
 refine Xa (Xl (Yv hg1) rfl) ?_
 refine Yu rfl rfl ?_
 refine Xe ?_
 refine Xu ?_
 refine Xa (Xi rfl) ?_
 refine X2 ?_
 ·refine ⟨.int .u64 0, Xx (Xs rfl), ?_, rfl⟩
  rw [ht]
  first
   | (rw [hm0]; simp [Zh]; done)
   | (rw [hm0, Int.zero_mul]; rfl)
   | (rw [hn0, Int.mul_zero]; rfl)
 intro hg1
 have hm0 : m ≠ 0 := of_decide_eq_false hg1
 refine Xj (Xh rfl rfl rfl hg1) (Xb rfl) ?_
 refine Xj (Xh rfl rfl rfl hg1) (Zx rfl rfl) ?_
 refine Xa (Xl (Yv hg1) rfl) ?_
 refine X5 rfl rfl ?_ ?_
 intro hc3
 have hn0 : n = 0 := of_decide_eq_true hc3
 refine Xe ?_
 refine Xu ?_
 refine Xa (Xi rfl) ?_
 refine X2 ?_
 ·refine ⟨.int .u64 0, Xx (Xs rfl), ?_, rfl⟩
  rw [ht]
  first
   | (rw [hm0]; simp [Zh]; done)
   | (rw [hm0, Int.zero_mul]; rfl)
   | (rw [hn0, Int.mul_zero]; rfl)
 intro hc3
 have hn0 : n ≠ 0 := of_decide_eq_false hc3
 refine X9 ?_
 refine Xe ?_
 refine Xe ?_
 refine Xu ?_
 have hq : IntKind.u64.wrap (Int.tdiv 4611686018427387904 n) = 4611686018427387904 / n := by
  have h1 : (0 : Int) ≤ 4611686018427387904 / n := Int.ediv_nonneg (by omega) (by omega)
  have h2 : (4611686018427387904 : Int) / n ≤ 4611686018427387904 := Int.ediv_le_self _ (by omega)
  rw [Int.tdiv_eq_ediv_of_nonneg (by omega)]
  exact hw _ h1 (by omega)
 refine Xa (Xb rfl) ?_
 refine Xa (Xb rfl) ?_
 refine Xa (av_quo rfl rfl (by omega)) ?_
 refine Xa (Vu rfl rfl) ?_
 refine X5 rfl rfl ?_ ?_
 intro hc4
 have hgt : 4611686018427387904 < m * n := (Int.ediv_lt_iff_lt_mul (by omega)).1 (by have := of_decide_eq_true hc4; rwa [hq] at this)
 refine Xe ?_
 refine Xu ?_
 refine Xa (Xi rfl) ?_
 refine X2 ?_
 exact ⟨.int .u64 4611686018427387904, Xx (Xs rfl), by rw [ht, show min (m * n) Zh = 4611686018427387904 by unfold Zh; omega], rfl⟩
 intro hc4
 have hgt : ¬ 4611686018427387904 < m * n := fun h => by
  have h1 := (Int.ediv_lt_iff_lt_mul (c := n) (by omega)).2 h
  have h2 := of_decide_eq_false hc4
  rw [hq] at h2
  exact h2 h1
 refine X9 ?_
 refine Xe ?_
 refine Xu ?_
 refine Xa (Xb rfl) ?_
 refine Xa (Xb rfl) ?_
 refine Xa (av_mul rfl rfl) ?_
 refine Xa (Xi rfl) ?_
 refine X2 ?_
 have h0 : 0 ≤ m * n := Int.mul_nonneg hm1.1 hn1.1
 refine ⟨.int .u64 (m * n), Xx (Xs ?_), by rw [ht, show min (m * n) Zh = m * n by unfold Zh; omega], rfl⟩
 show Value.int .u64 (IntKind.u64.wrap (m * n)) = _
 rw [hw _ h0 (by omega)]
def isAt (a b : Int) (x : Link) : Bool := decide (x.a = a) && decide (x.b = b)
def Ua (xs : List Link) (a b : Int) : Int := match xs.findIdx? (isAt a b) with
 | some i => i
 | none => -1
theorem findI_some {xs : List Link} {a b : Int} {i : Nat} (hi : i < xs.length) (h : isAt a b xs[i] = true) (hno : ∀ x ∈ xs.take i, isAt a b x = false) : Ua xs a b = i := by
 unfold Ua
 have : xs.findIdx? (isAt a b) = some i := by
  rw [List.findIdx?_eq_some_iff_getElem]
  refine ⟨hi, h, fun j hj => ?_⟩
  have := hno xs[j] (List.mem_take_iff_getElem.2 ⟨j, by omega, rfl⟩)
  rw [this]; simp
 rw [this]
theorem findI_none {xs : List Link} {a b : Int} (hno : ∀ x ∈ xs, isAt a b x = false) : Ua xs a b = -1 := by
 unfold Ua
 have : xs.findIdx? (isAt a b) = none := by
  rw [List.findIdx?_eq_none_iff]; exact hno
 rw [this]
theorem findI_ge {xs : List Link} {a b : Int} : Ua xs a b ≥ 0 ↔ ∃ x ∈ xs, x.a = a ∧ x.b = b := by
 unfold Ua
 cases h : xs.findIdx? (isAt a b) with
 | none =>
  rw [List.findIdx?_eq_none_iff] at h
  refine ⟨fun h => by simp at h, fun ⟨x, hx, e1, e2⟩ => ?_⟩
  have := h x hx
  unfold isAt at this
  rw [decide_eq_true e1, decide_eq_true e2] at this
  cases this
 | some i =>
  obtain ⟨hi, h1, _⟩ := List.findIdx?_eq_some_iff_getElem.1 h
  unfold isAt at h1
  rw [Bool.and_eq_true, decide_eq_true_eq, decide_eq_true_eq] at h1
  exact ⟨fun _ => ⟨_, List.getElem_mem hi, h1⟩, fun _ => by simp⟩
theorem Find_raw (xs : List Link) (v : Value) (a b : Int) (H : Hp) (hs : Sl kLink H v xs) (hl : xs.length ≤ 9223372036854775807) :
  ACalls Tryz.prog 55 #[v, .int .i64 a, .int .i64 b] H (fun r _ => r = .int .i64 (Ua xs a b)) := by
 obtain ⟨A, c, rfl⟩ := hs.shape
 refine Xv Tryz.func55 rfl rfl rfl (by simp) ?_
 refine Xe ?_
 refine Xu ?_
 refine Xa (Xi rfl) ?_
 refine Xe ?_
 refine Xe ?_
 refine Xu ?_
 refine Xa (Xi rfl) ?_
 refine Ye ?_
 refine Y5 (fun n t H' => ∃ (i : Nat), i ≤ xs.length ∧ n = xs.length - i ∧ H' = H ∧ (∀ x ∈ xs.take i, isAt a b x = false) ∧ t 0 = .slice A xs.length c ∧ t 1 = .int .i64 a ∧ t 2 = .int .i64 b ∧ t 7 = .int .i64 i) (xs.length) (⟨0, by omega, rfl, rfl, by simp, rfl, rfl, rfl, rfl⟩) ?_
 rintro n t _ ⟨i, hi, rfl, rfl, hno, e0, e1, e2, e7⟩
 refine Xe ?_
 refine Xe ?_
 refine Xu ?_
 refine Xa (Xb Xm) ?_
 refine Xa (X1 Xm) ?_
 refine Xa (Ys rfl Tryz.underlying83) ?_
 refine Xa (Za rfl rfl) ?_
 refine X5 rfl rfl ?_ ?_
 intro hc1
 (try simp only [Yt] at hc1)
 refine X9 ?_
 refine Xe ?_
 refine Ye ?_
 refine Xe ?_
 refine Xu ?_
 refine Xa (X1 Xm) ?_
 refine Xa (Xb Xm) ?_
 have hix : i < xs.length := by omega
 obtain ⟨b1, o1, rfl, hb1, hcell1⟩ := hs.link_at hix
 have hcella := hcell1 0 _ rfl
 have hcellb := hcell1 1 _ rfl
 refine Xa (Xt rfl rfl Tryz.underlying83 inf96.size X6 X6) ?_
 refine Xa (Xf (off := 0) rfl Tryz.underlying96 rfl inf3.size (by decide) rfl) ?_
 refine Xa (Xk rfl Tryz.underlying3 rfl Xp) ?_
 refine Xa (Xb Xm) ?_
 refine Xa (Zx rfl rfl) ?_
 refine Xa (Xo rfl) ?_
 refine Ya rfl rfl rfl ?_ ?_
 intro hg2
 have hxa : xs[i].a = a := of_decide_eq_true hg2
 refine Xj (Xh rfl rfl rfl hg2) (X1 Xm) ?_
 refine Xj (Xh rfl rfl rfl hg2) (Xb Xm) ?_
 refine Xj (Xh rfl rfl rfl hg2) (Xt rfl rfl Tryz.underlying83 inf96.size X6 X6) ?_
 refine Xj (Xh rfl rfl rfl hg2) (Xf (off := 1) rfl Tryz.underlying96 rfl inf3.size (by decide) rfl) ?_
 refine Xj (Xh rfl rfl rfl hg2) (Xk rfl Tryz.underlying3 rfl Xp) ?_
 refine Xj (Xh rfl rfl rfl hg2) (Xb Xm) ?_
 refine Xj (Xh rfl rfl rfl hg2) (Zx rfl rfl) ?_
 refine Xa (Xl (Yv hg2) rfl) ?_
 refine X5 rfl rfl ?_ ?_
 intro hc3
 have hxb : xs[i].b = b := of_decide_eq_true hc3
 refine Xe ?_
 refine Xu ?_
 refine Xa (Xb Xm) ?_
 refine Xa (Xi rfl) ?_
 refine X2 ?_
 exact ⟨.int .i64 i, Xx (Xs rfl), by rw [findI_some hix (by unfold isAt; rw [decide_eq_true hxa, decide_eq_true hxb]; rfl) hno]⟩
 intro hc3
 have hxb : xs[i].b ≠ b := of_decide_eq_false hc3
 refine X9 ?_
 refine Xu ?_
 refine Xa (Xb Xm) ?_
 refine Xa (Yn rfl rfl Y0) ?_
 refine Xa (Xi rfl) ?_
 refine ⟨xs.length - (i + 1), by omega, i + 1, by omega, rfl, rfl, fun x hx => ?_, e0, e1, e2, rfl⟩
 rw [← Y9 hix] at hx
 rcases List.mem_append.1 hx with hx | hx
 ·exact hno x hx
 ·rw [List.mem_singleton.1 hx]; unfold isAt
  first
   | (rw [decide_eq_false hxa]; rfl)
   | (rw [decide_eq_false hxb, Bool.and_false])
 intro hg2
 have hxa : xs[i].a ≠ a := of_decide_eq_false hg2
 refine Xc (Xg rfl rfl rfl hg2 rfl) ?_
 refine Xc (Xg rfl rfl rfl hg2 rfl) ?_
 refine Xc (Xg rfl rfl rfl hg2 rfl) ?_
 refine Xc (Xg rfl rfl rfl hg2 rfl) ?_
 refine Xc (Xg rfl rfl rfl hg2 rfl) ?_
 refine Xc (Xg rfl rfl rfl hg2 rfl) ?_
 refine Xc (Xg rfl rfl rfl hg2 rfl) ?_
 refine Xa (Xl (Yv hg2) Xm) ?_
 refine Y2 rfl rfl ?_
 refine X9 ?_
 refine Xu ?_
 refine Xa (Xb Xm) ?_
 refine Xa (Yn rfl rfl Y0) ?_
 refine Xa (Xi rfl) ?_
 refine ⟨xs.length - (i + 1), by omega, i + 1, by omega, rfl, rfl, fun x hx => ?_, e0, e1, e2, rfl⟩
 rw [← Y9 hix] at hx
 rcases List.mem_append.1 hx with hx | hx
 ·exact hno x hx
 ·rw [List.mem_singleton.1 hx]; unfold isAt
  first
   | (rw [decide_eq_false hxa]; rfl)
   | (rw [decide_eq_false hxb, Bool.and_false])
 intro hc1
 (try simp only [Yt] at hc1)
 refine Yx ?_
 refine Xe ?_
 refine Xu ?_
 refine Xa (Xi rfl) ?_
 refine X2 ?_
 rw [List.take_of_length_le (by omega)] at hno
 exact ⟨.int .i64 (-1), Xx (Xs rfl), by rw [findI_none hno]⟩
theorem Find_links (xs : List Link) (v : Value) (a b : Int) (H : Hp) (hs : Sl kLink H v xs) (hl : xs.length ≤ 9223372036854775807) :
  ACalls Tryz.prog 55 #[v, .int .i64 a, .int .i64 b] H (fun r H' => r = .int .i64 (Ua xs a b) ∧ H' = H) :=
 ACalls.pure (fun v h => by rw [h]; rfl) (Find_raw xs v a b H.ro (hs.mono H.sees_ro) hl)
theorem mid_val {i j n : Nat} (h : i ≤ j) (h2 : j ≤ n) (hn : n ≤ 4611686018427387904) : Value.int .i64 (IntKind.i64.wrap ((IntKind.u64.wrap ((i : Int) + j)).fdiv (2 ^ min (1 : Int).toNat IntKind.u64.bits))) = .int .i64 (((i + j) / 2 : Nat) : Int) := by
 have e1 : IntKind.u64.wrap ((i : Int) + j) = ((i + j : Nat) : Int) := by simp [IntKind.wrap, IntKind.bits, IntKind.signed]; omega
 have e2 : (((i + j : Nat) : Int)).fdiv (2 ^ min (1 : Int).toNat IntKind.u64.bits) = (((i + j) / 2 : Nat) : Int) := by
  show (((i + j : Nat) : Int)).fdiv 2 = _
  rw [Int.fdiv_eq_ediv_of_nonneg _ (by omega)]
  omega
 rw [e1, e2]
 congr 1
 simp [IntKind.wrap, IntKind.bits, IntKind.signed]; omega
theorem Search_gen (n : Nat) (g : FuncId) (fn : Func) (binds : Array Value) (p : Nat → Bool) (H : Hp) (hf : Tryz.prog.funcs[g]? = some fn) (hb : fn.body.isSome = true) (hnm : (fn.name == "runtime.NumGoroutine") = false)
  (hp : ∀ i, i < n → ACalls Tryz.prog g (#[.int .i64 (i : Nat)] ++ binds) H (fun r H' => r = .bool (p i) ∧ H' = H)) (hmono : ∀ i j, i ≤ j → j < n → p i = true → p j = true) (hn : n ≤ 4611686018427387904) :
  ACalls Tryz.prog 82 #[.int .i64 n, .func (.func g) #[] binds] H (fun r H' => (∃ k : Nat, r = .int .i64 k ∧ k ≤ n ∧ (∀ i, i < k → p i = false) ∧ ∀ i, k ≤ i → i < n → p i = true) ∧ H' = H) := by
 refine Xv Tryz.func82 rfl rfl rfl (by simp) ?_
 refine Xe ?_
 refine Xu ?_
 refine Xa (Xi rfl) ?_
 refine Xe ?_
 refine Xu ?_
 refine Xa (Xb rfl) ?_
 refine Xa (Xi rfl) ?_
 refine Xa (Xi rfl) ?_
 refine Xe ?_
 refine Ye ?_
 refine Y5 (fun m t H' => ∃ (i j : Nat), i ≤ j ∧ j ≤ n ∧ m = j - i ∧ H' = H ∧ (∀ x, x < i → p x = false) ∧ (∀ x, j ≤ x → x < n → p x = true) ∧ t 1 = .func (.func g) #[] binds ∧ t 5 = .int .i64 i ∧ t 6 = .int .i64 j) (n) (⟨0, n, Nat.zero_le _, Nat.le_refl _, by omega, rfl, fun x h => by omega, fun x h h2 => by omega, rfl, rfl, rfl⟩) ?_
 rintro m t _ ⟨i, j, hij, hjn, rfl, rfl, hlo, hhi, e1, e5, e6⟩
 refine Xe ?_
 refine Xe ?_
 refine Xu ?_
 refine Xa (Xb Xm) ?_
 refine Xa (Xb Xm) ?_
 refine Xa (Za rfl rfl) ?_
 refine X5 rfl rfl ?_ ?_
 intro hc1
 (try simp only [Yt] at hc1)
 refine X9 ?_
 refine Ye ?_
 refine Xe ?_
 refine Xu ?_
 refine Xa (Xb Xm) ?_
 refine Xa (Xb Xm) ?_
 refine Xa (Yn rfl rfl Y0) ?_
 refine Xa (av_conv rfl (by rw [Tryz.underlying3]; rfl) Tryz.underlying157) ?_
 refine Xa (av_shr rfl rfl (by omega)) ?_
 refine Xa (av_conv rfl (by rw [Tryz.underlying157]; rfl) Tryz.underlying3) ?_
 refine Xa (Xi (n := (((i + j) / 2 : Nat) : Int)) (mid_val hij hjn hn)) ?_
 have hm1 : i ≤ (i + j) / 2 := by omega
 have hm2 : (i + j) / 2 < j := by omega
 refine Xe ?_
 refine Xu ?_
 refine Xa (Vd Xm) ?_
 refine Xa (Xb rfl) ?_
 refine Xw (Xy (hp ((i + j) / 2) (by omega)) rfl hf hb hnm (by simp; rfl) ?_)
 rintro v H' ⟨rfl, rfl⟩
 refine Xa (Zz rfl) ?_
 refine X5 rfl rfl ?_ ?_
 intro hc2
 have hc : p ((i + j) / 2) = false := by simpa using hc2
 refine Xu ?_
 refine Xa (Xb rfl) ?_
 refine Xa (Yn rfl rfl Y0) ?_
 refine Xa (Xi rfl) ?_
 have hlo2 : ∀ x, x < (i + j) / 2 + 1 → p x = false := fun x h => by
  cases hx : p x with
  | false => rfl
  | true =>
   have := hmono x ((i + j) / 2) (by omega) (by omega) hx
   rw [hc] at this; cases this
 exact ⟨j - ((i + j) / 2 + 1), by omega, (i + j) / 2 + 1, j, by omega, hjn, rfl, rfl, hlo2, hhi, e1, rfl, e6⟩
 intro hc2
 have hc : p ((i + j) / 2) = true := by simpa using hc2
 refine Xu ?_
 refine Xa (Xb rfl) ?_
 refine Xa (Xi rfl) ?_
 exact ⟨(i + j) / 2 - i, by omega, i, (i + j) / 2, by omega, by omega, rfl, rfl, hlo, fun x h h2 => hmono _ x h h2 hc, e1, e5, rfl⟩
 intro hc1
 (try simp only [Yt] at hc1)
 refine Yx ?_
 refine Xe ?_
 refine Xu ?_
 refine Xa (Xb Xm) ?_
 refine Xa (Xi rfl) ?_
 refine X2 ?_
 exact ⟨.int .i64 i, Xx (Xs Xm), ⟨i, rfl, by omega, hlo, fun x h h2 => hhi x (by omega) h2⟩, rfl⟩
def Uv (xs : List Link) (second : Bool) : List Int := Lib.compact ((xs.map fun x => if second then x.b else x.a).mergeSort fun x y => decide (x ≤ y))
theorem Ends_links (xs : List Link) (v : Value) (second : Bool) (H : Hp) (hs : Sl kLink H v xs) (hl : xs.length ≤ 1000000) :
  ACalls Tryz.prog 135 #[v, .bool second] H (fun r H' => ∃ G', H.le G' ∧ OwnP (Y1 .i64) G' H' r (Uv xs second)) := by
 obtain ⟨A, c, rfl⟩ := hs.shape
 refine Xv Tryz.func135 rfl rfl rfl (by simp) ?_
 refine Xe ?_
 refine Xu ?_
 refine Xa (Yc rfl) ?_
 refine Xe ?_
 refine Xu ?_
 refine Xa (Yc rfl) ?_
 refine Xe ?_
 refine Xe ?_
 refine Xu ?_
 refine Xa (X1 rfl) ?_
 refine Xa (Ys rfl Tryz.underlying83) ?_
 refine Xa (Xb rfl) ?_
 refine Ye ?_
 refine Y5 (fun n t H' => ∃ (i : Nat) (G : Hp) (B : Option Addr) (c5 : Nat), i ≤ xs.length ∧ n = xs.length - i ∧ H.le G ∧ OwnP (Y1 .i64) G H' (.slice B i c5) ((xs.take i).map fun x => if second then x.b else x.a) ∧ t 1 = .bool second ∧ t 5 = .slice B i c5 ∧ t 8 = .slice A xs.length c ∧ t 9 = .int .i64 xs.length ∧ t 10 = .int .i64 i) (xs.length) (⟨0, H, _, _, by omega, rfl, Hp.le_refl _, OwnP.nil _ _, rfl, rfl, rfl, rfl, rfl⟩) ?_
 rintro n t H1 ⟨i, G, B, c5, hi, rfl, hle, hown, e1, e5, e8, e9, e10⟩
 have hz := hown.size
 have hlen : ((xs.take i).map fun x => if second then x.b else x.a).length = i := by rw [List.length_map, List.length_take]; omega
 refine Xe ?_
 refine Xu ?_
 refine Xa (Za Xm Xm) ?_
 refine Xe ?_
 refine X5 rfl rfl ?_ ?_
 intro hc1
 (try simp only [Yt] at hc1)
 refine X9 ?_
 refine Xe ?_
 refine Ye ?_
 refine Xe ?_
 refine Xu ?_
 have hix : i < xs.length := by omega
 obtain ⟨b, o, rfl, hb, hcell0⟩ := (hs.mono hle.sees).link_at hix
 have hcells := hown.le.cells hb hcell0
 have hownE := hown.boxed [.int .i64 0, .int .i64 0, .int .i64 0, .int .u64 0] [.int .i64 xs[i].a, .int .i64 xs[i].b, .int .i64 xs[i].cost, .int .u64 xs[i].n]
 have hleE := Hp.le_put_new (b := H1.size) (Hp.le_push' hle (.own 0 [.int .i64 0, .int .i64 0, .int .i64 0, .int .u64 0])) (by rw [hz]; exact hle.1) (.own 0 [.int .i64 xs[i].a, .int .i64 xs[i].b, .int .i64 xs[i].cost, .int .u64 xs[i].n])
 refine Xa (Xt Xm Xm Tryz.underlying83 inf96.size X6 X6) ?_
 refine Xa (Yl (cs := [.int .i64 _, .int .i64 _, .int .i64 _, .int .u64 _]) rfl Tryz.underlying96 rfl inf96.size X8) ?_
 refine Xz (Yz (l := [.int .i64 0, .int .i64 0, .int .i64 0, .int .u64 0]) inf96.zero rfl (by decide)) ?_
 first | refine Xw (Yf (vs := [.int .i64 _, .int .i64 _, .int .i64 _, .int .u64 _]) rfl rfl inf96.size Yd Yg rfl rfl ?_)
 refine Xe ?_
 refine Xu ?_
 refine Xa (Xo Xm) ?_
 refine X5 rfl rfl ?_ ?_
 intro hc2
 (try simp only [Yt] at hc2)
 refine Xu ?_
 refine Xa (X1 Xm) ?_
 refine Xa (Xf (off := 1) rfl Tryz.underlying96 rfl inf3.size (by decide) rfl) ?_
 refine Xa (Xk rfl Tryz.underlying3 rfl Xp) ?_
 first | refine Xz (Yh (r := [.int .i64 _]) Tryz.underlying23 inf3.size inf3.zero rfl (by decide) (by decide) (by decide) rfl) ?_
 refine Xw (OwnP.append (ys := [xs[i].b]) (hownE.push (.own 1 [.int .i64 xs[i].b])) Tryz.underlying23 inf3 rfl rfl rfl (Zo (k := Y1 .i64) rfl rfl hownE.size rfl) (by rw [hlen]; simp; omega) (by rw [hlen]; simp; omega) ?_)
 rintro v6 G6 H6 hle6 hown6
 obtain ⟨B', c', e6⟩ := hown6.shape
 rw [List.length_append, hlen, List.length_singleton] at e6
 subst e6
 refine Xa (Yc rfl) ?_
 refine Xu ?_
 refine Xa (Yn Xm Xm Y0) ?_
 refine Xa (Xb rfl) ?_
 have hstep : ((xs.take (i + 1)).map fun x => if second then x.b else x.a) = ((xs.take i).map fun x => if second then x.b else x.a) ++ [if second then xs[i].b else xs[i].a] := by rw [← Y9 hix, List.map_append]; rfl
 have hcond : (if second = true then xs[i].b else xs[i].a) = (if second then xs[i].b else xs[i].a) := rfl
 refine ⟨xs.length - (i + 1), by omega, i + 1, G6, B', c', by omega, rfl, Hp.le_trans (Hp.le_push' hleE _) hle6, ?_, e1, rfl, e8, e9, rfl⟩
 rw [hstep]
 simp_all
 intro hc2
 (try simp only [Yt] at hc2)
 refine Xu ?_
 refine Xa (X1 Xm) ?_
 refine Xa (Xf (off := 0) rfl Tryz.underlying96 rfl inf3.size (by decide) rfl) ?_
 refine Xa (Xk rfl Tryz.underlying3 rfl Xp) ?_
 first | refine Xz (Yh (r := [.int .i64 _]) Tryz.underlying23 inf3.size inf3.zero rfl (by decide) (by decide) (by decide) rfl) ?_
 refine Xw (OwnP.append (ys := [xs[i].a]) (hownE.push (.own 1 [.int .i64 xs[i].a])) Tryz.underlying23 inf3 rfl rfl rfl (Zo (k := Y1 .i64) rfl rfl hownE.size rfl) (by rw [hlen]; simp; omega) (by rw [hlen]; simp; omega) ?_)
 rintro v6 G6 H6 hle6 hown6
 obtain ⟨B', c', e6⟩ := hown6.shape
 rw [List.length_append, hlen, List.length_singleton] at e6
 subst e6
 refine Xa (Yc rfl) ?_
 refine Xu ?_
 refine Xa (Yn Xm Xm Y0) ?_
 refine Xa (Xb rfl) ?_
 have hstep : ((xs.take (i + 1)).map fun x => if second then x.b else x.a) = ((xs.take i).map fun x => if second then x.b else x.a) ++ [if second then xs[i].b else xs[i].a] := by rw [← Y9 hix, List.map_append]; rfl
 have hcond : (if second = true then xs[i].b else xs[i].a) = (if second then xs[i].b else xs[i].a) := rfl
 refine ⟨xs.length - (i + 1), by omega, i + 1, G6, B', c', by omega, rfl, Hp.le_trans (Hp.le_push' hleE _) hle6, ?_, e1, rfl, e8, e9, rfl⟩
 rw [hstep]
 simp_all
 intro hc1
 (try simp only [Yt] at hc1)
 refine Yx ?_
 refine Xe ?_
 have hfull : xs.take i = xs := List.take_of_length_le (by omega)
 rw [hfull] at hown
 have hlen2 : (xs.map fun x => if second then x.b else x.a).length = xs.length := by rw [List.length_map]
 have hi2 : i = xs.length := by omega
 subst hi2
 refine Xu ?_
 refine Xa (X1 Xm) ?_
 refine Xw (Xy (hown.sort_ints sortIntLay (by omega)) rfl Tryz.func144 rfl rfl rfl ?_)
 rintro v7 H7 ⟨rfl, hown7⟩
 refine Xe ?_
 refine Xu ?_
 refine Xa (X1 Xm) ?_
 refine Xw (Xy (hown7.compact_ints compactIntLay (by rw [List.length_mergeSort]; omega)) rfl Tryz.func145 rfl rfl rfl ?_)
 rintro v8 H8 hown8
 refine Xa (Vf rfl) ?_
 refine X2 ?_
 exact ⟨v8, Xx (Xs rfl), G, hle, hown8⟩
theorem Clone_links (xs : List Link) (v : Value) (H : Hp) (hs : Sl kLink H v xs) (hl : xs.length ≤ 1000000) :
  ACalls Tryz.prog 51 #[v] H (fun r H' => ∃ G', H.le G' ∧ OwnP kLink G' H' r xs) := by
 rcases hs with ⟨rfl, rfl⟩ | ⟨b, o, c, rfl, hb, hk, hx⟩
 ·skip
  refine Xv Tryz.func51 rfl rfl rfl (by simp) ?_
  refine Xe ?_
  refine Xu ?_
  refine Xa (Yc rfl) ?_
  refine Xe ?_
  refine Xe ?_
  refine Xu ?_
  refine Xa (X1 rfl) ?_
  refine Xa (av_sl_eq_nil rfl rfl Tryz.underlying83) ?_
  refine Yu (rfl) rfl ?_
  refine Xe ?_
  refine Xu ?_
  refine Xa (Yc rfl) ?_
  refine X2 ?_
  exact ⟨.slice none 0 0, Xx (Xs rfl), H, Hp.le_refl _, OwnP.nil _ _⟩
 ·have hs : Sl kLink H (.slice (some ⟨b, o, none⟩) xs.length c) xs := .inr ⟨b, o, c, rfl, hb, hk, hx⟩
  skip
  refine Xv Tryz.func51 rfl rfl rfl (by simp) ?_
  refine Xe ?_
  refine Xu ?_
  refine Xa (Yc rfl) ?_
  refine Xe ?_
  refine Xe ?_
  refine Xu ?_
  refine Xa (X1 rfl) ?_
  refine Xa (av_sl_eq_nil rfl rfl Tryz.underlying83) ?_
  refine Y2 (rfl) rfl ?_
  refine X9 ?_
  refine Xe ?_
  refine Xu ?_
  first | refine Xz (Yh (r := []) Tryz.underlying83 inf96.size inf96.zero rfl (by decide) (by decide) (by decide) rfl) ?_
  refine Xa (X1 rfl) ?_
  refine Xw (OwnP.append (ys := xs) (OwnP.lit kLink H) Tryz.underlying83 inf96 rfl rfl rfl (hs.mono (H.le_push _).sees) (by simp; omega) (by simp; omega) ?_)
  rintro v5 G' H2 hle' hown'
  rw [List.nil_append] at hown'
  obtain ⟨B', c', rfl⟩ := hown'.shape
  refine Xa (Yc rfl) ?_
  refine X2 ?_
  exact ⟨.slice B' xs.length c', Xx (Xs rfl), G', Hp.le_trans (H.le_push _) hle', hown'⟩
theorem isNaN_int (x : Int) (H : Hp) : ACalls Tryz.prog 165 #[.int .i64 x] H (fun r H' => r = .bool false ∧ H' = H) := by
 refine Xv Tryz.func165 rfl rfl rfl (by simp) ?_
 refine Xe ?_
 refine Xu ?_
 refine Xa (Xn rfl) ?_
 refine Xe ?_
 refine Xu ?_
 refine Xa (Xb rfl) ?_
 refine Xa (Xb rfl) ?_
 refine Xa (Zw rfl rfl) ?_
 refine Xa (Xn rfl) ?_
 refine X2 ?_
 exact ⟨.bool false, Xx (Xs (by simp [Fr.put])), rfl, rfl⟩
theorem isNaNc_int (x : Int) (H : Hp) : ACalls Tryz.prog 171 #[.int .i64 x] H (fun r H' => r = .bool false ∧ H' = H) := by
 refine Xv Tryz.func171 rfl rfl rfl (by simp) ?_
 refine Xe ?_
 refine Xu ?_
 refine Xa (Xn rfl) ?_
 refine Xe ?_
 refine Xu ?_
 refine Xa (Xb rfl) ?_
 refine Xa (Xb rfl) ?_
 refine Xa (Zw rfl rfl) ?_
 refine Xa (Xn rfl) ?_
 refine X2 ?_
 exact ⟨.bool false, Xx (Xs (by simp [Fr.put])), rfl, rfl⟩
theorem Less_int (x y : Int) (H : Hp) : ACalls Tryz.prog 160 #[.int .i64 x, .int .i64 y] H (fun r H' => r = .bool (decide (x < y)) ∧ H' = H) := by
 refine Xv Tryz.func160 rfl rfl rfl (by simp) ?_
 refine Xe ?_
 refine Xu ?_
 refine Xa (Xn rfl) ?_
 refine Xe ?_
 refine Xu ?_
 refine Xa (Xb rfl) ?_
 refine Xw (Xy (isNaNc_int _ _) rfl Tryz.func171 rfl rfl rfl ?_)
 rintro v5 H5 ⟨rfl, rfl⟩
 refine Xa (Xo rfl) ?_
 refine Ya rfl rfl rfl ?_ ?_
 intro hg1
 cases hg1
 intro hg1
 have hp1 := hg1; try simp only [Yt] at hp1
 refine Xc (Xg rfl rfl rfl hg1 rfl) ?_
 refine Xc (Xg rfl rfl rfl hg1 rfl) ?_
 refine Xc (Xg rfl rfl rfl hg1 rfl) ?_
 refine Xa (Xl (Yv hg1) rfl) ?_
 refine Xa (Xo rfl) ?_
 refine Xj (Xh rfl rfl rfl rfl) (Xb rfl) ?_
 refine Xj (Xh rfl rfl rfl rfl) (Xb rfl) ?_
 refine Xj (Xh rfl rfl rfl rfl) (Za rfl rfl) ?_
 refine Xa (Xl (congrArg Value.bool rfl) rfl) ?_
 refine Xa (Xn rfl) ?_
 refine X2 ?_
 exact ⟨_, Xx (Xs rfl), rfl, rfl⟩
theorem bin_mem {xs : List Int} {x : Int} {i : Nat} (hmono : ∀ (i j : Nat), i ≤ j → j < xs.length → xs.getD i 0 ≤ xs.getD j 0) (hlo : ∀ k, k < i → xs.getD k 0 < x) (hhi : ∀ k, i ≤ k → k < xs.length → ¬ xs.getD k 0 < x) : x ∈ xs ↔ i < xs.length ∧ xs.getD i 0 = x := by
 constructor
 ·intro h
  obtain ⟨k, hk, rfl⟩ := List.getElem_of_mem h
  have hki : ¬ k < i := fun h1 => by have := hlo k h1; rw [Zf hk] at this; omega
  have h1 : i < xs.length := by omega
  have h2 := hmono i k (by omega) hk
  have h3 := hhi i (Nat.le_refl _) h1
  rw [Zf hk] at h2
  exact ⟨h1, by omega⟩
 ·rintro ⟨h1, rfl⟩
  rw [Zf h1]
  exact List.getElem_mem h1
theorem Bin_int (xs : List Int) (A : Option Addr) (c : Nat) (x : Int) (H : Hp) (hs : Sl (Y1 .i64) H (.slice A xs.length c) xs) (hl : xs.length ≤ 1000000) (hr : xs.Pairwise (· ≤ ·)) :
  ACalls Tryz.prog 153 #[.slice A xs.length c, .int .i64 x] H (fun r H' => (∃ i : Int, r = .tuple #[.int .i64 i, .bool (decide (x ∈ xs))]) ∧ H' = H) := by
 have hmono : ∀ (i j : Nat), i ≤ j → j < xs.length → xs.getD i 0 ≤ xs.getD j 0 := fun i j hij hj => by
  rw [Zf hj, Zf (by omega : i < xs.length)]
  rcases Nat.lt_or_eq_of_le hij with h | h
  ·exact List.pairwise_iff_getElem.1 hr i j (by omega) hj h
  ·subst h; exact Int.le_refl _
 refine Xv Tryz.func153 rfl rfl rfl (by simp) ?_
 refine Xe ?_
 refine Xu ?_
 refine Xa (Xi rfl) ?_
 refine Xa (Xn rfl) ?_
 refine Xe ?_
 refine Xu ?_
 refine Xa (X1 rfl) ?_
 refine Xa (Ys rfl Tryz.underlying23) ?_
 refine Xa (Xi rfl) ?_
 refine Xe ?_
 refine Xu ?_
 refine Xa (Xb rfl) ?_
 refine Xa (Xi rfl) ?_
 refine Xa (Xi rfl) ?_
 refine Xe ?_
 refine Ye ?_
 refine Y5 (fun m t H' => ∃ (i j : Nat), i ≤ j ∧ j ≤ xs.length ∧ m = j - i ∧ H' = H ∧ (∀ k, k < i → xs.getD k 0 < x) ∧ (∀ k, j ≤ k → k < xs.length → ¬ xs.getD k 0 < x) ∧ t 0 = .slice A xs.length c ∧ t 1 = .int .i64 x ∧ t 6 = .int .i64 xs.length ∧ t 7 = .int .i64 i ∧ t 8 = .int .i64 j) (xs.length) (⟨0, xs.length, Nat.zero_le _, Nat.le_refl _, by omega, rfl, fun x h => by omega, fun x h h2 => by omega, rfl, rfl, rfl, rfl, rfl⟩) ?_
 rintro m t _ ⟨i, j, hij, hjn, rfl, rfl, hlo, hhi, e0, e1, e6, e7, e8⟩
 refine Xe ?_
 refine Xe ?_
 refine Xu ?_
 refine Xa (Xb Xm) ?_
 refine Xa (Xb Xm) ?_
 refine Xa (Za rfl rfl) ?_
 refine X5 rfl rfl ?_ ?_
 intro hc1
 (try simp only [Yt] at hc1)
 refine X9 ?_
 refine Ye ?_
 refine Xe ?_
 refine Xu ?_
 refine Xa (Xb Xm) ?_
 refine Xa (Xb Xm) ?_
 refine Xa (Yn rfl rfl Y0) ?_
 refine Xa (av_conv rfl (by rw [Tryz.underlying3]; rfl) Tryz.underlying157) ?_
 refine Xa (av_shr rfl rfl (by omega)) ?_
 refine Xa (av_conv rfl (by rw [Tryz.underlying157]; rfl) Tryz.underlying3) ?_
 refine Xa (Xi (n := (((i + j) / 2 : Nat) : Int)) (mid_val hij hjn (by omega))) ?_
 have hm1 : i ≤ (i + j) / 2 := by omega
 have hm2 : (i + j) / 2 < j := by omega
 obtain ⟨b, o, rfl, hb, hcell⟩ := hs.int_at (i := (((i + j) / 2 : Nat) : Int)) (by omega) (by omega)
 rw [Int.toNat_natCast] at hcell
 refine Xe ?_
 refine Xu ?_
 refine Xa (X1 Xm) ?_
 refine Xa (Xb rfl) ?_
 refine Xa (Xt rfl rfl Tryz.underlying23 inf3.size X6 X6) ?_
 refine Xa (Xk rfl Tryz.underlying3 rfl Xp) ?_
 refine Xa (Xb Xm) ?_
 refine Xw (Xy (Less_int _ _ _) rfl Tryz.func160 rfl rfl rfl ?_)
 rintro v5 H5 ⟨rfl, rfl⟩
 refine X5 rfl rfl ?_ ?_
 intro hc2
 have hc : xs.getD ((i + j) / 2) 0 < x := by simpa using hc2
 refine Xu ?_
 refine Xa (Xb rfl) ?_
 refine Xa (Yn rfl rfl Y0) ?_
 refine Xa (Xi rfl) ?_
 exact ⟨j - ((i + j) / 2 + 1), by omega, (i + j) / 2 + 1, j, by omega, hjn, rfl, rfl, fun k hk => Int.lt_of_le_of_lt (hmono k ((i + j) / 2) (by omega) (by omega)) hc, hhi, e0, e1, e6, rfl, e8⟩
 intro hc2
 have hc : ¬ xs.getD ((i + j) / 2) 0 < x := by simpa using hc2
 refine Xu ?_
 refine Xa (Xb rfl) ?_
 refine Xa (Xi rfl) ?_
 exact ⟨(i + j) / 2 - i, by omega, i, (i + j) / 2, by omega, by omega, rfl, rfl, hlo, fun k h h2 => by have := hmono ((i + j) / 2) k h h2; omega, e0, e1, e6, e7, rfl⟩
 intro hc1
 (try simp only [Yt] at hc1)
 refine Yx ?_
 refine Xe ?_
 have hij2 : i = j := by omega
 subst hij2
 have hmem := bin_mem hmono hlo hhi
 refine Xu ?_
 refine Xa (Xb Xm) ?_
 refine Xa (Xb Xm) ?_
 refine Xa (Xb Xm) ?_
 refine Xa (Za rfl rfl) ?_
 refine Xa (Xo rfl) ?_
 refine Ya rfl rfl rfl ?_ ?_
 intro hg3
 have hi8 : i < xs.length := by have := of_decide_eq_true hg3; omega
 obtain ⟨b, o, rfl, hb, hcell⟩ := hs.int_at (i := (i : Int)) (by omega) (by omega)
 rw [Int.toNat_natCast] at hcell
 refine Xj (Xh rfl rfl rfl hg3) (X1 Xm) ?_
 refine Xj (Xh rfl rfl rfl hg3) (Xb Xm) ?_
 refine Xj (Xh rfl rfl rfl hg3) (Xt rfl rfl Tryz.underlying23 inf3.size X6 X6) ?_
 refine Xj (Xh rfl rfl rfl hg3) (Xk rfl Tryz.underlying3 rfl Xp) ?_
 refine Xj (Xh rfl rfl rfl hg3) (Xb Xm) ?_
 refine Xj (Xh rfl rfl rfl hg3) (Zx rfl rfl) ?_
 refine Xj (Xh rfl rfl rfl hg3) (Xo rfl) ?_
 refine Ya rfl rfl rfl ?_ ?_
 intro hg4
 have hp4 := hg4; try simp only [Yt] at hp4
 refine Xc (Xg rfl rfl rfl hg4 rfl) ?_
 refine Xc (Xg rfl rfl rfl hg4 rfl) ?_
 refine Xc (Xg rfl rfl rfl hg4 rfl) ?_
 refine Xc (Xg rfl rfl rfl hg4 rfl) ?_
 refine Xc (Xg rfl rfl rfl hg4 rfl) ?_
 refine Xc (Xg rfl rfl rfl hg4 rfl) ?_
 refine Xc (Yb rfl rfl rfl) ?_
 refine Xc (Yb rfl rfl rfl) ?_
 refine Xc (Xg rfl rfl rfl hg4 rfl) ?_
 refine Xj (Xh rfl rfl rfl hg3) (Xl (Yv hg4) Xm) ?_
 refine Xa (Xl (Yv hg3) rfl) ?_
 refine Xa (Xi rfl) ?_
 refine Xa (Xn rfl) ?_
 refine X2 ?_
 have hd : decide (x ∈ xs) = (decide (i < xs.length) && decide (xs.getD i 0 = x)) := by rw [← Bool.decide_and]; exact decide_eq_decide.2 hmem
 refine ⟨.tuple #[.int .i64 i, .bool (decide (x ∈ xs))], Y8 (Xs rfl) (Xs (congrArg Value.bool ?_)), ⟨_, rfl⟩, rfl⟩
 rw [hd]
 simp_all
 intro hg4
 have hp4 := hg4; try simp only [Yt] at hp4
 refine Xj (Xh rfl rfl rfl hg4) (X1 Xm) ?_
 refine Xj (Xh rfl rfl rfl hg4) (Xb Xm) ?_
 refine Xj (Xh rfl rfl rfl hg4) (Xt rfl rfl Tryz.underlying23 inf3.size X6 X6) ?_
 refine Xj (Xh rfl rfl rfl hg4) (Xk rfl Tryz.underlying3 rfl Xp) ?_
 refine Z1 (Xh rfl rfl rfl hg4) (Xy (isNaN_int _ _) rfl Tryz.func165 rfl rfl rfl ?_)
 rintro v5 H5 ⟨rfl, rfl⟩
 refine Xj (Xh rfl rfl rfl hg4) (Xo rfl) ?_
 refine Ya rfl rfl rfl ?_ ?_
 intro hg5
 cases hg5
 intro hg5
 have hp5 := hg5; try simp only [Yt] at hp5
 refine Xc (Xg rfl rfl rfl hg5 rfl) ?_
 refine Xc (Xg rfl rfl rfl hg5 rfl) ?_
 refine Xj (Xh rfl rfl rfl hg4) (Xl (Yv hg5) Xm) ?_
 refine Xj (Xh rfl rfl rfl hg3) (Xl (Yv hg4) rfl) ?_
 refine Xa (Xl (Yv hg3) rfl) ?_
 refine Xa (Xi rfl) ?_
 refine Xa (Xn rfl) ?_
 refine X2 ?_
 have hd : decide (x ∈ xs) = (decide (i < xs.length) && decide (xs.getD i 0 = x)) := by rw [← Bool.decide_and]; exact decide_eq_decide.2 hmem
 refine ⟨.tuple #[.int .i64 i, .bool (decide (x ∈ xs))], Y8 (Xs rfl) (Xs (congrArg Value.bool ?_)), ⟨_, rfl⟩, rfl⟩
 rw [hd]
 simp_all
 intro hg3
 have hi8 : ¬ i < xs.length := by have := of_decide_eq_false hg3; omega
 refine Xc (Xg rfl rfl rfl hg3 rfl) ?_
 refine Xc (Xg rfl rfl rfl hg3 rfl) ?_
 refine Xc (Xg rfl rfl rfl hg3 rfl) ?_
 refine Xc (Xg rfl rfl rfl hg3 rfl) ?_
 refine Xc (Xg rfl rfl rfl hg3 rfl) ?_
 refine Xc (Xg rfl rfl rfl hg3 rfl) ?_
 refine Xc (Xg rfl rfl rfl hg3 rfl) ?_
 refine Xc (Yb rfl rfl rfl) ?_
 refine Xc (Yb rfl rfl rfl) ?_
 refine Xc (Yb rfl rfl rfl) ?_
 refine Xc (Yb rfl rfl rfl) ?_
 refine Xc (Yb rfl rfl rfl) ?_
 refine Xc (Yb rfl rfl rfl) ?_
 refine Xc (Yb rfl rfl rfl) ?_
 refine Xc (Yb rfl rfl rfl) ?_
 refine Xc (Yb rfl rfl rfl) ?_
 refine Xc (Xg rfl rfl rfl hg3 rfl) ?_
 refine Xa (Xl (Yv hg3) Xm) ?_
 refine Xa (Xi rfl) ?_
 refine Xa (Xn rfl) ?_
 refine X2 ?_
 have hd : decide (x ∈ xs) = (decide (i < xs.length) && decide (xs.getD i 0 = x)) := by rw [← Bool.decide_and]; exact decide_eq_decide.2 hmem
 refine ⟨.tuple #[.int .i64 i, .bool (decide (x ∈ xs))], Y8 (Xs rfl) (Xs (congrArg Value.bool ?_)), ⟨_, rfl⟩, rfl⟩
 rw [hd]
 simp_all
theorem In_int (xs : List Int) (A : Option Addr) (c : Nat) (x : Int) (H : Hp) (hs : Sl (Y1 .i64) H (.slice A xs.length c) xs) (hl : xs.length ≤ 1000000) (hr : xs.Pairwise (· ≤ ·)) :
  ACalls Tryz.prog 149 #[.slice A xs.length c, .int .i64 x] H (fun r H' => r = .bool (decide (x ∈ xs)) ∧ H' = H) := by
 refine Xv Tryz.func149 rfl rfl rfl (by simp) ?_
 refine Xe ?_
 refine Xu ?_
 refine Xa (Xn rfl) ?_
 refine Xe ?_
 refine Xu ?_
 refine Xa (X1 rfl) ?_
 refine Xa (Xb rfl) ?_
 refine Xw (Xy (Bin_int xs A c x H hs hl hr) rfl Tryz.func153 rfl rfl rfl ?_)
 rintro v5 H5 ⟨⟨i5, rfl⟩, rfl⟩
 refine Xa (Zm rfl) ?_
 refine Xa (Yj rfl rfl) ?_
 refine Xa (Yj rfl rfl) ?_
 refine Xa (Xi rfl) ?_
 refine Xa (Xn rfl) ?_
 refine Xe ?_
 refine Xu ?_
 refine Xa (Xo rfl) ?_
 refine Xa (Xn rfl) ?_
 refine X2 ?_
 exact ⟨_, Xx (Xs rfl), rfl, rfl⟩
def Zk (xs : List Link) (from' to' : List Int) : List Link := xs.filter fun x => decide (x.a ∈ from') && decide (x.b ∈ to')
theorem Within_links (xs : List Link) (fs ts : List Int) (v vf vt : Value) (H : Hp) (hs : Sl kLink H v xs) (hf : Sl (Y1 .i64) H vf fs) (ht : Sl (Y1 .i64) H vt ts) (hl : xs.length ≤ 1000000) (hlf : fs.length ≤ 1000000) (hlt : ts.length ≤ 1000000) (hrf : fs.Pairwise (· ≤ ·)) (hrt : ts.Pairwise (· ≤ ·)) :
    ACalls Tryz.prog 142 #[v, vf, vt] H (fun r H' => ∃ G', H.le G' ∧ OwnP kLink G' H' r (Zk xs fs ts)) := by
  obtain ⟨A, c, rfl⟩ := hs.shape
  obtain ⟨Af, cf, rfl⟩ := hf.shape
  obtain ⟨At, ct, rfl⟩ := ht.shape
  refine Xv Tryz.func142 rfl rfl rfl (by simp) ?_
  refine Xe ?_
  refine Xu ?_
  refine Xa (Yc rfl) ?_
  refine Xe ?_
  refine Xu ?_
  refine Xa (Yc rfl) ?_
  refine Xe ?_
  refine Xe ?_
  refine Xu ?_
  refine Xa (X1 rfl) ?_
  refine Xa (Ys rfl Tryz.underlying83) ?_
  refine Xa (Xb rfl) ?_
  refine Ye ?_
  refine Y5 (fun n t H' => ∃ (i : Nat) (G : Hp) (B : Option Addr) (c5 : Nat), i ≤ xs.length ∧ n = xs.length - i ∧ H.le G ∧ OwnP kLink G H' (.slice B (Zk (xs.take i) fs ts).length c5) (Zk (xs.take i) fs ts) ∧ t 1 = .slice Af fs.length cf ∧ t 2 = .slice At ts.length ct ∧ t 7 = .slice B (Zk (xs.take i) fs ts).length c5 ∧ t 10 = .slice A xs.length c ∧ t 11 = .int .i64 xs.length ∧ t 12 = .int .i64 i) (xs.length) (⟨0, H, _, _, by omega, rfl, Hp.le_refl _, OwnP.nil _ _, rfl, rfl, rfl, rfl, rfl, rfl⟩) ?_
  rintro n t H1 ⟨i, G, B, c5, hi, rfl, hle, hown, e1, e2, e7, e10, e11, e12⟩
  have hz := hown.size
  have hlen : (Zk (xs.take i) fs ts).length ≤ i := by
    have := List.length_filter_le (fun x : Link => decide (x.a ∈ fs) && decide (x.b ∈ ts)) (xs.take i)
    rw [List.length_take] at this
    unfold Zk
    omega
  refine Xe ?_
  refine Xu ?_
  refine Xa (Za Xm Xm) ?_
  refine Xe ?_
  refine X5 rfl rfl ?_ ?_
  intro hc1
  (try simp only [Yt] at hc1)
  refine X9 ?_
  refine Xe ?_
  refine Ye ?_
  refine Xe ?_
  refine Xu ?_
  have hix : i < xs.length := by omega
  obtain ⟨b, o, rfl, hb, hcell0⟩ := (hs.mono hle.sees).link_at hix
  have hcells := hown.le.cells hb hcell0
  have hownE := hown.boxed [.int .i64 0, .int .i64 0, .int .i64 0, .int .u64 0] [.int .i64 xs[i].a, .int .i64 xs[i].b, .int .i64 xs[i].cost, .int .u64 xs[i].n]
  have hleE := Hp.le_put_new (b := H1.size) (Hp.le_push' hle (.own 0 [.int .i64 0, .int .i64 0, .int .i64 0, .int .u64 0])) (by rw [hz]; exact hle.1) (.own 0 [.int .i64 xs[i].a, .int .i64 xs[i].b, .int .i64 xs[i].cost, .int .u64 xs[i].n])
  have hseE := (Hp.le_trans hleE hownE.le).sees
  refine Xa (Xt Xm Xm Tryz.underlying83 inf96.size X6 X6) ?_
  refine Xa (Yl (cs := [.int .i64 _, .int .i64 _, .int .i64 _, .int .u64 _]) rfl Tryz.underlying96 rfl inf96.size X8) ?_
  refine Xz (Yz (l := [.int .i64 0, .int .i64 0, .int .i64 0, .int .u64 0]) inf96.zero rfl (by decide)) ?_
  first | refine Xw (Yf (vs := [.int .i64 _, .int .i64 _, .int .i64 _, .int .u64 _]) rfl rfl inf96.size Yd Yg rfl rfl ?_)
  refine Xe ?_
  refine Xu ?_
  refine Xa (X1 Xm) ?_
  refine Xa (Xf (off := 0) rfl Tryz.underlying96 rfl inf3.size (by decide) rfl) ?_
  refine Xa (Xk rfl Tryz.underlying3 rfl Xp) ?_
  refine Xw (Xy (In_int fs Af cf xs[i].a _ (hf.mono hseE) hlf hrf) rfl Tryz.func149 rfl rfl rfl ?_)
  rintro v6 H6 ⟨rfl, hH6⟩; subst hH6
  refine Xa (Xo rfl) ?_
  refine Ya rfl rfl rfl ?_ ?_
  intro hg2
  have hp2 := hg2; try simp only [Yt] at hp2
  refine Xj (Xh rfl rfl rfl hg2) (X1 Xm) ?_
  refine Xj (Xh rfl rfl rfl hg2) (Xf (off := 1) rfl Tryz.underlying96 rfl inf3.size (by decide) rfl) ?_
  refine Xj (Xh rfl rfl rfl hg2) (Xk rfl Tryz.underlying3 rfl Xp) ?_
  refine Z1 (Xh rfl rfl rfl hg2) (Xy (In_int ts At ct xs[i].b _ (ht.mono hseE) hlt hrt) rfl Tryz.func149 rfl rfl rfl ?_)
  rintro v7 H7 ⟨rfl, hH7⟩; subst hH7
  refine Xa (Xl (Yv hg2) rfl) ?_
  refine X5 rfl rfl ?_ ?_
  intro hc3
  have hin : Zk [xs[i]] fs ts = [xs[i]] := by unfold Zk; simp_all
  have hstep : Zk (xs.take (i + 1)) fs ts = Zk (xs.take i) fs ts ++ [xs[i]] := by rw [← hin]; unfold Zk; rw [← List.filter_append, Y9 hix]
  refine Xu ?_
  refine Xa (X1 Xm) ?_
  refine Xa (Yl (cs := [.int .i64 _, .int .i64 _, .int .i64 _, .int .u64 _]) rfl Tryz.underlying96 rfl inf96.size X8) ?_
  first | refine Xz (Yh (r := [.int .i64 _, .int .i64 _, .int .i64 _, .int .u64 _]) Tryz.underlying83 inf96.size inf96.zero rfl (by decide) (by decide) (by decide) rfl) ?_
  refine Xw (OwnP.append (ys := [xs[i]]) (hownE.push _) Tryz.underlying83 inf96 rfl rfl rfl (Zo (k := kLink) rfl rfl hownE.size rfl) (by simp; omega) (by simp; omega) ?_)
  rintro v6 G6 H6 hle6 hown6
  obtain ⟨B', c', e6⟩ := hown6.shape
  subst e6
  refine Xa (Yc rfl) ?_
  refine Xu ?_
  refine Xa (Yn Xm Xm Y0) ?_
  refine Xa (Xb rfl) ?_
  first
    | (rw [← hstep] at hown6
       exact ⟨xs.length - (i + 1), by omega, i + 1, G6, B', c', by omega, rfl, Hp.le_trans (Hp.le_push' hleE _) hle6, hown6, e1, e2, by rw [hstep]; rfl, e10, e11, rfl⟩)
    | (have hin : Zk [xs[i]] fs ts = [] := by unfold Zk; simp_all
       have hstep : Zk (xs.take (i + 1)) fs ts = Zk (xs.take i) fs ts := by rw [← List.append_nil (Zk (xs.take i) fs ts), ← hin]; unfold Zk; rw [← List.filter_append, Y9 hix]
       refine ⟨xs.length - (i + 1), by omega, i + 1, _, B, c5, by omega, rfl, hleE, by rw [hstep]; exact hownE, e1, e2, by rw [hstep]; exact e7, e10, e11, rfl⟩)
  intro hc3
  (try simp only [Yt] at hc3)
  refine X9 ?_
  refine Xu ?_
  refine Xa (Yn Xm Xm Y0) ?_
  refine Xa (Xb rfl) ?_
  first
    | (rw [← hstep] at hown6
       exact ⟨xs.length - (i + 1), by omega, i + 1, G6, B', c', by omega, rfl, Hp.le_trans (Hp.le_push' hleE _) hle6, hown6, e1, e2, by rw [hstep]; rfl, e10, e11, rfl⟩)
    | (have hin : Zk [xs[i]] fs ts = [] := by unfold Zk; simp_all
       have hstep : Zk (xs.take (i + 1)) fs ts = Zk (xs.take i) fs ts := by rw [← List.append_nil (Zk (xs.take i) fs ts), ← hin]; unfold Zk; rw [← List.filter_append, Y9 hix]
       refine ⟨xs.length - (i + 1), by omega, i + 1, _, B, c5, by omega, rfl, hleE, by rw [hstep]; exact hownE, e1, e2, by rw [hstep]; exact e7, e10, e11, rfl⟩)
  intro hg2
  have hp2 := hg2; try simp only [Yt] at hp2
  refine Xc (Xg rfl rfl rfl hg2 rfl) ?_
  refine Xc (Xg rfl rfl rfl hg2 rfl) ?_
  refine Xc (Xg rfl rfl rfl hg2 rfl) ?_
  refine Xc (Xg rfl rfl rfl hg2 rfl) ?_
  refine Xa (Xl (Yv hg2) Xm) ?_
  refine Y2 rfl rfl ?_
  refine X9 ?_
  refine Xu ?_
  refine Xa (Yn Xm Xm Y0) ?_
  refine Xa (Xb rfl) ?_
  first
    | (rw [← hstep] at hown6
       exact ⟨xs.length - (i + 1), by omega, i + 1, G6, B', c', by omega, rfl, Hp.le_trans (Hp.le_push' hleE _) hle6, hown6, e1, e2, by rw [hstep]; rfl, e10, e11, rfl⟩)
    | (have hin : Zk [xs[i]] fs ts = [] := by unfold Zk; simp_all
       have hstep : Zk (xs.take (i + 1)) fs ts = Zk (xs.take i) fs ts := by rw [← List.append_nil (Zk (xs.take i) fs ts), ← hin]; unfold Zk; rw [← List.filter_append, Y9 hix]
       refine ⟨xs.length - (i + 1), by omega, i + 1, _, B, c5, by omega, rfl, hleE, by rw [hstep]; exact hownE, e1, e2, by rw [hstep]; exact e7, e10, e11, rfl⟩)
  intro hc1
  (try simp only [Yt] at hc1)
  refine Yx ?_
  refine Xe ?_
  rw [List.take_of_length_le (by omega)] at hown e7
  refine Xu ?_
  refine Xa (X1 Xm) ?_
  refine Xa (Yc rfl) ?_
  refine X2 ?_
  exact ⟨_, Xx (Xs rfl), G, hle, hown⟩
theorem OwnP.after {G H H1 : Hp} {v : Value} {xs : List (List Link)} (h : OwnP (V1 kLink) G H v xs) (hle : H.le H1) : ∃ G1, G.le G1 ∧ OwnP (V1 kLink) G1 H1 v xs ∧ ∀ (r : Value) (ys : List Link), Sl kLink H1 r ys → Sl kLink G1 r ys := by
  rcases h with ⟨rfl, rfl, rfl⟩ | ⟨b, cs, c, rfl, hb, hd, rfl, hcap, he⟩
  · exact ⟨H1, hle, .inl ⟨rfl, rfl, rfl⟩, fun _ _ h => h⟩
  · have hg : H1.get b = .own 1 cs := by
      rw [hle.2 b (by simpa using hb) (by rw [Hp.put_same]; intro e; cases e), Hp.put_same]; rfl
    have hle1 : G.le (H1.put b .dead) := ⟨by have := hle.1; simpa using this, fun i hi hn => by
      have hne : i ≠ b := fun e => by subst e; exact hn hd
      rw [Hp.put_other _ _ hne, hle.2 i (by simpa using hi) (by rw [Hp.put_other _ _ hne]; exact hn), Hp.put_other _ _ hne]⟩
    refine ⟨H1.put b .dead, hle1, .inr ⟨b, cs, c, rfl, by have := hle.1; simp at *; omega, Hp.put_same _ _ _, by rw [Hp.put_put]; exact (Hp.put_self _ hg).symm, hcap, he.mono hle1.sees⟩, fun r ys h => h.links_put hg _⟩
def PartsP (G H : Hp) (N L : Value) (ns ls : List (List Link)) : Prop := ∃ Gm, OwnP (V1 kLink) G Gm N ns ∧ OwnP (V1 kLink) Gm H L ls
theorem PartsP.swap {G H : Hp} {N L : Value} {ns ls : List (List Link)} (h : PartsP G H N L ns ls) : PartsP G H L N ls ns := by
 obtain ⟨Gm, h1, h2⟩ := h
 rcases h1 with ⟨rfl, rfl, rfl⟩ | ⟨b, cs, c, rfl, hb, hd, rfl, hcap, he⟩
 ·exact ⟨H, h2, .inl ⟨rfl, rfl, rfl⟩⟩
 ·rcases h2 with ⟨rfl, rfl, rfl⟩ | ⟨b2, cs2, c2, rfl, hb2, hd2, rfl, hcap2, he2⟩
  ·exact ⟨G, .inl ⟨rfl, rfl, rfl⟩, .inr ⟨b, cs, c, rfl, hb, hd, rfl, hcap, he⟩⟩
  ·have hne : b2 ≠ b := fun e => by subst e; rw [Hp.put_same] at hd2; cases hd2
   have hd2' : G.get b2 = .dead := by rw [Hp.put_other _ _ hne] at hd2; exact hd2
   have he2' : Els (V1 kLink) G ls cs2 := by
    have := he2.lists_put (Hp.put_same _ _ _) .dead
    rw [Hp.put_put, Hp.put_self _ hd] at this
    exact this
   exact ⟨G.put b2 (.own 1 cs2), .inr ⟨b2, cs2, c2, rfl, by simpa using hb2, hd2', rfl, hcap2, he2'⟩, .inr ⟨b, cs, c, rfl, by simpa using hb, by rw [Hp.put_other _ _ (Ne.symm hne)]; exact hd, Hp.put_comm _ (Ne.symm hne) _ _, hcap, he.mono (G.le_put hd2' _).sees⟩⟩
theorem PartsP.slL {G H : Hp} {N L : Value} {ns ls : List (List Link)} (h : PartsP G H N L ns ls) : Sl (V1 kLink) H L ls := let ⟨_, _, h2⟩ := h; h2.sl
theorem PartsP.slN {G H : Hp} {N L : Value} {ns ls : List (List Link)} (h : PartsP G H N L ns ls) : Sl (V1 kLink) H N ns := h.swap.slL
theorem PartsP.le {G H : Hp} {N L : Value} {ns ls : List (List Link)} (h : PartsP G H N L ns ls) : G.le H := let ⟨_, h1, h2⟩ := h; Hp.le_trans h1.le h2.le
theorem PartsP.size {G H : Hp} {N L : Value} {ns ls : List (List Link)} (h : PartsP G H N L ns ls) : H.size = G.size := let ⟨_, h1, h2⟩ := h; h2.size.trans h1.size
theorem PartsP.after {G H H1 : Hp} {N L : Value} {ns ls : List (List Link)} (h : PartsP G H N L ns ls) (hle : H.le H1) : ∃ G1, G.le G1 ∧ PartsP G1 H1 N L ns ls := by
 obtain ⟨Gm, h1, h2⟩ := h
 obtain ⟨Gm1, k1, k2, _⟩ := h2.after hle
 obtain ⟨G1, k3, k4, _⟩ := h1.after k1
 exact ⟨G1, k3, Gm1, k4, k2⟩
theorem PartsP.box_put {G H : Hp} {N L : Value} {ns ls : List (List Link)} (h : PartsP G H N L ns ls) {b : Nat} {cs : List Value} (hb : b < G.size) (hg : G.get b = .own 0 cs) (ds : List Value) : PartsP (G.put b (.own 0 ds)) (H.put b (.own 0 ds)) N L ns ls := by
 obtain ⟨Gm, h1, h2⟩ := h
 have hg1 := Xr h1.le hb (by intro e; cases e) hg
 exact ⟨_, h1.box_put hg ds, h2.box_put hg1 ds⟩
theorem OwnP.spot {G H : Hp} {v : Value} {xs : List (List Link)} (h : OwnP (V1 kLink) G H v xs) {i : Nat} (hi : i < xs.length) : ∃ b c cs w, v = .slice (some ⟨b, 0, none⟩) xs.length c ∧ b < H.size ∧ H.get b = .own 1 cs ∧ H.cell? b (0 + (i : Int).toNat * 1) = some w ∧ i < cs.length ∧ Sl kLink H w xs[i] := by
 rcases h with ⟨rfl, rfl, rfl⟩ | ⟨b, cs, c, rfl, hb, hd, rfl, hcap, he⟩
 ·simp at hi
 ·obtain ⟨d, ⟨w, rfl, hw⟩, hc⟩ := he.2 i xs[i] (List.getElem?_eq_getElem hi)
  have h1 := hc 0 w rfl
  have hw' := hw.mono (G.le_put hd (.own (V1 kLink).sz cs)).sees
  refine ⟨b, c, cs, w, rfl, by simpa using hb, Hp.put_same _ _ _, ?_, ?_, hw'⟩
  ·rw [cell_put_new]
   simpa [V1] using h1
  ·have := (List.getElem?_eq_some_iff.1 h1).1
   simpa [V1] using this
theorem PartsP.spotL {G H : Hp} {N L : Value} {ns ls : List (List Link)} (h : PartsP G H N L ns ls) {i : Nat} (hi : i < ls.length) : ∃ b c cs w, L = .slice (some ⟨b, 0, none⟩) ls.length c ∧ b < H.size ∧ H.get b = .own 1 cs ∧ H.cell? b (0 + (i : Int).toNat * 1) = some w ∧ i < cs.length ∧ Sl kLink H w ls[i] := let ⟨_, _, h2⟩ := h; h2.spot hi
theorem PartsP.spotN {G H : Hp} {N L : Value} {ns ls : List (List Link)} (h : PartsP G H N L ns ls) {i : Nat} (hi : i < ns.length) : ∃ b c cs w, N = .slice (some ⟨b, 0, none⟩) ns.length c ∧ b < H.size ∧ H.get b = .own 1 cs ∧ H.cell? b (0 + (i : Int).toNat * 1) = some w ∧ i < cs.length ∧ Sl kLink H w ns[i] := h.swap.spotL hi
theorem PartsP.storeL {G H H1 : Hp} {N : Value} {b o n c : Nat} {ns ls : List (List Link)} (h : PartsP G H N (.slice (some ⟨b, o, none⟩) n c) ns ls) (hle : H.le H1) {r : Value} {ys : List Link} (hr : Sl kLink H1 r ys) {i off : Nat} (hi : i < ls.length) {st : Nat} {cs0 : List Value} (hg : H1.get b = .own st cs0) (ho : off = i * 1) :
  ∃ G1, G.le G1 ∧ PartsP G1 (H1.put b (.own st (setR cs0 off [r]))) N (.slice (some ⟨b, o, none⟩) n c) ns (ls.set i ys) := by
 obtain ⟨Gm, h1, h2⟩ := h
 obtain ⟨Gm1, k1, k2, k3⟩ := h2.after hle
 obtain ⟨G1, k4, k5, _⟩ := h1.after k1
 exact ⟨G1, k4, Gm1, k5, k2.store hg hi (x := ys) ⟨r, rfl, k3 r ys hr⟩ ho⟩
theorem PartsP.storeN {G H H1 : Hp} {L : Value} {b o n c : Nat} {ns ls : List (List Link)} (h : PartsP G H (.slice (some ⟨b, o, none⟩) n c) L ns ls) (hle : H.le H1) {r : Value} {ys : List Link} (hr : Sl kLink H1 r ys) {i off : Nat} (hi : i < ns.length) {st : Nat} {cs0 : List Value} (hg : H1.get b = .own st cs0) (ho : off = i * 1) :
  ∃ G1, G.le G1 ∧ PartsP G1 (H1.put b (.own st (setR cs0 off [r]))) (.slice (some ⟨b, o, none⟩) n c) L (ns.set i ys) ls := by
 obtain ⟨G1, k1, k2⟩ := h.swap.storeL hle hr hi hg ho
 exact ⟨G1, k1, k2.swap⟩
theorem lists_links (xs : List (List Link)) (v : Value) (H : Hp) (hs : Sl (V1 kLink) H v xs) (hl : xs.length ≤ 1000000) (hx : ∀ l ∈ xs, l.length ≤ 1000000) :
  ACalls Tryz.prog 141 #[v] H (fun r H' => ∃ G', H.le G' ∧ OwnP (V1 kLink) G' H' r xs) := by
 obtain ⟨A, c, rfl⟩ := hs.shape
 refine Xv Tryz.func141 rfl rfl rfl (by simp) ?_
 refine Xe ?_
 refine Xu ?_
 refine Xa (Yc rfl) ?_
 refine Xe ?_
 refine Xu ?_
 refine Xa (Yc rfl) ?_
 refine Xe ?_
 refine Xe ?_
 refine Xu ?_
 refine Xa (X1 rfl) ?_
 refine Xa (Ys rfl Tryz.underlying27) ?_
 refine Xa (Xb rfl) ?_
 refine Ye ?_
 refine Y5 (fun n t H' => ∃ (i : Nat) (G : Hp) (B : Option Addr) (c5 : Nat), i ≤ xs.length ∧ n = xs.length - i ∧ H.le G ∧ OwnP (V1 kLink) G H' (.slice B i c5) (xs.take i) ∧ t 3 = .slice B i c5 ∧ t 6 = .slice A xs.length c ∧ t 7 = .int .i64 xs.length ∧ t 8 = .int .i64 i) (xs.length) (⟨0, H, _, _, by omega, rfl, Hp.le_refl _, OwnP.nil _ _, rfl, rfl, rfl, rfl⟩) ?_
 rintro n t H1 ⟨i, G, B, c5, hi, rfl, hle, hown, e3, e6, e7, e8⟩
 have hz := hown.size
 have hlen : (xs.take i).length = i := by rw [List.length_take]; omega
 refine Xe ?_
 refine Xu ?_
 refine Xa (Za Xm Xm) ?_
 refine Xe ?_
 refine X5 rfl rfl ?_ ?_
 intro hc1
 (try simp only [Yt] at hc1)
 refine X9 ?_
 refine Xe ?_
 refine Ye ?_
 refine Xe ?_
 refine Xu ?_
 have hix : i < xs.length := by omega
 obtain ⟨b, o, ks, eB, hb, ⟨w0, rfl, hw0⟩, hcell0⟩ := (hs.mono hle.sees).elem_at hix
 subst eB
 have hcell0' := (hown.le.cells hb hcell0).one
 obtain ⟨A6, c6, rfl⟩ := hw0.shape
 refine Xa (Xt Xm Xm Tryz.underlying27 inf83.size X6 X6) ?_
 refine Xa (Xk rfl Tryz.underlying83 rfl Xp) ?_
 refine Xa (Yc rfl) ?_
 refine Xu ?_
 refine Xa (X1 Xm) ?_
 refine Xa (X1 rfl) ?_
 refine Xw (Xy (hown.calls (Clone_links xs[i] _ _ hw0 (hx _ (List.getElem_mem hix))) (fun r G' ⟨G2, a, b⟩ => Hp.le_trans a b.le)) rfl Tryz.func51 rfl rfl rfl ?_)
 rintro v5 H5 ⟨G5, ⟨G50, hle50, hown50⟩, hown5, hleH5⟩; have hs5 := hown50.sl; have hle5 := Hp.le_trans hle50 hown50.le; obtain ⟨A5, c50, rfl⟩ := hs5.shape
 refine Xz (Yh (r := [.slice _ _ _]) Tryz.underlying27 inf83.size inf83.zero rfl (by decide) (by decide) (by decide) rfl) ?_
 refine Xw (OwnP.append (ys := [xs[i]]) (hown5.push _) Tryz.underlying27 inf83 rfl rfl rfl (Zo (k := V1 kLink) ⟨_, rfl, hs5⟩ rfl hown5.size rfl) (by rw [hlen]; simp only [List.length_singleton]; omega) (by rw [hlen]; simp only [List.length_singleton]; omega) ?_)
 rintro v6 G6 H6 hle6 hown6
 obtain ⟨B', c', e6⟩ := hown6.shape
 rw [List.length_append, hlen, List.length_singleton] at e6
 subst e6
 refine Xa (Yc rfl) ?_
 refine Xu ?_
 refine Xa (Yn Xm Xm Y0) ?_
 refine Xa (Xb rfl) ?_
 rw [Y9 hix] at hown6
 exact ⟨xs.length - (i + 1), by omega, i + 1, G6, B', c', by omega, rfl, Hp.le_trans (Hp.le_push' (Hp.le_trans hle hle5) _) hle6, hown6, rfl, e6, e7, rfl⟩
 intro hc1
 (try simp only [Yt] at hc1)
 refine Yx ?_
 refine Xe ?_
 rw [List.take_of_length_le (by omega)] at hown
 refine Xu ?_
 refine Xa (X1 Xm) ?_
 refine Xa (Yc rfl) ?_
 refine X2 ?_
 exact ⟨_, Xx (Xs rfl), G, hle, hown⟩
theorem Own_parts (p : Parts) (ds : List Value) (H : Hp) (hq : kParts.rep H p ds) (h1 : p.nodes.length ≤ 1000000) (h2 : p.links.length ≤ 1000000) (h3 : ∀ l ∈ p.nodes, l.length ≤ 1000000) (h4 : ∀ l ∈ p.links, l.length ≤ 1000000) :
  ACalls Tryz.prog 132 #[.agg ds.toArray] H (fun r H' => ∃ G' N L, H.le G' ∧ r = .agg #[N, L] ∧ PartsP G' H' N L p.nodes p.links) := by
 obtain ⟨u0, u1, rfl, hn0, hn1⟩ := hq
 obtain ⟨B0, d0, rfl⟩ := hn0.shape
 obtain ⟨B1, d1, rfl⟩ := hn1.shape
 refine Xv Tryz.func132 rfl rfl rfl (by simp) ?_
 refine Xe ?_
 refine Xu ?_
 refine Xz (Yw rfl) ?_
 refine Xz (Yz (l := [.slice none 0 0, .slice none 0 0]) inf29.zero rfl (by decide)) ?_
 refine Xe ?_
 refine Yy (by kernel_rfl) (Y4 (B := [0, 1, 3, 0, 8, 31, 63, 127]) (π := [0, 1, 3, 4, 2, 5, 6, 7]) (by kernel_rfl)) ?_
 refine Xd rfl rfl (Xf (off := 0) rfl Tryz.underlying29 rfl inf27.size (by decide) rfl) Xq ?_
 refine Xd rfl rfl (Xk rfl Tryz.underlying27 rfl Xp) Xq ?_
 refine Xd rfl rfl (Xf (off := 1) rfl Tryz.underlying29 rfl inf27.size (by decide) rfl) Xq ?_
 refine Xd rfl rfl (Xk rfl Tryz.underlying27 rfl Xp) Xq ?_
 refine Ym rfl rfl (Xy (lists_links p.nodes _ _ (hn0.mono Zp) h1 h3) rfl Tryz.func141 rfl rfl rfl ?_)
 rintro v5 H5 ⟨G5, hle5, hown5⟩; have hleC5 := Hp.le_trans hle5 hown5.le; have hzC5 := hleC5.1; simp only [Hp.push_size] at hzC5; obtain ⟨A5, c5, rfl⟩ := hown5.shape
 refine ⟨Yk, ?_⟩
 refine Ym rfl rfl (Xy (lists_links p.links _ _ (hn1.mono Zp) h2 h4) rfl Tryz.func141 rfl rfl rfl ?_)
 rintro v6 H6 ⟨G6, hle6, hown6⟩; have hleC6 := Hp.le_trans hle6 hown6.le; have hzC6 := hleC6.1; obtain ⟨A6, c6, rfl⟩ := hown6.shape
 refine ⟨Yk, ?_⟩
 refine Xd rfl rfl (Y6 (pl := [(0, 1), (1, 1)]) (r := [.slice _ _ _, .slice _ _ _]) Tryz.underlying29 inf29.zero (by decide) rfl rfl) Xq ?_
 refine Ym rfl rfl (Yf (vs := [.slice _ _ _, .slice _ _ _]) rfl rfl inf29.size Yd Yg rfl rfl ?_)
 refine ⟨Yk, ?_⟩
 refine X2 ?_
 obtain ⟨G7, hle7, hown7, _⟩ := hown5.after hle6
 have kb := Xr (Hp.le_trans hle5 hle7) (by simp) (by intro e; cases e) ((Hp.push_new (H.push (.own 0 [.slice B0 p.nodes.length d0, .slice B1 p.links.length d1])) (.own 0 [.slice none 0 0, .slice none 0 0])))
 have hpp : PartsP G7 H6 (.slice A5 p.nodes.length c5) (.slice A6 p.links.length c6) p.nodes p.links := ⟨G6, hown7, hown6⟩
 have hz7 := (Hp.le_trans hle5 hle7).1
 simp only [Hp.push_size] at hz7 kb
 exact ⟨_, Xx (Yq rfl (Yo (cs := [.slice A5 p.nodes.length c5, .slice A6 p.links.length c6]) Tryz.underlying29 rfl inf29.size X8)), _, _, _, Hp.le_put_new (Hp.le_trans (Hp.le_push' (H.le_push _) _) (Hp.le_trans hle5 hle7)) (by omega) _, rfl, hpp.box_put (by omega) kb _⟩
theorem compact_sub (xs : List Int) : (Lib.compact xs).Sublist xs := by
 have h : ((List.range xs.length).map fun i => xs.toArray[i]!) = xs := by
  apply List.ext_getElem
  ·simp
  ·intro i h1 h2
   simp at h1 ⊢
   rw [List.getElem?_eq_getElem h2]; rfl
 have : (Lib.compact xs).Sublist ((List.range xs.length).map fun i => xs.toArray[i]!) := by
  unfold Lib.compact Lib.compactUpTo
  exact List.filter_sublist.map _
 rwa [h] at this
theorem compact_mem {xs : List Int} {x : Int} : x ∈ Lib.compact xs ↔ x ∈ xs := by
 refine ⟨fun h => (compact_sub xs).subset h, fun h => ?_⟩
 have key : ∀ i (hi : i < xs.length), xs[i] ∈ Lib.compact xs := by
  intro i
  induction i with
  | zero =>
   intro hi
   unfold Lib.compact Lib.compactUpTo
   refine List.mem_map.2 ⟨0, List.mem_filter.2 ⟨List.mem_range.2 hi, by simp [Lib.keeps]⟩, ?_⟩
   simp [List.getElem?_eq_getElem hi]
  | succ i ih =>
   intro hi
   have h0 := ih (by omega)
   by_cases he : xs[i + 1] = xs[i]
   ·rw [he]; exact h0
   ·unfold Lib.compact Lib.compactUpTo
    refine List.mem_map.2 ⟨i + 1, List.mem_filter.2 ⟨List.mem_range.2 hi, ?_⟩, ?_⟩
    ·unfold Lib.keeps
     simp [List.getElem?_eq_getElem hi, List.getElem?_eq_getElem (by omega : i < xs.length), he]
    ·simp [List.getElem?_eq_getElem hi]
 obtain ⟨i, hi, rfl⟩ := List.getElem_of_mem h
 exact key i hi
theorem endsL_sorted (xs : List Link) (second : Bool) : (Uv xs second).Pairwise (· ≤ ·) := by
 unfold Uv
 refine List.Pairwise.sublist (compact_sub _) ?_
 have := List.pairwise_mergeSort (le := fun x y : Int => decide (x ≤ y)) (fun a b c h1 h2 => by simp at *; omega) (fun a b => by simp; omega) (xs.map fun x => if second then x.b else x.a)
 exact this.imp fun h => by simpa using h
theorem endsL_mem {xs : List Link} {second : Bool} {n : Int} : n ∈ Uv xs second ↔ ∃ x ∈ xs, (if second then x.b else x.a) = n := by
 unfold Uv
 rw [compact_mem, List.mem_mergeSort, List.mem_map]
theorem endsL_len (xs : List Link) (second : Bool) : (Uv xs second).length ≤ xs.length := by
 unfold Uv
 have h1 := (compact_sub ((xs.map fun x => if second then x.b else x.a).mergeSort fun x y => decide (x ≤ y))).length_le
 rw [List.length_mergeSort, List.length_map] at h1
 exact h1
theorem withinL_len (xs : List Link) (fs ts : List Int) : (Zk xs fs ts).length ≤ xs.length := List.length_filter_le _ _
end Go.Proofs.YtmakkmcjocjgmaaGreat.Am
