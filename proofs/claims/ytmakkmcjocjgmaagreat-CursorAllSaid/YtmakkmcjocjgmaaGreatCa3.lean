/- Texts that the proof rests on, part 3: lemmas for every heap that is related to a world, no condition beyond each lemma's own. -/
import Derived.Test.YtmakkmcjocjgmaaGreatCa2
import Derived.Test.YtmakkmcjocjgmaaGreatCaBack
import Derived.Test.YtmakkmcjocjgmaaGreatCaMaps
import Derived.Test.YtmakkmcjocjgmaaGreatCaOwn2
import Derived.Test.YtmakkmcjocjgmaaGreatCaTy
import Derived.Test.YtmakkmcjocjgmaaGreatCa1
namespace Go.Proofs.YtmakkmcjocjgmaaGreat.Am
open Go Go.RowKit
set_option linter.unusedVariables false
set_option linter.unusedSimpArgs false
set_option maxRecDepth 100000
set_option maxHeartbeats 1000000 in
theorem GoodP_ref_raw (f : Forest) (p : Parts) (cs ds : List Value) (H : Hp) (hp : kForest.rep H f cs) (hq : kParts.rep H p ds) (hsm : Small f p) :
  ACalls Tryz.prog 53 #[.agg cs.toArray, .agg ds.toArray] H (fun r _ => ∃ g, r = .bool g ∧ (g = true ↔ GoodP f p)) := by
 have hp0 := hp
 obtain ⟨z0, z1, z2, z3, z4, z5, z6⟩ := hsm
 obtain ⟨v0, v1, v2, v3, v4, rfl, hs0, hs1, hs2, hs3, hs4⟩ := hp
 obtain ⟨A0, c0, rfl⟩ := hs0.shape
 obtain ⟨A1, c1, rfl⟩ := hs1.shape
 obtain ⟨A2, c2, rfl⟩ := hs2.shape
 obtain ⟨A3, c3, rfl⟩ := hs3.shape
 obtain ⟨A4, c4, rfl⟩ := hs4.shape
 obtain ⟨u0, u1, rfl, hn0, hn1⟩ := hq
 obtain ⟨B0, d0, rfl⟩ := hn0.shape
 obtain ⟨B1, d1, rfl⟩ := hn1.shape
 refine Xv Tryz.func53 rfl rfl rfl (by simp) ?_
 refine Xe ?_
 refine Xu ?_
 refine Xz (Yw rfl) ?_
 refine Xz (Yw rfl) ?_
 refine Xa (Xn rfl) ?_
 refine Xe ?_
 refine Xe ?_
 refine Xu ?_
 refine Xa (Yl (cs := [.slice _ _ _, .slice _ _ _, .slice _ _ _, .slice _ _ _, .slice _ _ _]) rfl Tryz.underlying26 rfl inf26.size X8) ?_
 refine Xw (Xy (GoodF_ref f _ _ (kForest.mono Zp hp0) z0 z1 z2) rfl Tryz.func85 rfl rfl rfl ?_)
 rintro v2 H2 ⟨⟨g, rfl, hg⟩, hH2⟩; subst hH2
 refine Xa (Zz rfl) ?_
 refine Xa (Xo rfl) ?_
 refine Ya rfl rfl rfl ?_ ?_
 intro hg1
 have hgf : ¬ GoodF f := fun h => by rw [hg.2 h] at hg1; cases hg1
 refine Xc (Xg rfl rfl rfl hg1 rfl) ?_
 refine Xc (Xg rfl rfl rfl hg1 rfl) ?_
 refine Xc (Xg rfl rfl rfl hg1 rfl) ?_
 refine Xc (Xg rfl rfl rfl hg1 rfl) ?_
 refine Xc (Xg rfl rfl rfl hg1 rfl) ?_
 refine Xc (Xg rfl rfl rfl hg1 rfl) ?_
 refine Xc (Xg rfl rfl rfl hg1 rfl) ?_
 refine Xa (Xl (Yv hg1) rfl) ?_
 refine Xa (Xo rfl) ?_
 refine Xc (Xg rfl rfl rfl rfl rfl) ?_
 refine Xc (Xg rfl rfl rfl rfl rfl) ?_
 refine Xc (Xg rfl rfl rfl rfl rfl) ?_
 refine Xc (Xg rfl rfl rfl rfl rfl) ?_
 refine Xc (Xg rfl rfl rfl rfl rfl) ?_
 refine Xc (Xg rfl rfl rfl rfl rfl) ?_
 refine Xc (Xg rfl rfl rfl rfl rfl) ?_
 refine Xa (Xl (congrArg Value.bool rfl) rfl) ?_
 refine Yu rfl rfl ?_
 refine Xe ?_
 refine Xu ?_
 refine Xa (Xn rfl) ?_
 refine X2 ?_
 refine ⟨.bool false, Xx (Xs rfl), false, rfl, fun h => (by cases h), fun hG => ?_⟩
 exfalso
 have q1 := hG.n1
 have q2 := hG.n2
 first | exact hgf hG.gf | omega
 intro hg1
 have hgt : GoodF f := hg.1 (by simpa using hg1)
 refine Xj (Xh rfl rfl rfl hg1) (Xf (off := 0) rfl Tryz.underlying29 rfl inf27.size (by decide) rfl) ?_
 refine Xj (Xh rfl rfl rfl hg1) (Xk rfl Tryz.underlying27 rfl Xp) ?_
 refine Xj (Xh rfl rfl rfl hg1) (Ys rfl Tryz.underlying27) ?_
 refine Xj (Xh rfl rfl rfl hg1) (Xf (off := 0) rfl Tryz.underlying26 rfl inf22.size (by decide) rfl) ?_
 refine Xj (Xh rfl rfl rfl hg1) (Xk rfl Tryz.underlying22 rfl Xp) ?_
 refine Xj (Xh rfl rfl rfl hg1) (Ys rfl Tryz.underlying22) ?_
 refine Xj (Xh rfl rfl rfl hg1) (Zw rfl rfl) ?_
 refine Xa (Xl (Yv hg1) rfl) ?_
 refine Xa (Xo rfl) ?_
 refine Ya rfl rfl rfl ?_ ?_
 intro hg3
 have hp3 := hg3; try simp only [Yt] at hp3
 refine Xc (Xg rfl rfl rfl hg3 rfl) ?_
 refine Xc (Xg rfl rfl rfl hg3 rfl) ?_
 refine Xc (Xg rfl rfl rfl hg3 rfl) ?_
 refine Xc (Xg rfl rfl rfl hg3 rfl) ?_
 refine Xc (Xg rfl rfl rfl hg3 rfl) ?_
 refine Xc (Xg rfl rfl rfl hg3 rfl) ?_
 refine Xc (Xg rfl rfl rfl hg3 rfl) ?_
 refine Xa (Xl (Yv hg3) rfl) ?_
 refine Yu rfl rfl ?_
 refine Xe ?_
 refine Xu ?_
 refine Xa (Xn rfl) ?_
 refine X2 ?_
 refine ⟨.bool false, Xx (Xs rfl), false, rfl, fun h => (by cases h), fun hG => ?_⟩
 exfalso
 have q1 := hG.n1
 have q2 := hG.n2
 first | exact hgf hG.gf | omega
 intro hg3
 have hp3 := hg3; try simp only [Yt] at hp3
 refine Xj (Xh rfl rfl rfl hg3) (Xf (off := 1) rfl Tryz.underlying29 rfl inf27.size (by decide) rfl) ?_
 refine Xj (Xh rfl rfl rfl hg3) (Xk rfl Tryz.underlying27 rfl Xp) ?_
 refine Xj (Xh rfl rfl rfl hg3) (Ys rfl Tryz.underlying27) ?_
 refine Xj (Xh rfl rfl rfl hg3) (Xf (off := 0) rfl Tryz.underlying26 rfl inf22.size (by decide) rfl) ?_
 refine Xj (Xh rfl rfl rfl hg3) (Xk rfl Tryz.underlying22 rfl Xp) ?_
 refine Xj (Xh rfl rfl rfl hg3) (Ys rfl Tryz.underlying22) ?_
 refine Xj (Xh rfl rfl rfl hg3) (Zw rfl rfl) ?_
 refine Xa (Xl (Yv hg3) rfl) ?_
 refine X5 rfl rfl ?_ ?_
 intro hc5
 (try simp only [Yt] at hc5)
 refine Xe ?_
 refine Xu ?_
 refine Xa (Xn rfl) ?_
 refine X2 ?_
 refine ⟨.bool false, Xx (Xs rfl), false, rfl, fun h => (by cases h), fun hG => ?_⟩
 exfalso
 have q1 := hG.n1
 have q2 := hG.n2
 first | exact hgf hG.gf | omega
 intro hc5
 have hlen : p.nodes.length = f.vars.length ∧ p.links.length = f.vars.length := by
  have hc5' := of_decide_eq_false hc5
  constructor <;> omega
 refine X9 ?_
 refine Xe ?_
 refine Xe ?_
 refine Xu ?_
 refine Xa (Xi rfl) ?_
 refine Ye ?_
 refine Y5 (fun n t H' => ∃ (i : Nat), i ≤ f.vars.length ∧ n = f.vars.length - i ∧ H' = (H.push (.own 0 [.slice A0 f.vars.length c0, .slice A1 f.order.length c1, .slice A2 f.parent.length c2, .slice A3 f.links.length c3, .slice A4 f.loops.length c4])).push (.own 0 [.slice B0 p.nodes.length d0, .slice B1 p.links.length d1]) ∧ (∀ j, j < i → OkP f p j) ∧ t 2 = .pointer (some ⟨H.size, 0, none⟩) ∧ t 3 = .pointer (some ⟨H.size + 1, 0, none⟩) ∧ t 5 = .int .i64 i) (f.vars.length) (⟨0, by omega, rfl, rfl, fun j h => by omega, rfl, rfl, rfl⟩) ?_
 rintro n t _ ⟨i, hi, rfl, rfl, hok, e2, e3, e5⟩
 refine Xe ?_
 refine Xe ?_
 refine Xu ?_
 refine Xa (Xb Xm) ?_
 refine Xa (Xf (off := 0) Xm Tryz.underlying26 Xm inf22.size (by decide) Xm) ?_
 refine Xa (Xk rfl Tryz.underlying22 rfl Xp) ?_
 refine Xa (Ys rfl Tryz.underlying22) ?_
 refine Xa (Za rfl rfl) ?_
 refine X5 rfl rfl ?_ ?_
 intro hc6
 (try simp only [Yt] at hc6)
 refine X9 ?_
 refine Xe ?_
 refine Ye ?_
 refine Xe ?_
 refine Xe ?_
 have hpl := hgt.l2
 have hix : i < f.vars.length := by omega
 have hseS := (Hp.le_push' (H.le_push (.own 0 [.slice A0 f.vars.length c0, .slice A1 f.order.length c1, .slice A2 f.parent.length c2, .slice A3 f.links.length c3, .slice A4 f.loops.length c4])) (.own 0 [.slice B0 p.nodes.length d0, .slice B1 p.links.length d1])).sees
 have hixn : i < p.nodes.length := by omega
 have hixl : i < p.links.length := by omega
 obtain ⟨b, o, ks, eB0, hb, ⟨w0, rfl, hw0⟩, hcell0⟩ := (hn0.mono hseS).elem_at hixn
 obtain ⟨b1, o1, ks1, eB1, hb1, ⟨w1, rfl, hw1⟩, hcell1⟩ := (hn1.mono hseS).elem_at hixl
 subst eB0 eB1
 have hcell0' := hcell0.one
 have hcell1' := hcell1.one
 obtain ⟨A6, c6, rfl⟩ := hw0.shape
 obtain ⟨A7, c7, rfl⟩ := hw1.shape
 obtain ⟨b2, o2, rfl, hb2, hcell2⟩ := (hs2.mono hseS).int_at (i := (i : Int)) (by omega) (by omega)
 rw [Int.toNat_natCast] at hcell2
 have hzn := z5 _ (List.getElem_mem hixn)
 have hzl := z6 _ (List.getElem_mem hixl)
 have gn := Ze hixn
 have gl := Ze hixl
 have hge := (hgt.parent_ge hix).1
 obtain ⟨HS, hHS⟩ : ∃ HS, HS = (H.push (.own 0 [.slice A0 f.vars.length c0, .slice A1 f.order.length c1, .slice (some ⟨b2, o2, none⟩) f.parent.length c2, .slice A3 f.links.length c3, .slice A4 f.loops.length c4])).push (.own 0 [.slice (some ⟨b, o, none⟩) p.nodes.length d0, .slice (some ⟨b1, o1, none⟩) p.links.length d1]) := ⟨_, rfl⟩
 have kg0 : HS.get H.size = .own 0 [.slice A0 f.vars.length c0, .slice A1 f.order.length c1, .slice (some ⟨b2, o2, none⟩) f.parent.length c2, .slice A3 f.links.length c3, .slice A4 f.loops.length c4] := by rw [hHS]; exact Yd
 have kg1 : HS.get (H.size + 1) = .own 0 [.slice (some ⟨b, o, none⟩) p.nodes.length d0, .slice (some ⟨b1, o1, none⟩) p.links.length d1] := by rw [hHS]; exact Yd
 have hzs : HS.size = H.size + 2 := by rw [hHS]; rfl
 rw [← hHS] at hcell0' hcell1' hcell2 hw0 hw1 hb hb1 hb2 ⊢
 refine Xu ?_
 refine Xa (Xf (off := 0) Xm Tryz.underlying29 Xm inf27.size (by decide) Xm) ?_
 refine Xa (Xk rfl Tryz.underlying27 rfl Xp) ?_
 refine Xa (Xb Xm) ?_
 refine Xa (Xt rfl rfl Tryz.underlying27 inf83.size X6 X6) ?_
 refine Xa (Xk rfl Tryz.underlying83 rfl Xp) ?_
 refine Xw (Xy (Good_links p.nodes[i] _ _ hw0 (by omega)) rfl Tryz.func86 rfl rfl rfl ?_)
 rintro v5 HS ⟨⟨g1, rfl, hg1⟩, rfl⟩
 refine Xa (Zz rfl) ?_
 refine Xa (Xo rfl) ?_
 refine Ya rfl rfl rfl ?_ ?_
 intro hg7
 have hno : ¬ GoodL p.nodes[i] := fun h => by rw [hg1.2 h] at hg7; cases hg7
 refine Xc (Xg rfl rfl rfl hg7 rfl) ?_
 refine Xc (Xg rfl rfl rfl hg7 rfl) ?_
 refine Xc (Xg rfl rfl rfl hg7 rfl) ?_
 refine Xc (Xg rfl rfl rfl hg7 rfl) ?_
 refine Xc (Xg rfl rfl rfl hg7 rfl) ?_
 refine Xc (Xg rfl rfl rfl hg7 rfl) ?_
 refine Xc (Xg rfl rfl rfl hg7 rfl) ?_
 refine Xa (Xl (Yv hg7) Xm) ?_
 refine Xa (Xo rfl) ?_
 refine Xc (Xg rfl rfl rfl rfl rfl) ?_
 refine Xc (Xg rfl rfl rfl rfl rfl) ?_
 refine Xc (Xg rfl rfl rfl rfl rfl) ?_
 refine Xc (Xg rfl rfl rfl rfl rfl) ?_
 refine Xc (Xg rfl rfl rfl rfl rfl) ?_
 refine Xc (Xg rfl rfl rfl rfl rfl) ?_
 refine Xc (Xg rfl rfl rfl rfl rfl) ?_
 refine Xc (Yb rfl rfl rfl) ?_
 refine Xc (Yb rfl rfl rfl) ?_
 refine Xc (Yb rfl rfl rfl) ?_
 refine Xc (Yb rfl rfl rfl) ?_
 refine Xc (Yb rfl rfl rfl) ?_
 refine Xc (Yb rfl rfl rfl) ?_
 refine Xc (Yb rfl rfl rfl) ?_
 refine Xc (Xg rfl rfl rfl rfl rfl) ?_
 refine Xa (Xl (congrArg Value.bool Xm) Xm) ?_
 refine Yu rfl rfl ?_
 refine Xe ?_
 refine Xu ?_
 refine Xa (Xn rfl) ?_
 refine X2 ?_
 refine ⟨.bool false, Xx (Xs rfl), false, rfl, fun h => (by cases h), fun hG => ?_⟩
 obtain ⟨q1, q2, q3, q4⟩ := hG.ok i hix
 rw [gn] at q1 q3
 rw [gl] at q2 q4
 exfalso
 first | exact hno q1 | exact hno q2 | (rw [q4 (by omega)] at hll; simp at hll)
 intro hg7
 have hgn : GoodL p.nodes[i] := hg1.1 (by simpa using hg7)
 refine Xj (Xh rfl rfl rfl hg7) (Xf (off := 1) Xm Tryz.underlying29 Xm inf27.size (by decide) Xm) ?_
 refine Xj (Xh rfl rfl rfl hg7) (Xk rfl Tryz.underlying27 rfl Xp) ?_
 refine Xj (Xh rfl rfl rfl hg7) (Xb Xm) ?_
 refine Xj (Xh rfl rfl rfl hg7) (Xt rfl rfl Tryz.underlying27 inf83.size X6 X6) ?_
 refine Xj (Xh rfl rfl rfl hg7) (Xk rfl Tryz.underlying83 rfl Xp) ?_
 refine Z1 (Xh rfl rfl rfl hg7) (Xy (Good_links p.links[i] _ _ hw1 (by omega)) rfl Tryz.func86 rfl rfl rfl ?_)
 rintro v6 HS ⟨⟨g2, rfl, hg2⟩, rfl⟩
 refine Xj (Xh rfl rfl rfl hg7) (Zz rfl) ?_
 refine Xa (Xl (Yv hg7) rfl) ?_
 refine Xa (Xo rfl) ?_
 refine Ya rfl rfl rfl ?_ ?_
 intro hg9
 have hno : ¬ GoodL p.links[i] := fun h => by rw [hg2.2 h] at hg9; cases hg9
 refine Xc (Xg rfl rfl rfl hg9 rfl) ?_
 refine Xc (Xg rfl rfl rfl hg9 rfl) ?_
 refine Xc (Xg rfl rfl rfl hg9 rfl) ?_
 refine Xc (Xg rfl rfl rfl hg9 rfl) ?_
 refine Xc (Xg rfl rfl rfl hg9 rfl) ?_
 refine Xc (Xg rfl rfl rfl hg9 rfl) ?_
 refine Xc (Xg rfl rfl rfl hg9 rfl) ?_
 refine Xc (Yb rfl rfl rfl) ?_
 refine Xc (Yb rfl rfl rfl) ?_
 refine Xc (Yb rfl rfl rfl) ?_
 refine Xc (Yb rfl rfl rfl) ?_
 refine Xc (Yb rfl rfl rfl) ?_
 refine Xc (Yb rfl rfl rfl) ?_
 refine Xc (Yb rfl rfl rfl) ?_
 refine Xc (Xg rfl rfl rfl hg9 rfl) ?_
 refine Xa (Xl (Yv hg9) Xm) ?_
 refine Yu rfl rfl ?_
 refine Xe ?_
 refine Xu ?_
 refine Xa (Xn rfl) ?_
 refine X2 ?_
 refine ⟨.bool false, Xx (Xs rfl), false, rfl, fun h => (by cases h), fun hG => ?_⟩
 obtain ⟨q1, q2, q3, q4⟩ := hG.ok i hix
 rw [gn] at q1 q3
 rw [gl] at q2 q4
 exfalso
 first | exact hno q1 | exact hno q2 | (rw [q4 (by omega)] at hll; simp at hll)
 intro hg9
 have hgl : GoodL p.links[i] := hg2.1 (by simpa using hg9)
 refine Xj (Xh rfl rfl rfl hg9) (Xf (off := 2) Xm Tryz.underlying26 Xm inf23.size (by decide) Xm) ?_
 refine Xj (Xh rfl rfl rfl hg9) (Xk rfl Tryz.underlying23 rfl Xp) ?_
 refine Xj (Xh rfl rfl rfl hg9) (Xb Xm) ?_
 refine Xj (Xh rfl rfl rfl hg9) (Xt rfl rfl Tryz.underlying23 inf3.size X6 X6) ?_
 refine Xj (Xh rfl rfl rfl hg9) (Xk rfl Tryz.underlying3 rfl Xp) ?_
 refine Xj (Xh rfl rfl rfl hg9) (Za rfl rfl) ?_
 refine Xj (Xh rfl rfl rfl hg9) (Xo rfl) ?_
 refine Ya rfl rfl rfl ?_ ?_
 intro hg11
 have hpar : f.parent.getD i 0 < 0 := of_decide_eq_true hg11
 refine Xj (Xh rfl rfl rfl hg11) (Xf (off := 1) Xm Tryz.underlying29 Xm inf27.size (by decide) Xm) ?_
 refine Xj (Xh rfl rfl rfl hg11) (Xk rfl Tryz.underlying27 rfl Xp) ?_
 refine Xj (Xh rfl rfl rfl hg11) (Xb Xm) ?_
 refine Xj (Xh rfl rfl rfl hg11) (Xt rfl rfl Tryz.underlying27 inf83.size X6 X6) ?_
 refine Xj (Xh rfl rfl rfl hg11) (Xk rfl Tryz.underlying83 rfl Xp) ?_
 refine Xj (Xh rfl rfl rfl hg11) (Ys rfl Tryz.underlying83) ?_
 refine Xj (Xh rfl rfl rfl hg11) (Vu rfl rfl) ?_
 refine Xj (Xh rfl rfl rfl hg9) (Xl (Yv hg11) rfl) ?_
 refine Xa (Xl (Yv hg9) rfl) ?_
 refine X5 rfl rfl ?_ ?_
 intro hc12
 have hll : 0 < p.links[i].length := by have := of_decide_eq_true hc12; omega
 refine Xe ?_
 refine Xu ?_
 refine Xa (Xn rfl) ?_
 refine X2 ?_
 refine ⟨.bool false, Xx (Xs rfl), false, rfl, fun h => (by cases h), fun hG => ?_⟩
 obtain ⟨q1, q2, q3, q4⟩ := hG.ok i hix
 rw [gn] at q1 q3
 rw [gl] at q2 q4
 exfalso
 first | exact hno q1 | exact hno q2 | (rw [q4 (by omega)] at hll; simp at hll)
 intro hc12
 have hll : p.links[i] = [] := List.eq_nil_of_length_eq_zero (by have := of_decide_eq_false hc12; omega)
 refine X9 ?_
 refine Xe ?_
 have hlk : f.parent.getD i 0 = -1 → p.links[i] = [] := fun h => by first | exact hll | exact absurd h (by omega)
 refine Xu ?_
 refine Xa (Xi rfl) ?_
 refine Ye ?_
 refine Y5 (fun n t H' => ∃ (j : Nat), j ≤ p.nodes[i].length ∧ n = p.nodes[i].length - j ∧ H' = HS ∧ (∀ x ∈ p.nodes[i].take j, x.a = x.b) ∧ t 2 = .pointer (some ⟨H.size, 0, none⟩) ∧ t 3 = .pointer (some ⟨H.size + 1, 0, none⟩) ∧ t 5 = .int .i64 i ∧ t 6 = .int .i64 j) (p.nodes[i].length) (⟨0, by omega, rfl, rfl, by simp, e2, e3, e5, rfl⟩) ?_
 rintro n t HS ⟨j, hj, rfl, rfl, hj2, e2, e3, e5, e6⟩
 refine Xe ?_
 refine Xe ?_
 refine Xu ?_
 refine Xa (Xb Xm) ?_
 refine Xa (Xf (off := 0) Xm Tryz.underlying29 Xm inf27.size (by decide) Xm) ?_
 refine Xa (Xk rfl Tryz.underlying27 rfl Xp) ?_
 refine Xa (Xb Xm) ?_
 refine Xa (Xt rfl rfl Tryz.underlying27 inf83.size X6 X6) ?_
 refine Xa (Xk rfl Tryz.underlying83 rfl Xp) ?_
 refine Xa (Ys rfl Tryz.underlying83) ?_
 refine Xa (Za rfl rfl) ?_
 refine X5 rfl rfl ?_ ?_
 intro hc13
 (try simp only [Yt] at hc13)
 refine X9 ?_
 refine Xe ?_
 refine Ye ?_
 refine Xe ?_
 have hjx : j < p.nodes[i].length := by omega
 obtain ⟨b3, o3, rfl, hb3, hcell3⟩ := hw0.link_at hjx
 have hcell31 := hcell3 0 _ rfl
 have hcell32 := hcell3 1 _ rfl
 refine Yy (by kernel_rfl) (Y4 (B := [0, 1, 0, 7, 15, 0, 63, 127, 255, 0, 512, 0, 3584, 7680, 0, 32256, 65024, 130560, 262143]) (π := [0, 1, 2, 3, 4, 5, 6, 7, 8, 9, 10, 11, 12, 13, 14, 15, 16, 17, 18]) (by kernel_rfl)) ?_
 refine Xd rfl rfl (Xf (off := 0) Xm Tryz.underlying29 Xm inf27.size (by decide) Xm) Xq ?_
 refine Xd rfl rfl (Xk rfl Tryz.underlying27 rfl Xp) Xq ?_
 refine Xd rfl rfl (Xb Xm) Xq ?_
 refine Xd rfl rfl (Xt rfl rfl Tryz.underlying27 inf83.size X6 X6) Xq ?_
 refine Xd rfl rfl (Xk rfl Tryz.underlying83 rfl Xp) Xq ?_
 refine Xd rfl rfl (Xb Xm) Xq ?_
 refine Xd rfl rfl (Xt rfl rfl Tryz.underlying83 inf96.size X6 X6) Xq ?_
 refine Xd rfl rfl (Xf (off := 0) rfl Tryz.underlying96 rfl inf3.size (by decide) rfl) Xq ?_
 refine Xd rfl rfl (Xk rfl Tryz.underlying3 rfl Xp) Xq ?_
 refine Xd rfl rfl (Xf (off := 0) Xm Tryz.underlying29 Xm inf27.size (by decide) Xm) Xq ?_
 refine Xd rfl rfl (Xk rfl Tryz.underlying27 rfl Xp) Xq ?_
 refine Xd rfl rfl (Xb Xm) Xq ?_
 refine Xd rfl rfl (Xt rfl rfl Tryz.underlying27 inf83.size X6 X6) Xq ?_
 refine Xd rfl rfl (Xk rfl Tryz.underlying83 rfl Xp) Xq ?_
 refine Xd rfl rfl (Xb Xm) Xq ?_
 refine Xd rfl rfl (Xt rfl rfl Tryz.underlying83 inf96.size X6 X6) Xq ?_
 refine Xd rfl rfl (Xf (off := 1) rfl Tryz.underlying96 rfl inf3.size (by decide) rfl) Xq ?_
 refine Xd rfl rfl (Xk rfl Tryz.underlying3 rfl Xp) Xq ?_
 refine Xd rfl rfl (Zw rfl rfl) Xq ?_
 refine X5 rfl rfl ?_ ?_
 intro hc14
 have hne : p.nodes[i][j].a ≠ p.nodes[i][j].b := of_decide_eq_true hc14
 refine Xe ?_
 refine Xu ?_
 refine Xa (Xn rfl) ?_
 refine X2 ?_
 refine ⟨.bool false, Xx (Xs rfl), false, rfl, fun h => (by cases h), fun hG => ?_⟩
 obtain ⟨q1, q2, q3, q4⟩ := hG.ok i hix
 rw [gn] at q3
 exact absurd (q3 _ (List.getElem_mem hjx)) hne
 intro hc14
 have heq : p.nodes[i][j].a = p.nodes[i][j].b := Decidable.not_not.1 (of_decide_eq_false hc14)
 refine X9 ?_
 refine Xu ?_
 refine Xa (Xb Xm) ?_
 refine Xa (Yn rfl rfl Y0) ?_
 refine Xa (Xi rfl) ?_
 refine ⟨p.nodes[i].length - (j + 1), by omega, j + 1, by omega, rfl, rfl, ?_, e2, e3, e5, rfl⟩
 rw [← Y9 hjx]
 intro x hx
 rcases List.mem_append.1 hx with hx | hx
 ·exact hj2 x hx
 ·simp at hx; rw [hx]; exact heq
 intro hc13
 (try simp only [Yt] at hc13)
 refine Yx ?_
 refine Xu ?_
 refine Xa (Xb Xm) ?_
 refine Xa (Yn rfl rfl Y0) ?_
 refine Xa (Xi rfl) ?_
 rw [List.take_of_length_le (by omega)] at hj2
 refine ⟨f.vars.length - (i + 1), by omega, i + 1, by omega, rfl, by first | rfl | exact hHS | exact hHS.symm, fun j h => ?_, e2, e3, rfl⟩
 rcases Nat.lt_or_ge j i with h1 | h1
 ·exact hok j h1
 ·obtain rfl : j = i := by omega
  exact ⟨by rw [gn]; exact hgn, by rw [gl]; exact hgl, by rw [gn]; exact hj2, fun h => by rw [gl]; exact hlk h⟩
 intro hg11
 have hpar : ¬ f.parent.getD i 0 < 0 := of_decide_eq_false hg11
 refine Xc (Xg rfl rfl rfl hg11 rfl) ?_
 refine Xc (Xg rfl rfl rfl hg11 rfl) ?_
 refine Xc (Xg rfl rfl rfl hg11 rfl) ?_
 refine Xc (Xg rfl rfl rfl hg11 rfl) ?_
 refine Xc (Xg rfl rfl rfl hg11 rfl) ?_
 refine Xc (Xg rfl rfl rfl hg11 rfl) ?_
 refine Xc (Xg rfl rfl rfl hg11 rfl) ?_
 refine Xj (Xh rfl rfl rfl hg9) (Xl (Yv hg11) Xm) ?_
 refine Xa (Xl (Yv hg9) rfl) ?_
 refine Y2 rfl rfl ?_
 refine X9 ?_
 refine Xe ?_
 have hlk : f.parent.getD i 0 = -1 → p.links[i] = [] := fun h => by first | exact hll | exact absurd h (by omega)
 refine Xu ?_
 refine Xa (Xi rfl) ?_
 refine Ye ?_
 refine Y5 (fun n t H' => ∃ (j : Nat), j ≤ p.nodes[i].length ∧ n = p.nodes[i].length - j ∧ H' = HS ∧ (∀ x ∈ p.nodes[i].take j, x.a = x.b) ∧ t 2 = .pointer (some ⟨H.size, 0, none⟩) ∧ t 3 = .pointer (some ⟨H.size + 1, 0, none⟩) ∧ t 5 = .int .i64 i ∧ t 6 = .int .i64 j) (p.nodes[i].length) (⟨0, by omega, rfl, rfl, by simp, e2, e3, e5, rfl⟩) ?_
 rintro n t HS ⟨j, hj, rfl, rfl, hj2, e2, e3, e5, e6⟩
 refine Xe ?_
 refine Xe ?_
 refine Xu ?_
 refine Xa (Xb Xm) ?_
 refine Xa (Xf (off := 0) Xm Tryz.underlying29 Xm inf27.size (by decide) Xm) ?_
 refine Xa (Xk rfl Tryz.underlying27 rfl Xp) ?_
 refine Xa (Xb Xm) ?_
 refine Xa (Xt rfl rfl Tryz.underlying27 inf83.size X6 X6) ?_
 refine Xa (Xk rfl Tryz.underlying83 rfl Xp) ?_
 refine Xa (Ys rfl Tryz.underlying83) ?_
 refine Xa (Za rfl rfl) ?_
 refine X5 rfl rfl ?_ ?_
 intro hc16
 (try simp only [Yt] at hc16)
 refine X9 ?_
 refine Xe ?_
 refine Ye ?_
 refine Xe ?_
 have hjx : j < p.nodes[i].length := by omega
 obtain ⟨b3, o3, rfl, hb3, hcell3⟩ := hw0.link_at hjx
 have hcell31 := hcell3 0 _ rfl
 have hcell32 := hcell3 1 _ rfl
 refine Yy (by kernel_rfl) (Y4 (B := [0, 1, 0, 7, 15, 0, 63, 127, 255, 0, 512, 0, 3584, 7680, 0, 32256, 65024, 130560, 262143]) (π := [0, 1, 2, 3, 4, 5, 6, 7, 8, 9, 10, 11, 12, 13, 14, 15, 16, 17, 18]) (by kernel_rfl)) ?_
 refine Xd rfl rfl (Xf (off := 0) Xm Tryz.underlying29 Xm inf27.size (by decide) Xm) Xq ?_
 refine Xd rfl rfl (Xk rfl Tryz.underlying27 rfl Xp) Xq ?_
 refine Xd rfl rfl (Xb Xm) Xq ?_
 refine Xd rfl rfl (Xt rfl rfl Tryz.underlying27 inf83.size X6 X6) Xq ?_
 refine Xd rfl rfl (Xk rfl Tryz.underlying83 rfl Xp) Xq ?_
 refine Xd rfl rfl (Xb Xm) Xq ?_
 refine Xd rfl rfl (Xt rfl rfl Tryz.underlying83 inf96.size X6 X6) Xq ?_
 refine Xd rfl rfl (Xf (off := 0) rfl Tryz.underlying96 rfl inf3.size (by decide) rfl) Xq ?_
 refine Xd rfl rfl (Xk rfl Tryz.underlying3 rfl Xp) Xq ?_
 refine Xd rfl rfl (Xf (off := 0) Xm Tryz.underlying29 Xm inf27.size (by decide) Xm) Xq ?_
 refine Xd rfl rfl (Xk rfl Tryz.underlying27 rfl Xp) Xq ?_
 refine Xd rfl rfl (Xb Xm) Xq ?_
 refine Xd rfl rfl (Xt rfl rfl Tryz.underlying27 inf83.size X6 X6) Xq ?_
 refine Xd rfl rfl (Xk rfl Tryz.underlying83 rfl Xp) Xq ?_
 refine Xd rfl rfl (Xb Xm) Xq ?_
 refine Xd rfl rfl (Xt rfl rfl Tryz.underlying83 inf96.size X6 X6) Xq ?_
 refine Xd rfl rfl (Xf (off := 1) rfl Tryz.underlying96 rfl inf3.size (by decide) rfl) Xq ?_
 refine Xd rfl rfl (Xk rfl Tryz.underlying3 rfl Xp) Xq ?_
 refine Xd rfl rfl (Zw rfl rfl) Xq ?_
 refine X5 rfl rfl ?_ ?_
 intro hc17
 have hne : p.nodes[i][j].a ≠ p.nodes[i][j].b := of_decide_eq_true hc17
 refine Xe ?_
 refine Xu ?_
 refine Xa (Xn rfl) ?_
 refine X2 ?_
 refine ⟨.bool false, Xx (Xs rfl), false, rfl, fun h => (by cases h), fun hG => ?_⟩
 obtain ⟨q1, q2, q3, q4⟩ := hG.ok i hix
 rw [gn] at q3
 exact absurd (q3 _ (List.getElem_mem hjx)) hne
 intro hc17
 have heq : p.nodes[i][j].a = p.nodes[i][j].b := Decidable.not_not.1 (of_decide_eq_false hc17)
 refine X9 ?_
 refine Xu ?_
 refine Xa (Xb Xm) ?_
 refine Xa (Yn rfl rfl Y0) ?_
 refine Xa (Xi rfl) ?_
 refine ⟨p.nodes[i].length - (j + 1), by omega, j + 1, by omega, rfl, rfl, ?_, e2, e3, e5, rfl⟩
 rw [← Y9 hjx]
 intro x hx
 rcases List.mem_append.1 hx with hx | hx
 ·exact hj2 x hx
 ·simp at hx; rw [hx]; exact heq
 intro hc16
 (try simp only [Yt] at hc16)
 refine Yx ?_
 refine Xu ?_
 refine Xa (Xb Xm) ?_
 refine Xa (Yn rfl rfl Y0) ?_
 refine Xa (Xi rfl) ?_
 rw [List.take_of_length_le (by omega)] at hj2
 refine ⟨f.vars.length - (i + 1), by omega, i + 1, by omega, rfl, by first | rfl | exact hHS | exact hHS.symm, fun j h => ?_, e2, e3, rfl⟩
 rcases Nat.lt_or_ge j i with h1 | h1
 ·exact hok j h1
 ·obtain rfl : j = i := by omega
  exact ⟨by rw [gn]; exact hgn, by rw [gl]; exact hgl, by rw [gn]; exact hj2, fun h => by rw [gl]; exact hlk h⟩
 intro hc6
 (try simp only [Yt] at hc6)
 refine Yx ?_
 refine Xe ?_
 refine Xu ?_
 refine Xa (Xn rfl) ?_
 refine X2 ?_
 exact ⟨.bool true, Xx (Xs rfl), true, rfl, fun _ => ⟨hgt, hlen.1, hlen.2, fun j h => hok j (by omega)⟩, fun _ => rfl⟩
theorem GoodP_ref (f : Forest) (p : Parts) (cs ds : List Value) (H : Hp) (hp : kForest.rep H f cs) (hq : kParts.rep H p ds) (hsm : Small f p) :
  ACalls Tryz.prog 53 #[.agg cs.toArray, .agg ds.toArray] H (fun r H' => (∃ g, r = .bool g ∧ (g = true ↔ GoodP f p)) ∧ H' = H) :=
 ACalls.pure (fun v ⟨g, h, _⟩ => by rw [h]; rfl) (GoodP_ref_raw f p cs ds H.ro (kForest.mono H.sees_ro hp) (kParts.mono H.sees_ro hq) hsm)
theorem ends_parts (ns : List (List Link)) (A AL : Option Addr) (c nL cL : Nat) (v : Nat) (H : Hp) (hN : Sl (V1 kLink) H (.slice A ns.length c) ns) (hv : v < ns.length) (hx : ∀ l ∈ ns, l.length ≤ 1000000) :
  ACalls Tryz.prog 143 #[.agg #[.slice A ns.length c, .slice AL nL cL], .int .i64 v] H (fun r H' => ∃ G', H.le G' ∧ OwnP (Y1 .i64) G' H' r (Uv ns[v] false)) := by
 obtain ⟨b, o, ks, eB, hb, ⟨w0, rfl, hw0⟩, hcell0⟩ := hN.elem_at hv
 subst eB
 have hcell0' := hcell0.one
 obtain ⟨A6, c6, rfl⟩ := hw0.shape
 refine Xv Tryz.func143 rfl rfl rfl (by simp) ?_
 refine Xe ?_
 refine Xu ?_
 refine Xz (Yw rfl) ?_
 refine Xa (Yc rfl) ?_
 refine Xe ?_
 refine Xu ?_
 refine Xa (Xf (off := 0) rfl Tryz.underlying29 rfl inf27.size (by decide) rfl) ?_
 refine Xa (Xk rfl Tryz.underlying27 rfl Xp) ?_
 refine Xa (Xb rfl) ?_
 refine Xa (Xt rfl rfl Tryz.underlying27 inf83.size X6 X6) ?_
 refine Xa (Xk rfl Tryz.underlying83 rfl Xp) ?_
 refine Xw (Xy (Ends_links ns[v] _ false _ (hw0.mono Zp) (hx _ (List.getElem_mem hv))) rfl Tryz.func135 rfl rfl rfl ?_)
 rintro v5 H5 ⟨G5, hle5, hown5⟩; have hle5' := Hp.le_trans (H.le_push _) hle5
 refine Xa (Vf rfl) ?_
 refine X2 ?_
 exact ⟨_, Xx (Xs rfl), G5, hle5', hown5⟩
def Zl (ns ls : List (List Link)) (v u : Nat) : List (List Link) := ls.set v (Zk (ls.getD v []) (Uv (ns.getD u []) false) (Uv (ns.getD v []) false))
theorem links_parts (ns ls : List (List Link)) (N L : Value) (v u : Nat) (G H : Hp) (hp : PartsP G H N L ns ls) (hl : ns.length = ls.length) (hv : v < ls.length) (hu : u < ls.length) (hx : ∀ l ∈ ns, l.length ≤ 1000000) (hy : ∀ l ∈ ls, l.length ≤ 1000000) :
  ACalls Tryz.prog 133 #[.agg #[N, L], .int .i64 v, .int .i64 u] H (fun r H' => ∃ G', G.le G' ∧ PartsP G' H' N L ns (Zl ns ls v u) ∧ r = .tuple #[]) := by
 obtain ⟨b, cL, cs, w0, rfl, hb, hgb, hcell0', hcs, hw0⟩ := hp.spotL hv
 have hN := hp.slN
 obtain ⟨A, c, rfl⟩ := hN.shape
 obtain ⟨A6, c6, rfl⟩ := hw0.shape
 have gv : ls.getD v [] = ls[v] := Ze hv
 have gn : ns.getD v [] = ns[v] := Ze (by omega)
 have gu : ns.getD u [] = ns[u] := Ze (by omega)
 refine Xv Tryz.func133 rfl rfl rfl (by simp) ?_
 refine Xe ?_
 refine Xu ?_
 refine Xz (Yw rfl) ?_
 refine Yy (by kernel_rfl) (Y4 (B := [0, 1, 0, 0, 8, 0, 56, 120, 0, 0, 768, 0, 0, 7936, 16376, 32767, 65535]) (π := [0, 1, 2, 3, 4, 5, 6, 7, 8, 9, 11, 12, 10, 13, 14, 15, 16]) (by kernel_rfl)) ?_
 refine Xd rfl rfl (Xf (off := 1) rfl Tryz.underlying29 rfl inf27.size (by decide) rfl) Xq ?_
 refine Xd rfl rfl (Xk rfl Tryz.underlying27 rfl Xp) Xq ?_
 refine Xd rfl rfl (Xb rfl) Xq ?_
 refine Xd rfl rfl (Xf (off := 1) rfl Tryz.underlying29 rfl inf27.size (by decide) rfl) Xq ?_
 refine Xd rfl rfl (Xk rfl Tryz.underlying27 rfl Xp) Xq ?_
 refine Xd rfl rfl (Xb rfl) Xq ?_
 refine Xd rfl rfl (Xt rfl rfl Tryz.underlying27 inf83.size X6 X6) Xq ?_
 refine Xd rfl rfl (Xk rfl Tryz.underlying83 rfl Xp) Xq ?_
 refine Xd rfl rfl (Yl (cs := [.slice _ _ _, .slice _ _ _]) rfl Tryz.underlying29 rfl inf29.size X8) Xq ?_
 refine Xd rfl rfl (Xb rfl) Xq ?_
 refine Xd rfl rfl (Yl (cs := [.slice _ _ _, .slice _ _ _]) rfl Tryz.underlying29 rfl inf29.size X8) Xq ?_
 refine Xd rfl rfl (Xb rfl) Xq ?_
 refine Ym rfl rfl (Xy (ends_parts ns A _ c _ _ u _ (hN.mono Zp) (by omega) hx) rfl Tryz.func143 rfl rfl rfl ?_)
 rintro v5 H5 ⟨G5, hle5, hown5⟩; have hleC5 := Hp.le_trans hle5 hown5.le; have hzC5 := hleC5.1; simp only [Hp.push_size] at hzC5; obtain ⟨A5, c5, rfl⟩ := hown5.shape
 refine ⟨Yk, ?_⟩
 refine Ym rfl rfl (Xy (ends_parts ns A _ c _ _ v _ (hN.mono Zp) (by omega) hx) rfl Tryz.func143 rfl rfl rfl ?_)
 rintro v6 H6 ⟨G6, hle6, hown6⟩; have hleC6 := Hp.le_trans hle6 hown6.le; have hzC6 := hleC6.1; obtain ⟨A7, c7, rfl⟩ := hown6.shape
 refine ⟨Yk, ?_⟩
 refine Ym rfl rfl (Xy (Within_links ls[v] (Uv ns[u] false) (Uv ns[v] false) _ _ _ _ (hw0.mono Zp) (hown5.sl.mono Zp) hown6.sl (hy _ (List.getElem_mem hv)) (by have := endsL_len ns[u] false; have := hx _ (List.getElem_mem (by omega : u < ns.length)); omega) (by have := endsL_len ns[v] false; have := hx _ (List.getElem_mem (by omega : v < ns.length)); omega) (endsL_sorted _ _) (endsL_sorted _ _)) rfl Tryz.func142 rfl rfl rfl ?_)
 rintro v8 H8 ⟨G8, hle8, hown8⟩; have hleC8 := Hp.le_trans hle8 hown8.le; have hzC8 := hleC8.1; obtain ⟨A9, c9, rfl⟩ := hown8.shape
 refine ⟨Yk, ?_⟩
 refine Xd rfl rfl (Xt rfl rfl Tryz.underlying27 inf83.size X6 X6) Xq ?_
 first | refine Ym rfl rfl (Y3 rfl rfl rfl inf83.size Yd Yg rfl ?_)
 refine ⟨Yk, ?_⟩
 have hleA : H.le H8 := Hp.le_trans (H.le_push _) (Hp.le_trans hleC5 (Hp.le_trans hleC6 hleC8))
 have hg8 : H8.get b = .own 1 cs := Xr hleA hb (by intro e; cases e) hgb
 obtain ⟨G9, hle9, hp9⟩ := hp.storeL hleA hown8.sl hv hg8 (off := 0 + (v : Int).toNat * 1) (by simp)
 rw [setR_one (by simp; omega)] at hp9
 unfold Zl
 rw [gv, gn, gu]
 exact ⟨_, aresult0, G9, hle9, hp9, rfl⟩
def U2 (ns : List (List Link)) (v : Nat) (l : List Int) : List (List Link) := ns.set v (Zk (ns.getD v []) l l)
theorem keep_parts (ns ls : List (List Link)) (N L : Value) (v : Nat) (l : List Int) (vl : Value) (G H : Hp) (hp : PartsP G H N L ns ls) (hv : v < ns.length) (hlv : Sl (Y1 .i64) H vl l) (hll : l.length ≤ 1000000) (hlr : l.Pairwise (· ≤ ·)) (hx : ∀ l ∈ ns, l.length ≤ 1000000) :
  ACalls Tryz.prog 134 #[.agg #[N, L], .int .i64 v, vl] H (fun r H' => ∃ G', G.le G' ∧ PartsP G' H' N L (U2 ns v l) ls ∧ r = .tuple #[]) := by
 obtain ⟨b, cN, cs, w0, rfl, hb, hgb, hcell0', hcs, hw0⟩ := hp.spotN hv
 have hL := hp.slL
 obtain ⟨AL, cL, rfl⟩ := hL.shape
 obtain ⟨A6, c6, rfl⟩ := hw0.shape
 obtain ⟨Al, cl, rfl⟩ := hlv.shape
 have gv : ns.getD v [] = ns[v] := Ze hv
 refine Xv Tryz.func134 rfl rfl rfl (by simp) ?_
 refine Xe ?_
 refine Xu ?_
 refine Xz (Yw rfl) ?_
 refine Yy (by kernel_rfl) (Y4 (B := [0, 1, 0, 0, 8, 0, 56, 120, 0, 0, 1016, 2047, 4095]) (π := [0, 1, 2, 3, 4, 5, 6, 7, 8, 9, 10, 11, 12]) (by kernel_rfl)) ?_
 refine Xd rfl rfl (Xf (off := 0) rfl Tryz.underlying29 rfl inf27.size (by decide) rfl) Xq ?_
 refine Xd rfl rfl (Xk rfl Tryz.underlying27 rfl Xp) Xq ?_
 refine Xd rfl rfl (Xb rfl) Xq ?_
 refine Xd rfl rfl (Xf (off := 0) rfl Tryz.underlying29 rfl inf27.size (by decide) rfl) Xq ?_
 refine Xd rfl rfl (Xk rfl Tryz.underlying27 rfl Xp) Xq ?_
 refine Xd rfl rfl (Xb rfl) Xq ?_
 refine Xd rfl rfl (Xt rfl rfl Tryz.underlying27 inf83.size X6 X6) Xq ?_
 refine Xd rfl rfl (Xk rfl Tryz.underlying83 rfl Xp) Xq ?_
 refine Xd rfl rfl (X1 rfl) Xq ?_
 refine Xd rfl rfl (X1 rfl) Xq ?_
 refine Ym rfl rfl (Xy (Within_links ns[v] l l _ _ _ _ (hw0.mono Zp) (hlv.mono Zp) (hlv.mono Zp) (hx _ (List.getElem_mem hv)) hll hll hlr hlr) rfl Tryz.func142 rfl rfl rfl ?_)
 rintro v8 H8 ⟨G8, hle8, hown8⟩; have hleC8 := Hp.le_trans hle8 hown8.le; have hzC8 := hleC8.1; simp only [Hp.push_size] at hzC8; obtain ⟨A9, c9, rfl⟩ := hown8.shape
 refine ⟨Yk, ?_⟩
 refine Xd rfl rfl (Xt rfl rfl Tryz.underlying27 inf83.size X6 X6) Xq ?_
 first | refine Ym rfl rfl (Y3 rfl rfl rfl inf83.size Yd Yg rfl ?_)
 refine ⟨Yk, ?_⟩
 have hleA : H.le H8 := Hp.le_trans (H.le_push _) hleC8
 have hg8 : H8.get b = .own 1 cs := Xr hleA hb (by intro e; cases e) hgb
 obtain ⟨G9, hle9, hp9⟩ := hp.storeN hleA hown8.sl hv hg8 (off := 0 + (v : Int).toNat * 1) (by simp)
 rw [setR_one (by simp; omega)] at hp9
 unfold U2
 rw [gv]
 exact ⟨_, aresult0, G9, hle9, hp9, rfl⟩
structure Fits (n : Nat) (p : Parts) : Prop where
 n1 : p.nodes.length = n
 n2 : p.links.length = n
 s1 : ∀ l ∈ p.nodes, l.length ≤ 1000000
 s2 : ∀ l ∈ p.links, l.length ≤ 1000000
theorem V2 {ns : List (List Link)} (h : ∀ l ∈ ns, l.length ≤ 1000000) (v : Nat) : (ns.getD v []).length ≤ 1000000 := by
 by_cases hv : v < ns.length
 ·rw [Ze hv]; exact h _ (List.getElem_mem hv)
 ·rw [List.getD_eq_getElem?_getD, List.getElem?_eq_none (by omega)]; simp
theorem set_within {ns : List (List Link)} (h : ∀ l ∈ ns, l.length ≤ 1000000) (v : Nat) (fs ts : List Int) : ∀ l ∈ ns.set v (Zk (ns.getD v []) fs ts), l.length ≤ 1000000 := fun l hl => by
 rcases List.mem_or_eq_of_mem_set hl with hl | rfl
 ·exact h l hl
 ·exact Nat.le_trans (withinL_len _ _ _) (V2 h v)
theorem linksStep_len (ns ls : List (List Link)) (v u : Nat) : (Zl ns ls v u).length = ls.length := List.length_set
theorem keepStep_len (ns : List (List Link)) (v : Nat) (l : List Int) : (U2 ns v l).length = ns.length := List.length_set
def upStep (f : Forest) (p : Parts) (v : Nat) : Parts :=
 if f.parent.getD v 0 = -1 then p else
  ⟨U2 p.nodes (f.parent.getD v 0).toNat (Uv ((Zl p.nodes p.links v (f.parent.getD v 0).toNat).getD v []) false), Zl p.nodes p.links v (f.parent.getD v 0).toNat⟩
def Vw (f : Forest) (p : Parts) (v : Nat) : Parts :=
 if f.parent.getD v 0 = -1 then p else
  ⟨U2 p.nodes v (Uv ((Zl p.nodes p.links v (f.parent.getD v 0).toNat).getD v []) true), Zl p.nodes p.links v (f.parent.getD v 0).toNat⟩
theorem Fits.up {n : Nat} {f : Forest} {p : Parts} (h : Fits n p) (v : Nat) : Fits n (upStep f p v) := by
 unfold upStep
 split
 ·exact h
 ·exact ⟨(keepStep_len _ _ _).trans h.n1, (linksStep_len _ _ _ _).trans h.n2, set_within h.s1 _ _ _, set_within h.s2 _ _ _⟩
theorem Fits.down {n : Nat} {f : Forest} {p : Parts} (h : Fits n p) (v : Nat) : Fits n (Vw f p v) := by
 unfold Vw
 split
 ·exact h
 ·exact ⟨(keepStep_len _ _ _).trans h.n1, (linksStep_len _ _ _ _).trans h.n2, set_within h.s1 _ _ _, set_within h.s2 _ _ _⟩
def upK (f : Forest) (p : Parts) (k : Nat) : Parts := (f.order.reverse.take k).foldl (fun p v => upStep f p v.toNat) p
def downK (f : Forest) (p : Parts) (k : Nat) : Parts := (f.order.take k).foldl (fun p v => Vw f p v.toNat) p
def upP (f : Forest) (p : Parts) : Parts := f.order.reverse.foldl (fun p v => upStep f p v.toNat) p
def downP (f : Forest) (p : Parts) : Parts := f.order.foldl (fun p v => Vw f p v.toNat) p
theorem upK_succ (f : Forest) (p : Parts) {k : Nat} (h : k < f.order.length) : upK f p (k + 1) = upStep f (upK f p k) (f.order[f.order.length - 1 - k]?.getD 0).toNat := by
 unfold upK
 rw [List.take_succ_eq_append_getElem (by simpa using h), List.foldl_append]
 simp only [List.foldl_cons, List.foldl_nil]
 rw [List.getElem_reverse, List.getElem?_eq_getElem (by omega)]
 rfl
theorem downK_succ (f : Forest) (p : Parts) {k : Nat} (h : k < f.order.length) : downK f p (k + 1) = Vw f (downK f p k) (f.order.getD k 0).toNat := by
 unfold downK
 rw [List.take_succ_eq_append_getElem h, List.foldl_append, Zf h]
 rfl
theorem upK_all (f : Forest) (p : Parts) : upK f p f.order.length = upP f p := by
 unfold upK upP
 rw [List.take_of_length_le (by simp)]
theorem downK_all (f : Forest) (p : Parts) : downK f p f.order.length = downP f p := by
 unfold downK downP
 rw [List.take_of_length_le (Nat.le_refl _)]
theorem Fits.foldl {n : Nat} {p : Parts} {st : Parts → Int → Parts} (hs : ∀ p v, Fits n p → Fits n (st p v)) : ∀ (l : List Int) (p : Parts), Fits n p → Fits n (l.foldl st p)
 | [], _, h => h
 | v :: l, p, h => Fits.foldl (p := p) hs l _ (hs p v h)
theorem Fits.upK {n : Nat} {f : Forest} {p : Parts} (h : Fits n p) (k : Nat) : Fits n (upK f p k) := Fits.foldl (p := p) (fun p v h => h.up _) _ _ h
theorem Fits.downK {n : Nat} {f : Forest} {p : Parts} (h : Fits n p) (k : Nat) : Fits n (downK f p k) := Fits.foldl (p := p) (fun p v h => h.down _) _ _ h
theorem Fits.upP {n : Nat} {f : Forest} {p : Parts} (h : Fits n p) : Fits n (upP f p) := Fits.foldl (p := p) (fun p v h => h.up _) _ _ h
theorem Fits.downP {n : Nat} {f : Forest} {p : Parts} (h : Fits n p) : Fits n (downP f p) := Fits.foldl (p := p) (fun p v h => h.down _) _ _ h
theorem PartsP.push {G H : Hp} {N L : Value} {ns ls : List (List Link)} (h : PartsP G H N L ns ls) (x : Blk) : PartsP (G.push x) (H.push x) N L ns ls := let ⟨Gm, h1, h2⟩ := h; ⟨Gm.push x, h1.push x, h2.push x⟩
theorem PartsP.boxed {G H : Hp} {N L : Value} {ns ls : List (List Link)} (h : PartsP G H N L ns ls) (cs cs' : List Value) : PartsP ((G.push (.own 0 cs)).put H.size (.own 0 cs')) ((H.push (.own 0 cs)).put H.size (.own 0 cs')) N L ns ls := by
 have hz := h.size
 exact (h.push (.own 0 cs)).box_put (by simp; omega) (by rw [hz]; exact Hp.push_new _ _) cs'
theorem Backward_ints (v : Value) (H : Hp) (A : Option Addr) (n c : Nat) (hv : v = .slice A n c) : ACalls Tryz.prog 136 #[v] H (fun r H' => r = .func (.func 146) #[] #[.pointer (some ⟨H.size, 0, none⟩)] ∧ H' = H.push (.own 0 [v])) := by
 subst hv
 refine Xv Tryz.func136 rfl rfl rfl (by simp) ?_
 refine Xe ?_
 refine Xu ?_
 refine Xz (am_box_sl rfl) ?_
 refine Xa (Vf rfl) ?_
 refine Xe ?_
 refine Xu ?_
 refine Xa (av_makeFunc) ?_
 refine Xa (U4 rfl) ?_
 refine X2 ?_
 exact ⟨_, Xx (Xs rfl), rfl, rfl⟩
theorem GoodF.order_in {f : Forest} (h : GoodF f) {v : Int} (hv : v ∈ f.order) : 0 ≤ v ∧ v < f.vars.length := by
 obtain ⟨i, hi, rfl⟩ := List.getElem_of_mem hv
 have hl := h.l1
 have := h.ok i (by omega)
 rw [OkF, h.order_at (by omega)] at this
 exact ⟨this.1, this.2.1⟩
set_option maxHeartbeats 1000000 in
theorem up_parts (f : Forest) (p : Parts) (cs ds : List Value) (H : Hp) (hp : kForest.rep H f cs) (hq : kParts.rep H p ds) (hg : GoodF f) (hfit : Fits f.vars.length p) (hn : f.vars.length ≤ 1000000) :
    ACalls Tryz.prog 111 #[.agg cs.toArray, .agg ds.toArray] H (fun r H' => ∃ G' N L, H.le G' ∧ r = .agg #[N, L] ∧ PartsP G' H' N L (upP f p).nodes (upP f p).links) := by
  have hq0 := hq
  obtain ⟨v0, v1, v2, v3, v4, rfl, hs0, hs1, hs2, hs3, hs4⟩ := hp
  obtain ⟨A0, c0, rfl⟩ := hs0.shape
  obtain ⟨A1, c1, rfl⟩ := hs1.shape
  obtain ⟨A2, c2, rfl⟩ := hs2.shape
  obtain ⟨A3, c3, rfl⟩ := hs3.shape
  obtain ⟨A4, c4, rfl⟩ := hs4.shape
  obtain ⟨u0, u1, rfl, hn0, hn1⟩ := hq
  obtain ⟨B0, d0, rfl⟩ := hn0.shape
  obtain ⟨B1, d1, rfl⟩ := hn1.shape
  have hgl := hg.l1
  have hgp := hg.l2
  refine Xv Tryz.func111 rfl rfl rfl (by simp) ?_
  refine Xe ?_
  refine Xu ?_
  refine Xz (Yw rfl) ?_
  refine Xz (Yw rfl) ?_
  refine Xz (Yz (l := [.slice none 0 0, .slice none 0 0]) inf29.zero rfl (by decide)) ?_
  refine Xe ?_
  refine Xu ?_
  refine Xa (Yl (cs := [.slice _ _ _, .slice _ _ _]) rfl Tryz.underlying29 rfl inf29.size X8) ?_
  refine Xw (Xy (Own_parts p _ _ (kParts.mono Zp hq0) (by have := hfit.n1; omega) (by have := hfit.n2; omega) hfit.s1 hfit.s2) rfl Tryz.func132 rfl rfl rfl ?_)
  rintro v5 H5 ⟨G5, N, L, hle5, rfl, hpp5⟩; obtain ⟨AN, cN, rfl⟩ := hpp5.slN.shape; obtain ⟨AL, cL, rfl⟩ := hpp5.slL.shape; have hz5 := hle5.1; simp only [Hp.push_size] at hz5; have hzz5 := hpp5.size
  refine Xz (Yz (l := [.slice none 0 0, .slice none 0 0]) inf29.zero rfl (by decide)) ?_
  refine Xw (Yf (vs := [.slice _ _ _, .slice _ _ _]) rfl rfl inf29.size Yd Yg rfl rfl ?_)
  refine Xe ?_
  refine Xe ?_
  obtain ⟨H6, hH6⟩ : ∃ H6, H6 = (H5.push (.own 0 [.slice none 0 0, .slice none 0 0])).put H5.size (.own 0 [.slice AN p.nodes.length cN, .slice AL p.links.length cL]) := ⟨_, rfl⟩
  obtain ⟨G6, hG6⟩ : ∃ G6, G6 = (G5.push (.own 0 [.slice none 0 0, .slice none 0 0])).put H5.size (.own 0 [.slice AN p.nodes.length cN, .slice AL p.links.length cL]) := ⟨_, rfl⟩
  have hpp6 : PartsP G6 H6 (.slice AN p.nodes.length cN) (.slice AL p.links.length cL) p.nodes p.links := by rw [hH6, hG6]; exact hpp5.boxed _ _
  have hle6 : ((((H.push (.own 0 [.slice A0 f.vars.length c0, .slice A1 f.order.length c1, .slice A2 f.parent.length c2, .slice A3 f.links.length c3, .slice A4 f.loops.length c4])).push (.own 0 [.slice B0 p.nodes.length d0, .slice B1 p.links.length d1])).push (.own 0 [.slice none 0 0, .slice none 0 0]))).le G6 := by
    rw [hG6]; exact Hp.le_put_new (Hp.le_push' hle5 _) (by simp; omega) _
  have k0 : G6.get H.size = .own 0 [.slice A0 f.vars.length c0, .slice A1 f.order.length c1, .slice A2 f.parent.length c2, .slice A3 f.links.length c3, .slice A4 f.loops.length c4] := Xr hle6 (by simp; omega) (by intro e; cases e) Yd
  have k2 : G6.get (H.size + 2) = .own 0 [.slice none 0 0, .slice none 0 0] := Xr hle6 (by simp) (by intro e; cases e) Yd
  have k5 : G6.get H5.size = .own 0 [.slice AN p.nodes.length cN, .slice AL p.links.length cL] := by rw [hG6]; exact Hp.put_same _ _ _
  have hz6 : G6.size = H5.size + 1 := by rw [hG6]; simp; omega
  have hzz6 := hpp6.size
  have hleH6 : H.le G6 := Hp.le_trans (Hp.le_push' (Hp.le_push' (H.le_push _) _) _) hle6
  have h0 := Xr hpp6.le (by omega) (by intro e; cases e) k0
  change ACode true _ _ _ _ _ ((H5.push (.own 0 [.slice none 0 0, .slice none 0 0])).put H5.size (.own 0 [.slice AN p.nodes.length cN, .slice AL p.links.length cL]))
  rw [← hH6]
  refine Xu ?_
  refine Xa (Xf (off := 1) rfl Tryz.underlying26 rfl inf23.size (by decide) rfl) ?_
  refine Xa (Xk rfl Tryz.underlying23 rfl Xp) ?_
  refine Xw (Xy (Backward_ints _ H6 A1 _ c1 rfl) rfl Tryz.func136 rfl rfl rfl ?_)
  rintro v7 H7 ⟨rfl, rfl⟩
  refine Ye ?_
  have hpp7 := hpp6.push (.own 0 [.slice A1 f.order.length c1])
  refine ac_rangeFunc (fun k H' => ∃ G', (G6.push (.own 0 [.slice A1 f.order.length c1])).le G' ∧ PartsP G' H' (.slice AN p.nodes.length cN) (.slice AL p.links.length cL) (upK f p k).nodes (upK f p k).links) rfl (Back_each (G := G6.push (.own 0 [.slice A1 f.order.length c1])) (b := H6.size) hpp7.le (by simp; omega) (by rw [hzz6]; exact Hp.push_new _ _) (hs1.mono ((hleH6.sees).push _)) (by omega)) (fun _ _ => .int _ _) (fun _ _ => .int _ _) rfl (⟨_, Hp.le_refl _, hpp7⟩) (fun k H' ⟨G', a, b⟩ => Hp.le_trans a b.le) ?_ ?_
  rintro k H8 hk ⟨G8, hle8, hpp8⟩
  have hix : f.order.length - 1 - k < f.order.length := by omega
  have hwm : f.order[f.order.length - 1 - k]?.getD 0 ∈ f.order := by rw [List.getElem?_eq_getElem hix]; exact List.getElem_mem hix
  obtain ⟨w, hw⟩ : ∃ w : Nat, f.order[f.order.length - 1 - k]?.getD 0 = (w : Int) := ⟨(f.order[f.order.length - 1 - k]?.getD 0).toNat, by have := hg.order_in hwm; omega⟩
  have hwn : w < f.vars.length := by have := hg.order_in hwm; omega
  have hsucc := upK_succ f p hk
  rw [hw, Int.toNat_natCast] at hsucc
  simp only [hw]
  have hfk := hfit.upK (f := f) k
  obtain ⟨b2, o2, rfl, hb2, hcell2⟩ := hs2.int_at (i := (w : Int)) (by omega) (by omega)
  rw [Int.toNat_natCast] at hcell2
  have hle8' : G6.le G8 := Hp.le_trans (G6.le_push _) hle8
  have hleH8 : H.le H8 := Hp.le_trans hleH6 (Hp.le_trans hle8' hpp8.le)
  have hcell2' := hleH8.cell1 hb2 hcell2
  have hz8 := hle8'.1
  have hg0 : H8.get H.size = _ := Xr (Hp.le_trans hle8' hpp8.le) (by omega) (by intro e; cases e) k0
  have kg5 : G8.get H5.size = _ := Xr hle8' (by omega) (by intro e; cases e) k5
  have hg5 : H8.get H5.size = _ := Xr hpp8.le (by omega) (by intro e; cases e) kg5
  have hzz8 := hpp8.size
  refine Xu ?_
  refine Xa (Xi rfl) ?_
  refine Ye ?_
  refine Xe ?_
  refine Xu ?_
  refine Xa (Xf (off := 2) rfl Tryz.underlying26 rfl inf23.size (by decide) rfl) ?_
  refine Xa (Xk rfl Tryz.underlying23 rfl Xp) ?_
  refine Xa (Xb rfl) ?_
  refine Xa (Xt rfl rfl Tryz.underlying23 inf3.size X6 X6) ?_
  refine Xa (Xk rfl Tryz.underlying3 rfl Xp) ?_
  refine Xa (Xi rfl) ?_
  refine Xe ?_
  refine Xu ?_
  refine Xa (Xb rfl) ?_
  refine Xa (Zw rfl rfl) ?_
  refine X5 rfl rfl ?_ ?_
  intro hc1
  have hpar : f.parent.getD w 0 ≠ -1 := of_decide_eq_true hc1
  obtain ⟨u, hu⟩ : ∃ u : Nat, f.parent.getD w 0 = (u : Int) := ⟨(f.parent.getD w 0).toNat, by have := hg.parent_ge hwn; omega⟩
  have hun : u < f.vars.length := by have := hg.parent_ge hwn; omega
  have hstep : upStep f (upK f p k) w = ⟨U2 (upK f p k).nodes u (Uv ((Zl (upK f p k).nodes (upK f p k).links w u).getD w []) false), Zl (upK f p k).nodes (upK f p k).links w u⟩ := by unfold upStep; rw [if_neg hpar, hu, Int.toNat_natCast]
  rw [hstep] at hsucc
  rw [hu]
  refine Xe ?_
  refine Xu ?_
  refine Xa (Yl (cs := [.slice _ _ _, .slice _ _ _]) rfl Tryz.underlying29 rfl inf29.size X8) ?_
  refine Xa (Xb rfl) ?_
  refine Xa (Xb rfl) ?_
  refine Xw (Xy (links_parts (upK f p k).nodes (upK f p k).links _ _ w u _ _ hpp8 (by rw [hfk.n1, hfk.n2]) (by rw [hfk.n2]; exact hwn) (by rw [hfk.n2]; exact hun) hfk.s1 hfk.s2) rfl Tryz.func133 rfl rfl rfl ?_)
  rintro v9 H9 ⟨G9, hle9, hpp9, rfl⟩; have kg59 := Xr hle9 (by omega) (by intro e; cases e) kg5; have hz9 := hle9.1; have hzz9 := hpp9.size; have hg59 := Xr hpp9.le (by omega) (by intro e; cases e) kg59
  have hll9 : (Zl (upK f p k).nodes (upK f p k).links w u).length = f.vars.length := by rw [linksStep_len, hfk.n2]
  obtain ⟨b9, c9, cs9, w9, e9, hb9, hgb9, hcell9, hcs9, hw9⟩ := hpp9.spotL (i := w) (by omega)
  injection e9 with e91 e92 e93
  subst e91
  obtain ⟨A9, c90, rfl⟩ := hw9.shape
  have gl9 := Ze (by omega : w < (Zl (upK f p k).nodes (upK f p k).links w u).length)
  have hs9 : (Zl (upK f p k).nodes (upK f p k).links w u)[w].length ≤ 1000000 := by rw [← gl9]; exact V2 (set_within hfk.s2 _ _ _) w
  refine Yy (by kernel_rfl) (Y4 (B := [0, 0, 0, 4, 0, 28, 60, 124, 255]) (π := [0, 1, 2, 3, 4, 5, 6, 7, 8]) (by kernel_rfl)) ?_
  refine Xd rfl rfl (Yl (cs := [.slice _ _ _, .slice _ _ _]) rfl Tryz.underlying29 rfl inf29.size X8) Xq ?_
  refine Xd rfl rfl (Xb rfl) Xq ?_
  refine Xd rfl rfl (Xf (off := 1) rfl Tryz.underlying29 rfl inf27.size (by decide) rfl) Xq ?_
  refine Xd rfl rfl (Xk rfl Tryz.underlying27 rfl Xp) Xq ?_
  refine Xd rfl rfl (Xb rfl) Xq ?_
  refine Xd rfl rfl (Xt rfl rfl Tryz.underlying27 inf83.size X6 X6) Xq ?_
  refine Xd rfl rfl (Xk rfl Tryz.underlying83 rfl Xp) Xq ?_
  refine Ym rfl rfl (Xy (Ends_links (Zl (upK f p k).nodes (upK f p k).links w u)[w] _ false _ hw9 hs9) rfl Tryz.func135 rfl rfl rfl ?_)
  rintro v10 H10 ⟨G10, hle10, hown10⟩; have hleC10 := Hp.le_trans hle10 hown10.le; obtain ⟨G10', hle10', hpp10⟩ := hpp9.after hleC10; have hzC10 := hleC10.1; obtain ⟨A10, c10, rfl⟩ := hown10.shape
  refine ⟨Yk, ?_⟩
  refine Ym rfl rfl (Xy (keep_parts (upK f p k).nodes (Zl (upK f p k).nodes (upK f p k).links w u) _ _ u _ _ _ _ hpp10 (by rw [hfk.n1]; exact hun) hown10.sl (by have := endsL_len (Zl (upK f p k).nodes (upK f p k).links w u)[w] false; omega) (endsL_sorted _ _) hfk.s1) rfl Tryz.func134 rfl rfl rfl ?_)
  rintro v11 H11 ⟨G11, hle11, hpp11, rfl⟩
  refine ⟨Yk, ?_⟩
  refine ⟨rfl, ?_⟩
  first
    | (rw [gl9] at hsucc
       rw [hsucc]
       exact ⟨G11, Hp.le_trans hle8 (Hp.le_trans hle9 (Hp.le_trans hle10' hle11)), hpp11⟩)
    | (rw [hsucc]
       exact ⟨G8, hle8, hpp8⟩)
  intro hc1
  have hpar : f.parent.getD w 0 = -1 := by simpa using of_decide_eq_false hc1
  have hstep : upStep f (upK f p k) w = upK f p k := by unfold upStep; rw [if_pos hpar]
  rw [hstep] at hsucc
  refine X9 ?_
  refine ⟨rfl, ?_⟩
  first
    | (rw [gl9] at hsucc
       rw [hsucc]
       exact ⟨G11, Hp.le_trans hle8 (Hp.le_trans hle9 (Hp.le_trans hle10' hle11)), hpp11⟩)
    | (rw [hsucc]
       exact ⟨G8, hle8, hpp8⟩)
  rintro H8 ⟨G8, hle8, hpp8⟩
  rw [upK_all] at hpp8
  have hle8' : G6.le G8 := Hp.le_trans (G6.le_push _) hle8
  have hz8 := hle8'.1
  have hzz8 := hpp8.size
  have kg2 : G8.get (H.size + 2) = _ := Xr hle8' (by omega) (by intro e; cases e) k2
  have hg2 : H8.get (H.size + 2) = _ := Xr hpp8.le (by omega) (by intro e; cases e) kg2
  have kg5 : G8.get H5.size = _ := Xr hle8' (by omega) (by intro e; cases e) k5
  have hg5 : H8.get H5.size = _ := Xr hpp8.le (by omega) (by intro e; cases e) kg5
  refine Xe ?_
  refine Xu ?_
  refine Xa (Yl (cs := [.slice _ _ _, .slice _ _ _]) rfl Tryz.underlying29 rfl inf29.size X8) ?_
  refine Xw (Yf (vs := [.slice _ _ _, .slice _ _ _]) rfl rfl inf29.size Yd Yg rfl rfl ?_)
  refine X2 ?_
  exact ⟨_, Xx (Yq rfl (Yo (cs := [.slice AN p.nodes.length cN, .slice AL p.links.length cL]) Tryz.underlying29 rfl inf29.size X8)), _, _, _, Hp.le_put_new (Hp.le_trans hleH6 hle8') (by omega) _, rfl, hpp8.box_put (by omega) kg2 _⟩
set_option maxHeartbeats 1000000 in
theorem down_parts (f : Forest) (p : Parts) (cs ds : List Value) (H : Hp) (hp : kForest.rep H f cs) (hq : kParts.rep H p ds) (hg : GoodF f) (hfit : Fits f.vars.length p) (hn : f.vars.length ≤ 1000000) :
    ACalls Tryz.prog 110 #[.agg cs.toArray, .agg ds.toArray] H (fun r H' => ∃ G' N L, H.le G' ∧ r = .agg #[N, L] ∧ PartsP G' H' N L (downP f p).nodes (downP f p).links) := by
  have hq0 := hq
  obtain ⟨v0, v1, v2, v3, v4, rfl, hs0, hs1, hs2, hs3, hs4⟩ := hp
  obtain ⟨A0, c0, rfl⟩ := hs0.shape
  obtain ⟨A1, c1, rfl⟩ := hs1.shape
  obtain ⟨A2, c2, rfl⟩ := hs2.shape
  obtain ⟨A3, c3, rfl⟩ := hs3.shape
  obtain ⟨A4, c4, rfl⟩ := hs4.shape
  obtain ⟨u0, u1, rfl, hn0, hn1⟩ := hq
  obtain ⟨B0, d0, rfl⟩ := hn0.shape
  obtain ⟨B1, d1, rfl⟩ := hn1.shape
  have hgl := hg.l1
  have hgp := hg.l2
  refine Xv Tryz.func110 rfl rfl rfl (by simp) ?_
  refine Xe ?_
  refine Xu ?_
  refine Xz (Yw rfl) ?_
  refine Xz (Yw rfl) ?_
  refine Xz (Yz (l := [.slice none 0 0, .slice none 0 0]) inf29.zero rfl (by decide)) ?_
  refine Xe ?_
  refine Xu ?_
  refine Xa (Yl (cs := [.slice _ _ _, .slice _ _ _]) rfl Tryz.underlying29 rfl inf29.size X8) ?_
  refine Xw (Xy (Own_parts p _ _ (kParts.mono Zp hq0) (by have := hfit.n1; omega) (by have := hfit.n2; omega) hfit.s1 hfit.s2) rfl Tryz.func132 rfl rfl rfl ?_)
  rintro v5 H5 ⟨G5, N, L, hle5, rfl, hpp5⟩; obtain ⟨AN, cN, rfl⟩ := hpp5.slN.shape; obtain ⟨AL, cL, rfl⟩ := hpp5.slL.shape; have hz5 := hle5.1; simp only [Hp.push_size] at hz5; have hzz5 := hpp5.size
  refine Xz (Yz (l := [.slice none 0 0, .slice none 0 0]) inf29.zero rfl (by decide)) ?_
  refine Xw (Yf (vs := [.slice _ _ _, .slice _ _ _]) rfl rfl inf29.size Yd Yg rfl rfl ?_)
  refine Xe ?_
  refine Xe ?_
  obtain ⟨H6, hH6⟩ : ∃ H6, H6 = (H5.push (.own 0 [.slice none 0 0, .slice none 0 0])).put H5.size (.own 0 [.slice AN p.nodes.length cN, .slice AL p.links.length cL]) := ⟨_, rfl⟩
  obtain ⟨G6, hG6⟩ : ∃ G6, G6 = (G5.push (.own 0 [.slice none 0 0, .slice none 0 0])).put H5.size (.own 0 [.slice AN p.nodes.length cN, .slice AL p.links.length cL]) := ⟨_, rfl⟩
  have hpp6 : PartsP G6 H6 (.slice AN p.nodes.length cN) (.slice AL p.links.length cL) p.nodes p.links := by rw [hH6, hG6]; exact hpp5.boxed _ _
  have hle6 : ((((H.push (.own 0 [.slice A0 f.vars.length c0, .slice A1 f.order.length c1, .slice A2 f.parent.length c2, .slice A3 f.links.length c3, .slice A4 f.loops.length c4])).push (.own 0 [.slice B0 p.nodes.length d0, .slice B1 p.links.length d1])).push (.own 0 [.slice none 0 0, .slice none 0 0]))).le G6 := by
    rw [hG6]; exact Hp.le_put_new (Hp.le_push' hle5 _) (by simp; omega) _
  have k0 : G6.get H.size = .own 0 [.slice A0 f.vars.length c0, .slice A1 f.order.length c1, .slice A2 f.parent.length c2, .slice A3 f.links.length c3, .slice A4 f.loops.length c4] := Xr hle6 (by simp; omega) (by intro e; cases e) Yd
  have k2 : G6.get (H.size + 2) = .own 0 [.slice none 0 0, .slice none 0 0] := Xr hle6 (by simp) (by intro e; cases e) Yd
  have k5 : G6.get H5.size = .own 0 [.slice AN p.nodes.length cN, .slice AL p.links.length cL] := by rw [hG6]; exact Hp.put_same _ _ _
  have hz6 : G6.size = H5.size + 1 := by rw [hG6]; simp; omega
  have hzz6 := hpp6.size
  have hleH6 : H.le G6 := Hp.le_trans (Hp.le_push' (Hp.le_push' (H.le_push _) _) _) hle6
  have h0 := Xr hpp6.le (by omega) (by intro e; cases e) k0
  change ACode true _ _ _ _ _ ((H5.push (.own 0 [.slice none 0 0, .slice none 0 0])).put H5.size (.own 0 [.slice AN p.nodes.length cN, .slice AL p.links.length cL]))
  rw [← hH6]
  refine Xu ?_
  refine Xa (Xf (off := 1) rfl Tryz.underlying26 rfl inf23.size (by decide) rfl) ?_
  refine Xa (Xk rfl Tryz.underlying23 rfl Xp) ?_
  refine Xa (Ys rfl Tryz.underlying23) ?_
  refine Xa (Xb rfl) ?_
  refine Ye ?_
  refine Y5 (fun n t H' => ∃ (k : Nat) (G' : Hp), k ≤ f.order.length ∧ n = f.order.length - k ∧ G6.le G' ∧ PartsP G' H' (.slice AN p.nodes.length cN) (.slice AL p.links.length cL) (downK f p k).nodes (downK f p k).links ∧ t 2 = .pointer (some ⟨H.size, 0, none⟩) ∧ t 4 = .pointer (some ⟨H.size + 2, 0, none⟩) ∧ t 5 = .pointer (some ⟨H5.size, 0, none⟩) ∧ t 12 = .slice A1 f.order.length c1 ∧ t 13 = .int .i64 f.order.length ∧ t 14 = .int .i64 k) (f.order.length) (⟨0, G6, by omega, rfl, Hp.le_refl _, hpp6, rfl, rfl, rfl, rfl, rfl, rfl⟩) ?_
  rintro n t H8 ⟨k, G8, hk, rfl, hle8', hpp8, e2, e4, e5, e12, e13, e14⟩
  have hfk := hfit.downK (f := f) k
  have hleH8 : H.le H8 := Hp.le_trans hleH6 (Hp.le_trans hle8' hpp8.le)
  have hz8 := hle8'.1
  have hg0 : H8.get H.size = _ := Xr (Hp.le_trans hle8' hpp8.le) (by omega) (by intro e; cases e) k0
  have kg5 : G8.get H5.size = _ := Xr hle8' (by omega) (by intro e; cases e) k5
  have hg5 : H8.get H5.size = _ := Xr hpp8.le (by omega) (by intro e; cases e) kg5
  have kg2 : G8.get (H.size + 2) = _ := Xr hle8' (by omega) (by intro e; cases e) k2
  have hg2 : H8.get (H.size + 2) = _ := Xr hpp8.le (by omega) (by intro e; cases e) kg2
  have hzz8 := hpp8.size
  refine Xe ?_
  refine Xu ?_
  refine Xa (Za Xm Xm) ?_
  refine Xe ?_
  refine X5 rfl rfl ?_ ?_
  intro hc1
  (try simp only [Yt] at hc1)
  refine X9 ?_
  refine Xe ?_
  refine Ye ?_
  refine Xe ?_
  refine Xu ?_
  have hk' : k < f.order.length := by omega
  have hwm : f.order.getD k 0 ∈ f.order := by rw [Zf hk']; exact List.getElem_mem hk'
  obtain ⟨b1, o1, rfl, hb1, hcell1⟩ := hs1.int_at (i := (k : Int)) (by omega) (by omega)
  rw [Int.toNat_natCast] at hcell1
  have hcell1' := hleH8.cell1 hb1 hcell1
  obtain ⟨w, hw⟩ : ∃ w : Nat, f.order.getD k 0 = (w : Int) := ⟨(f.order.getD k 0).toNat, by have := hg.order_in hwm; omega⟩
  have hwn : w < f.vars.length := by have := hg.order_in hwm; omega
  have hsucc := downK_succ f p hk'
  rw [hw, Int.toNat_natCast] at hsucc
  rw [hw] at hcell1'
  obtain ⟨b2, o2, rfl, hb2, hcell2⟩ := hs2.int_at (i := (w : Int)) (by omega) (by omega)
  rw [Int.toNat_natCast] at hcell2
  have hcell2' := hleH8.cell1 hb2 hcell2
  refine Xa (Xt Xm Xm Tryz.underlying23 inf3.size X6 X6) ?_
  refine Xa (Xk rfl Tryz.underlying3 rfl Xp) ?_
  refine Xa (Xi rfl) ?_
  refine Xe ?_
  refine Xu ?_
  refine Xa (Xf (off := 2) Xm Tryz.underlying26 Xm inf23.size (by decide) Xm) ?_
  refine Xa (Xk rfl Tryz.underlying23 rfl Xp) ?_
  refine Xa (Xb rfl) ?_
  refine Xa (Xt rfl rfl Tryz.underlying23 inf3.size X6 X6) ?_
  refine Xa (Xk rfl Tryz.underlying3 rfl Xp) ?_
  refine Xa (Xi rfl) ?_
  refine Xe ?_
  refine Xu ?_
  refine Xa (Xb rfl) ?_
  refine Xa (Zw rfl rfl) ?_
  refine X5 rfl rfl ?_ ?_
  intro hc2
  have hpar : f.parent.getD w 0 ≠ -1 := of_decide_eq_true hc2
  obtain ⟨u, hu⟩ : ∃ u : Nat, f.parent.getD w 0 = (u : Int) := ⟨(f.parent.getD w 0).toNat, by have := hg.parent_ge hwn; omega⟩
  have hun : u < f.vars.length := by have := hg.parent_ge hwn; omega
  have hstep : Vw f (downK f p k) w = ⟨U2 (downK f p k).nodes w (Uv ((Zl (downK f p k).nodes (downK f p k).links w u).getD w []) true), Zl (downK f p k).nodes (downK f p k).links w u⟩ := by unfold Vw; rw [if_neg hpar, hu, Int.toNat_natCast]
  rw [hstep] at hsucc
  rw [hu]
  refine Xe ?_
  refine Xu ?_
  refine Xa (Yl (cs := [.slice _ _ _, .slice _ _ _]) Xm Tryz.underlying29 Xm inf29.size X8) ?_
  refine Xa (Xb rfl) ?_
  refine Xa (Xb rfl) ?_
  refine Xw (Xy (links_parts (downK f p k).nodes (downK f p k).links _ _ w u _ _ hpp8 (by rw [hfk.n1, hfk.n2]) (by rw [hfk.n2]; exact hwn) (by rw [hfk.n2]; exact hun) hfk.s1 hfk.s2) rfl Tryz.func133 rfl rfl rfl ?_)
  rintro v9 H9 ⟨G9, hle9, hpp9, rfl⟩; have kg59 := Xr hle9 (by omega) (by intro e; cases e) kg5; have hz9 := hle9.1; have hzz9 := hpp9.size; have hg59 := Xr hpp9.le (by omega) (by intro e; cases e) kg59
  have hll9 : (Zl (downK f p k).nodes (downK f p k).links w u).length = f.vars.length := by rw [linksStep_len, hfk.n2]
  obtain ⟨b9, c9, cs9, w9, e9, hb9, hgb9, hcell9, hcs9, hw9⟩ := hpp9.spotL (i := w) (by omega)
  injection e9 with e91 e92 e93
  subst e91
  obtain ⟨A9, c90, rfl⟩ := hw9.shape
  have gl9 := Ze (by omega : w < (Zl (downK f p k).nodes (downK f p k).links w u).length)
  have hs9 : (Zl (downK f p k).nodes (downK f p k).links w u)[w].length ≤ 1000000 := by rw [← gl9]; exact V2 (set_within hfk.s2 _ _ _) w
  refine Yy (by kernel_rfl) (Y4 (B := [0, 0, 0, 4, 0, 28, 60, 124, 255]) (π := [0, 1, 2, 3, 4, 5, 6, 7, 8]) (by kernel_rfl)) ?_
  refine Xd rfl rfl (Yl (cs := [.slice _ _ _, .slice _ _ _]) Xm Tryz.underlying29 Xm inf29.size X8) Xq ?_
  refine Xd rfl rfl (Xb rfl) Xq ?_
  refine Xd rfl rfl (Xf (off := 1) Xm Tryz.underlying29 Xm inf27.size (by decide) Xm) Xq ?_
  refine Xd rfl rfl (Xk rfl Tryz.underlying27 rfl Xp) Xq ?_
  refine Xd rfl rfl (Xb rfl) Xq ?_
  refine Xd rfl rfl (Xt rfl rfl Tryz.underlying27 inf83.size X6 X6) Xq ?_
  refine Xd rfl rfl (Xk rfl Tryz.underlying83 rfl Xp) Xq ?_
  refine Ym rfl rfl (Xy (Ends_links (Zl (downK f p k).nodes (downK f p k).links w u)[w] _ true _ hw9 hs9) rfl Tryz.func135 rfl rfl rfl ?_)
  rintro v10 H10 ⟨G10, hle10, hown10⟩; have hleC10 := Hp.le_trans hle10 hown10.le; obtain ⟨G10', hle10', hpp10⟩ := hpp9.after hleC10; have hzC10 := hleC10.1; obtain ⟨A10, c10, rfl⟩ := hown10.shape
  refine ⟨Yk, ?_⟩
  refine Ym rfl rfl (Xy (keep_parts (downK f p k).nodes (Zl (downK f p k).nodes (downK f p k).links w u) _ _ w _ _ _ _ hpp10 (by rw [hfk.n1]; exact hwn) hown10.sl (by have := endsL_len (Zl (downK f p k).nodes (downK f p k).links w u)[w] true; omega) (endsL_sorted _ _) hfk.s1) rfl Tryz.func134 rfl rfl rfl ?_)
  rintro v11 H11 ⟨G11, hle11, hpp11, rfl⟩
  refine ⟨Yk, ?_⟩
  refine Xu ?_
  refine Xa (Yn Xm Xm Y0) ?_
  refine Xa (Xb rfl) ?_
  first
    | (rw [gl9] at hsucc
       refine ⟨f.order.length - (k + 1), by omega, k + 1, G11, by omega, rfl, Hp.le_trans hle8' (Hp.le_trans hle9 (Hp.le_trans hle10' hle11)), by rw [hsucc]; exact hpp11, e2, e4, e5, e12, e13, rfl⟩)
    | (refine ⟨f.order.length - (k + 1), by omega, k + 1, G8, by omega, rfl, hle8', by rw [hsucc]; exact hpp8, e2, e4, e5, e12, e13, rfl⟩)
  intro hc2
  have hpar : f.parent.getD w 0 = -1 := by simpa using of_decide_eq_false hc2
  have hstep : Vw f (downK f p k) w = downK f p k := by unfold Vw; rw [if_pos hpar]
  rw [hstep] at hsucc
  refine X9 ?_
  refine Xu ?_
  refine Xa (Yn Xm Xm Y0) ?_
  refine Xa (Xb rfl) ?_
  first
    | (rw [gl9] at hsucc
       refine ⟨f.order.length - (k + 1), by omega, k + 1, G11, by omega, rfl, Hp.le_trans hle8' (Hp.le_trans hle9 (Hp.le_trans hle10' hle11)), by rw [hsucc]; exact hpp11, e2, e4, e5, e12, e13, rfl⟩)
    | (refine ⟨f.order.length - (k + 1), by omega, k + 1, G8, by omega, rfl, hle8', by rw [hsucc]; exact hpp8, e2, e4, e5, e12, e13, rfl⟩)
  intro hc1
  (try simp only [Yt] at hc1)
  refine Yx ?_
  refine Xe ?_
  have hkn : k = f.order.length := by omega
  subst hkn
  rw [downK_all] at hpp8
  refine Xu ?_
  refine Xa (Yl (cs := [.slice _ _ _, .slice _ _ _]) Xm Tryz.underlying29 Xm inf29.size X8) ?_
  refine Xw (Yf (vs := [.slice _ _ _, .slice _ _ _]) Xm Xm inf29.size Yd Yg Xm Xm ?_)
  refine X2 ?_
  exact ⟨_, Xx (Yq Xm (Yo (cs := [.slice AN p.nodes.length cN, .slice AL p.links.length cL]) Tryz.underlying29 rfl inf29.size X8)), _, _, _, Hp.le_put_new (Hp.le_trans hleH6 hle8') (by omega) _, rfl, hpp8.box_put (by omega) kg2 _⟩
def V5 (f : Forest) (x : Parts) (v : Int) : Bool := decide (f.parent.getD v.toNat 0 = -1) && decide ((x.nodes.getD v.toNat []).length = 0)
def ofP (f : Forest) (p : Parts) : Parts := if f.order.any (V5 f (downP f (upP f p))) = true then ⟨List.replicate f.vars.length [], List.replicate f.vars.length []⟩ else downP f (upP f p)
theorem sl_empties {H : Hp} {b n : Nat} (hb : b < H.size) (hg : H.get b = .own 1 (List.replicate n [Value.slice none 0 0]).flatten) : Sl (V1 kLink) H (.slice (some ⟨b, 0, none⟩) n n) (List.replicate n []) := by
 refine .inr ⟨b, 0, n, by rw [List.length_replicate], hb, by rw [hg]; rfl, fun i x hi => ?_⟩
 have hl := (List.getElem?_eq_some_iff.1 hi).1
 rw [List.length_replicate] at hl
 rw [List.getElem?_replicate, if_pos hl] at hi
 injection hi with hi
 subst hi
 refine ⟨[.slice none 0 0], ⟨_, rfl, Sl.nil _ _⟩, fun j v hj => ?_⟩
 have hj0 : j = 0 := by have := (List.getElem?_eq_some_iff.1 hj).1; simp at this; exact this
 subst hj0
 simp at hj
 subst hj
 rw [Z7 hg, List.flatten_replicate_singleton, List.getElem?_replicate, if_pos (by simp [V1]; omega)]
theorem Fits.of {n : Nat} {f : Forest} {p : Parts} (h : Fits n p) (hn : f.vars.length = n) : Fits n (ofP f p) := by
 unfold ofP
 split
 ·exact ⟨by simp [hn], by simp [hn], fun l hl => by rw [List.eq_of_mem_replicate hl]; simp, fun l hl => by rw [List.eq_of_mem_replicate hl]; simp⟩
 ·exact h.upP.downP
set_option maxHeartbeats 1000000 in
theorem of_parts (f : Forest) (p : Parts) (cs ds : List Value) (H : Hp) (hp : kForest.rep H f cs) (hq : kParts.rep H p ds) (hg : GoodF f) (hfit : Fits f.vars.length p) (hn : f.vars.length ≤ 1000000) :
  ACalls Tryz.prog 81 #[.agg cs.toArray, .agg ds.toArray] H (fun r H' => ∃ es, r = .agg es.toArray ∧ kParts.rep H' (ofP f p) es ∧ H.le H') := by
 have hp0 := hp
 have hq0 := hq
 obtain ⟨v0, v1, v2, v3, v4, rfl, hs0, hs1, hs2, hs3, hs4⟩ := hp
 obtain ⟨A0, c0, rfl⟩ := hs0.shape
 obtain ⟨A1, c1, rfl⟩ := hs1.shape
 obtain ⟨A2, c2, rfl⟩ := hs2.shape
 obtain ⟨A3, c3, rfl⟩ := hs3.shape
 obtain ⟨A4, c4, rfl⟩ := hs4.shape
 obtain ⟨u0, u1, rfl, hn0, hn1⟩ := hq
 obtain ⟨B0, d0, rfl⟩ := hn0.shape
 obtain ⟨B1, d1, rfl⟩ := hn1.shape
 have hgl := hg.l1
 have hgp := hg.l2
 have hfx : Fits f.vars.length (downP f (upP f p)) := hfit.upP.downP
 obtain ⟨x, hx⟩ : ∃ x, x = downP f (upP f p) := ⟨_, rfl⟩
 rw [← hx] at hfx
 refine Xv Tryz.func81 rfl rfl rfl (by simp) ?_
 refine Xe ?_
 refine Xu ?_
 refine Xz (Yw rfl) ?_
 refine Xz (Yw rfl) ?_
 refine Xz (Yz (l := [.slice none 0 0, .slice none 0 0]) inf29.zero rfl (by decide)) ?_
 refine Xe ?_
 refine Yy (by kernel_rfl) (Y4 (B := [0, 0, 0, 6, 15, 0, 63]) (π := [0, 1, 2, 5, 3, 4, 6]) (by kernel_rfl)) ?_
 refine Xd rfl rfl (Yl (cs := [.slice _ _ _, .slice _ _ _, .slice _ _ _, .slice _ _ _, .slice _ _ _]) rfl Tryz.underlying26 rfl inf26.size X8) Xq ?_
 refine Xd rfl rfl (Yl (cs := [.slice _ _ _, .slice _ _ _, .slice _ _ _, .slice _ _ _, .slice _ _ _]) rfl Tryz.underlying26 rfl inf26.size X8) Xq ?_
 refine Xd rfl rfl (Yl (cs := [.slice _ _ _, .slice _ _ _]) rfl Tryz.underlying29 rfl inf29.size X8) Xq ?_
 refine Zb rfl rfl (Yz (l := [.slice none 0 0, .slice none 0 0]) inf29.zero rfl (by decide)) ?_
 refine Ym rfl rfl (Xy (up_parts f p _ _ _ (kForest.mono Zp hp0) (kParts.mono Zp hq0) hg hfit hn) rfl Tryz.func111 rfl rfl rfl ?_)
 rintro v5 H5 ⟨G5, N5, L5, hle5, rfl, hpp5⟩; have hleC5 := Hp.le_trans hle5 hpp5.le; have hzC5 := hleC5.1; simp only [Hp.push_size] at hzC5; obtain ⟨A5, c5, rfl⟩ := hpp5.slN.shape; obtain ⟨A6, c6, rfl⟩ := hpp5.slL.shape
 refine ⟨Yk, ?_⟩
 refine Ym rfl rfl (Xy (down_parts f (upP f p) _ [_, _] _ (kForest.mono Zp hp0) ⟨_, _, rfl, hpp5.slN, hpp5.slL⟩ hg hfit.upP hn) rfl Tryz.func110 rfl rfl rfl ?_)
 rintro v6 H6 ⟨G6, N6, L6, hle6, rfl, hpp6⟩; rw [← hx] at hpp6; have hleC6 := Hp.le_trans hle6 hpp6.le; have hzC6 := hleC6.1; obtain ⟨AN, cN, rfl⟩ := hpp6.slN.shape; obtain ⟨AL, cL, rfl⟩ := hpp6.slL.shape
 refine ⟨Yk, ?_⟩
 refine Ym rfl rfl (Yf (vs := [.slice _ _ _, .slice _ _ _]) rfl rfl inf29.size Yd Yg rfl rfl ?_)
 refine ⟨Yk, ?_⟩
 refine Xe ?_
 refine Xe ?_
 have h63 : H6.get (H.size + 3) = .own 0 [.slice none 0 0, .slice none 0 0] := Xr (Hp.le_trans hleC5 hleC6) (by simp) (by intro e; cases e) Yd
 obtain ⟨HS, hHS⟩ : ∃ HS, HS = H6.put (H.size + 3) (.own 0 [.slice AN x.nodes.length cN, .slice AL x.links.length cL]) := ⟨_, rfl⟩
 have hseS : H6.sees HS := by rw [hHS]; exact Hp.sees_box _ h63
 have hleA := Hp.le_put_new (b := H.size + 3) (Hp.le_trans (Hp.le_push _ _) (Hp.le_trans hleC5 hleC6)) (by simp) (.own 0 [.slice AN x.nodes.length cN, .slice AL x.links.length cL])
 rw [← hHS] at hleA
 have k0 : HS.get H.size = .own 0 [.slice A0 f.vars.length c0, .slice A1 f.order.length c1, .slice A2 f.parent.length c2, .slice A3 f.links.length c3, .slice A4 f.loops.length c4] := Xr hleA (by simp; omega) (by intro e; cases e) Yd
 have k2 : HS.get (H.size + 2) = .own 0 [.slice none 0 0, .slice none 0 0] := Xr hleA (by simp) (by intro e; cases e) Yd
 have k5 : HS.get (H.size + 3) = .own 0 [.slice AN x.nodes.length cN, .slice AL x.links.length cL] := by rw [hHS]; exact Hp.put_same _ _ _
 have hzS : HS.size = H6.size := by rw [hHS]; simp
 have hleHS : H.le HS := Hp.le_trans (Hp.le_push' (Hp.le_push' (H.le_push _) _) _) hleA
 have hsN : Sl (V1 kLink) HS (.slice AN x.nodes.length cN) x.nodes := hpp6.slN.mono hseS
 have hsL : Sl (V1 kLink) HS (.slice AL x.links.length cL) x.links := hpp6.slL.mono hseS
 change ACode true _ _ _ _ _ (H6.put (H.size + 3) (.own 0 [.slice AN x.nodes.length cN, .slice AL x.links.length cL]))
 rw [← hHS]
 refine Xu ?_
 refine Xa (Xf (off := 1) rfl Tryz.underlying26 rfl inf23.size (by decide) rfl) ?_
 refine Xa (Xk rfl Tryz.underlying23 rfl Xp) ?_
 refine Xa (Ys rfl Tryz.underlying23) ?_
 refine Xa (Xb rfl) ?_
 refine Ye ?_
 refine Y5 (fun n t H' => ∃ (k : Nat), k ≤ f.order.length ∧ n = f.order.length - k ∧ H' = HS ∧ (∀ (j : Nat) (h : j < f.order.length), j < k → V5 f x f.order[j] = false) ∧ t 2 = .pointer (some ⟨H.size, 0, none⟩) ∧ t 4 = .pointer (some ⟨H.size + 2, 0, none⟩) ∧ t 5 = .pointer (some ⟨H.size + 3, 0, none⟩) ∧ t 15 = .slice A1 f.order.length c1 ∧ t 16 = .int .i64 f.order.length ∧ t 17 = .int .i64 k) (f.order.length) (⟨0, by omega, rfl, rfl, fun j h h0 => by omega, rfl, rfl, rfl, rfl, rfl, rfl⟩) ?_
 rintro n t HS ⟨k, hk, rfl, rfl, hok, e2, e4, e5, e15, e16, e17⟩
 refine Xe ?_
 refine Xu ?_
 refine Xa (Za Xm Xm) ?_
 refine Xe ?_
 refine X5 rfl rfl ?_ ?_
 intro hc1
 (try simp only [Yt] at hc1)
 refine X9 ?_
 refine Xe ?_
 refine Ye ?_
 refine Xe ?_
 refine Xu ?_
 have hk' : k < f.order.length := by omega
 have hwm : f.order.getD k 0 ∈ f.order := by rw [Zf hk']; exact List.getElem_mem hk'
 obtain ⟨b1, o1, rfl, hb1, hcell1⟩ := hs1.int_at (i := (k : Int)) (by omega) (by omega)
 rw [Int.toNat_natCast] at hcell1
 have hcell1' := hleHS.cell1 hb1 hcell1
 obtain ⟨w, hw⟩ : ∃ w : Nat, f.order.getD k 0 = (w : Int) := ⟨(f.order.getD k 0).toNat, by have := hg.order_in hwm; omega⟩
 have hwn : w < f.vars.length := by have := hg.order_in hwm; omega
 rw [hw] at hcell1'
 obtain ⟨b2, o2, rfl, hb2, hcell2⟩ := hs2.int_at (i := (w : Int)) (by omega) (by omega)
 rw [Int.toNat_natCast] at hcell2
 have hcell2' := hleHS.cell1 hb2 hcell2
 have hwx : w < x.nodes.length := by rw [hfx.n1]; exact hwn
 obtain ⟨b3, o3, ks, eB, hb3, ⟨w0, rfl, hw0⟩, hcell3⟩ := hsN.elem_at hwx
 subst eB
 have hcell3' := hcell3.one
 obtain ⟨A9, c9, rfl⟩ := hw0.shape
 have hwk : f.order[k] = (w : Int) := by rw [← Zf hk']; exact hw
 refine Xa (Xt Xm Xm Tryz.underlying23 inf3.size X6 X6) ?_
 refine Xa (Xk rfl Tryz.underlying3 rfl Xp) ?_
 refine Xa (Xi rfl) ?_
 refine Xe ?_
 refine Xu ?_
 refine Xa (Xf (off := 2) Xm Tryz.underlying26 Xm inf23.size (by decide) Xm) ?_
 refine Xa (Xk rfl Tryz.underlying23 rfl Xp) ?_
 refine Xa (Xb rfl) ?_
 refine Xa (Xt rfl rfl Tryz.underlying23 inf3.size X6 X6) ?_
 refine Xa (Xk rfl Tryz.underlying3 rfl Xp) ?_
 refine Xa (Zx rfl rfl) ?_
 refine Xa (Xo rfl) ?_
 refine Ya rfl rfl rfl ?_ ?_
 intro hg2
 have hpar : f.parent.getD w 0 = -1 := of_decide_eq_true hg2
 refine Xj (Xh rfl rfl rfl hg2) (Xf (off := 0) Xm Tryz.underlying29 Xm inf27.size (by decide) Xm) ?_
 refine Xj (Xh rfl rfl rfl hg2) (Xk rfl Tryz.underlying27 rfl Xp) ?_
 refine Xj (Xh rfl rfl rfl hg2) (Xb rfl) ?_
 refine Xj (Xh rfl rfl rfl hg2) (Xt rfl rfl Tryz.underlying27 inf83.size X6 X6) ?_
 refine Xj (Xh rfl rfl rfl hg2) (Xk rfl Tryz.underlying83 rfl Xp) ?_
 refine Xj (Xh rfl rfl rfl hg2) (Ys rfl Tryz.underlying83) ?_
 refine Xj (Xh rfl rfl rfl hg2) (Zx rfl rfl) ?_
 refine Xa (Xl (Yv hg2) rfl) ?_
 refine X5 rfl rfl ?_ ?_
 intro hc3
 have hlen : x.nodes[w].length = 0 := by have := of_decide_eq_true hc3; omega
 have hany : f.order.any (V5 f x) = true := List.any_eq_true.2 ⟨_, List.getElem_mem hk', by rw [hwk]; unfold V5; rw [Int.toNat_natCast, Ze hwx, decide_eq_true hpar, decide_eq_true hlen]; rfl⟩
 refine Xe ?_
 refine Xu ?_
 refine Xa (Xf (off := 0) Xm Tryz.underlying26 Xm inf22.size (by decide) Xm) ?_
 refine Xa (Xk rfl Tryz.underlying22 rfl Xp) ?_
 refine Xa (Ys rfl Tryz.underlying22) ?_
 refine Xa (Xi rfl) ?_
 refine Xe ?_
 refine Yy (by kernel_rfl) (Y4 (B := [0, 1, 0, 4, 15, 31]) (π := [0, 1, 2, 3, 4, 5]) (by kernel_rfl)) ?_
 refine Xd rfl rfl (Xb rfl) Xq ?_
 refine Zb rfl rfl (am_makeSlice Tryz.underlying27 inf83 rfl (by decide) (by decide) rfl rfl (by omega) (by omega) (by omega)) ?_
 refine Xd rfl rfl (Xb rfl) Xq ?_
 refine Zb rfl rfl (am_makeSlice Tryz.underlying27 inf83 rfl (by decide) (by decide) rfl rfl (by omega) (by omega) (by omega)) ?_
 refine Xd rfl rfl (Y6 (pl := [(0, 1), (1, 1)]) (r := [.slice _ _ _, .slice _ _ _]) Tryz.underlying29 inf29.zero (by decide) rfl rfl) Xq ?_
 refine Ym rfl rfl (Yf (vs := [.slice _ _ _, .slice _ _ _]) Xm Xm inf29.size Yd Yg Xm Xm ?_)
 refine ⟨Yk, ?_⟩
 refine X2 ?_
 have hof : ofP f p = ⟨List.replicate f.vars.length [], List.replicate f.vars.length []⟩ := by unfold ofP; rw [← hx, if_pos hany]
 rw [hof]
 refine ⟨_, Xx (Yq Xm (Yo (cs := [_, _]) Tryz.underlying29 rfl inf29.size X8)), [_, _], rfl, ⟨_, _, rfl, sl_empties ?_ ?_, sl_empties ?_ ?_⟩, ?_⟩
 ·simp <;> omega
 ·rw [Hp.put_other _ _ (by omega), Hp.push_old _ _ (by simp)]; exact Hp.push_new _ _
 ·simp <;> omega
 ·rw [Hp.put_other _ _ (by simp; omega)]; exact Hp.push_new _ _
 ·exact Hp.le_put_new (Hp.le_push' (Hp.le_push' hleHS _) _) (by omega) _
 intro hc3
 have hlen : x.nodes[w].length ≠ 0 := by have := of_decide_eq_false hc3; omega
 refine X9 ?_
 refine Xu ?_
 refine Xa (Yn Xm Xm Y0) ?_
 refine Xa (Xb rfl) ?_
 refine ⟨f.order.length - (k + 1), by omega, k + 1, by omega, rfl, rfl, fun j h h0 => ?_, e2, e4, e5, e15, e16, rfl⟩
 rcases Nat.lt_or_ge j k with h1 | h1
 ·exact hok j h h1
 ·obtain rfl : j = k := by omega
  rw [hwk]; unfold V5; rw [Int.toNat_natCast, Ze hwx]
  first
   | (rw [decide_eq_false hpar]; rfl)
   | (rw [decide_eq_false hlen, Bool.and_false])
 intro hg2
 have hpar : f.parent.getD w 0 ≠ -1 := of_decide_eq_false hg2
 refine Xc (Xg rfl rfl rfl hg2 rfl) ?_
 refine Xc (Xg rfl rfl rfl hg2 rfl) ?_
 refine Xc (Xg rfl rfl rfl hg2 rfl) ?_
 refine Xc (Xg rfl rfl rfl hg2 rfl) ?_
 refine Xc (Xg rfl rfl rfl hg2 rfl) ?_
 refine Xc (Xg rfl rfl rfl hg2 rfl) ?_
 refine Xc (Xg rfl rfl rfl hg2 rfl) ?_
 refine Xa (Xl (Yv hg2) Xm) ?_
 refine Y2 rfl rfl ?_
 refine X9 ?_
 refine Xu ?_
 refine Xa (Yn Xm Xm Y0) ?_
 refine Xa (Xb rfl) ?_
 refine ⟨f.order.length - (k + 1), by omega, k + 1, by omega, rfl, rfl, fun j h h0 => ?_, e2, e4, e5, e15, e16, rfl⟩
 rcases Nat.lt_or_ge j k with h1 | h1
 ·exact hok j h h1
 ·obtain rfl : j = k := by omega
  rw [hwk]; unfold V5; rw [Int.toNat_natCast, Ze hwx]
  first
   | (rw [decide_eq_false hpar]; rfl)
   | (rw [decide_eq_false hlen, Bool.and_false])
 intro hc1
 (try simp only [Yt] at hc1)
 refine Yx ?_
 refine Xe ?_
 refine Xu ?_
 refine Xa (Yl (cs := [.slice _ _ _, .slice _ _ _]) Xm Tryz.underlying29 Xm inf29.size X8) ?_
 refine Xw (Yf (vs := [.slice _ _ _, .slice _ _ _]) Xm Xm inf29.size Yd Yg Xm Xm ?_)
 refine X2 ?_
 have hof : ofP f p = x := by
  unfold ofP
  rw [← hx, if_neg]
  intro h
  obtain ⟨v, hv, hr⟩ := List.any_eq_true.1 h
  obtain ⟨j, hj, rfl⟩ := List.getElem_of_mem hv
  rw [hok j hj (by omega)] at hr
  cases hr
 rw [hof]
 exact ⟨_, Xx (Yq Xm (Yo (cs := [_, _]) Tryz.underlying29 rfl inf29.size X8)), [_, _], rfl, ⟨_, _, rfl, hsN.mono (Hp.sees_box _ k2), hsL.mono (Hp.sees_box _ k2)⟩, Hp.le_put_new hleHS (by omega) _⟩
def nd (p : Parts) (v : Nat) : List Link := p.nodes.getD v []
def lk (p : Parts) (v : Nat) : List Link := p.links.getD v []
def V9 (l : List Link) : List Int := l.map (·.a)
def lasts (l : List Link) : List Int := l.map (·.b)
def par (f : Forest) (v : Nat) : Int := f.parent.getD v 0
theorem getD_set {ns : List (List Link)} {u w : Nat} {l : List Link} (hu : u < ns.length) : (ns.set u l).getD w [] = if w = u then l else ns.getD w [] := by
 rw [List.getD_eq_getElem?_getD, List.getElem?_set, List.getD_eq_getElem?_getD]
 by_cases h : u = w
 ·subst h; rw [if_pos rfl, if_pos hu, if_pos rfl]; rfl
 ·rw [if_neg h, if_neg (fun e => h e.symm)]
def left (p : Parts) (v u : Nat) : List Link := (lk p v).filter fun x => decide (x.a ∈ V9 (nd p u)) && decide (x.b ∈ V9 (nd p v))
def upC (f : Forest) (p : Parts) (v : Nat) : Parts :=
 if par f v = -1 then p else ⟨p.nodes.set (par f v).toNat ((nd p (par f v).toNat).filter fun x => decide (x.a ∈ V9 (left p v (par f v).toNat))), p.links.set v (left p v (par f v).toNat)⟩
def Vk (f : Forest) (p : Parts) (v : Nat) : Parts :=
 if par f v = -1 then p else ⟨p.nodes.set v ((nd p v).filter fun x => decide (x.a ∈ lasts (left p v (par f v).toNat))), p.links.set v (left p v (par f v).toNat)⟩
def NB (p : Parts) : Prop := ∀ v, ∀ x ∈ nd p v, x.a = x.b
theorem mem_firsts {l : List Link} {n : Int} : n ∈ Uv l false ↔ n ∈ V9 l := by rw [endsL_mem]; unfold V9; simp [List.mem_map]
theorem mem_lasts {l : List Link} {n : Int} : n ∈ Uv l true ↔ n ∈ lasts l := by rw [endsL_mem]; unfold lasts; simp [List.mem_map]
theorem withinL_left (p : Parts) (v u : Nat) : Zk (lk p v) (Uv (nd p u) false) (Uv (nd p v) false) = left p v u := by
 unfold Zk left
 exact List.filter_congr fun x _ => by simp only [mem_firsts]
theorem withinL_keep {p : Parts} (hb : NB p) (v : Nat) (l : List Int) : Zk (nd p v) l l = (nd p v).filter fun x => decide (x.a ∈ l) := by
 unfold Zk
 exact List.filter_congr fun x hx => by rw [← hb v x hx, Bool.and_self]
theorem linksStep_eq {p : Parts} {v u : Nat} : Zl p.nodes p.links v u = p.links.set v (left p v u) := by
 unfold Zl
 exact congrArg _ (withinL_left p v u)
theorem upStep_eq {f : Forest} {p : Parts} {v : Nat} (hb : NB p) (hv : v < p.links.length) : upStep f p v = upC f p v := by
 unfold upStep upC
 split
 ·rw [if_pos (by assumption)]
 ·rw [if_neg (by assumption), linksStep_eq, getD_set hv, if_pos rfl]
  unfold U2
  rw [show p.nodes.getD (f.parent.getD v 0).toNat [] = nd p (par f v).toNat from rfl, withinL_keep hb]
  exact congrArg (fun l => Parts.mk (p.nodes.set _ l) _) (List.filter_congr fun x _ => by simp only [mem_firsts]; rfl)
theorem downStep_eq {f : Forest} {p : Parts} {v : Nat} (hb : NB p) (hv : v < p.links.length) : Vw f p v = Vk f p v := by
 unfold Vw Vk
 split
 ·rw [if_pos (by assumption)]
 ·rw [if_neg (by assumption), linksStep_eq, getD_set hv, if_pos rfl]
  unfold U2
  rw [show p.nodes.getD v [] = nd p v from rfl, withinL_keep hb]
  exact congrArg (fun l => Parts.mk (p.nodes.set _ l) _) (List.filter_congr fun x _ => by simp only [mem_lasts]; rfl)
def Lens (n : Nat) (p : Parts) : Prop := p.nodes.length = n ∧ p.links.length = n
theorem Lens.up {n : Nat} {f : Forest} {p : Parts} (h : Lens n p) (v : Nat) : Lens n (upC f p v) := by
 unfold upC; split
 ·exact h
 ·exact ⟨by simp [h.1], by simp [h.2]⟩
theorem Lens.down {n : Nat} {f : Forest} {p : Parts} (h : Lens n p) (v : Nat) : Lens n (Vk f p v) := by
 unfold Vk; split
 ·exact h
 ·exact ⟨by simp [h.1], by simp [h.2]⟩
theorem nd_up {n : Nat} {f : Forest} {p : Parts} {v : Nat} (h : Lens n p) (hu : (par f v).toNat < n) (w : Nat) : nd (upC f p v) w = if par f v ≠ -1 ∧ w = (par f v).toNat then (nd p w).filter (fun x => decide (x.a ∈ V9 (left p v (par f v).toNat))) else nd p w := by
 unfold upC
 by_cases hp : par f v = -1
 ·rw [if_pos hp, if_neg (fun h => h.1 hp)]
 ·rw [if_neg hp]
  show (p.nodes.set _ _).getD w [] = _
  rw [getD_set (by rw [h.1]; exact hu)]
  by_cases hw : w = (par f v).toNat
  ·rw [if_pos hw, if_pos ⟨hp, hw⟩, hw]
  ·rw [if_neg hw, if_neg (fun h => hw h.2)]; rfl
theorem lk_up {n : Nat} {f : Forest} {p : Parts} {v : Nat} (h : Lens n p) (hv : v < n) (w : Nat) : lk (upC f p v) w = if par f v ≠ -1 ∧ w = v then left p v (par f v).toNat else lk p w := by
 unfold upC
 by_cases hp : par f v = -1
 ·rw [if_pos hp, if_neg (fun h => h.1 hp)]
 ·rw [if_neg hp]
  show (p.links.set _ _).getD w [] = _
  rw [getD_set (by rw [h.2]; exact hv)]
  by_cases hw : w = v
  ·rw [if_pos hw, if_pos ⟨hp, hw⟩]
  ·rw [if_neg hw, if_neg (fun h => hw h.2)]; rfl
theorem nd_down {n : Nat} {f : Forest} {p : Parts} {v : Nat} (h : Lens n p) (hv : v < n) (w : Nat) : nd (Vk f p v) w = if par f v ≠ -1 ∧ w = v then (nd p v).filter (fun x => decide (x.a ∈ lasts (left p v (par f v).toNat))) else nd p w := by
 unfold Vk
 by_cases hp : par f v = -1
 ·rw [if_pos hp, if_neg (fun h => h.1 hp)]
 ·rw [if_neg hp]
  show (p.nodes.set _ _).getD w [] = _
  rw [getD_set (by rw [h.1]; exact hv)]
  by_cases hw : w = v
  ·rw [if_pos hw, if_pos ⟨hp, hw⟩]
  ·rw [if_neg hw, if_neg (fun h => hw h.2)]; rfl
theorem lk_down {n : Nat} {f : Forest} {p : Parts} {v : Nat} (h : Lens n p) (hv : v < n) (w : Nat) : lk (Vk f p v) w = if par f v ≠ -1 ∧ w = v then left p v (par f v).toNat else lk p w := by
 unfold Vk
 by_cases hp : par f v = -1
 ·rw [if_pos hp, if_neg (fun h => h.1 hp)]
 ·rw [if_neg hp]
  show (p.links.set _ _).getD w [] = _
  rw [getD_set (by rw [h.2]; exact hv)]
  by_cases hw : w = v
  ·rw [if_pos hw, if_pos ⟨hp, hw⟩]
  ·rw [if_neg hw, if_neg (fun h => hw h.2)]; rfl
def Sub (q p : Parts) : Prop := ∀ v, (nd q v).Sublist (nd p v) ∧ (lk q v).Sublist (lk p v)
theorem Sub.refl (p : Parts) : Sub p p := fun _ => ⟨List.Sublist.refl _, List.Sublist.refl _⟩
theorem Sub.trans {p q r : Parts} (h : Sub r q) (k : Sub q p) : Sub r p := fun v => ⟨(h v).1.trans (k v).1, (h v).2.trans (k v).2⟩
theorem Sub.up {n : Nat} {f : Forest} {p : Parts} {v : Nat} (h : Lens n p) (hu : (par f v).toNat < n) (hv : v < n) : Sub (upC f p v) p := fun w => by
 rw [nd_up h hu, lk_up h hv]
 constructor
 ·split
  ·exact List.filter_sublist
  ·exact List.Sublist.refl _
 ·split
  ·rename_i hw; rw [hw.2]; exact List.filter_sublist
  ·exact List.Sublist.refl _
theorem Sub.down {n : Nat} {f : Forest} {p : Parts} {v : Nat} (h : Lens n p) (hv : v < n) : Sub (Vk f p v) p := fun w => by
 rw [nd_down h hv, lk_down h hv]
 constructor
 ·split
  ·rename_i hw; rw [hw.2]; exact List.filter_sublist
  ·exact List.Sublist.refl _
 ·split
  ·rename_i hw; rw [hw.2]; exact List.filter_sublist
  ·exact List.Sublist.refl _
theorem NB.sub {p q : Parts} (h : NB p) (k : Sub q p) : NB q := fun v x hx => h v x ((k v).1.subset hx)
theorem left_mem {p : Parts} {v u : Nat} {x : Link} : x ∈ left p v u ↔ x ∈ lk p v ∧ x.a ∈ V9 (nd p u) ∧ x.b ∈ V9 (nd p v) := by
 unfold left; rw [List.mem_filter, Bool.and_eq_true, decide_eq_true_eq, decide_eq_true_eq]
theorem GoodF.cut {f : Forest} (h : GoodF f) {d r : List Int} {w : Int} (e : f.order = d ++ w :: r) : (0 ≤ w ∧ w < f.vars.length) ∧ w ∉ d ∧ w ∉ r ∧ (par f w.toNat = -1 ∨ par f w.toNat ∈ d) := by
 have hl := h.l1
 have hlen : d.length < f.vars.length := by rw [← hl, e]; simp
 have h1 := h.ok d.length hlen
 have hw : f.order.getD d.length 0 = w := by rw [e]; simp [List.getD_eq_getElem?_getD]
 have ht : f.order.take d.length = d := by rw [e]; simp
 unfold OkF at h1
 rw [hw, ht] at h1
 refine ⟨⟨h1.1, h1.2.1⟩, h1.2.2.1, ?_, h1.2.2.2⟩
 have := h.nodup
 rw [e] at this
 have := (List.nodup_append.1 this).2.1
 exact (List.nodup_cons.1 this).1
def BS (p : Parts) (v : Nat) : Prop := ∀ x ∈ lk p v, x.b ∈ V9 (nd p v)
def UP (f : Forest) (p : Parts) (v : Nat) : Prop := ∀ y ∈ nd p (par f v).toNat, y.a ∈ V9 (lk p v)
structure Full (f : Forest) (p : Parts) (v : Nat) : Prop where
 ends : ∀ x ∈ lk p v, x.a ∈ V9 (nd p (par f v).toNat) ∧ x.b ∈ V9 (nd p v)
 up : UP f p v
 down : ∀ y ∈ nd p v, y.a ∈ lasts (lk p v)
structure Kid (f : Forest) (n w : Nat) : Prop where
 lt : w < n
 ge : -1 ≤ par f w
 up : (par f w).toNat < n
 ne : par f w ≠ w
theorem Kid.ne' {f : Forest} {n w : Nat} (h : Kid f n w) (hp : par f w ≠ -1) : w ≠ (par f w).toNat := fun e => h.ne (by have := h.ge; omega)
theorem GoodF.kid {f : Forest} (h : GoodF f) {d r : List Int} {w : Nat} (e : f.order = d ++ (w : Int) :: r) : Kid f f.vars.length w := by
 obtain ⟨⟨h1, h2⟩, h3, h4, h5⟩ := h.cut e
 have h6 := h.parent_ge (v := w) (by omega)
 have h7 : par f w ≠ w := fun e2 => by
  rw [Int.toNat_natCast] at h5
  rcases h5 with h5 | h5
  ·omega
  ·rw [e2] at h5; exact h3 h5
 exact ⟨by omega, h6.1, by have := h6.2; unfold par; omega, h7⟩
theorem up_step_inv {f : Forest} {n : Nat} {p : Parts} {w : Nat} {done : List Int} (hl : Lens n p) (hk : Kid f n w) (hwd : (w : Int) ∉ done) (hpd : par f w ∉ done) (h : ∀ v : Nat, (v : Int) ∈ done → par f v ≠ -1 → BS p v ∧ UP f p v) :
  ∀ v : Nat, (v : Int) ∈ done ++ [(w : Int)] → par f v ≠ -1 → BS (upC f p w) v ∧ UP f (upC f p w) v := by
 intro v hv hpv
 have hsub := Sub.up hl hk.up hk.lt
 rcases List.mem_append.1 hv with hv | hv
 ·obtain ⟨h1, h2⟩ := h v hv hpv
  have hne : v ≠ w := fun e => hwd (e ▸ hv)
  have hlk : lk (upC f p w) v = lk p v := by rw [lk_up hl hk.lt, if_neg (fun h => hne h.2)]
  have hnd : nd (upC f p w) v = nd p v := by
   rw [nd_up hl hk.up, if_neg]
   intro ⟨h3, h4⟩
   exact hpd (by rwa [show par f w = (v : Int) by have := hk.ge; omega])
  refine ⟨fun x hx => ?_, fun y hy => ?_⟩
  ·rw [hlk] at hx; rw [hnd]; exact h1 x hx
  ·rw [hlk]; exact h2 y ((hsub _).1.subset hy)
 ·obtain rfl : v = w := by have := List.mem_singleton.1 hv; omega
  have hlk : lk (upC f p v) v = left p v (par f v).toNat := by rw [lk_up hl hk.lt, if_pos ⟨hpv, rfl⟩]
  have hnd : nd (upC f p v) v = nd p v := by rw [nd_up hl hk.up, if_neg (fun h => hk.ne' hpv h.2)]
  refine ⟨fun x hx => ?_, fun y hy => ?_⟩
  ·rw [hlk] at hx; rw [hnd]; exact (left_mem.1 hx).2.2
  ·rw [hlk]
   unfold UP at *
   rw [nd_up hl hk.up, if_pos ⟨hpv, rfl⟩, List.mem_filter, decide_eq_true_eq] at hy
   exact hy.2
theorem down_step_inv {f : Forest} {n : Nat} {p : Parts} {w : Nat} {done : List Int} (hl : Lens n p) (hb : NB p) (hk : Kid f n w) (hwd : (w : Int) ∉ done) (hpd : ∀ v : Nat, (v : Int) ∈ done → par f v ≠ -1 → par f v ≠ w) (hge : ∀ v : Nat, (v : Int) ∈ done → -1 ≤ par f v)
  (h1 : ∀ v : Nat, (v : Int) ∈ done → par f v ≠ -1 → Full f p v) (h2 : ∀ v : Nat, v < n → (v : Int) ∉ done → par f v ≠ -1 → BS p v ∧ UP f p v) :
  (∀ v : Nat, (v : Int) ∈ done ++ [(w : Int)] → par f v ≠ -1 → Full f (Vk f p w) v) ∧ (∀ v : Nat, v < n → (v : Int) ∉ done ++ [(w : Int)] → par f v ≠ -1 → BS (Vk f p w) v ∧ UP f (Vk f p w) v) := by
 have hsub := Sub.down (f := f) hl hk.lt
 constructor
 ·intro v hv hpv
  rcases List.mem_append.1 hv with hv | hv
  ·obtain ⟨k1, k2, k3⟩ := h1 v hv hpv
   have hne : v ≠ w := fun e => hwd (e ▸ hv)
   have hlk : lk (Vk f p w) v = lk p v := by rw [lk_down hl hk.lt, if_neg (fun h => hne h.2)]
   have hnd : nd (Vk f p w) v = nd p v := by rw [nd_down hl hk.lt, if_neg (fun h => hne h.2)]
   refine ⟨fun x hx => ?_, fun y hy => ?_, fun y hy => ?_⟩
   ·rw [hlk] at hx
    rw [hnd]
    have hnu : nd (Vk f p w) (par f v).toNat = nd p (par f v).toNat := by
     rw [nd_down hl hk.lt, if_neg (fun h => hpd v hv hpv (by have := h.2; have := hge v hv; omega))]
    rw [hnu]; exact k1 x hx
   ·rw [hlk]; exact k2 y ((hsub _).1.subset hy)
   ·rw [hlk]; rw [hnd] at hy; exact k3 y hy
  ·obtain rfl : v = w := by have := List.mem_singleton.1 hv; omega
   obtain ⟨k1, k2⟩ := h2 v hk.lt hwd hpv
   have hlk : lk (Vk f p v) v = left p v (par f v).toNat := by rw [lk_down hl hk.lt, if_pos ⟨hpv, rfl⟩]
   have hnu : nd (Vk f p v) (par f v).toNat = nd p (par f v).toNat := by rw [nd_down hl hk.lt, if_neg (fun h => hk.ne' hpv h.2.symm)]
   have hnd : nd (Vk f p v) v = (nd p v).filter fun x => decide (x.a ∈ lasts (left p v (par f v).toNat)) := by rw [nd_down hl hk.lt, if_pos ⟨hpv, rfl⟩]
   refine ⟨fun x hx => ?_, fun y hy => ?_, fun y hy => ?_⟩
   ·rw [hlk] at hx
    obtain ⟨m1, m2, m3⟩ := left_mem.1 hx
    rw [hnu, hnd]
    refine ⟨m2, ?_⟩
    obtain ⟨z, hz, e⟩ := List.mem_map.1 m3
    exact List.mem_map.2 ⟨z, List.mem_filter.2 ⟨hz, by rw [decide_eq_true_eq, e]; exact List.mem_map.2 ⟨x, hx, rfl⟩⟩, e⟩
   ·rw [hnu] at hy
    rw [hlk]
    obtain ⟨x, hx, e⟩ := List.mem_map.1 (k2 y hy)
    exact List.mem_map.2 ⟨x, left_mem.2 ⟨hx, by rw [e]; exact List.mem_map.2 ⟨y, hy, rfl⟩, k1 x hx⟩, e⟩
   ·rw [hnd, List.mem_filter, decide_eq_true_eq] at hy
    rw [hlk]; exact hy.2
 ·intro v hv hvd hpv
  simp only [List.mem_append, List.mem_singleton, not_or] at hvd
  obtain ⟨k1, k2⟩ := h2 v hv hvd.1 hpv
  have hne : v ≠ w := fun e => hvd.2 (by rw [e])
  have hlk : lk (Vk f p w) v = lk p v := by rw [lk_down hl hk.lt, if_neg (fun h => hne h.2)]
  have hnd : nd (Vk f p w) v = nd p v := by rw [nd_down hl hk.lt, if_neg (fun h => hne h.2)]
  refine ⟨fun x hx => ?_, fun y hy => ?_⟩
  ·rw [hlk] at hx; rw [hnd]; exact k1 x hx
  ·rw [hlk]; exact k2 y ((hsub _).1.subset hy)
theorem up_all {f : Forest} (hg : GoodF f) : ∀ (rest done : List Int) (p : Parts), f.order.reverse = done ++ rest → Lens f.vars.length p → NB p → (∀ v : Nat, (v : Int) ∈ done → par f v ≠ -1 → BS p v ∧ UP f p v) →
  Lens f.vars.length (rest.foldl (fun p v => upC f p v.toNat) p) ∧ Sub (rest.foldl (fun p v => upC f p v.toNat) p) p ∧ (∀ v : Nat, v < f.vars.length → par f v ≠ -1 → BS (rest.foldl (fun p v => upC f p v.toNat) p) v ∧ UP f (rest.foldl (fun p v => upC f p v.toNat) p) v) ∧ rest.foldl (fun p v => upStep f p v.toNat) p = rest.foldl (fun p v => upC f p v.toNat) p
 | [], done, p, e, hl, hb, h => ⟨hl, Sub.refl p, fun v hv hp => h v (by have := hg.in_order hv; rw [← List.mem_reverse, e, List.append_nil] at this; exact this) hp, rfl⟩
 | w :: rest, done, p, e, hl, hb, h => by
  have e' : f.order = rest.reverse ++ w :: done.reverse := by
   have := congrArg List.reverse e
   rw [List.reverse_reverse, List.reverse_append, List.reverse_cons, List.append_assoc] at this
   exact this
  obtain ⟨⟨w1, w2⟩, w3, w4, w5⟩ := hg.cut e'
  obtain ⟨m, rfl⟩ : ∃ m : Nat, w = m := ⟨w.toNat, by omega⟩
  have hk := hg.kid e'
  have hnd := hg.nodup
  rw [e'] at hnd
  have hdis := (List.nodup_append.1 hnd).2.2
  rw [Int.toNat_natCast] at w5
  have hpd : par f m ∉ done := fun hm => by
   rcases w5 with h5 | h5
   ·rw [h5] at hm
    have : (-1 : Int) ∈ f.order := by rw [e']; simp [hm]
    have := (hg.order_in this).1
    omega
   ·exact hdis _ h5 _ (List.mem_cons_of_mem _ (List.mem_reverse.2 hm)) rfl
  have hs := up_step_inv hl hk (fun hm => w4 (List.mem_reverse.2 hm)) hpd h
  have hsub := Sub.up hl hk.up hk.lt
  obtain ⟨k1, k2, k3, k4⟩ := up_all hg rest (done ++ [(m : Int)]) (upC f p m) (by rw [e, List.append_assoc]; rfl) (hl.up m) (hb.sub hsub) hs
  simp only [List.foldl_cons, Int.toNat_natCast]
  refine ⟨k1, k2.trans hsub, k3, ?_⟩
  rw [upStep_eq hb (by rw [hl.2]; exact hk.lt)]
  exact k4
theorem down_all {f : Forest} (hg : GoodF f) : ∀ (rest done : List Int) (p : Parts), f.order = done ++ rest → Lens f.vars.length p → NB p → (∀ v : Nat, (v : Int) ∈ done → par f v ≠ -1 → Full f p v) → (∀ v : Nat, v < f.vars.length → (v : Int) ∉ done → par f v ≠ -1 → BS p v ∧ UP f p v) →
  Lens f.vars.length (rest.foldl (fun p v => Vk f p v.toNat) p) ∧ Sub (rest.foldl (fun p v => Vk f p v.toNat) p) p ∧ (∀ v : Nat, v < f.vars.length → par f v ≠ -1 → Full f (rest.foldl (fun p v => Vk f p v.toNat) p) v)
 | [], done, p, e, hl, hb, h, h2 => ⟨hl, Sub.refl p, fun v hv hp => h v (by have := hg.in_order hv; rw [e, List.append_nil] at this; exact this) hp⟩
 | w :: rest, done, p, e, hl, hb, h, h2 => by
  obtain ⟨⟨w1, w2⟩, w3, w4, w5⟩ := hg.cut e
  obtain ⟨m, rfl⟩ : ∃ m : Nat, w = m := ⟨w.toNat, by omega⟩
  have hk := hg.kid e
  have hpd : ∀ v : Nat, (v : Int) ∈ done → par f v ≠ -1 → par f v ≠ m := fun v hv hp hm => by
   obtain ⟨d1, d2, e2⟩ := List.append_of_mem hv
   have e3 : f.order = d1 ++ (v : Int) :: (d2 ++ (m : Int) :: rest) := by rw [e, e2]; simp
   obtain ⟨_, _, _, h5⟩ := hg.cut e3
   rw [Int.toNat_natCast] at h5
   rcases h5 with h5 | h5
   ·exact hp h5
   ·rw [hm] at h5; exact w3 (by rw [e2]; simp [h5])
  have hge : ∀ v : Nat, (v : Int) ∈ done → -1 ≤ par f v := fun v hv => (hg.parent_ge (by have := hg.order_in (v := v) (by rw [e]; simp [hv]); omega)).1
  obtain ⟨s1, s2⟩ := down_step_inv hl hb hk w3 hpd hge h h2
  have hsub := Sub.down (f := f) hl hk.lt
  obtain ⟨k1, k2, k3⟩ := down_all hg rest (done ++ [(m : Int)]) (Vk f p m) (by rw [e, List.append_assoc]; rfl) (hl.down m) (hb.sub hsub) s1 s2
  simp only [List.foldl_cons, Int.toNat_natCast]
  exact ⟨k1, k2.trans hsub, k3⟩
theorem down_fold {f : Forest} {n : Nat} : ∀ (rest : List Int) (p : Parts), (∀ v ∈ rest, v.toNat < n) → Lens n p → NB p → rest.foldl (fun p v => Vw f p v.toNat) p = rest.foldl (fun p v => Vk f p v.toNat) p
 | [], _, _, _, _ => rfl
 | w :: rest, p, hr, hl, hb => by
  have hw := hr w (by simp)
  simp only [List.foldl_cons]
  rw [downStep_eq hb (by rw [hl.2]; exact hw)]
  exact down_fold rest _ (fun v hv => hr v (by simp [hv])) (hl.down _) (hb.sub (Sub.down hl hw))
theorem lessL_trans {x y z : Link} (h : Vy x y = true) (k : Vy y z = true) : Vy x z = true := by
 simp only [Vy, Bool.or_eq_true, Bool.and_eq_true, decide_eq_true_eq] at *
 omega
theorem pairwise_near {α : Type} {R : α → α → Prop} (tr : ∀ x y z, R x y → R y z → R x z) {xs : List α} (h : ∀ (i : Nat) (hi : i < xs.length), 0 < i → R (xs[i - 1]'(by omega)) xs[i]) : xs.Pairwise R := by
 rw [List.pairwise_iff_getElem]
 intro i j hi hj hij
 obtain ⟨d, rfl⟩ : ∃ d, j = i + 1 + d := ⟨j - i - 1, by omega⟩
 clear hij
 induction d with
 | zero => exact h (i + 1) hj (by omega)
 | succ d ih => exact tr _ _ _ (ih (by omega)) (h (i + 1 + d + 1) hj (by omega))
theorem V6 {xs : List Link} : GoodL xs ↔ (∀ x ∈ xs, OkL x) ∧ xs.Pairwise fun x y => Vy x y = true := by
 constructor
 ·intro h
  refine ⟨fun x hx => ?_, pairwise_near (R := fun x y => Vy x y = true) (fun _ _ _ h1 h2 => lessL_trans h1 h2) fun i hi h0 => (h i hi).2 h0⟩
  obtain ⟨i, hi, rfl⟩ := List.getElem_of_mem hx
  exact (h i hi).1
 ·intro ⟨h1, h2⟩ i hi
  exact ⟨h1 _ (List.getElem_mem hi), fun h0 => (List.pairwise_iff_getElem.1 h2) (i - 1) i (by omega) hi (by omega)⟩
theorem GoodL.sub {xs ys : List Link} (h : GoodL xs) (hs : ys.Sublist xs) : GoodL ys := by
 rw [V6] at *
 exact ⟨fun x hx => h.1 x (hs.subset hx), h.2.sublist hs⟩
theorem GoodP.lens {f : Forest} {p : Parts} (h : GoodP f p) : Lens f.vars.length p := ⟨h.n1, h.n2⟩
theorem GoodP.nb {f : Forest} {p : Parts} (h : GoodP f p) : NB p := fun v x hx => by
 by_cases hv : v < f.vars.length
 ·exact (h.ok v hv).2.2.1 x hx
 ·unfold nd at hx
  rw [List.getD_eq_getElem?_getD, List.getElem?_eq_none (by have := h.n1; omega)] at hx
  simp at hx
theorem GoodP.sub {f : Forest} {p q : Parts} (h : GoodP f p) (hl : Lens f.vars.length q) (hs : Sub q p) : GoodP f q := by
 refine ⟨h.gf, hl.1, hl.2, fun v hv => ?_⟩
 obtain ⟨k1, k2, k3, k4⟩ := h.ok v hv
 obtain ⟨s1, s2⟩ := hs v
 unfold nd at s1
 unfold lk at s2
 refine ⟨k1.sub s1, k2.sub s2, fun x hx => k3 x (s1.subset hx), fun hp => ?_⟩
 have := k4 hp
 rw [this] at s2
 exact List.sublist_nil.1 s2
theorem reduced {f : Forest} {p : Parts} (h : GoodP f p) : Lens f.vars.length (upP f p) ∧ Sub (upP f p) p ∧ Lens f.vars.length (downP f (upP f p)) ∧ Sub (downP f (upP f p)) p ∧ ∀ v : Nat, v < f.vars.length → par f v ≠ -1 → Full f (downP f (upP f p)) v := by
 obtain ⟨k1, k2, k3, k4⟩ := up_all h.gf f.order.reverse [] p rfl h.lens h.nb (fun v hv => by simp at hv)
 have e1 : upP f p = f.order.reverse.foldl (fun p v => upC f p v.toNat) p := k4
 rw [← e1] at k1 k2 k3
 have hb := h.nb.sub k2
 obtain ⟨d1, d2, d3⟩ := down_all h.gf f.order [] (upP f p) rfl k1 hb (fun v hv => by simp at hv) (fun v hv _ hp => k3 v hv hp)
 have e2 : downP f (upP f p) = f.order.foldl (fun p v => Vk f p v.toNat) (upP f p) := down_fold _ _ (fun v hv => by have := h.gf.order_in hv; omega) k1 hb
 rw [← e2] at d1 d2 d3
 exact ⟨k1, k2, d1, d2.trans k2, d3⟩
theorem set_getD {ns : List (List Link)} {v : Nat} (hv : v < ns.length) : ns.set v (ns.getD v []) = ns := by
 rw [Ze hv]; exact List.set_getElem_self _
theorem Full.left {f : Forest} {p : Parts} {v : Nat} (h : Full f p v) : left p v (par f v).toNat = lk p v := by
 unfold Am.left
 rw [List.filter_eq_self]
 intro x hx
 obtain ⟨h1, h2⟩ := h.ends x hx
 rw [decide_eq_true h1, decide_eq_true h2]; rfl
theorem up_stays {f : Forest} {n : Nat} {p : Parts} {v : Nat} (hl : Lens n p) (hb : NB p) (hv : v < n) (hu : (par f v).toNat < n) (h : par f v ≠ -1 → Full f p v) : upStep f p v = p := by
 rw [upStep_eq hb (by rw [hl.2]; exact hv)]
 unfold upC
 split
 ·rfl
 ·rename_i hp
  have hF := h hp
  rw [hF.left, List.filter_eq_self.2 (fun y hy => by rw [decide_eq_true_eq]; exact hF.up y hy)]
  unfold nd lk
  rw [set_getD (by rw [hl.1]; exact hu), set_getD (by rw [hl.2]; exact hv)]
theorem down_stays {f : Forest} {n : Nat} {p : Parts} {v : Nat} (hl : Lens n p) (hb : NB p) (hv : v < n) (h : par f v ≠ -1 → Full f p v) : Vw f p v = p := by
 rw [downStep_eq hb (by rw [hl.2]; exact hv)]
 unfold Vk
 split
 ·rfl
 ·rename_i hp
  have hF := h hp
  rw [hF.left, List.filter_eq_self.2 (fun y hy => by rw [decide_eq_true_eq]; exact hF.down y hy)]
  unfold nd lk
  rw [set_getD (by rw [hl.1]; exact hv), set_getD (by rw [hl.2]; exact hv)]
theorem foldl_self {α β : Type} {g : α → β → α} {a : α} : ∀ (l : List β), (∀ b ∈ l, g a b = a) → l.foldl g a = a
 | [], _ => rfl
 | b :: l, h => by rw [List.foldl_cons, h b (by simp)]; exact foldl_self l fun c hc => h c (by simp [hc])
theorem all_stays {f : Forest} {p : Parts} (hg : GoodF f) (hl : Lens f.vars.length p) (hb : NB p) (h : ∀ v : Nat, v < f.vars.length → par f v ≠ -1 → Full f p v) : upP f p = p ∧ downP f p = p := by
 have hv : ∀ v ∈ f.order, v.toNat < f.vars.length := fun v hv => by have := hg.order_in hv; omega
 refine ⟨foldl_self _ fun v hm => ?_, foldl_self _ fun v hm => ?_⟩
 ·rw [List.mem_reverse] at hm
  have := hv v hm
  exact up_stays hl hb this (by have := (hg.parent_ge this); unfold par; omega) (h _ this)
 ·exact down_stays hl hb (hv v hm) (h _ (hv v hm))
def empties (n : Nat) : Parts := ⟨List.replicate n [], List.replicate n []⟩
theorem nd_empties (n v : Nat) : nd (empties n) v = [] := by
 unfold nd empties
 rw [List.getD_eq_getElem?_getD, List.getElem?_replicate]
 split <;> rfl
theorem lk_empties (n v : Nat) : lk (empties n) v = [] := nd_empties n v
theorem lens_empties (n : Nat) : Lens n (empties n) := ⟨by simp [empties], by simp [empties]⟩
theorem sub_empties (n : Nat) (p : Parts) : Sub (empties n) p := fun v => by rw [nd_empties, lk_empties]; exact ⟨List.nil_sublist _, List.nil_sublist _⟩
theorem full_empties (f : Forest) (n v : Nat) : Full f (empties n) v :=
 ⟨fun x hx => by rw [lk_empties] at hx; simp at hx, fun y hy => by rw [nd_empties] at hy; simp at hy, fun y hy => by rw [nd_empties] at hy; simp at hy⟩
theorem ofP_all {f : Forest} {p : Parts} (h : GoodP f p) : Lens f.vars.length (ofP f p) ∧ Sub (ofP f p) p ∧ (∀ v : Nat, v < f.vars.length → par f v ≠ -1 → Full f (ofP f p) v) ∧ (f.order.any (V5 f (ofP f p)) = true → ofP f p = empties f.vars.length) := by
 obtain ⟨k1, k2, d1, d2, d3⟩ := reduced h
 unfold ofP
 split
 ·exact ⟨lens_empties _, sub_empties _ _, fun v _ _ => full_empties f _ v, fun _ => rfl⟩
 ·rename_i hr
  exact ⟨d1, d2, d3, fun h => absurd h hr⟩
theorem ofP_good {f : Forest} {p : Parts} (h : GoodP f p) : GoodP f (ofP f p) := h.sub (ofP_all h).1 (ofP_all h).2.1
theorem ofP_fix {f : Forest} {p : Parts} (hg : GoodF f) (hl : Lens f.vars.length p) (hb : NB p) (h : ∀ v : Nat, v < f.vars.length → par f v ≠ -1 → Full f p v) (hr : f.order.any (V5 f p) = true → p = empties f.vars.length) : ofP f p = p := by
 obtain ⟨e1, e2⟩ := all_stays hg hl hb h
 unfold ofP
 rw [e1, e2]
 split
 ·rename_i h; exact (hr h).symm
 ·rfl
theorem OwnP.lists_put {G H : Hp} {v : Value} {xs : List (List Link)} (h : OwnP (V1 kLink) G H v xs) {b1 : Nat} {cs : List Value} (hb : G.get b1 = .own 1 cs) (x : Blk) : OwnP (V1 kLink) (G.put b1 x) (H.put b1 x) v xs := by
 rcases h with ⟨rfl, rfl, rfl⟩ | ⟨b, ds, c, rfl, h1, hd, rfl, hc, he⟩
 ·exact .inl ⟨rfl, rfl, rfl⟩
 ·have hne : b ≠ b1 := fun e => by rw [e, hb] at hd; cases hd
  exact .inr ⟨b, ds, c, rfl, h1, by rw [Hp.put_other _ _ hne]; exact hd, (Hp.put_comm _ hne _ _), hc, he.lists_put hb x⟩
theorem own_lit {α : Type} (k : Kd α) {H : Hp} {b c : Nat} {cs : List Value} (hb : b < H.size) (hg : H.get b = .own k.sz cs) : OwnP k (H.put b .dead) H (.slice (some ⟨b, 0, none⟩) 0 c) [] :=
 .inr ⟨b, cs, c, rfl, hb, Hp.put_same _ _ _, by rw [Hp.put_put, Hp.put_self _ hg], .inr (Nat.zero_le _), Els.nil _ _ _⟩
structure RowT where
 nodes : List Int
 cost : Int
 n : Int
def kRow : Kd RowT where
 sz := 3
 pos := by decide
 rep H r cs := ∃ v, cs = [v, .int .i64 r.cost, .int .u64 r.n] ∧ Sl (Y1 .i64) H v r.nodes
 len h := by obtain ⟨_, rfl, _⟩ := h; rfl
 mono he h := by obtain ⟨v, rfl, h0⟩ := h; exact ⟨v, rfl, h0.mono he⟩
 one h u hu := by
  obtain ⟨v, rfl, h0⟩ := h
  obtain ⟨_, _, rfl⟩ := h0.shape
  simp at hu
  rcases hu with rfl | rfl | rfl <;> rfl
def Zy : Link := ⟨0, 0, 0, 0⟩
def Vv (f : Forest) (p : Parts) (v : Nat) (r : RowT) (x : Link) : Int := Ua (lk p v) (r.nodes.getD (atI f.order (par f v)).toNat 0) x.a
def Z5 (f : Forest) (p : Parts) (v : Nat) (r : RowT) (x : Link) : Option RowT :=
 if 0 ≤ par f v then
  if 0 ≤ Vv f p v r x then some ⟨r.nodes ++ [x.a], r.cost + (x.cost + ((lk p v).getD (Vv f p v r x).toNat Zy).cost), Zi r.n (Zi x.n ((lk p v).getD (Vv f p v r x).toNat Zy).n)⟩ else none
 else some ⟨r.nodes ++ [x.a], r.cost + x.cost, Zi r.n x.n⟩
def Vj (f : Forest) (i : Nat) : Nat := (f.order.getD i 0).toNat
def Zu (f : Forest) (p : Parts) : Nat → List RowT
 | 0 => [⟨[], 0, 1⟩]
 | i + 1 => (Zu f p i).flatMap fun r => (nd p (Vj f i)).filterMap (Z5 f p (Vj f i) r)
def Ux (f : Forest) (p : Parts) : List RowT := Zu f p f.order.length
structure Tiny (f : Forest) (p : Parts) : Prop where
 vars : f.vars.length ≤ 5
 nodes : ∀ v, (nd p v).length ≤ 4
 costN : ∀ v, ∀ x ∈ nd p v, 0 ≤ x.cost ∧ x.cost ≤ 1000000000 ∧ 0 ≤ x.n ∧ x.n ≤ 4611686018427387904
 costL : ∀ v, ∀ x ∈ lk p v, 0 ≤ x.cost ∧ x.cost ≤ 1000000000 ∧ 0 ≤ x.n ∧ x.n ≤ 4611686018427387904
structure RowOk (i : Nat) (r : RowT) : Prop where
 len : r.nodes.length = i
 c0 : 0 ≤ r.cost
 c1 : r.cost ≤ 2000000000 * i
 n0 : 0 ≤ r.n
 n1 : r.n ≤ 4611686018427387904
theorem Uk {a b : Int} (ha : 0 ≤ a) (hb : 0 ≤ b) : 0 ≤ Zi a b ∧ Zi a b ≤ 4611686018427387904 := by
 have h : 0 ≤ min a Zh * min b Zh := Int.mul_nonneg (by unfold Zh; omega) (by unfold Zh; omega)
 unfold Zi Zh at *
 omega
theorem getD_mem_or {xs : List Link} {i : Nat} : xs.getD i Zy ∈ xs ∨ xs.getD i Zy = Zy := by
 by_cases h : i < xs.length
 ·left; rw [List.getD_eq_getElem?_getD, List.getElem?_eq_getElem h]; exact List.getElem_mem h
 ·right; rw [List.getD_eq_getElem?_getD, List.getElem?_eq_none (by omega)]; rfl
theorem rowOne_ok {f : Forest} {p : Parts} (ht : Tiny f p) {i v : Nat} {r r' : RowT} {x : Link} (hr : RowOk i r) (hx : x ∈ nd p v) (h : Z5 f p v r x = some r') : RowOk (i + 1) r' := by
 obtain ⟨h1, h2, h3, h4, h5⟩ := hr
 obtain ⟨a1, a2, a3, a4⟩ := ht.costN v x hx
 unfold Z5 at h
 split at h
 ·split at h
  ·injection h with h
   subst h
   have hl : 0 ≤ ((lk p v).getD (Vv f p v r x).toNat Zy).cost ∧ ((lk p v).getD (Vv f p v r x).toNat Zy).cost ≤ 1000000000 ∧ 0 ≤ ((lk p v).getD (Vv f p v r x).toNat Zy).n := by
    rcases getD_mem_or (xs := lk p v) (i := (Vv f p v r x).toNat) with h | h
    ·obtain ⟨b1, b2, b3, b4⟩ := ht.costL v _ h; exact ⟨b1, b2, b3⟩
    ·rw [h]; decide
   have t1 := Uk a3 hl.2.2
   have t2 := Uk h4 t1.1
   exact ⟨by simp [h1], by show 0 ≤ _ + _; omega, by show _ + _ ≤ _; omega, t2.1, t2.2⟩
  ·cases h
 ·injection h with h
  subst h
  have t2 := Uk h4 a3
  exact ⟨by simp [h1], by show 0 ≤ _ + _; omega, by show _ + _ ≤ _; omega, t2.1, t2.2⟩
theorem rowsK_ok {f : Forest} {p : Parts} (ht : Tiny f p) : ∀ i, ∀ r ∈ Zu f p i, RowOk i r
 | 0, r, h => by
  simp [Zu] at h
  subst h
  exact ⟨rfl, by decide, by decide, by decide, by decide⟩
 | i + 1, r, h => by
  obtain ⟨r0, h0, h1⟩ := List.mem_flatMap.1 h
  obtain ⟨x, hx, h2⟩ := List.mem_filterMap.1 h1
  exact rowOne_ok ht (rowsK_ok ht i r0 h0) hx h2
theorem flat_len {α β : Type} {g : α → List β} {m : Nat} (h : ∀ a, (g a).length ≤ m) : ∀ (l : List α), (l.flatMap g).length ≤ m * l.length
 | [] => by simp
 | a :: l => by
  have := flat_len h l
  have := h a
  rw [List.flatMap_cons, List.length_append, List.length_cons, Nat.mul_succ]; omega
theorem rowsK_len {f : Forest} {p : Parts} (ht : Tiny f p) : ∀ i, (Zu f p i).length ≤ 4 ^ i
 | 0 => by simp [Zu]
 | i + 1 => by
  have h1 := rowsK_len ht i
  have h2 := flat_len (g := fun r => (nd p (Vj f i)).filterMap (Z5 f p (Vj f i) r)) (m := 4) (fun r => Nat.le_trans (List.length_filterMap_le _ _) (ht.nodes _)) (Zu f p i)
  show ((Zu f p i).flatMap _).length ≤ _
  rw [Nat.pow_succ]
  omega
theorem atI_take {xs : List Int} {v : Int} {i : Nat} (h : v ∈ xs.take i) : ∃ q : Nat, atI xs v = q ∧ q < i ∧ ∃ hq : q < xs.length, xs[q] = v := by
 obtain ⟨j, hj, e⟩ := List.getElem_of_mem h
 rw [List.length_take] at hj
 rw [List.getElem_take] at e
 cases hf : xs.findIdx? (fun x => decide (x = v)) with
 | none =>
  rw [List.findIdx?_eq_none_iff] at hf
  have := hf xs[j] (List.getElem_mem _)
  simp [e] at this
 | some q =>
  obtain ⟨hq, h1, h2⟩ := List.findIdx?_eq_some_iff_getElem.1 hf
  refine ⟨q, by unfold atI; rw [hf], ?_, hq, of_decide_eq_true h1⟩
  rcases Nat.lt_or_ge j q with h3 | h3
  ·have := h2 j h3; simp [e] at this
  ·omega
theorem filterMap_next {α β : Type} {g : α → Option β} {xs : List α} {j : Nat} (h : j < xs.length) : (xs.take (j + 1)).filterMap g = (xs.take j).filterMap g ++ (g xs[j]).toList := by
 rw [List.take_succ_eq_append_getElem h, List.filterMap_append]
 cases hg : g xs[j] <;> simp [hg]
theorem flatMap_next {α β : Type} {g : α → List β} {xs : List α} {j : Nat} (h : j < xs.length) : (xs.take (j + 1)).flatMap g = (xs.take j).flatMap g ++ g xs[j] := by
 rw [List.take_succ_eq_append_getElem h, List.flatMap_append]; simp
theorem Sl.row_at {H : Hp} {A : Option Addr} {n c : Nat} {xs : List RowT} (h : Sl kRow H (.slice A n c) xs) {i : Nat} (hi : i < xs.length) :
  ∃ b o w, A = some ⟨b, o, none⟩ ∧ b < H.size ∧ Cells H b (o + i * 3) [w, .int .i64 xs[i].cost, .int .u64 xs[i].n] ∧ Sl (Y1 .i64) H w xs[i].nodes := by
 obtain ⟨b, o, cs, e, hb, ⟨w, rfl, hw⟩, hc⟩ := h.elem_at hi
 exact ⟨b, o, w, e, hb, hc, hw⟩
theorem Sl.put_odd {α : Type} {k : Kd α} (hk : ∀ (H H' : Hp) x cs, k.rep H x cs → k.rep H' x cs) {G : Hp} {v : Value} {xs : List α} (h : Sl k G v xs) {b1 st : Nat} {cs : List Value} (hb : G.get b1 = .own st cs) (hne : st ≠ k.sz) (x : Blk) : Sl k (G.put b1 x) v xs := by
 rcases h with h | ⟨b, o, c, e, h1, h2, h3⟩
 ·exact .inl h
 ·have hne' : b ≠ b1 := fun e => by subst e; rw [hb] at h2; exact hne h2
  refine .inr ⟨b, o, c, e, h1, by rw [Hp.put_other _ _ hne']; exact h2, fun i y hy => ?_⟩
  obtain ⟨d, r, hc⟩ := h3 i y hy
  exact ⟨d, hk _ _ _ _ r, fun j u hj => by have := hc j u hj; rw [cell_put_old hne']; exact this⟩
theorem OwnP.stays {α : Type} {k : Kd α} {G H H1 : Hp} {v : Value} {xs : List α} (h : OwnP k G H v xs) (hle : H.le H1) : ∃ G1, G.le G1 ∧ OwnP k G1 H1 v xs ∧ ∀ {β : Type} (k' : Kd β) (r : Value) (ys : List β), (∀ (H H' : Hp) x cs, k'.rep H x cs → k'.rep H' x cs) → k.sz ≠ k'.sz → Sl k' H1 r ys → Sl k' G1 r ys := by
  rcases h with ⟨rfl, rfl, rfl⟩ | ⟨b, cs, c, rfl, hb, hd, rfl, hcap, he⟩
  · exact ⟨H1, hle, .inl ⟨rfl, rfl, rfl⟩, fun _ _ _ _ _ h => h⟩
  · have hg : H1.get b = .own k.sz cs := by
      rw [hle.2 b (by simpa using hb) (by rw [Hp.put_same]; intro e; cases e), Hp.put_same]
    have hle1 : G.le (H1.put b .dead) := ⟨by have := hle.1; simpa using this, fun i hi hn => by
      have hne : i ≠ b := fun e => by subst e; exact hn hd
      rw [Hp.put_other _ _ hne, hle.2 i (by simpa using hi) (by rw [Hp.put_other _ _ hne]; exact hn), Hp.put_other _ _ hne]⟩
    refine ⟨H1.put b .dead, hle1, .inr ⟨b, cs, c, rfl, by have := hle.1; simp at *; omega, Hp.put_same _ _ _, by rw [Hp.put_put]; exact (Hp.put_self _ hg).symm, hcap, he.mono hle1.sees⟩, fun k' r ys hk hne h => h.put_odd hk hg hne _⟩
theorem sl_lit1 {α : Type} {k : Kd α} {H : Hp} {b c st : Nat} {x : α} {u : Value} (hg : H.get b = .own st [u]) (hb : b < H.size) (h1 : k.rep H x [u]) (hst : k.sz = st) : Sl k H (.slice (some ⟨b, 0, none⟩) 1 c) [x] :=
 Els.sl (xs := [x]) (cs := [u]) (Els.cons (c := [u]) h1 (Els.nil _ _ [])) (Hp.sees.refl _) hb hg hst
theorem plain_int (k : IntKind) : ∀ (H H' : Hp) x cs, (Y1 k).rep H x cs → (Y1 k).rep H' x cs := fun _ _ _ _ h => h
theorem plain_link : ∀ (H H' : Hp) x cs, kLink.rep H x cs → kLink.rep H' x cs := fun _ _ _ _ h => h
theorem keyAt_spec {es : List (Value × Value)} {k : Value} {j : Nat} (h : keyAt es k = some j) : ∃ v, es[j]? = some (k, v) ∧ ∀ i, i < j → ∀ e, es[i]? = some e → e.1 ≠ k := by
 unfold keyAt at h
 obtain ⟨hj, h1, h2⟩ := List.findIdx?_eq_some_iff_getElem.1 h
 have h1' : es[j].1 = k := by simpa using h1
 refine ⟨es[j].2, by rw [List.getElem?_eq_getElem hj, ← h1'], fun i hi e he => ?_⟩
 obtain ⟨hi', e2⟩ := List.getElem?_eq_some_iff.1 he
 have := h2 i hi
 rw [e2] at this
 simpa using this
theorem keyAt_no {es : List (Value × Value)} {k : Value} (h : keyAt es k = none) : ∀ e ∈ es, e.1 ≠ k := fun e he => by
 unfold keyAt at h
 rw [List.findIdx?_eq_none_iff] at h
 simpa using h e he
theorem mapGet_some {es : List (Value × Value)} {k v : Value} {j : Nat} (h : es[j]? = some (k, v)) (hno : ∀ i, i < j → ∀ e, es[i]? = some e → e.1 ≠ k) : Zj es k = some v := by
 unfold Zj
 rw [keyAt_some h hno]
 simp [h]
theorem mapGet_none {es : List (Value × Value)} {k : Value} (h : ∀ e ∈ es, e.1 ≠ k) : Zj es k = none := by
 unfold Zj
 rw [keyAt_none h]; rfl
theorem mapGet_keys {es es' : List (Value × Value)} {k : Value} (h : ∀ (i : Nat) v, es[i]? = some (k, v) → es'[i]? = some (k, v)) (h' : ∀ (i : Nat) v, es'[i]? = some (k, v) → es[i]? = some (k, v)) : Zj es' k = Zj es k := by
 cases hk : keyAt es k with
 | none =>
  have hn := keyAt_no hk
  rw [mapGet_none hn, mapGet_none]
  intro e he e1
  obtain ⟨i, hi⟩ := List.getElem?_of_mem he
  exact hn _ (List.mem_of_getElem? (h' i e.2 (by rw [← e1]; exact hi))) rfl
 | some j =>
  obtain ⟨v, h1, h2⟩ := keyAt_spec hk
  rw [mapGet_some h1 h2, mapGet_some (h j v h1)]
  intro i hi e he e1
  exact h2 i hi _ (h' i e.2 (by rw [← e1]; exact he)) rfl
theorem mapGet_put {es : List (Value × Value)} {k v : Value} : Zj (V7 es k v) k = some v := by
 unfold V7
 cases hk : keyAt es k with
 | none =>
  simp only
  refine mapGet_some (j := es.length) (by simp) fun i hi e he => ?_
  rw [List.getElem?_append_left hi] at he
  exact keyAt_no hk e (List.mem_of_getElem? he)
 | some j =>
  obtain ⟨v0, h1, h2⟩ := keyAt_spec hk
  have hj := (List.getElem?_eq_some_iff.1 h1).1
  simp only
  refine mapGet_some (j := j) (by simp [hj]) fun i hi e he => ?_
  rw [List.getElem?_set_ne (by omega)] at he
  exact h2 i hi e he
theorem Vn {es : List (Value × Value)} {k k' v : Value} (hne : k' ≠ k) : Zj (V7 es k v) k' = Zj es k' := by
 unfold V7
 cases hk : keyAt es k with
 | none =>
  simp only
  refine mapGet_keys (fun i u h => ?_) (fun i u h => ?_)
  ·rw [List.getElem?_append_left (List.getElem?_eq_some_iff.1 h).1]; exact h
  ·by_cases hi : i < es.length
   ·rwa [List.getElem?_append_left hi] at h
   ·rw [List.getElem?_append_right (by omega)] at h
    have h0 : i - es.length = 0 := by have := (List.getElem?_eq_some_iff.1 h).1; simp at this; omega
    rw [h0] at h
    simp at h
    exact absurd h.1.symm hne
 | some j =>
  obtain ⟨v0, h1, h2⟩ := keyAt_spec hk
  simp only
  refine mapGet_keys (fun i u h => ?_) (fun i u h => ?_)
  ·by_cases hij : j = i
   ·subst hij; rw [h1] at h; injection h with h; injection h with h; exact absurd h.symm hne
   ·rw [List.getElem?_set_ne hij]; exact h
  ·by_cases hij : j = i
   ·subst hij
    rw [List.getElem?_set] at h
    simp at h
    exact absurd h.2.1.symm hne
   ·rwa [List.getElem?_set_ne hij] at h
theorem mapPut_keys {K : Value → Prop} {es : List (Value × Value)} {k v : Value} (h : ∀ e ∈ es, K e.1) (hk : K k) : ∀ e ∈ V7 es k v, K e.1 := by
 unfold V7
 intro e he
 split at he
 ·rcases List.mem_or_eq_of_mem_set he with he | rfl
  ·exact h e he
  ·exact hk
 ·rcases List.mem_append.1 he with he | he
  ·exact h e he
  ·rw [List.mem_singleton.1 he]; exact hk
structure TreeT where
 vars : List ByteArray
 parent : List Int
 links : List (List Link)
def nodeOf (ns : List Link) (b : Int) : Link := (ns.find? fun y => decide (y.a = b)).getD Zy
def Ug (ns : List Link) (l : Link) : Link := ⟨l.a, l.b, l.cost + (nodeOf ns l.b).cost, Zi l.n (nodeOf ns l.b).n⟩
def Zc (f : Forest) (x : Parts) (v : Nat) : List Link := if par f v = -1 then nd x v else (lk x v).map (Ug (nd x v))
def Zg (f : Forest) (x : Parts) : TreeT := ⟨f.order.map fun v => f.vars.getD v.toNat ⟨#[]⟩, f.order.map fun v => atI f.order (par f v.toNat), f.order.map fun v => Zc f x v.toNat⟩
def TreeT.row (T : TreeT) (i : Nat) (above : Int) : List Link := if T.parent.getD i 0 = -1 then T.links.getD i [] else (T.links.getD i []).filter fun l => decide (l.a = above)
def Zq (i above : Int) : Value := .agg #[.int .i64 i, .int .i64 above]
def spanV (fr to : Nat) : Value := .agg #[.int .i64 fr, .int .i64 to]
theorem spanV_rel (fr to : Nat) (φ : Inj) : VRel φ (spanV fr to) (spanV fr to) := VRel.agg_list (xs := [.int .i64 fr, .int .i64 to]) (ys := [.int .i64 fr, .int .i64 to]) (LRel.plain rfl)
def IsSpot (v : Value) : Prop := ∃ i a, v = Zq i a
theorem spotV_inj {i a i' a' : Int} (h : Zq i a = Zq i' a') : i = i' ∧ a = a' := by
 unfold Zq at h
 simp only [Value.agg.injEq] at h
 have h := congrArg Array.toList h
 simp at h
 exact h
structure Spots (T : TreeT) (n : Nat) (es : List (Value × Value)) : Prop where
 keys : ∀ e ∈ es, IsSpot e.1
 at_ : ∀ i, i < n → ∀ above : Int, (T.parent.getD i 0 = -1 → above = -1) → ∃ fr to : Nat, (Zj es (Zq i above)).getD (spanV 0 0) = spanV fr to ∧ fr ≤ to ∧ to ≤ (T.links.getD i []).length ∧ ((T.links.getD i []).take to).drop fr = T.row i above
 none : ∀ (i : Nat) above, n ≤ i → Zj es (Zq i above) = none
def TreeR (H : Hp) (v : Value) (T : TreeT) : Prop := ∃ b mb s0 s1 s2 es, v = .pointer (some ⟨b, 0, none⟩) ∧ b < H.size ∧ mb < H.size ∧ H.get b = .own 0 [s0, s1, s2, .map (some mb)] ∧ Sl kStr H s0 T.vars ∧ Sl (Y1 .i64) H s1 T.parent ∧ Sl (V1 kLink) H s2 T.links ∧ H.get mb = .map es ∧ Spots T T.links.length es
theorem TreeR.mono {H H' : Hp} (hle : H.le H') {v : Value} {T : TreeT} (h : TreeR H v T) : TreeR H' v T := by
 obtain ⟨b, mb, s0, s1, s2, es, rfl, h1, h2, h3, h4, h5, h6, h7, h8⟩ := h
 exact ⟨b, mb, s0, s1, s2, es, rfl, Nat.lt_of_lt_of_le h1 hle.1, Nat.lt_of_lt_of_le h2 hle.1, Xr hle h1 (by intro e; cases e) h3, h4.mono hle.sees, h5.mono hle.sees, h6.mono hle.sees, Xr hle h2 (by intro e; cases e) h7, h8⟩
theorem spot_eq (i a i' a' : Int) (w : World) : (Op.equal 133 (Zq i a) (Zq i' a')).run Tryz.prog w = .ok (decide (i = i') && decide (a = a')) w := by
 have h := run_struct_eq (P := Tryz.prog) (xs := [.int .i64 i, .int .i64 a]) (ys := [.int .i64 i', .int .i64 a']) Tryz.underlying133 (by kernel_rfl) (fun f hf => by
  simp at hf
  rcases hf with rfl | rfl
  ·exact ⟨by simp, by simp, .int Tryz.underlying3 (by decide)⟩
  ·exact ⟨by simp, by simp, .int Tryz.underlying3 (by decide)⟩) w
 refine h.trans ?_
 congr 1
 rw [Bool.eq_iff_iff]
 simp [allEq, scalEq]
theorem keyTy_spot : KeyTy Tryz.prog 133 IsSpot := keyTy_struct Tryz.underlying133
 (fun {φ v v'} ⟨i, a, e⟩ h => by
  subst e
  exact VRel.agg_scal (xs := [.int .i64 i, .int .i64 a]) h (by intro v hv; simp at hv; rcases hv with rfl | rfl <;> rfl))
 (fun w em {v} ⟨i, a, e⟩ => by
  subst e
  have c : ∀ b, (Instr.checkKey em 9999 3 (.int .i64 b)).run Tryz.prog w = .ok () w := fun b => by
   show (Instr.checkKey em (9998 + 1) _ _).run _ _ = _
   unfold Instr.checkKey
   simp [run_underlying Tryz.underlying3]
  show (Instr.checkKey em (9999 + 1) _ _).run _ _ = _
  unfold Instr.checkKey
  simp [Zq, run_underlying Tryz.underlying133]
  rw [run_part Tryz.underlying3 rfl (v := .int .i64 i) rfl]
  simp only [Result.andThen_ok, c]
  rw [run_part Tryz.underlying3 rfl (v := .int .i64 a) rfl]
  simp only [Result.andThen_ok, c])
 (fun w {v} ⟨i, a, e⟩ => by
  subst e
  simp [Instr.keyThatStays, Instr.sameBits, Zq])
 (fun w {x y} ⟨i, a, e⟩ ⟨i', a', e'⟩ => by
  subst e e'
  refine ⟨_, spot_eq i a i' a' w, ?_⟩
  rw [Bool.and_eq_true, decide_eq_true_eq, decide_eq_true_eq]
  exact ⟨fun ⟨h1, h2⟩ => by rw [h1, h2], fun h => by obtain ⟨h1, h2⟩ := spotV_inj h; exact ⟨h1.symm, h2.symm⟩⟩)
theorem in_tree {T : TreeT} {v : Value} {H : Hp} (ht : TreeR H v T) (i : Int) :
  ACalls Tryz.prog 139 #[v, .int .i64 i] H (fun r H' => r = .bool (decide (0 ≤ i) && decide (i < T.vars.length)) ∧ H' = H) := by
 obtain ⟨b, mb, s0, s1, s2, es, rfl, hb, hmb, hg, hs0, hs1, hs2, hm, hsp⟩ := ht
 obtain ⟨A0, c0, rfl⟩ := hs0.shape
 obtain ⟨A1, c1, rfl⟩ := hs1.shape
 obtain ⟨A2, c2, rfl⟩ := hs2.shape
 refine Xv Tryz.func139 rfl rfl rfl (by simp) ?_
 refine Xe ?_
 refine Xu ?_
 refine Xa (Xn rfl) ?_
 refine Xe ?_
 refine Xu ?_
 refine Xa (X0 rfl) ?_
 refine Xa (av_ptr_ne_nil rfl rfl Tryz.underlying37) ?_
 refine Xa (Xo rfl) ?_
 refine Ya rfl rfl rfl ?_ ?_
 intro hg1
 have hp1 := hg1; try simp only [Yt] at hp1
 refine Xj (Xh rfl rfl rfl hg1) (Xb rfl) ?_
 refine Xj (Xh rfl rfl rfl hg1) (av_ge rfl rfl) ?_
 refine Xa (Xl (Yv hg1) rfl) ?_
 refine Xa (Xo rfl) ?_
 refine Ya rfl rfl rfl ?_ ?_
 intro hg2
 have hp2 := hg2; try simp only [Yt] at hp2
 refine Xj (Xh rfl rfl rfl hg2) (Xb rfl) ?_
 refine Xj (Xh rfl rfl rfl hg2) (X0 rfl) ?_
 refine Xj (Xh rfl rfl rfl hg2) (Yi rfl) ?_
 refine Xj (Xh rfl rfl rfl hg2) (Xf (off := 0) rfl Tryz.underlying91 rfl inf22.size (by decide) rfl) ?_
 refine Xj (Xh rfl rfl rfl hg2) (Xk rfl Tryz.underlying22 rfl Xp) ?_
 refine Xj (Xh rfl rfl rfl hg2) (Ys rfl Tryz.underlying22) ?_
 refine Xj (Xh rfl rfl rfl hg2) (Za rfl rfl) ?_
 refine Xa (Xl (Yv hg2) rfl) ?_
 refine Xa (Xn rfl) ?_
 refine X2 ?_
 ·refine ⟨.bool (decide (0 ≤ i) && decide (i < T.vars.length)), Xx (Xs ?_), rfl, rfl⟩
  show Value.bool _ = _
  congr 1
  first | (simp_all; done) | (simp_all; omega)
 intro hg2
 have hp2 := hg2; try simp only [Yt] at hp2
 refine Xc (Xg rfl rfl rfl hg2 rfl) ?_
 refine Xc (Xg rfl rfl rfl hg2 rfl) ?_
 refine Xc (Xg rfl rfl rfl hg2 rfl) ?_
 refine Xc (Xg rfl rfl rfl hg2 rfl) ?_
 refine Xc (Xg rfl rfl rfl hg2 rfl) ?_
 refine Xc (Xg rfl rfl rfl hg2 rfl) ?_
 refine Xc (Xg rfl rfl rfl hg2 rfl) ?_
 refine Xa (Xl (Yv hg2) rfl) ?_
 refine Xa (Xn rfl) ?_
 refine X2 ?_
 ·refine ⟨.bool (decide (0 ≤ i) && decide (i < T.vars.length)), Xx (Xs ?_), rfl, rfl⟩
  show Value.bool _ = _
  congr 1
  first | (simp_all; done) | (simp_all; omega)
 intro hg1
 cases hg1
theorem Len_tree {T : TreeT} {v : Value} {H : Hp} (ht : TreeR H v T) :
  ACalls Tryz.prog 62 #[v] H (fun r H' => r = .int .i64 T.vars.length ∧ H' = H) := by
 obtain ⟨b, mb, s0, s1, s2, es, rfl, hb, hmb, hg, hs0, hs1, hs2, hm, hsp⟩ := ht
 obtain ⟨A0, c0, rfl⟩ := hs0.shape
 obtain ⟨A1, c1, rfl⟩ := hs1.shape
 obtain ⟨A2, c2, rfl⟩ := hs2.shape
 refine Xv Tryz.func62 rfl rfl rfl (by simp) ?_
 refine Xe ?_
 refine Xu ?_
 refine Xa (Xi rfl) ?_
 refine Xe ?_
 refine Xe ?_
 refine Xu ?_
 refine Xa (X0 rfl) ?_
 refine Xa (Un rfl t_spot rfl Tryz.underlying37) ?_
 refine X5 rfl rfl ?_ ?_
 intro hc1
 cases hc1
 intro hc1
 (try simp only [Yt] at hc1)
 refine X9 ?_
 refine Xe ?_
 refine Xu ?_
 refine Xa (X0 rfl) ?_
 refine Xa (Yi rfl) ?_
 refine Xa (Xf (off := 0) rfl Tryz.underlying91 rfl inf22.size (by decide) rfl) ?_
 refine Xa (Xk rfl Tryz.underlying22 rfl Xp) ?_
 refine Xa (Ys rfl Tryz.underlying22) ?_
 refine Xa (Xi rfl) ?_
 refine X2 ?_
 exact ⟨_, Xx (Xs rfl), rfl, rfl⟩
theorem Parent_tree {T : TreeT} {v : Value} {H : Hp} (ht : TreeR H v T) (hl : T.parent.length = T.vars.length) (i : Int) :
  ACalls Tryz.prog 121 #[v, .int .i64 i] H (fun r H' => r = .int .i64 (if 0 ≤ i ∧ i < T.vars.length then T.parent.getD i.toNat 0 else -1) ∧ H' = H) := by
 have ht0 := ht
 obtain ⟨b, mb, s0, s1, s2, es, rfl, hb, hmb, hg, hs0, hs1, hs2, hm, hsp⟩ := ht
 obtain ⟨A0, c0, rfl⟩ := hs0.shape
 obtain ⟨A1, c1, rfl⟩ := hs1.shape
 obtain ⟨A2, c2, rfl⟩ := hs2.shape
 refine Xv Tryz.func121 rfl rfl rfl (by simp) ?_
 refine Xe ?_
 refine Xu ?_
 refine Xa (Xi rfl) ?_
 refine Xe ?_
 refine Xe ?_
 refine Xu ?_
 refine Xa (X0 rfl) ?_
 refine Xa (Xb rfl) ?_
 refine Xw (Xy (in_tree ht0 i) rfl Tryz.func139 rfl rfl rfl ?_)
 rintro v H ⟨rfl, rfl⟩
 refine Xa (Zz rfl) ?_
 refine X5 rfl rfl ?_ ?_
 intro hc1
 have hno : ¬ (0 ≤ i ∧ i < T.vars.length) := fun h => by have h2 := hc1; rw [decide_eq_true h.1, decide_eq_true h.2] at h2; cases h2
 refine Xe ?_
 refine Xu ?_
 refine Xa (Xi rfl) ?_
 refine X2 ?_
 exact ⟨.int .i64 (-1), Xx (Xs rfl), by rw [if_neg hno], rfl⟩
 intro hc1
 have hin : 0 ≤ i ∧ i < T.vars.length := by have h2 := hc1; simp at h2; omega
 refine X9 ?_
 refine Xe ?_
 obtain ⟨b1, o1, rfl, hb1, hcell1⟩ := hs1.int_at (i := i) hin.1 (by omega)
 refine Xu ?_
 refine Xa (X0 rfl) ?_
 refine Xa (Yi rfl) ?_
 refine Xa (Xf (off := 1) rfl Tryz.underlying91 rfl inf23.size (by decide) rfl) ?_
 refine Xa (Xk rfl Tryz.underlying23 rfl Xp) ?_
 refine Xa (Xb rfl) ?_
 refine Xa (Xt rfl rfl Tryz.underlying23 inf3.size X6 X6) ?_
 refine Xa (Xk rfl Tryz.underlying3 rfl Xp) ?_
 refine Xa (Xi rfl) ?_
 refine X2 ?_
 exact ⟨.int .i64 (T.parent.getD i.toNat 0), Xx (Xs rfl), by rw [if_pos hin], rfl⟩
theorem row_tree {T : TreeT} {v : Value} {H : Hp} (ht : TreeR H v T) (hl : T.parent.length = T.vars.length) (hl2 : T.links.length = T.vars.length) (hx : ∀ l ∈ T.links, l.length ≤ 1000000) (i above : Int) :
  ACalls Tryz.prog 122 #[v, .int .i64 i, .int .i64 above] H (fun r H' => H.le H' ∧ Sl kLink H' r (if 0 ≤ i ∧ i < T.vars.length then T.row i.toNat above else [])) := by
 have ht0 := ht
 obtain ⟨b, mb, s0, s1, s2, es, rfl, hb, hmb, hg, hs0, hs1, hs2, hm, hsp⟩ := ht
 obtain ⟨A0, c0, rfl⟩ := hs0.shape
 obtain ⟨A1, c1, rfl⟩ := hs1.shape
 obtain ⟨A2, c2, rfl⟩ := hs2.shape
 refine Xv Tryz.func122 rfl rfl rfl (by simp) ?_
 refine Xe ?_
 refine Xu ?_
 refine Xa (Yc rfl) ?_
 refine Xe ?_
 refine Xe ?_
 refine Xu ?_
 refine Xa (X0 rfl) ?_
 refine Xa (Xb rfl) ?_
 refine Xw (Xy (in_tree ht0 i) rfl Tryz.func139 rfl rfl rfl ?_)
 rintro v H ⟨rfl, rfl⟩
 refine Xa (Zz rfl) ?_
 refine X5 rfl rfl ?_ ?_
 intro hc1
 have hno : ¬ (0 ≤ i ∧ i < T.vars.length) := fun h => by have h2 := hc1; rw [decide_eq_true h.1, decide_eq_true h.2] at h2; cases h2
 refine Xe ?_
 refine Xu ?_
 refine Xa (Yc rfl) ?_
 refine X2 ?_
 exact ⟨.slice none 0 0, Xx (Xs rfl), Hp.le_refl _, by rw [if_neg hno]; exact Sl.nil _ _⟩
 intro hc1
 have hin : 0 ≤ i ∧ i < T.vars.length := by have h2 := hc1; simp at h2; omega
 refine X9 ?_
 refine Xe ?_
 refine Xe ?_
 obtain ⟨b1, o1, rfl, hb1, hcell1⟩ := hs1.int_at (i := i) hin.1 (by omega)
 obtain ⟨n, rfl⟩ : ∃ n : Nat, i = n := ⟨i.toNat, by omega⟩
 rw [Int.toNat_natCast] at hcell1
 rw [if_pos hin, Int.toNat_natCast]
 have hn : n < T.links.length := by omega
 obtain ⟨b2, o2, ks, eB, hb2, ⟨w0, rfl, hw0⟩, hcell2⟩ := hs2.elem_at hn
 subst eB
 have hcell2' := hcell2.one
 have gw : T.links.getD n [] = T.links[n] := Ze hn
 obtain ⟨A6, c6, rfl⟩ := hw0.shape
 have hxl := hx _ (List.getElem_mem hn)
 refine Xu ?_
 refine Xa (X0 rfl) ?_
 refine Xa (Yi rfl) ?_
 refine Xa (Xf (off := 1) rfl Tryz.underlying91 rfl inf23.size (by decide) rfl) ?_
 refine Xa (Xk rfl Tryz.underlying23 rfl Xp) ?_
 refine Xa (Xb rfl) ?_
 refine Xa (Xt rfl rfl Tryz.underlying23 inf3.size X6 X6) ?_
 refine Xa (Xk rfl Tryz.underlying3 rfl Xp) ?_
 refine Xa (Zx rfl rfl) ?_
 refine X5 rfl rfl ?_ ?_
 intro hc2
 have hroot : T.parent.getD n 0 = -1 := of_decide_eq_true hc2
 obtain ⟨fr, to, hget, hft, hto, hgrp⟩ := hsp.at_ n hn (-1) (fun _ => rfl)
 have hrow : T.row n (-1) = T.row n above := by unfold TreeT.row; rw [if_pos hroot, if_pos hroot]
 rw [hrow] at hgrp
 refine Xu ?_
 refine Xa (Xi rfl) ?_
 refine Xe ?_
 refine Xu ?_
 refine Xa (X0 rfl) ?_
 refine Xa (Yi rfl) ?_
 refine Xa (Xf (off := 3) rfl Tryz.underlying91 rfl inf89.size (by decide) rfl) ?_
 refine Xa (Xk rfl Tryz.underlying89 rfl Xp) ?_
 refine Xa (Xb rfl) ?_
 refine Xa (Xb rfl) ?_
 refine Xa (Y6 (pl := [(0, 1), (1, 1)]) (r := [.int .i64 _, .int .i64 _]) Tryz.underlying133 inf133.zero (by decide) rfl rfl) ?_
 refine Xa (av_lookup (es := es) (k := Zq n _) (z := spanV 0 0) Tryz.underlying89 keyTy_spot inf131.zero (spanV_rel 0 0) rfl rfl ⟨_, _, rfl⟩ (.inl hm) hsp.keys) ?_
 rw [hget]
 refine Xz (Yz (l := [.int .i64 0, .int .i64 0]) inf131.zero rfl (by decide)) ?_
 first | refine Xw (Yf (vs := [.int .i64 _, .int .i64 _]) rfl rfl inf131.size Yd Yg rfl rfl ?_)
 refine Xe ?_
 rw [gw] at hto hgrp
 obtain ⟨A9, c9, S9, hsl9, hS9, hop9⟩ := hw0.mids hft hto
 rw [hgrp] at hsl9
 refine Yy (by kernel_rfl) (Y4 (B := [0, 1, 3, 7, 0, 31, 63, 0, 128, 0, 512, 2047, 4095]) (π := [0, 1, 2, 3, 4, 5, 6, 7, 8, 9, 10, 11, 12]) (by kernel_rfl)) ?_
 refine Xd rfl rfl (X0 rfl) Xq ?_
 refine Xd rfl rfl (Yi rfl) Xq ?_
 refine Xd rfl rfl (Xf (off := 2) rfl Tryz.underlying91 rfl inf27.size (by decide) rfl) Xq ?_
 refine Xd rfl rfl (Xk rfl Tryz.underlying27 rfl Xp) Xq ?_
 refine Xd rfl rfl (Xb rfl) Xq ?_
 refine Xd rfl rfl (Xt rfl rfl Tryz.underlying27 inf83.size X6 X6) Xq ?_
 refine Xd rfl rfl (Xk rfl Tryz.underlying83 rfl Xp) Xq ?_
 refine Xd rfl rfl (Xf (off := 0) rfl Tryz.underlying131 rfl inf3.size (by decide) rfl) Xq ?_
 refine Xd rfl rfl (Xk rfl Tryz.underlying3 rfl Xp) Xq ?_
 refine Xd rfl rfl (Xf (off := 1) rfl Tryz.underlying131 rfl inf3.size (by decide) rfl) Xq ?_
 refine Xd rfl rfl (Xk rfl Tryz.underlying3 rfl Xp) Xq ?_
 refine Xd rfl rfl (hop9 _ _ _ _ _ _ _ _ _ _ _ _ _ _ _ t_le (by first | rfl | assumption) Tryz.underlying83 inf96.size (by first | rfl | assumption) (by first | rfl | assumption)) (fun b hb => Nat.lt_of_lt_of_le (hS9 b hb).1 (by simp)) ?_
 refine Xd rfl rfl (Yc rfl) Xq ?_
 refine X2 ?_
 exact ⟨_, Xx (Xs rfl), t_le, hsl9.mono Zp⟩
 intro hc2
 have hroot : ¬ T.parent.getD n 0 = -1 := of_decide_eq_false hc2
 obtain ⟨fr, to, hget, hft, hto, hgrp⟩ := hsp.at_ n hn above (fun h => absurd h hroot)
 refine X9 ?_
 refine Xe ?_
 refine Xu ?_
 refine Xa (X0 rfl) ?_
 refine Xa (Yi rfl) ?_
 refine Xa (Xf (off := 3) rfl Tryz.underlying91 rfl inf89.size (by decide) rfl) ?_
 refine Xa (Xk rfl Tryz.underlying89 rfl Xp) ?_
 refine Xa (Xb rfl) ?_
 refine Xa (Xb rfl) ?_
 refine Xa (Y6 (pl := [(0, 1), (1, 1)]) (r := [.int .i64 _, .int .i64 _]) Tryz.underlying133 inf133.zero (by decide) rfl rfl) ?_
 refine Xa (av_lookup (es := es) (k := Zq n _) (z := spanV 0 0) Tryz.underlying89 keyTy_spot inf131.zero (spanV_rel 0 0) rfl rfl ⟨_, _, rfl⟩ (.inl hm) hsp.keys) ?_
 rw [hget]
 refine Xz (Yz (l := [.int .i64 0, .int .i64 0]) inf131.zero rfl (by decide)) ?_
 first | refine Xw (Yf (vs := [.int .i64 _, .int .i64 _]) rfl rfl inf131.size Yd Yg rfl rfl ?_)
 refine Xe ?_
 rw [gw] at hto hgrp
 obtain ⟨A9, c9, S9, hsl9, hS9, hop9⟩ := hw0.mids hft hto
 rw [hgrp] at hsl9
 refine Yy (by kernel_rfl) (Y4 (B := [0, 1, 3, 7, 0, 31, 63, 0, 128, 0, 512, 2047, 4095]) (π := [0, 1, 2, 3, 4, 5, 6, 7, 8, 9, 10, 11, 12]) (by kernel_rfl)) ?_
 refine Xd rfl rfl (X0 rfl) Xq ?_
 refine Xd rfl rfl (Yi rfl) Xq ?_
 refine Xd rfl rfl (Xf (off := 2) rfl Tryz.underlying91 rfl inf27.size (by decide) rfl) Xq ?_
 refine Xd rfl rfl (Xk rfl Tryz.underlying27 rfl Xp) Xq ?_
 refine Xd rfl rfl (Xb rfl) Xq ?_
 refine Xd rfl rfl (Xt rfl rfl Tryz.underlying27 inf83.size X6 X6) Xq ?_
 refine Xd rfl rfl (Xk rfl Tryz.underlying83 rfl Xp) Xq ?_
 refine Xd rfl rfl (Xf (off := 0) rfl Tryz.underlying131 rfl inf3.size (by decide) rfl) Xq ?_
 refine Xd rfl rfl (Xk rfl Tryz.underlying3 rfl Xp) Xq ?_
 refine Xd rfl rfl (Xf (off := 1) rfl Tryz.underlying131 rfl inf3.size (by decide) rfl) Xq ?_
 refine Xd rfl rfl (Xk rfl Tryz.underlying3 rfl Xp) Xq ?_
 refine Xd rfl rfl (hop9 _ _ _ _ _ _ _ _ _ _ _ _ _ _ _ t_le (by first | rfl | assumption) Tryz.underlying83 inf96.size (by first | rfl | assumption) (by first | rfl | assumption)) (fun b hb => Nat.lt_of_lt_of_le (hS9 b hb).1 (by simp)) ?_
 refine Xd rfl rfl (Yc rfl) Xq ?_
 refine X2 ?_
 exact ⟨_, Xx (Xs rfl), t_le, hsl9.mono Zp⟩
theorem row_len {T : TreeT} (hx : ∀ l ∈ T.links, l.length ≤ 1000000) (i : Nat) (above : Int) : (T.row i above).length ≤ 1000000 := by
 unfold TreeT.row
 split
 ·exact V2 hx i
 ·exact Nat.le_trans (List.length_filter_le _ _) (V2 hx i)
def TreeT.group (T : TreeT) (i above : Int) : List Link := if 0 ≤ i ∧ i < T.vars.length then T.row i.toNat above else []
theorem group_len {T : TreeT} (hx : ∀ l ∈ T.links, l.length ≤ 1000000) (i above : Int) : (T.group i above).length ≤ 1000000 := by
 unfold TreeT.group
 split
 ·exact row_len hx _ _
 ·simp
theorem Group_tree {T : TreeT} {v : Value} {H : Hp} (ht : TreeR H v T) (hl : T.parent.length = T.vars.length) (hl2 : T.links.length = T.vars.length) (hx : ∀ l ∈ T.links, l.length ≤ 1000000) (i above : Int) :
  ACalls Tryz.prog 91 #[v, .int .i64 i, .int .i64 above] H (fun r H' => ∃ G', H.le G' ∧ OwnP kLink G' H' r (T.group i above)) := by
 have hgl := group_len hx i above
 obtain ⟨b0, _, _, _, _, _, hv, _⟩ := id ht
 refine Xv Tryz.func91 rfl rfl rfl (by simp) ?_
 refine Xe ?_
 refine Xu ?_
 refine Xa (Yc rfl) ?_
 refine Xe ?_
 refine Xu ?_
 refine Xa (Zm rfl) ?_
 refine Xa (Xb rfl) ?_
 refine Xa (Xb rfl) ?_
 refine Xw (Xy (row_tree ht hl hl2 hx i above) rfl Tryz.func122 rfl rfl rfl ?_)
 rintro v5 H5 ⟨hle5, hs5⟩; change Sl kLink H5 v5 (T.group i above) at hs5
 refine Xw (Xy (Clone_links _ _ _ hs5 hgl) rfl Tryz.func51 rfl rfl rfl ?_)
 rintro v6 H6 ⟨G6, hle6, hown6⟩
 refine Xa (Vf rfl) ?_
 refine X2 ?_
 exact ⟨_, Xx (Xs rfl), G6, Hp.le_trans hle5 hle6, hown6⟩
theorem find1_raw (xs : List Link) (A : Option Addr) (c i : Nat) (m : Int) (b1 b2 : Nat) (H : Hp) (h1 : H.cell? b1 0 = some (.slice A xs.length c)) (h2 : H.cell? b2 0 = some (.int .i64 m)) (hs : Sl kLink H (.slice A xs.length c) xs) (hi : i < xs.length) (hb1 : b1 < H.size) (hb2 : b2 < H.size) :
  ACalls Tryz.prog 125 #[.int .i64 i, .pointer (some ⟨b1, 0, none⟩), .pointer (some ⟨b2, 0, none⟩)] H (fun r _ => r = .bool (decide (m ≤ xs[i].b))) := by
 obtain ⟨b, o, rfl, hb, hcell⟩ := hs.link_at hi
 have hcellb := hcell 1 _ rfl
 refine Xv Tryz.func125 rfl rfl rfl (by simp) ?_
 refine Xe ?_
 refine Xu ?_
 refine Xa (Xn rfl) ?_
 refine Xe ?_
 refine Yy (by kernel_rfl) (Y4 (B := [0, 0, 3, 7, 15, 0, 63, 127]) (π := [0, 1, 2, 3, 4, 5, 6, 7]) (by kernel_rfl)) ?_
 refine Xd rfl rfl (Xk rfl Tryz.underlying83 rfl Xp) Xq ?_
 refine Xd rfl rfl (Xb rfl) Xq ?_
 refine Xd rfl rfl (Xt rfl rfl Tryz.underlying83 inf96.size X6 X6) Xq ?_
 refine Xd rfl rfl (Xf (off := 1) rfl Tryz.underlying96 rfl inf3.size (by decide) rfl) Xq ?_
 refine Xd rfl rfl (Xk rfl Tryz.underlying3 rfl Xp) Xq ?_
 refine Xd rfl rfl (Xk rfl Tryz.underlying3 rfl Xp) Xq ?_
 refine Xd rfl rfl (av_ge rfl rfl) Xq ?_
 refine Xd rfl rfl (Xn rfl) Xq ?_
 refine X2 ?_
 exact ⟨_, Xx (Xs rfl), rfl⟩
def Z0 (g : List Link) (node : Int) : Option Link := g.find? fun l => decide (l.b = node)
theorem findB_some {g : List Link} {node : Int} {i : Nat} (hi : i < g.length) (h : g[i].b = node) (hno : ∀ j, j < i → ∀ h : j < g.length, g[j].b ≠ node) : Z0 g node = some g[i] := by
 unfold Z0
 rw [List.find?_eq_some_iff_getElem]
 exact ⟨decide_eq_true h, i, hi, rfl, fun j hj => by simp [hno j hj (by omega)]⟩
theorem findB_none {g : List Link} {node : Int} (h : ∀ l ∈ g, l.b ≠ node) : Z0 g node = none := by
 unfold Z0
 rw [List.find?_eq_none]
 intro l hl
 simp [h l hl]
set_option maxHeartbeats 1000000 in
theorem find_tree {T : TreeT} {v : Value} {H : Hp} (ht : TreeR H v T) (hl : T.parent.length = T.vars.length) (hl2 : T.links.length = T.vars.length) (hx : ∀ l ∈ T.links, l.length ≤ 1000000) (i above node : Int) (hsort : (T.group i above).Pairwise fun x y => x.b < y.b) :
  ACalls Tryz.prog 100 #[v, .int .i64 i, .int .i64 above, .int .i64 node] H (fun r H' => H.le H' ∧ r = .tuple #[.agg #[.int .i64 ((Z0 (T.group i above) node).getD Zy).a, .int .i64 ((Z0 (T.group i above) node).getD Zy).b, .int .i64 ((Z0 (T.group i above) node).getD Zy).cost, .int .u64 ((Z0 (T.group i above) node).getD Zy).n], .bool (Z0 (T.group i above) node).isSome]) := by
 obtain ⟨b0, _, _, _, _, _, hv, _⟩ := id ht
 have hgl := group_len hx i above
 obtain ⟨g, hg⟩ : ∃ g, g = T.group i above := ⟨_, rfl⟩
 rw [← hg] at hgl hsort
 have hmono : ∀ (a b : Nat) (ha : a < g.length) (hb : b < g.length), a < b → g[a].b < g[b].b := fun a b ha hb h => List.pairwise_iff_getElem.1 hsort a b ha hb h
 rw [← hg]
 refine Xv Tryz.func100 rfl rfl rfl (by simp) ?_
 refine Xe ?_
 refine Xu ?_
 refine Xz (am_box_int rfl) ?_
 refine Xz (Yz (l := [.int .i64 0, .int .i64 0, .int .i64 0, .int .u64 0]) inf96.zero rfl (by decide)) ?_
 refine Xa (Xn rfl) ?_
 refine Xe ?_
 refine Xu ?_
 refine Xa (Zm rfl) ?_
 refine Xa (Xb rfl) ?_
 refine Xa (Xb rfl) ?_
 refine Xw (Xy (row_tree (ht.mono (Hp.le_push' (H.le_push _) _)) hl hl2 hx i above) rfl Tryz.func122 rfl rfl rfl ?_)
 rintro v5 H5 ⟨hle5, hs5⟩; change Sl kLink H5 v5 (T.group i above) at hs5; rw [← hg] at hs5; obtain ⟨A5, c5, rfl⟩ := hs5.shape; have hz5 := hle5.1; simp only [Hp.push_size] at hz5
 refine Xz (Yz (l := [.slice none 0 0]) inf83.zero rfl (by decide)) ?_
 first | refine Xw (Y3 rfl rfl rfl inf83.size Yd Yg rfl ?_)
 refine Xe ?_
 obtain ⟨HS, hHS⟩ : ∃ HS, HS = (H5.push (.own 0 [.slice none 0 0])).put H5.size (.own 0 [.slice A5 g.length c5]) := ⟨_, rfl⟩
 have leS : H5.le HS := by rw [hHS]; exact Hp.le_put_new (H5.le_push _) (Nat.le_refl _) _
 have zS : HS.size = H5.size + 1 := by rw [hHS]; simp
 have leB := Hp.le_trans hle5 leS
 have gn : HS.get H.size = .own 0 [.int .i64 node] := Xr leB (by simp <;> omega) (by intro e; cases e) Yd
 have gz : HS.get (H.size + 1) = .own 0 [.int .i64 0, .int .i64 0, .int .i64 0, .int .u64 0] := Xr leB (by simp <;> omega) (by intro e; cases e) Yd
 have gl : HS.get H5.size = .own 0 [.slice A5 g.length c5] := by rw [hHS]; exact Hp.put_same _ _ _
 have hsS := hs5.mono leS.sees
 have leH : H.le HS := Hp.le_trans (Hp.le_push' (H.le_push _) _) leB
 change ACode true _ _ _ _ _ ((H5.push (.own 0 [.slice none 0 0])).put H5.size (.own 0 [.slice A5 g.length c5]))
 rw [← hHS]
 have c1 : HS.cell? H5.size 0 = some (.slice A5 g.length c5) := Z7 (cs := [.slice A5 g.length c5]) gl
 have c2 : HS.cell? H.size 0 = some (.int .i64 node) := Z7 (cs := [.int .i64 node]) gn
 have call1 : ∀ k, k < g.length → ACalls Tryz.prog 125 (#[.int .i64 (k : Nat)] ++ #[.pointer (some ⟨H5.size, 0, none⟩), .pointer (some ⟨H.size, 0, none⟩)]) HS (fun r H' => r = .bool (if h : k < g.length then decide (node ≤ g[k].b) else true) ∧ H' = HS) := fun k hk =>
  ACalls.pure (R := fun r => r = .bool (if h : k < g.length then decide (node ≤ g[k].b) else true)) (fun v h => by rw [h]; rfl) ((find1_raw g A5 c5 k node H5.size H.size HS.ro (cell_ro c1) (cell_ro c2) (hsS.mono HS.sees_ro) hk (by show H5.size < HS.size; omega) (by show H.size < HS.size; omega)).mono fun r _ h => by rw [h, dif_pos hk])
 have mono1 : ∀ a b, a ≤ b → b < g.length → (if h : a < g.length then decide (node ≤ g[a].b) else true) = true → (if h : b < g.length then decide (node ≤ g[b].b) else true) = true := fun a b hab hb h => by
  rw [dif_pos (by omega)] at h ⊢
  rcases Nat.lt_or_eq_of_le hab with h1 | h1
  ·have := hmono a b (by omega) hb h1
   have := of_decide_eq_true h
   exact decide_eq_true (by omega)
  ·subst h1; exact h
 refine Xu ?_
 refine Xa (Xk rfl Tryz.underlying83 rfl Xp) ?_
 refine Xa (Ys rfl Tryz.underlying83) ?_
 refine Xa (av_makeFunc) ?_
 refine Xw (Xy (Search_gen g.length 125 _ #[.pointer (some ⟨H5.size, 0, none⟩), .pointer (some ⟨H.size, 0, none⟩)] (fun k => if h : k < g.length then decide (node ≤ g[k].b) else true) HS Tryz.func125 rfl rfl call1 mono1 (by omega)) rfl Tryz.func82 rfl rfl rfl ?_)
 rintro v6 HS ⟨⟨lo, rfl, hlo, hlo1, hlo2⟩, rfl⟩
 refine Xa (Xi rfl) ?_
 refine Xe ?_
 refine Xe ?_
 refine Yy (by kernel_rfl) (Y4 (B := [0, 0, 2, 7, 15, 31, 31, 127, 255, 511, 31, 2047, 4095]) (π := [0, 1, 2, 3, 4, 5, 6, 7, 8, 9, 10, 11, 12]) (by kernel_rfl)) ?_
 refine Xd rfl rfl (Xb rfl) Xq ?_
 refine Xd rfl rfl (Xk rfl Tryz.underlying83 rfl Xp) Xq ?_
 refine Xd rfl rfl (Ys rfl Tryz.underlying83) Xq ?_
 refine Xd rfl rfl (Zx rfl rfl) Xq ?_
 refine Xd rfl rfl (Xo rfl) Xq ?_
 refine Va rfl rfl rfl rfl ?_ ?_
 intro hg1
 have heq : lo = g.length := by have := of_decide_eq_true hg1; omega
 have hfb : Z0 g node = none := findB_none fun l hl => by
  obtain ⟨j, hj, rfl⟩ := List.getElem_of_mem hl
  have := hlo1 j (by omega)
  rw [dif_pos hj] at this
  have := of_decide_eq_false this
  omega
 refine X7 rfl (Xg rfl rfl rfl hg1 rfl) ?_
 refine X7 rfl (Xg rfl rfl rfl hg1 rfl) ?_
 refine X7 rfl (Xg rfl rfl rfl hg1 rfl) ?_
 refine X7 rfl (Xg rfl rfl rfl hg1 rfl) ?_
 refine X7 rfl (Xg rfl rfl rfl hg1 rfl) ?_
 refine X7 rfl (Xg rfl rfl rfl hg1 rfl) ?_
 refine X7 rfl (Xg rfl rfl rfl hg1 rfl) ?_
 refine Xd rfl rfl (Xl (Yv hg1) rfl) Xq ?_
 refine Yu rfl rfl ?_
 refine Xe ?_
 refine Xu ?_
 refine Xa (Y6 (pl := [(0, 1), (1, 1), (2, 1), (3, 1)]) (r := [.int .i64 _, .int .i64 _, .int .i64 _, .int .u64 _]) Tryz.underlying96 inf96.zero (by decide) rfl rfl) ?_
 first | refine Xw (Yf (vs := [.int .i64 _, .int .i64 _, .int .i64 _, .int .u64 _]) rfl rfl inf96.size Yd Yg rfl rfl ?_)
 refine Xa (Xn rfl) ?_
 refine X2 ?_
 rw [hfb]
 exact ⟨_, Y8 (Yq Xm (Yo (cs := [.int .i64 0, .int .i64 0, .int .i64 0, .int .u64 0]) Tryz.underlying96 rfl inf96.size X8)) (Xs rfl), Hp.le_put_new leH (by simp <;> omega) _, rfl⟩
 intro hg1
 have hlt : lo < g.length := by have := of_decide_eq_false hg1; omega
 obtain ⟨bx, ox, eA, hbx, hcx⟩ := hsS.link_at hlt
 subst eA
 have hcxb := hcx 1 _ rfl
 have hge : node ≤ g[lo].b := by have := hlo2 lo (Nat.le_refl _) hlt; rw [dif_pos hlt] at this; exact of_decide_eq_true this
 have hbelow : ∀ j, j < lo → ∀ h : j < g.length, g[j].b ≠ node := fun j hj h e => by
  have := hlo1 j hj
  rw [dif_pos h] at this
  have := of_decide_eq_false this
  omega
 refine Yr rfl (Xh rfl rfl rfl hg1) rfl (Xk rfl Tryz.underlying83 rfl Xp) Xq ?_
 refine Yr rfl (Xh rfl rfl rfl hg1) rfl (Xb rfl) Xq ?_
 refine Yr rfl (Xh rfl rfl rfl hg1) rfl (Xt rfl rfl Tryz.underlying83 inf96.size X6 X6) Xq ?_
 refine Yr rfl (Xh rfl rfl rfl hg1) rfl (Xf (off := 1) rfl Tryz.underlying96 rfl inf3.size (by decide) rfl) Xq ?_
 refine Yr rfl (Xh rfl rfl rfl hg1) rfl (Xk rfl Tryz.underlying3 rfl Xp) Xq ?_
 refine Yr rfl (Xh rfl rfl rfl hg1) rfl (Xk rfl Tryz.underlying3 rfl Xp) Xq ?_
 refine Yr rfl (Xh rfl rfl rfl hg1) rfl (Zw rfl rfl) Xq ?_
 refine Xd rfl rfl (Xl (Yv hg1) rfl) Xq ?_
 refine X5 rfl rfl ?_ ?_
 intro hc3
 have hne : g[lo].b ≠ node := by have h := hc3; simpa using h
 have hfb : Z0 g node = none := findB_none fun l hl => by
  obtain ⟨j, hj, rfl⟩ := List.getElem_of_mem hl
  rcases Nat.lt_trichotomy j lo with h | h | h
  ·exact hbelow j h hj
  ·subst h; exact hne
  ·have := hmono lo j hlt hj h; omega
 refine Xe ?_
 refine Xu ?_
 refine Xa (Y6 (pl := [(0, 1), (1, 1), (2, 1), (3, 1)]) (r := [.int .i64 _, .int .i64 _, .int .i64 _, .int .u64 _]) Tryz.underlying96 inf96.zero (by decide) rfl rfl) ?_
 first | refine Xw (Yf (vs := [.int .i64 _, .int .i64 _, .int .i64 _, .int .u64 _]) rfl rfl inf96.size Yd Yg rfl rfl ?_)
 refine Xa (Xn rfl) ?_
 refine X2 ?_
 rw [hfb]
 exact ⟨_, Y8 (Yq Xm (Yo (cs := [.int .i64 0, .int .i64 0, .int .i64 0, .int .u64 0]) Tryz.underlying96 rfl inf96.size X8)) (Xs rfl), Hp.le_put_new leH (by simp <;> omega) _, rfl⟩
 intro hc3
 have he : g[lo].b = node := by have h := hc3; simpa using h
 have hfb : Z0 g node = some g[lo] := findB_some hlt he hbelow
 refine X9 ?_
 refine Xe ?_
 refine Xu ?_
 refine Xa (Xk rfl Tryz.underlying83 rfl Xp) ?_
 refine Xa (Xb rfl) ?_
 refine Xa (Xt rfl rfl Tryz.underlying83 inf96.size X6 X6) ?_
 refine Xa (Yl (cs := [.int .i64 _, .int .i64 _, .int .i64 _, .int .u64 _]) rfl Tryz.underlying96 rfl inf96.size X8) ?_
 first | refine Xw (Yf (vs := [.int .i64 _, .int .i64 _, .int .i64 _, .int .u64 _]) rfl rfl inf96.size Yd Yg rfl rfl ?_)
 refine Xa (Xn rfl) ?_
 refine X2 ?_
 rw [hfb]
 exact ⟨_, Y8 (Yq Xm (Yo (cs := [_, _, _, _]) Tryz.underlying96 rfl inf96.size X8)) (Xs rfl), Hp.le_put_new leH (by simp <;> omega) _, rfl⟩
theorem Find_tree {T : TreeT} {v : Value} {H : Hp} (ht : TreeR H v T) (hl : T.parent.length = T.vars.length) (hl2 : T.links.length = T.vars.length) (hx : ∀ l ∈ T.links, l.length ≤ 1000000) (i above node : Int) (hsort : (T.group i above).Pairwise fun x y => x.b < y.b) :
  ACalls Tryz.prog 117 #[v, .int .i64 i, .int .i64 above, .int .i64 node] H (fun r H' => H.le H' ∧ r = .tuple #[.agg #[.int .i64 ((Z0 (T.group i above) node).getD Zy).a, .int .i64 ((Z0 (T.group i above) node).getD Zy).b, .int .i64 ((Z0 (T.group i above) node).getD Zy).cost, .int .u64 ((Z0 (T.group i above) node).getD Zy).n], .bool (Z0 (T.group i above) node).isSome]) := by
 refine Xv Tryz.func117 rfl rfl rfl (by simp) ?_
 refine Xe ?_
 refine Xu ?_
 refine Xz (Yz (l := [.int .i64 0, .int .i64 0, .int .i64 0, .int .u64 0]) inf96.zero rfl (by decide)) ?_
 refine Xa (Xn rfl) ?_
 refine Xe ?_
 refine Xu ?_
 refine Xa (Zm rfl) ?_
 refine Xa (Xb rfl) ?_
 refine Xa (Xb rfl) ?_
 refine Xa (Xb rfl) ?_
 refine Xw (Xy (find_tree (ht.mono (H.le_push _)) hl hl2 hx i above node hsort) rfl Tryz.func100 rfl rfl rfl ?_)
 rintro v5 H5 ⟨hle5, rfl⟩; have hz5 := hle5.1; simp only [Hp.push_size] at hz5
 refine Xa (Yj rfl rfl) ?_
 refine Xa (Yj rfl rfl) ?_
 first | refine Xw (Yf (vs := [.int .i64 _, .int .i64 _, .int .i64 _, .int .u64 _]) rfl rfl inf96.size Yd Yg rfl rfl ?_)
 refine Xa (Xn rfl) ?_
 refine X2 ?_
 exact ⟨_, Y8 (Yq Xm (Yo (cs := [_, _, _, _]) Tryz.underlying96 rfl inf96.size X8)) (Xs rfl), Hp.le_put_new (Hp.le_trans (H.le_push _) hle5) (Nat.le_refl _) _, rfl⟩
theorem weighed1_raw (xs : List Link) (A : Option Addr) (c i : Nat) (m : Int) (b1 b2 : Nat) (H : Hp) (h1 : H.cell? b1 0 = some (.slice A xs.length c)) (h2 : H.cell? b2 1 = some (.int .i64 m)) (hs : Sl kLink H (.slice A xs.length c) xs) (hi : i < xs.length) (hb1 : b1 < H.size) (hb2 : b2 < H.size) :
  ACalls Tryz.prog 83 #[.int .i64 i, .pointer (some ⟨b1, 0, none⟩), .pointer (some ⟨b2, 0, none⟩)] H (fun r _ => r = .bool (decide (m ≤ xs[i].a))) := by
 obtain ⟨b, o, rfl, hb, hcell⟩ := hs.link_at hi
 have hcella := hcell 0 _ rfl
 refine Xv Tryz.func83 rfl rfl rfl (by simp) ?_
 refine Xe ?_
 refine Xu ?_
 refine Xa (Xn rfl) ?_
 refine Xe ?_
 refine Yy (by kernel_rfl) (Y4 (B := [0, 0, 3, 7, 15, 0, 32, 127, 255]) (π := [0, 1, 2, 3, 4, 5, 6, 7, 8]) (by kernel_rfl)) ?_
 refine Xd rfl rfl (Xk rfl Tryz.underlying83 rfl Xp) Xq ?_
 refine Xd rfl rfl (Xb rfl) Xq ?_
 refine Xd rfl rfl (Xt rfl rfl Tryz.underlying83 inf96.size X6 X6) Xq ?_
 refine Xd rfl rfl (Xf (off := 0) rfl Tryz.underlying96 rfl inf3.size (by decide) rfl) Xq ?_
 refine Xd rfl rfl (Xk rfl Tryz.underlying3 rfl Xp) Xq ?_
 refine Xd rfl rfl (Xf (off := 1) rfl Tryz.underlying96 rfl inf3.size (by decide) rfl) Xq ?_
 refine Xd rfl rfl (Xk rfl Tryz.underlying3 rfl Xp) Xq ?_
 refine Xd rfl rfl (av_ge rfl rfl) Xq ?_
 refine Xd rfl rfl (Xn rfl) Xq ?_
 refine X2 ?_
 exact ⟨_, Xx (Xs rfl), rfl⟩
theorem av_makeFunc2 {P : Program} {t : Fr} {H : Hp} {d : Option Tmp} {ty : TypeId} {pos : String} {after : Array Edge} {guard : Option (Nat × Bool)} {f : FuncId} {cap : Array Operand} {vs : List Value} (h : cap.toList.map t.eval = vs) : AVal P ⟨d, .makeFunc (.func f) #[] cap, ty, pos, after, guard⟩ t [] H (.func (.func f) #[] vs.toArray) := by
 have := av_makeFunc (P := P) (t := t) (H := H) (d := d) (ty := ty) (pos := pos) (after := after) (guard := guard) (f := f) (first := #[]) (cap := cap)
 rw [h] at this
 exact this
theorem nodeOf_at {ns : List Link} {b : Int} {m : Nat} (hm : m < ns.length) (h : ns[m].a = b) (hno : ∀ j, j < m → ∀ h : j < ns.length, ns[j].a ≠ b) : nodeOf ns b = ns[m] := by
 unfold nodeOf
 have : ns.find? (fun y => decide (y.a = b)) = some ns[m] := by
  rw [List.find?_eq_some_iff_getElem]
  exact ⟨decide_eq_true h, m, hm, rfl, fun j hj => by simp [hno j hj (by omega)]⟩
 rw [this]; rfl
set_option maxHeartbeats 1000000 in
theorem weighed_links (ls ns : List Link) (v u : Value) (H : Hp) (hs : Sl kLink H v ls) (hn : Sl kLink H u ns) (hl : ls.length ≤ 1000000) (hnl : ns.length ≤ 1000000) (hsort : ns.Pairwise fun x y => x.a < y.a) (hin : ∀ l ∈ ls, l.b ∈ V9 ns)
  (hcl : ∀ l ∈ ls, 0 ≤ l.cost ∧ l.cost ≤ 1000000000 ∧ 0 ≤ l.n) (hcn : ∀ l ∈ ns, 0 ≤ l.cost ∧ l.cost ≤ 1000000000 ∧ 0 ≤ l.n) :
  ACalls Tryz.prog 49 #[v, u] H (fun r H' => ∃ G', H.le G' ∧ OwnP kLink G' H' r (ls.map (Ug ns))) := by
 obtain ⟨A, c, rfl⟩ := hs.shape
 obtain ⟨An, cn, rfl⟩ := hn.shape
 have hmono : ∀ (a b : Nat) (ha : a < ns.length) (hb : b < ns.length), a < b → ns[a].a < ns[b].a := fun a b ha hb h => List.pairwise_iff_getElem.1 hsort a b ha hb h
 refine Xv Tryz.func49 rfl rfl rfl (by simp) ?_
 refine Xe ?_
 refine Xu ?_
 refine Xz (am_box_sl rfl) ?_
 refine Xa (Yc rfl) ?_
 refine Xe ?_
 refine Xu ?_
 refine Xa (Yc rfl) ?_
 refine Xe ?_
 refine Xe ?_
 refine Xu ?_
 refine Xa (X1 rfl) ?_
 refine Xa (Ys rfl Tryz.underlying83) ?_
 refine Xa (Xb rfl) ?_
 refine Ye ?_
 refine Y5 (fun n t H' => ∃ (i : Nat) (G : Hp) (B : Option Addr) (c5 : Nat), i ≤ ls.length ∧ n = ls.length - i ∧ (H.push (.own 0 [.slice An ns.length cn])).le G ∧ OwnP kLink G H' (.slice B i c5) ((ls.take i).map (Ug ns)) ∧ t 3 = .pointer (some ⟨H.size, 0, none⟩) ∧ t 5 = .slice B i c5 ∧ t 9 = .slice A ls.length c ∧ t 10 = .int .i64 ls.length ∧ t 11 = .int .i64 i) (ls.length) (⟨0, _, _, _, by omega, rfl, Hp.le_refl _, OwnP.nil _ _, rfl, rfl, rfl, rfl, rfl⟩) ?_
 rintro n t H1 ⟨i, G, B, c5, hi, rfl, hle, hown, e3, e5, e9, e10, e11⟩
 have hz := hown.size
 have hz1 := hle.1
 simp only [Hp.push_size] at hz1
 have leH : H.le G := Hp.le_trans (H.le_push _) hle
 have leH1 : H.le H1 := Hp.le_trans leH hown.le
 have kb : G.get H.size = .own 0 [.slice An ns.length cn] := Xr hle (by simp) (by intro e; cases e) Yd
 have hb1 := Xr hown.le (by omega) (by intro e; cases e) kb
 refine Xe ?_
 refine Xu ?_
 refine Xa (Za Xm Xm) ?_
 refine Xe ?_
 refine X5 rfl rfl ?_ ?_
 intro hc1
 (try simp only [Yt] at hc1)
 refine X9 ?_
 refine Xe ?_
 refine Ye ?_
 refine Xe ?_
 refine Xu ?_
 have hix : i < ls.length := by omega
 obtain ⟨b, o, eA, hb, hcell0⟩ := hs.link_at hix
 subst eA
 have hcells := leH1.cells hb hcell0
 obtain ⟨l, hl'⟩ : ∃ l, l = ls[i] := ⟨_, rfl⟩
 rw [← hl'] at hcells
 have hlm : l ∈ ls := by rw [hl']; exact List.getElem_mem hix
 obtain ⟨hl0, hl1, hl2⟩ := hcl l hlm
 obtain ⟨y, hy, hya⟩ := List.mem_map.1 (hin l hlm)
 obtain ⟨j, hj, rfl⟩ := List.getElem_of_mem hy
 refine Xa (Xt Xm Xm Tryz.underlying83 inf96.size X6 X6) ?_
 refine Xa (Yl (cs := [.int .i64 _, .int .i64 _, .int .i64 _, .int .u64 _]) rfl Tryz.underlying96 rfl inf96.size X8) ?_
 refine Xz (Yz (l := [.int .i64 0, .int .i64 0, .int .i64 0, .int .u64 0]) inf96.zero rfl (by decide)) ?_
 first | refine Xw (Yf (vs := [.int .i64 _, .int .i64 _, .int .i64 _, .int .u64 _]) rfl rfl inf96.size Yd Yg rfl rfl ?_)
 refine Xe ?_
 obtain ⟨H2, hH2⟩ : ∃ H2, H2 = (H1.push (.own 0 [.int .i64 0, .int .i64 0, .int .i64 0, .int .u64 0])).put H1.size (.own 0 [.int .i64 l.a, .int .i64 l.b, .int .i64 l.cost, .int .u64 l.n]) := ⟨_, rfl⟩
 obtain ⟨G2, hG2⟩ : ∃ G2, G2 = (G.push (.own 0 [.int .i64 0, .int .i64 0, .int .i64 0, .int .u64 0])).put H1.size (.own 0 [.int .i64 l.a, .int .i64 l.b, .int .i64 l.cost, .int .u64 l.n]) := ⟨_, rfl⟩
 have hown2 : OwnP kLink G2 H2 (.slice B i c5) ((ls.take i).map (Ug ns)) := by rw [hH2, hG2]; exact hown.boxed _ _
 have hle2 : (H.push (.own 0 [.slice An ns.length cn])).le G2 := by rw [hG2]; exact Hp.le_put_new (Hp.le_push' hle _) (by simp; omega) _
 have g2 : H2.get H1.size = .own 0 [.int .i64 l.a, .int .i64 l.b, .int .i64 l.cost, .int .u64 l.n] := by rw [hH2]; exact Hp.put_same _ _ _
 have kg2 : G2.get H1.size = .own 0 [.int .i64 l.a, .int .i64 l.b, .int .i64 l.cost, .int .u64 l.n] := by rw [hG2]; exact Hp.put_same _ _ _
 have z2 : H2.size = H1.size + 1 := by rw [hH2]; simp
 have zz2 := hown2.size
 have hb2 : H2.get H.size = .own 0 [.slice An ns.length cn] := by rw [hH2, Hp.put_other _ _ (by omega), Hp.push_old _ _ (by omega)]; exact hb1
 change ACode true _ _ _ _ _ ((H1.push (.own 0 [.int .i64 0, .int .i64 0, .int .i64 0, .int .u64 0])).put H1.size (.own 0 [.int .i64 l.a, .int .i64 l.b, .int .i64 l.cost, .int .u64 l.n]))
 rw [← hH2]
 have leH2 : H.le H2 := Hp.le_trans (Hp.le_trans (H.le_push _) hle2) hown2.le
 have hn2 := hn.mono leH2.sees
 have c1 : H2.cell? H.size 0 = some (.slice An ns.length cn) := Z7 (cs := [.slice An ns.length cn]) hb2
 have c2 : H2.cell? H1.size 1 = some (.int .i64 l.b) := Z7 (cs := [.int .i64 l.a, .int .i64 l.b, .int .i64 l.cost, .int .u64 l.n]) g2
 have call1 : ∀ k, k < ns.length → ACalls Tryz.prog 83 (#[.int .i64 (k : Nat)] ++ #[.pointer (some ⟨H.size, 0, none⟩), .pointer (some ⟨H1.size, 0, none⟩)]) H2 (fun r H' => r = .bool (if h : k < ns.length then decide (l.b ≤ ns[k].a) else true) ∧ H' = H2) := fun k hk =>
  ACalls.pure (R := fun r => r = .bool (if h : k < ns.length then decide (l.b ≤ ns[k].a) else true)) (fun v h => by rw [h]; rfl) ((weighed1_raw ns An cn k l.b H.size H1.size H2.ro (cell_ro c1) (cell_ro c2) (hn2.mono H2.sees_ro) hk (by show H.size < H2.size; omega) (by show H1.size < H2.size; omega)).mono fun r _ h => by rw [h, dif_pos hk])
 have mono1 : ∀ a b, a ≤ b → b < ns.length → (if h : a < ns.length then decide (l.b ≤ ns[a].a) else true) = true → (if h : b < ns.length then decide (l.b ≤ ns[b].a) else true) = true := fun a b hab hb h => by
  rw [dif_pos (by omega)] at h ⊢
  rcases Nat.lt_or_eq_of_le hab with h1 | h1
  ·have := hmono a b (by omega) hb h1
   have := of_decide_eq_true h
   exact decide_eq_true (by omega)
  ·subst h1; exact h
 refine Xu ?_
 refine Xa (Xk Xm Tryz.underlying83 Xm Xp) ?_
 refine Xa (Ys rfl Tryz.underlying83) ?_
 refine Xa (av_makeFunc2 (vs := [.pointer (some ⟨H.size, 0, none⟩), .pointer (some ⟨H1.size, 0, none⟩)]) (by simp [Fr.put, Fr.eval, e3])) ?_
 refine Xw (Xy (Search_gen ns.length 83 _ #[.pointer (some ⟨H.size, 0, none⟩), .pointer (some ⟨H1.size, 0, none⟩)] (fun k => if h : k < ns.length then decide (l.b ≤ ns[k].a) else true) H2 Tryz.func83 rfl rfl call1 mono1 (by omega)) rfl Tryz.func82 rfl rfl rfl ?_)
 rintro v6 H2 ⟨⟨m, rfl, hm, hm1, hm2⟩, rfl⟩
 refine Xa (Xi rfl) ?_
 refine Xe ?_
 have hmj : m = j := by
  rcases Nat.lt_trichotomy m j with h | h | h
  ·have h1 := hm2 m (Nat.le_refl _) (by omega)
   rw [dif_pos (by omega)] at h1
   have := of_decide_eq_true h1
   have := hmono m j (by omega) hj h
   omega
  ·exact h
  ·have h1 := hm1 j h
   rw [dif_pos hj] at h1
   have := of_decide_eq_false h1
   omega
 subst hmj
 have hnode : nodeOf ns l.b = ns[m] := nodeOf_at hj hya fun k hk h e => by
  have h1 := hm1 k hk
  rw [dif_pos h] at h1
  have := of_decide_eq_false h1
  omega
 obtain ⟨hc0, hc1, hc2⟩ := hcn ns[m] (List.getElem_mem hj)
 obtain ⟨bn, on, eN, hbn, hcelln⟩ := hn2.link_at hj
 subst eN
 have hcelln2 := hcelln 2 _ rfl
 have hcelln3 := hcelln 3 _ rfl
 refine Yy (by kernel_rfl) (Y4 (B := [0, 1, 0, 0, 12, 28, 60, 127, 255, 511]) (π := [0, 1, 2, 3, 4, 5, 6, 7, 8, 9]) (by kernel_rfl)) ?_
 refine Xd rfl rfl (Xf (off := 2) rfl Tryz.underlying96 rfl inf3.size (by decide) rfl) Xq ?_
 refine Xd rfl rfl (Xk rfl Tryz.underlying3 rfl Xp) Xq ?_
 refine Xd rfl rfl (Xk Xm Tryz.underlying83 Xm Xp) Xq ?_
 refine Xd rfl rfl (Xb rfl) Xq ?_
 refine Xd rfl rfl (Xt rfl rfl Tryz.underlying83 inf96.size X6 X6) Xq ?_
 refine Xd rfl rfl (Xf (off := 2) rfl Tryz.underlying96 rfl inf3.size (by decide) rfl) Xq ?_
 refine Xd rfl rfl (Xk rfl Tryz.underlying3 rfl Xp) Xq ?_
 refine Xd rfl rfl (Yn rfl rfl Y0) Xq ?_
 refine Xd rfl rfl (Xf (off := 2) rfl Tryz.underlying96 rfl inf3.size (by decide) rfl) Xq ?_
 first | refine Ym rfl rfl (Y3 rfl rfl rfl inf3.size Yd Yg rfl ?_)
 refine ⟨Yk, ?_⟩
 refine Xe ?_
 obtain ⟨H3, hH3⟩ : ∃ H3, H3 = H2.put H1.size (.own 0 [.int .i64 l.a, .int .i64 l.b, .int .i64 (l.cost + ns[m].cost), .int .u64 l.n]) := ⟨_, rfl⟩
 have g3 : H3.get H1.size = .own 0 [.int .i64 l.a, .int .i64 l.b, .int .i64 (l.cost + ns[m].cost), .int .u64 l.n] := by rw [hH3]; exact Hp.put_same _ _ _
 have hn3 : Sl kLink H3 (.slice (some ⟨bn, on, none⟩) ns.length cn) ns := by rw [hH3]; exact hn2.mono (Hp.sees_box _ g2)
 have hb3 : H3.get H.size = .own 0 [.slice (some ⟨bn, on, none⟩) ns.length cn] := by rw [hH3, Hp.put_other _ _ (by omega)]; exact hb2
 have z3 : H3.size = H2.size := by rw [hH3]; simp
 change ACode true _ _ _ _ _ (H2.put H1.size (.own 0 [.int .i64 l.a, .int .i64 l.b, .int .i64 (l.cost + ns[m].cost), .int .u64 l.n]))
 rw [← hH3]
 obtain ⟨bn2, on2, eN2, hbn3, hcell3⟩ := hn3.link_at hj
 simp only [Option.some.injEq, Addr.mk.injEq, and_true] at eN2
 obtain ⟨rfl, rfl⟩ := eN2
 have hcell32 := hcell3 3 _ rfl
 refine Yy (by kernel_rfl) (Y4 (B := [0, 1, 0, 0, 12, 28, 60, 127, 255, 511]) (π := [0, 1, 2, 3, 4, 5, 6, 7, 8, 9]) (by kernel_rfl)) ?_
 refine Xd rfl rfl (Xf (off := 3) rfl Tryz.underlying96 rfl inf30.size (by decide) rfl) Xq ?_
 refine Xd rfl rfl (Xk rfl Tryz.underlying30 rfl Xp) Xq ?_
 refine Xd rfl rfl (Xk Xm Tryz.underlying83 Xm Xp) Xq ?_
 refine Xd rfl rfl (Xb rfl) Xq ?_
 refine Xd rfl rfl (Xt rfl rfl Tryz.underlying83 inf96.size X6 X6) Xq ?_
 refine Xd rfl rfl (Xf (off := 3) rfl Tryz.underlying96 rfl inf30.size (by decide) rfl) Xq ?_
 refine Xd rfl rfl (Xk rfl Tryz.underlying30 rfl Xp) Xq ?_
 refine Ym rfl rfl (Xy (Times_u64 l.n ns[m].n hl2 hc2 _) rfl Tryz.func84 rfl rfl rfl ?_)
 rintro v7 H3 ⟨rfl, rfl⟩
 refine ⟨Yk, ?_⟩
 refine Xd rfl rfl (Xf (off := 3) rfl Tryz.underlying96 rfl inf30.size (by decide) rfl) Xq ?_
 first | refine Ym rfl rfl (Y3 rfl rfl rfl inf30.size Yd Yg rfl ?_)
 refine ⟨Yk, ?_⟩
 obtain ⟨H4, hH4⟩ : ∃ H4, H4 = H3.put H1.size (.own 0 [.int .i64 l.a, .int .i64 l.b, .int .i64 (l.cost + ns[m].cost), .int .u64 (Zi l.n ns[m].n)]) := ⟨_, rfl⟩
 obtain ⟨G4, hG4⟩ : ∃ G4, G4 = (G2.put H1.size (.own 0 [.int .i64 l.a, .int .i64 l.b, .int .i64 (l.cost + ns[m].cost), .int .u64 l.n])).put H1.size (.own 0 [.int .i64 l.a, .int .i64 l.b, .int .i64 (l.cost + ns[m].cost), .int .u64 (Zi l.n ns[m].n)]) := ⟨_, rfl⟩
 have hown4 : OwnP kLink G4 H4 (.slice B i c5) ((ls.take i).map (Ug ns)) := by
  rw [hH4, hH3, hG4]
  exact (hown2.box_put kg2 [.int .i64 l.a, .int .i64 l.b, .int .i64 (l.cost + ns[m].cost), .int .u64 l.n]).box_put (Hp.put_same _ _ _) [.int .i64 l.a, .int .i64 l.b, .int .i64 (l.cost + ns[m].cost), .int .u64 (Zi l.n ns[m].n)]
 have g4 : H4.get H1.size = .own 0 [.int .i64 l.a, .int .i64 l.b, .int .i64 (l.cost + ns[m].cost), .int .u64 (Zi l.n ns[m].n)] := by rw [hH4]; exact Hp.put_same _ _ _
 have hle4 : (H.push (.own 0 [.slice (some ⟨bn, on, none⟩) ns.length cn])).le G4 := by rw [hG4]; exact Hp.le_put_new (Hp.le_put_new hle2 (by simp; omega) _) (by simp; omega) _
 change ACode true _ _ _ _ _ (H3.put H1.size (.own 0 [.int .i64 l.a, .int .i64 l.b, .int .i64 (l.cost + ns[m].cost), .int .u64 (Zi l.n ns[m].n)]))
 rw [← hH4]
 refine Xu ?_
 refine Xa (X1 Xm) ?_
 refine Xa (Yl (cs := [.int .i64 _, .int .i64 _, .int .i64 _, .int .u64 _]) rfl Tryz.underlying96 rfl inf96.size X8) ?_
 first | refine Xz (Yh (r := [.int .i64 _, .int .i64 _, .int .i64 _, .int .u64 _]) Tryz.underlying83 inf96.size inf96.zero rfl (by decide) (by decide) (by decide) rfl) ?_
 have hlen : ((ls.take i).map (Ug ns)).length = i := by rw [List.length_map, List.length_take]; omega
 have hw : Ug ns l = ⟨l.a, l.b, l.cost + ns[m].cost, Zi l.n ns[m].n⟩ := by unfold Ug; rw [hnode]
 refine Xw (OwnP.append (ys := [Ug ns l]) (hown4.push _) Tryz.underlying83 inf96 rfl rfl rfl (Zo (k := kLink) (by rw [hw]; rfl) rfl hown4.size rfl) (by rw [hlen]; simp only [List.length_singleton]; omega) (by rw [hlen]; simp only [List.length_singleton]; omega) ?_)
 rintro v8 G8 H8 hle8 hown8
 obtain ⟨B8, c8, e8⟩ := hown8.shape
 rw [List.length_append, hlen, List.length_singleton] at e8
 subst e8
 rw [hl', ← List.map_singleton, ← List.map_append, Y9 hix] at hown8
 refine Xa (Yc rfl) ?_
 refine Xu ?_
 refine Xa (Yn Xm Xm Y0) ?_
 refine Xa (Xb rfl) ?_
 exact ⟨ls.length - (i + 1), by omega, i + 1, G8, B8, c8, by omega, rfl, Hp.le_trans (Hp.le_push' hle4 _) hle8, hown8, e3, rfl, e9, e10, rfl⟩
 intro hc1
 (try simp only [Yt] at hc1)
 refine Yx ?_
 refine Xe ?_
 refine Xu ?_
 refine Xa (X1 Xm) ?_
 refine Xa (Yc rfl) ?_
 refine X2 ?_
 have h2 : (ls.take i).map (Ug ns) = ls.map (Ug ns) := by rw [List.take_of_length_le (by omega)]
 rw [h2] at hown
 exact ⟨_, Xx (Xs rfl), G, leH, hown⟩
def RiseA (xs : List Link) : Prop := ∀ (i j : Nat) (hi : i < xs.length) (hj : j < xs.length), i ≤ j → xs[i].a ≤ xs[j].a
theorem filter_mid {xs : List Link} {a : Int} {lo hi : Nat} (h1 : lo ≤ xs.length) (h2 : hi ≤ xs.length) (hlo : ∀ (i : Nat) (h : i < xs.length), i < lo → ¬ a ≤ xs[i].a) (hlo2 : ∀ (i : Nat) (h : i < xs.length), lo ≤ i → a ≤ xs[i].a) (hhi : ∀ (i : Nat) (h : i < xs.length), i < hi → ¬ a < xs[i].a) (hhi2 : ∀ (i : Nat) (h : i < xs.length), hi ≤ i → a < xs[i].a) :
  lo ≤ hi ∧ (xs.take hi).drop lo = xs.filter fun x => decide (x.a = a) := by
 have hle : lo ≤ hi := by
  rcases Nat.lt_or_ge hi lo with h | h
  ·have a1 := hlo hi (by omega) h
   have a2 := hhi2 hi (by omega) (Nat.le_refl _)
   omega
  ·exact h
 refine ⟨hle, ?_⟩
 have e : xs = xs.take lo ++ ((xs.take hi).drop lo ++ xs.drop hi) := by
  have : (xs.take hi).drop lo ++ xs.drop hi = xs.drop lo := by
   rw [List.drop_take, show xs.drop hi = (xs.drop lo).drop (hi - lo) by rw [List.drop_drop]; congr 1; omega]
   exact List.take_append_drop _ _
  rw [this]; exact (List.take_append_drop _ _).symm
 have f1 : (xs.take lo).filter (fun x => decide (x.a = a)) = [] := by
  rw [List.filter_eq_nil_iff]
  intro x hx
  obtain ⟨i, hi1, rfl⟩ := List.getElem_of_mem hx
  rw [List.length_take] at hi1
  rw [List.getElem_take]
  have := hlo i (by omega) (by omega)
  simp; omega
 have f2 : (xs.drop hi).filter (fun x => decide (x.a = a)) = [] := by
  rw [List.filter_eq_nil_iff]
  intro x hx
  obtain ⟨i, hi1, rfl⟩ := List.getElem_of_mem hx
  rw [List.length_drop] at hi1
  rw [List.getElem_drop]
  have := hhi2 (hi + i) (by omega) (by omega)
  simp; omega
 have f3 : ((xs.take hi).drop lo).filter (fun x => decide (x.a = a)) = (xs.take hi).drop lo := by
  rw [List.filter_eq_self]
  intro x hx
  obtain ⟨i, hi1, rfl⟩ := List.getElem_of_mem hx
  rw [List.length_drop, List.length_take] at hi1
  rw [List.getElem_drop, List.getElem_take]
  have a1 := hlo2 (lo + i) (by omega) (by omega)
  have a2 := hhi (lo + i) (by omega) (by omega)
  simp; omega
 have := congrArg (List.filter fun x => decide (x.a = a)) e
 rw [List.filter_append, List.filter_append, f1, f2, f3, List.nil_append, List.append_nil] at this
 exact this.symm
end Go.Proofs.YtmakkmcjocjgmaaGreat.Am
