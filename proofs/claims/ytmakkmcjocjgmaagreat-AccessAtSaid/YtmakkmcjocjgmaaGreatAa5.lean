/- Texts that the proof rests on, part 5: lemmas for every heap that is related to a world, no condition beyond each lemma's own. -/
import Derived.Test.YtmakkmcjocjgmaaGreatAa4
import Derived.Test.YtmakkmcjocjgmaaGreatAa3
import Derived.Test.YtmakkmcjocjgmaaGreatAaTy
import Derived.Test.YtmakkmcjocjgmaaGreatAaOwnL
import Derived.Test.YtmakkmcjocjgmaaGreatAaGrow

/- A tree is made. -/
namespace Go.Proofs.YtmakkmcjocjgmaaGreat.Am
open Go Go.RowKit
set_option maxRecDepth 100000
set_option linter.unusedVariables false
set_option linter.unusedSimpArgs false

set_option maxHeartbeats 4000000 in
theorem New_tree (f : Forest) (p : Parts) (cs ds : List Value) (H : Hp) (hp : kForest.rep H f cs) (hq : kParts.rep H p ds) (hsm : Small f p) (hch : GoodP f p → Cheap p) :
    ACalls Tryz.prog 13 #[.agg cs.toArray, .agg ds.toArray] H (fun r H' => H.le H' ∧ ∃ (g : Bool) (v : Value), (g = true ↔ GoodP f p) ∧ r = .tuple #[v, .int .i64 (if g = true then 0 else 1)] ∧ (if g = true then TreeR H' v (Y4 f (Ua f p)) else v = .pointer none)) := by
  have hp0 := hp
  have hq0 := hq
  obtain ⟨v0, v1, v2, v3, v4, rfl, hs0, hs1, hs2, hs3, hs4⟩ := hp
  obtain ⟨A0, c0, rfl⟩ := hs0.shape
  obtain ⟨A1, c1, rfl⟩ := hs1.shape
  obtain ⟨A2, c2, rfl⟩ := hs2.shape
  obtain ⟨A3, c3, rfl⟩ := hs3.shape
  obtain ⟨A4, c4, rfl⟩ := hs4.shape
  obtain ⟨u0, u1, rfl, hn0, hn1⟩ := hq
  obtain ⟨B0, d0, rfl⟩ := hn0.shape
  obtain ⟨B1, d1, rfl⟩ := hn1.shape
  refine Xv Tryz.func13 rfl rfl rfl (by simp) ?_
  refine Xe ?_
  refine Xc (by kernel_rfl) ?_
  refine X6 (Ys rfl) ?_
  refine X6 (Ys rfl) ?_
  refine Xa (Zg rfl) ?_
  refine Xa (Xh rfl) ?_
  refine Xe ?_
  refine Xc (by kernel_rfl) ?_
  refine Xa (Yh (cs := [.slice _ _ _, .slice _ _ _, .slice _ _ _, .slice _ _ _, .slice _ _ _]) rfl Tryz.underlying26 rfl inf26.size Yd) ?_
  refine Xa (Yh (cs := [.slice _ _ _, .slice _ _ _]) rfl Tryz.underlying29 rfl inf29.size Yd) ?_
  refine X1 (Xx (Of_parts f p _ _ _ (kForest.mono Zq hp0) (kParts.mono Zq hq0) hsm) rfl Tryz.func48 rfl rfl rfl ?_)
  rintro v5 H5 ⟨g, es, hg, rfl, hes, hle5⟩; obtain ⟨w0, w1, rfl, hm0, hm1⟩ := hes; obtain ⟨C0, k0, rfl⟩ := hm0.shape; obtain ⟨C1, k1, rfl⟩ := hm1.shape; have hz5 := hle5.1; simp only [Hp.push_size] at hz5; have g51 : H5.get (H.size + 1) = .own 0 [.slice B0 p.nodes.length d0, .slice B1 p.links.length d1] := Xt hle5 (by simp) (by intro e; cases e) Yj
  refine Xa (Zk rfl) ?_
  refine Xa (Yn rfl rfl) ?_
  refine Xa (Yn rfl rfl) ?_
  refine X1 (Yo (vs := [.slice _ _ _, .slice _ _ _]) rfl rfl inf29.size Yj Yl rfl rfl ?_)
  refine Xa (Xh rfl) ?_
  refine Xe ?_
  refine Xe ?_
  refine Xc (by kernel_rfl) ?_
  refine Xa (Xb rfl) ?_
  refine Xa (Z8 rfl rfl) ?_
  refine X4 rfl rfl ?_ ?_
  intro hc1
  obtain rfl : g = false := by cases g with | false => rfl | true => exact absurd hc1 (by simp)
  refine Xe ?_
  refine Xc (by kernel_rfl) ?_
  refine Xa (Xb rfl) ?_
  refine Xa (Zg rfl) ?_
  refine Xa (Xh rfl) ?_
  refine X5 ?_
  exact ⟨_, Zl (Xu rfl) (Xu rfl), Hp.le_put_new (Hp.le_trans (Hp.le_push' (H.le_push _) _) hle5) (Nat.le_succ _) _, false, .pointer none, hg, rfl, by simp⟩
  intro hc1
  obtain rfl : g = true := by cases g with | true => rfl | false => exact absurd hc1 (by simp)
  refine X7 ?_
  refine Xe ?_
  have hG := hg.1 rfl
  obtain ⟨k1', k2', k3', k4'⟩ := V9 hG
  have hXg := ofP_good hG
  have hcx := (hch hG).sub k2'
  simp only [if_true] at hm0 hm1
  obtain ⟨X, hX⟩ : ∃ X, X = Ua f p := ⟨_, rfl⟩
  rw [← hX] at k1' k2' k3' hXg hcx hm0 hm1
  rw [← hX]
  have hlens5 : ∀ l ∈ X.nodes, l.length ≤ 1000000 := fun l hm => by
    obtain ⟨i, hi, rfl⟩ := List.getElem_of_mem hm
    have h1 := (k2' i).1.length_le
    unfold nd at h1
    rw [Zb hi] at h1
    exact Nat.le_trans h1 (Vp hsm.s5 i)
  have hlens6 : ∀ l ∈ X.links, l.length ≤ 1000000 := fun l hm => by
    obtain ⟨i, hi, rfl⟩ := List.getElem_of_mem hm
    have h1 := (k2' i).2.length_le
    unfold lk at h1
    rw [Zb hi] at h1
    exact Nat.le_trans h1 (Vp hsm.s6 i)
  obtain ⟨T, hT⟩ : ∃ T, T = Y4 f X := ⟨_, rfl⟩
  obtain ⟨tl1, tl2, tl3⟩ := Ub (f := f) X
  have tat := fun {i : Nat} (hi : i < f.order.length) => treeOf_at (f := f) X hi
  rw [← hT] at tl1 tl2 tl3
  simp only [← hT] at tat
  rw [← hT]
  obtain ⟨K, hK⟩ : ∃ K, K = H5.put (H.size + 1) (.own 0 [.slice C0 X.nodes.length k0, .slice C1 X.links.length k1]) := ⟨_, rfl⟩
  have s5K : H5.sees K := by rw [hK]; exact Hp.sees_box _ g51
  have leK : H.le K := by rw [hK]; exact Hp.le_put_new (Hp.le_trans (Hp.le_push' (H.le_push _) _) hle5) (by omega) _
  have zK : H.size + 2 ≤ K.size := by rw [hK]; simp; omega
  have gK0 : K.get H.size = .own 0 [.slice A0 f.vars.length c0, .slice A1 f.order.length c1, .slice A2 f.parent.length c2, .slice A3 f.links.length c3, .slice A4 f.loops.length c4] := by rw [hK, Hp.put_other _ _ (by omega)]; exact Xt hle5 (by simp; omega) (by intro e; cases e) Yj
  have gK1 : K.get (H.size + 1) = .own 0 [.slice C0 X.nodes.length k0, .slice C1 X.links.length k1] := by rw [hK]; exact Hp.put_same _ _ _
  have m0K := hm0.mono s5K
  have m1K := hm1.mono s5K
  have s0K := hs0.mono leK.sees
  have s1K := hs1.mono leK.sees
  have s2K := hs2.mono leK.sees
  have hol : f.order.length = f.vars.length := hG.gf.l1
  have hpl : f.parent.length = f.vars.length := hG.gf.l2
  have hs0' := hsm.s0
  have hxn := k1'.1
  have hxl := k1'.2
  change ACode true _ _ _ _ _ (H5.put (H.size + 1) (.own 0 [.slice C0 X.nodes.length k0, .slice C1 X.links.length k1]))
  rw [← hK]
  clear hK s5K hm0 hm1 hle5 g51 hz5 hn0 hn1 hq0 hp0 hs3 hs4
  refine Xc (by kernel_rfl) ?_
  refine X6 (am_makeMap) ?_
  refine Xa (Zc (pl := [(0, 1), (1, 1), (2, 1), (3, 1)]) (r := [.slice _ _ _, .slice _ _ _, .slice _ _ _, .map _]) Tryz.underlying91 inf91.zero (by decide) rfl rfl) ?_
  refine X6 (Ys rfl) ?_
  refine Xa (Zg rfl) ?_
  refine Xe ?_
  refine Xe ?_
  refine Xc (by kernel_rfl) ?_
  refine Xa (Xi (off := 1) rfl Tryz.underlying26 rfl inf23.size (by decide) rfl) ?_
  refine Xa (Xm rfl Tryz.underlying23 rfl Xr) ?_
  refine Xa (Yk rfl Tryz.underlying23) ?_
  refine Xa (Xb rfl) ?_
  refine X8 ?_
  refine Yy (fun n t H' => ∃ (i : Nat) (G : Hp) (A B C : Value) (es : List (Value × Value)), i ≤ f.order.length ∧ n = f.order.length - i ∧ K.le G ∧ K.size + 2 ≤ G.size ∧ G.get K.size = .map es ∧ G.get (K.size + 1) = .own 0 [A, B, C, .map (some K.size)] ∧ Own3 kStr (Yz .i64) (Vx kLink) G H' A B C (T.vars.take i) (T.parent.take i) (T.links.take i) ∧ Spots T i es ∧ t 2 = .pointer (some ⟨H.size, 0, none⟩) ∧ t 3 = .pointer (some ⟨H.size + 1, 0, none⟩) ∧ t 7 = .pointer (some ⟨K.size + 1, 0, none⟩) ∧ t 24 = .slice A1 f.order.length c1 ∧ t 25 = .int .i64 f.order.length ∧ t 26 = .int .i64 i) (f.order.length) (⟨0, _, _, _, _, [], by omega, rfl, Hp.le_push' (K.le_push _) _, by simp, Yj, Yj, ⟨_, _, OwnP.nil _ _, OwnP.nil _ _, OwnP.nil _ _⟩, Spots.zero T, rfl, rfl, rfl, rfl, rfl, rfl⟩) ?_
  rintro n t H1 ⟨i, G, A, B, C, es, hi, rfl, leG, zG, gm, gt, hown, hsp, e2, e3, e7, e24, e25, e26⟩
  have leK1 := Hp.le_trans leG hown.le
  have zH1 := hown.size
  have zK1 := leK1.1
  refine Xe ?_
  refine Xc (by kernel_rfl) ?_
  refine Xa (Yx Xj Xj) ?_
  refine Xe ?_
  refine X4 rfl rfl ?_ ?_
  intro hc2
  (try simp only [decide_eq_true_eq, decide_eq_false_iff_not, Bool.not_eq_true', Bool.not_eq_false'] at hc2)
  refine X7 ?_
  refine Xe ?_
  refine X8 ?_
  refine Xe ?_
  have hix : i < f.order.length := by omega
  obtain ⟨b1, o1, rfl, hb1, hcell1⟩ := s1K.int_at (i := (i : Int)) (by omega) (by omega)
  rw [Int.toNat_natCast] at hcell1
  have hcell1' := leK1.cell1 hb1 hcell1
  obtain ⟨hwn, hwv⟩ := hG.gf.vAt_lt (s := i) (by omega)
  obtain ⟨w, hw⟩ : ∃ w : Nat, w = Vc f i := ⟨_, rfl⟩
  rw [← hw] at hwn hwv
  rw [← hwv] at hcell1'
  obtain ⟨tv, tp, tl⟩ := tat hix
  rw [← hw] at tv tp tl
  refine Xc (by kernel_rfl) ?_
  refine Xa (Xb Xj) ?_
  refine Xa (Xs Xj Xj Tryz.underlying23 inf3.size X3 X3) ?_
  refine Xa (Xm rfl Tryz.underlying3 rfl Xr) ?_
  refine Xa (Xh rfl) ?_
  refine Xa (Xh rfl) ?_
  refine Xe ?_
  obtain ⟨bn, on, ks, eN, hbn, ⟨wn, rfl, hwN⟩, hcellN⟩ := m0K.elem_at (i := w) (by have := k1'.1; omega)
  subst eN
  have hcellN' := leK1.cell1 hbn hcellN.one
  have ndw : nd X w = X.nodes[w]'(by have := k1'.1; omega) := Zb _
  rw [← ndw] at hwN
  obtain ⟨An, cn, rfl⟩ := hwN.shape
  have hnl : (nd X w).length ≤ 1000000 := by rw [ndw]; exact hlens5 _ (List.getElem_mem _)
  have gH0 := Xt leK1 (by omega) (by intro e; cases e) gK0
  have gH1 := Xt leK1 (by omega) (by intro e; cases e) gK1
  refine Xc (by kernel_rfl) ?_
  refine Xa (Xi (off := 0) Xj Tryz.underlying29 Xj inf27.size (by decide) Xj) ?_
  refine Xa (Xm rfl Tryz.underlying27 rfl Xr) ?_
  refine Xa (Xb rfl) ?_
  refine Xa (Xs rfl rfl Tryz.underlying27 inf83.size X3 X3) ?_
  refine Xa (Xm rfl Tryz.underlying83 rfl Xr) ?_
  refine Xa (X9 rfl) ?_
  refine Xe ?_
  refine Xe ?_
  obtain ⟨b2, o2, rfl, hb2, hcell2⟩ := s2K.int_at (i := (w : Int)) (by omega) (by omega)
  rw [Int.toNat_natCast] at hcell2
  have hcell2' := leK1.cell1 hb2 hcell2
  refine Xc (by kernel_rfl) ?_
  refine Xa (Xi (off := 2) Xj Tryz.underlying26 Xj inf23.size (by decide) Xj) ?_
  refine Xa (Xm rfl Tryz.underlying23 rfl Xr) ?_
  refine Xa (Xb rfl) ?_
  refine Xa (Xs rfl rfl Tryz.underlying23 inf3.size X3 X3) ?_
  refine Xa (Xm rfl Tryz.underlying3 rfl Xr) ?_
  refine Xa (Z8 rfl rfl) ?_
  refine X4 rfl rfl ?_ ?_
  intro hc3
  have hpar : par f w ≠ -1 := of_decide_eq_true hc3
  obtain ⟨bl, ol, ks, eL, hbl, ⟨wl, rfl, hwL⟩, hcellL⟩ := m1K.elem_at (i := w) (by have := k1'.2; omega)
  subst eL
  have hcellL' := leK1.cell1 hbl hcellL.one
  have lkw : lk X w = X.links[w]'(by have := k1'.2; omega) := Zb _
  rw [← lkw] at hwL
  obtain ⟨Al, cl, rfl⟩ := hwL.shape
  have hll : (lk X w).length ≤ 1000000 := by rw [lkw]; exact hlens6 _ (List.getElem_mem _)
  have hpk : Y5 f X w = (lk X w).map (Uu (nd X w)) := by unfold Y5; rw [if_neg hpar]
  have hpll : (Y5 f X w).length ≤ 1000000 := by rw [hpk, List.length_map]; exact hll
  have hrise : RiseA (Y5 f X w) := by rw [hpk]; exact rise_weigh (goodL_rise (hXg.ok w hwn).2.1)
  refine Yt (by kernel_rfl) (Y2 (B := [0, 1, 0, 7, 15, 0, 32, 0, 224, 480, 1023, 2047]) (π := [0, 1, 2, 3, 4, 5, 6, 7, 8, 9, 10, 11]) (by kernel_rfl)) ?_
  refine Xd rfl rfl (Xi (off := 1) Xj Tryz.underlying29 Xj inf27.size (by decide) Xj) Xq ?_
  refine Xd rfl rfl (Xm rfl Tryz.underlying27 rfl Xr) Xq ?_
  refine Xd rfl rfl (Xb rfl) Xq ?_
  refine Xd rfl rfl (Xs rfl rfl Tryz.underlying27 inf83.size X3 X3) Xq ?_
  refine Xd rfl rfl (Xm rfl Tryz.underlying83 rfl Xr) Xq ?_
  refine Xd rfl rfl (Xi (off := 0) Xj Tryz.underlying29 Xj inf27.size (by decide) Xj) Xq ?_
  refine Xd rfl rfl (Xm rfl Tryz.underlying27 rfl Xr) Xq ?_
  refine Xd rfl rfl (Xb rfl) Xq ?_
  refine Xd rfl rfl (Xs rfl rfl Tryz.underlying27 inf83.size X3 X3) Xq ?_
  refine Xd rfl rfl (Xm rfl Tryz.underlying83 rfl Xr) Xq ?_
  refine Yi rfl rfl (Xx (weighed_links (lk X w) (nd X w) _ _ _ (hwL.mono leK1.sees) (hwN.mono leK1.sees) hll hnl (goodL_strict (hXg.ok w hwn).1 (hXg.ok w hwn).2.2.1) (fun l hl => ((k3' w hwn hpar).ends l hl).2) (fun l hl => hcx.links w l hl) (fun l hl => hcx.nodes w l hl)) rfl Tryz.func49 rfl rfl rfl ?_)
  rintro v10 H2 ⟨Gw, hleW, hownW⟩; rw [← hpk] at hownW; obtain ⟨Aw, cw, rfl⟩ := hownW.shape; have hsl2 := hownW.sl; have hle2 := Hp.le_trans hleW hownW.le
  refine ⟨Ye, ?_⟩
  refine Xd rfl rfl (X9 rfl) Xq ?_
  refine Xe ?_
  obtain ⟨G2, hleG2, hown2⟩ := hown.later hle2
  have leG2 := Hp.le_trans leG hleG2
  have leK2 := Hp.le_trans leK1 hle2
  have g2m := Xt hleG2 (by omega) (by intro e; cases e) gm
  have g2t := Xt hleG2 (by omega) (by intro e; cases e) gt
  have z2 := hleG2.1
  have zz2 := hown2.size
  obtain ⟨Ga, hleGa, hoA, backA⟩ := (hown2.rot (stable_ints _) stable_lists).open3
  obtain ⟨AA, cA, rfl⟩ := hoA.shape
  obtain ⟨slA, slB, slC⟩ := hown2.sls
  obtain ⟨AB, cB, rfl⟩ := slB.shape
  obtain ⟨AC, cC, rfl⟩ := slC.shape
  have lenA : (T.vars.take i).length = i := by rw [List.length_take]; omega
  have lenB : (T.parent.take i).length = i := by rw [List.length_take]; omega
  have lenC : (T.links.take i).length = i := by rw [List.length_take]; omega
  have h2t := Xt hown2.le (by omega) (by intro e; cases e) g2t
  have h20 := Xt leK2 (by omega) (by intro e; cases e) gK0
  obtain ⟨bs, os, ks, eS, hbs, rfl, hcellS⟩ := s0K.elem_at (i := w) hwn
  subst eS
  have hcellS' := leK2.cell1 hbs hcellS.one
  have zoA := hoA.size
  have za := hleGa.1
  have slG2 := hown2.below (Zj _) (Zj _) (Zj _) (by decide) (by decide) (by decide) hsl2
  refine Yt (by kernel_rfl) (Y2 (B := [0, 0, 2, 6, 14, 0, 32, 0, 224, 480, 992, 2046, 4095, 8191, 16383]) (π := [0, 1, 2, 3, 4, 5, 6, 7, 8, 9, 10, 11, 12, 13, 14]) (by kernel_rfl)) ?_
  refine Xd rfl rfl (Xy Xj) Xq ?_
  refine Xd rfl rfl (Xy Xj) Xq ?_
  refine Xd rfl rfl (Yc rfl) Xq ?_
  refine Xd rfl rfl (Xi (off := 0) rfl Tryz.underlying91 rfl inf22.size (by decide) rfl) Xq ?_
  refine Xd rfl rfl (Xm rfl Tryz.underlying22 rfl Xr) Xq ?_
  refine Xd rfl rfl (Xi (off := 0) Xj Tryz.underlying26 Xj inf22.size (by decide) Xj) Xq ?_
  refine Xd rfl rfl (Xm rfl Tryz.underlying22 rfl Xr) Xq ?_
  refine Xd rfl rfl (Xb rfl) Xq ?_
  refine Xd rfl rfl (Xs rfl rfl Tryz.underlying22 inf9.size X3 X3) Xq ?_
  refine Xd rfl rfl (Xm rfl Tryz.underlying9 rfl Xr) Xq ?_
  first | refine Za rfl rfl (Yf (r := [.string _]) Tryz.underlying22 inf9.size inf9.zero rfl (by decide) (by decide) (by decide) rfl) ?_
  refine Yi rfl rfl (OwnP.append (ys := [f.vars[w]]) (hoA.push _) Tryz.underlying22 inf9 rfl rfl rfl (Zt (k := kStr) rfl rfl hoA.size rfl) (by rw [lenA]; simp only [List.length_singleton]; omega) (by rw [lenA]; simp only [List.length_singleton]; omega) ?_)
  rintro v3 G3 H3 hle3 hown3
  have hsameO := OwnP.sameO (hoA.push _) hle3 hown3
  have ev : f.vars.getD w ⟨#[]⟩ = f.vars[w] := by rw [List.getD_eq_getElem?_getD, List.getElem?_eq_getElem hwn]; rfl
  rw [← ev, take_at tv] at hown3
  obtain ⟨AA', cA', rfl⟩ := hown3.shape
  have hle3' := Hp.le_trans (Hp.le_push _ _) hle3
  obtain ⟨G4, hleG4, hown4⟩ := backA G3 H3 _ _ hle3' hown3
  have g4t := Xt hleG4 (by omega) (by intro e; cases e) g2t
  have h3t := Xt hown4.le (by have := hleG4.1; omega) (by intro e; cases e) g4t
  refine ⟨Ye, ?_⟩
  refine Xd rfl rfl (Yc rfl) Xq ?_
  refine Xd rfl rfl (Xi (off := 0) rfl Tryz.underlying91 rfl inf22.size (by decide) rfl) Xq ?_
  first | refine Yi rfl rfl (Y7 rfl rfl rfl inf22.size Yj Yl rfl ?_)
  refine ⟨Ye, ?_⟩
  refine Xe ?_
  obtain ⟨H5, hH5⟩ : ∃ H5, H5 = H3.put (K.size + 1) (.own 0 [.slice AA' (T.vars.take (i + 1)).length cA', .slice AB (T.parent.take i).length cB, .slice AC (T.links.take i).length cC, .map (some K.size)]) := ⟨_, rfl⟩
  obtain ⟨G5, hG5⟩ : ∃ G5, G5 = G4.put (K.size + 1) (.own 0 [.slice AA' (T.vars.take (i + 1)).length cA', .slice AB (T.parent.take i).length cB, .slice AC (T.links.take i).length cC, .map (some K.size)]) := ⟨_, rfl⟩
  have z4 := hleG4.1
  have hown5 := hown4.put_box (by omega) g4t [.slice AA' (T.vars.take (i + 1)).length cA', .slice AB (T.parent.take i).length cB, .slice AC (T.links.take i).length cC, .map (some K.size)]
  rw [← hG5, ← hH5] at hown5
  have leG5 : K.le G5 := by rw [hG5]; exact Hp.le_put_new (Hp.le_trans leG2 hleG4) (by omega) _
  have g5m : G5.get K.size = .map es := by rw [hG5, Hp.put_other _ _ (by omega)]; exact Xt hleG4 (by omega) (by intro e; cases e) g2m
  have g5t : G5.get (K.size + 1) = .own 0 [.slice AA' (T.vars.take (i + 1)).length cA', .slice AB (T.parent.take i).length cB, .slice AC (T.links.take i).length cC, .map (some K.size)] := by rw [hG5]; exact Hp.put_same _ _ _
  have z5 : K.size + 2 ≤ G5.size := by rw [hG5]; simp; omega
  change ACode true _ _ _ _ _ (H3.put (K.size + 1) (.own 0 [.slice AA' (T.vars.take (i + 1)).length cA', .slice AB (T.parent.take i).length cB, .slice AC (T.links.take i).length cC, .map (some K.size)]))
  rw [← hH5]
  have slG5 : Sl kLink G5 (.slice Aw (Y5 f X w).length cw) (Y5 f X w) := by
    rw [hG5]
    exact (slG2.mono hleG4.sees).mono (Hp.sees_box _ g4t)
  obtain ⟨Gb, hleGb, hoB, backB⟩ := (hown5.rot stable_lists (stable_strs _)).open3
  have leK5 := Hp.le_trans leG5 hown5.le
  have h5t := Xt hown5.le (by omega) (by intro e; cases e) g5t
  have h50 := Xt leK5 (by omega) (by intro e; cases e) gK0
  have hcell25 := leK5.cell1 hb2 hcell2
  have zoB := hoB.size
  have zz5 := hown5.size
  have zb := hleGb.1
  clear hH5 hG5 hsameO
  refine Yt (by kernel_rfl) (Y2 (B := [0, 0, 2, 6, 14, 0, 32, 0, 128, 0, 896, 1920, 4064, 8160, 16382, 32767, 65535, 131071]) (π := [0, 1, 2, 3, 4, 5, 6, 7, 8, 9, 10, 11, 12, 13, 14, 15, 16, 17]) (by kernel_rfl)) ?_
  refine Xd rfl rfl (Xy Xj) Xq ?_
  refine Xd rfl rfl (Xy Xj) Xq ?_
  refine Xd rfl rfl (Yc rfl) Xq ?_
  refine Xd rfl rfl (Xi (off := 1) rfl Tryz.underlying91 rfl inf23.size (by decide) rfl) Xq ?_
  refine Xd rfl rfl (Xm rfl Tryz.underlying23 rfl Xr) Xq ?_
  refine Xd rfl rfl (Xi (off := 1) Xj Tryz.underlying26 Xj inf23.size (by decide) Xj) Xq ?_
  refine Xd rfl rfl (Xm rfl Tryz.underlying23 rfl Xr) Xq ?_
  refine Xd rfl rfl (Xi (off := 2) Xj Tryz.underlying26 Xj inf23.size (by decide) Xj) Xq ?_
  refine Xd rfl rfl (Xm rfl Tryz.underlying23 rfl Xr) Xq ?_
  refine Xd rfl rfl (Xb rfl) Xq ?_
  refine Xd rfl rfl (Xs rfl rfl Tryz.underlying23 inf3.size X3 X3) Xq ?_
  refine Xd rfl rfl (Xm rfl Tryz.underlying3 rfl Xr) Xq ?_
  refine Yi rfl rfl (Xx (Index_ints f.order _ (par f w) _ (s1K.mono leK5.sees) (by omega)) rfl Tryz.func50 rfl rfl rfl ?_)
  rintro v6 H5 ⟨rfl, rfl⟩
  refine ⟨Ye, ?_⟩
  first | refine Za rfl rfl (Yf (r := [.int .i64 _]) Tryz.underlying23 inf3.size inf3.zero rfl (by decide) (by decide) (by decide) rfl) ?_
  refine Yi rfl rfl (OwnP.append (ys := [atI f.order (par f w)]) (hoB.push _) Tryz.underlying23 inf3 rfl rfl rfl (Zt (k := Yz .i64) rfl rfl hoB.size rfl) (by rw [lenB]; simp only [List.length_singleton]; omega) (by rw [lenB]; simp only [List.length_singleton]; omega) ?_)
  rintro v7 G7 H7 hle7 hown7
  have hsameO := OwnP.sameO (hoB.push _) hle7 hown7
  rw [take_at tp] at hown7
  obtain ⟨AB', cB', rfl⟩ := hown7.shape
  have hle7' := Hp.le_trans (Hp.le_push _ _) hle7
  obtain ⟨G8, hleG8, hown8⟩ := backB G7 H7 _ _ hle7' hown7
  have g8t := Xt hleG8 (by omega) (by intro e; cases e) g5t
  have h7t := Xt hown8.le (by have := hleG8.1; omega) (by intro e; cases e) g8t
  refine ⟨Ye, ?_⟩
  refine Xd rfl rfl (Yc rfl) Xq ?_
  refine Xd rfl rfl (Xi (off := 1) rfl Tryz.underlying91 rfl inf23.size (by decide) rfl) Xq ?_
  first | refine Yi rfl rfl (Y7 rfl rfl rfl inf23.size Yj Yl rfl ?_)
  refine ⟨Ye, ?_⟩
  refine Xe ?_
  obtain ⟨H9, hH9⟩ : ∃ H9, H9 = H7.put (K.size + 1) (.own 0 [.slice AA' (T.vars.take (i + 1)).length cA', .slice AB' (T.parent.take (i + 1)).length cB', .slice AC (T.links.take i).length cC, .map (some K.size)]) := ⟨_, rfl⟩
  obtain ⟨G9, hG9⟩ : ∃ G9, G9 = G8.put (K.size + 1) (.own 0 [.slice AA' (T.vars.take (i + 1)).length cA', .slice AB' (T.parent.take (i + 1)).length cB', .slice AC (T.links.take i).length cC, .map (some K.size)]) := ⟨_, rfl⟩
  have z8 := hleG8.1
  have hown9 := hown8.put_box (by omega) g8t [.slice AA' (T.vars.take (i + 1)).length cA', .slice AB' (T.parent.take (i + 1)).length cB', .slice AC (T.links.take i).length cC, .map (some K.size)]
  rw [← hG9, ← hH9] at hown9
  have leG9 : K.le G9 := by rw [hG9]; exact Hp.le_put_new (Hp.le_trans leG5 hleG8) (by omega) _
  have g9m : G9.get K.size = .map es := by rw [hG9, Hp.put_other _ _ (by omega)]; exact Xt hleG8 (by omega) (by intro e; cases e) g5m
  have g9t : G9.get (K.size + 1) = .own 0 [.slice AA' (T.vars.take (i + 1)).length cA', .slice AB' (T.parent.take (i + 1)).length cB', .slice AC (T.links.take i).length cC, .map (some K.size)] := by rw [hG9]; exact Hp.put_same _ _ _
  have z9 : K.size + 2 ≤ G9.size := by rw [hG9]; simp; omega
  change ACode true _ _ _ _ _ (H7.put (K.size + 1) (.own 0 [.slice AA' (T.vars.take (i + 1)).length cA', .slice AB' (T.parent.take (i + 1)).length cB', .slice AC (T.links.take i).length cC, .map (some K.size)]))
  rw [← hH9]
  have slG9 : Sl kLink G9 (.slice Aw (Y5 f X w).length cw) (Y5 f X w) := by
    rw [hG9]
    exact (slG5.mono hleG8.sees).mono (Hp.sees_box _ g8t)
  have hsl9 := slG9.mono hown9.le.sees
  have h9t := Xt hown9.le (by omega) (by intro e; cases e) g9t
  have zz9 := hown9.size
  clear hH9 hG9 hsameO
  refine Yt (by kernel_rfl) (Y2 (B := [0, 0, 2, 6, 14, 0, 32, 96, 254, 511, 1023, 2047]) (π := [0, 1, 2, 3, 4, 5, 6, 7, 8, 9, 10, 11]) (by kernel_rfl)) ?_
  refine Xd rfl rfl (Xy Xj) Xq ?_
  refine Xd rfl rfl (Xy Xj) Xq ?_
  refine Xd rfl rfl (Yc rfl) Xq ?_
  refine Xd rfl rfl (Xi (off := 2) rfl Tryz.underlying91 rfl inf27.size (by decide) rfl) Xq ?_
  refine Xd rfl rfl (Xm rfl Tryz.underlying27 rfl Xr) Xq ?_
  refine Xd rfl rfl (X0 rfl) Xq ?_
  refine Yi rfl rfl (Xx (Clone_links _ _ _ hsl9 hpll) rfl Tryz.func51 rfl rfl rfl ?_)
  rintro v10 H10 ⟨G10', hle10, hownL⟩; obtain ⟨AL, cL, rfl⟩ := hownL.shape; have hle10' := Hp.le_trans hle10 hownL.le; obtain ⟨G10, hleG10, hown10⟩ := hown9.later hle10'; have slL := hown10.below (Zj _) (Zj _) (Zj _) (by decide) (by decide) (by decide) hownL.sl; obtain ⟨Gc, hleGc, hoC, backC⟩ := (hown10.rot (stable_strs _) (stable_ints _)).open3; have slLc := slL.mono hleGc.sees; have zoC := hoC.size; have h10t := Xt hle10' (by omega) (by intro e; cases e) h9t; have z10 := hleG10.1; have zc := hleGc.1
  refine ⟨Ye, ?_⟩
  refine Za rfl rfl (Yf (r := [.slice _ _ _]) Tryz.underlying27 inf83.size inf83.zero rfl (by decide) (by decide) (by decide) rfl) ?_
  refine Yi rfl rfl (OwnP.append (ys := [Y5 f X w]) (hoC.push _) Tryz.underlying27 inf83 rfl rfl rfl (Zt (k := Vx kLink) ⟨_, rfl, slLc⟩ rfl hoC.size rfl) (by rw [lenC]; simp only [List.length_singleton]; omega) (by rw [lenC]; simp only [List.length_singleton]; omega) ?_)
  rintro v11 G11 H11 hle11 hown11
  have hsameO := OwnP.sameO (hoC.push _) hle11 hown11
  rw [take_at tl] at hown11
  obtain ⟨AC', cC', rfl⟩ := hown11.shape
  have hle11' := Hp.le_trans (Hp.le_push _ _) hle11
  obtain ⟨G12, hleG12, hown12⟩ := backC G11 H11 _ _ hle11' hown11
  have g10t := Xt hleG10 (by omega) (by intro e; cases e) g9t
  have g12t := Xt hleG12 (by omega) (by intro e; cases e) g10t
  have h11t := Xt hown12.le (by have := hleG12.1; omega) (by intro e; cases e) g12t
  refine ⟨Ye, ?_⟩
  refine Xd rfl rfl (Yc rfl) Xq ?_
  refine Xd rfl rfl (Xi (off := 2) rfl Tryz.underlying91 rfl inf27.size (by decide) rfl) Xq ?_
  first | refine Yi rfl rfl (Y7 rfl rfl rfl inf27.size Yj Yl rfl ?_)
  refine ⟨Ye, ?_⟩
  obtain ⟨H13, hH13⟩ : ∃ H13, H13 = H11.put (K.size + 1) (.own 0 [.slice AA' (T.vars.take (i + 1)).length cA', .slice AB' (T.parent.take (i + 1)).length cB', .slice AC' (T.links.take (i + 1)).length cC', .map (some K.size)]) := ⟨_, rfl⟩
  obtain ⟨G13, hG13⟩ : ∃ G13, G13 = G12.put (K.size + 1) (.own 0 [.slice AA' (T.vars.take (i + 1)).length cA', .slice AB' (T.parent.take (i + 1)).length cB', .slice AC' (T.links.take (i + 1)).length cC', .map (some K.size)]) := ⟨_, rfl⟩
  have z12 := hleG12.1
  have hown13 := hown12.put_box (by omega) g12t [.slice AA' (T.vars.take (i + 1)).length cA', .slice AB' (T.parent.take (i + 1)).length cB', .slice AC' (T.links.take (i + 1)).length cC', .map (some K.size)]
  rw [← hG13, ← hH13] at hown13
  have leG13 : K.le G13 := by rw [hG13]; exact Hp.le_put_new (Hp.le_trans leG9 (Hp.le_trans hleG10 hleG12)) (by omega) _
  have g13m : G13.get K.size = .map es := by rw [hG13, Hp.put_other _ _ (by omega)]; exact Xt (Hp.le_trans hleG10 hleG12) (by omega) (by intro e; cases e) g9m
  have g13t : G13.get (K.size + 1) = .own 0 [.slice AA' (T.vars.take (i + 1)).length cA', .slice AB' (T.parent.take (i + 1)).length cB', .slice AC' (T.links.take (i + 1)).length cC', .map (some K.size)] := by rw [hG13]; exact Hp.put_same _ _ _
  have z13 : K.size + 2 ≤ G13.size := by rw [hG13]; simp; omega
  change ACode true _ _ _ _ _ (H11.put (K.size + 1) (.own 0 [.slice AA' (T.vars.take (i + 1)).length cA', .slice AB' (T.parent.take (i + 1)).length cB', .slice AC' (T.links.take (i + 1)).length cC', .map (some K.size)]))
  rw [← hH13]
  have h13t := Xt hown13.le (by omega) (by intro e; cases e) g13t
  have h13m := Xt hown13.le (by omega) (by intro e; cases e) g13m
  have zz13 := hown13.size
  obtain ⟨sl1, sl2, sl3⟩ := hown13.sls
  clear hH13 hG13 hsameO
  have eP : (T.parent.take (i + 1)).getD i 0 = T.parent.getD i 0 := by rw [List.getD_eq_getElem?_getD, List.getD_eq_getElem?_getD, List.getElem?_take, if_pos (by omega)]
  have hiL : i < (T.links.take (i + 1)).length := by rw [List.length_take]; omega
  have eL : (T.links.take (i + 1))[i]'hiL = Y5 f X w := by
    rw [List.getElem_take]
    exact (List.getElem?_eq_some_iff.1 tl).2
  have eL2 : T.links.getD i [] = Y5 f X w := by rw [List.getD_eq_getElem?_getD, tl]; rfl
  refine Xc (by kernel_rfl) ?_
  refine Xa (Xy Xj) ?_
  refine Xa (Xb rfl) ?_
  refine X1 (Xx (group_tree (b := K.size + 1) (mb := K.size) (by omega) (by omega) h13t sl2 sl3 h13m i hiL (by rw [List.length_take]; omega) (by rw [eL]; exact hpll) (fun _ => by rw [eL]; exact hrise) hsp.keys (fun a => hsp.none i a (Nat.le_refl _))) rfl Tryz.func52 rfl rfl rfl ?_)
  rintro v14 H14 ⟨es', rfl, hes'⟩
  refine Xc (by kernel_rfl) ?_
  refine Xa (Yg Xj Xj Yp) ?_
  refine Xa (Xb rfl) ?_
  refine ⟨f.order.length - (i + 1), by omega, i + 1, G13.put K.size (.map es'), _, _, _, es', by omega, rfl, Hp.le_put_new leG13 (Nat.le_refl _) _, by simp; omega, Hp.put_same _ _ _, by rw [Hp.put_other _ _ (by omega)]; exact g13t, hown13.put_map (by omega) g13m es', hsp.step ?_, e2, e3, e7, e24, e25, rfl⟩
  rw [eP, eL] at hes'
  rw [eL2]
  exact hes'
  intro hc3
  have hpar : par f w = -1 := Decidable.not_not.1 (of_decide_eq_false hc3)
  have hpk : Y5 f X w = nd X w := by unfold Y5; rw [if_pos hpar]
  have hpll : (Y5 f X w).length ≤ 1000000 := by rw [hpk]; exact hnl
  have hrise : RiseA (Y5 f X w) := by rw [hpk]; exact goodL_rise (hXg.ok w hwn).1
  obtain ⟨w10, hw10⟩ : ∃ w10, w10 = Value.slice An (nd X w).length cn := ⟨_, rfl⟩
  have hle2 := Hp.le_refl H1
  have hsl2 : Sl kLink H1 (.slice An (Y5 f X w).length cn) (Y5 f X w) := by rw [hpk]; exact hwN.mono leK1.sees
  rw [← hpk]
  obtain ⟨H2, e2'⟩ : ∃ H2, H2 = H1 := ⟨_, rfl⟩
  subst e2'
  obtain ⟨Aw, cw, eAw, eCw⟩ : ∃ Aw cw, Aw = An ∧ cw = cn := ⟨_, _, rfl, rfl⟩
  subst eAw
  subst eCw
  refine X7 ?_
  refine Xe ?_
  obtain ⟨G2, hleG2, hown2⟩ := hown.later hle2
  have leG2 := Hp.le_trans leG hleG2
  have leK2 := Hp.le_trans leK1 hle2
  have g2m := Xt hleG2 (by omega) (by intro e; cases e) gm
  have g2t := Xt hleG2 (by omega) (by intro e; cases e) gt
  have z2 := hleG2.1
  have zz2 := hown2.size
  obtain ⟨Ga, hleGa, hoA, backA⟩ := (hown2.rot (stable_ints _) stable_lists).open3
  obtain ⟨AA, cA, rfl⟩ := hoA.shape
  obtain ⟨slA, slB, slC⟩ := hown2.sls
  obtain ⟨AB, cB, rfl⟩ := slB.shape
  obtain ⟨AC, cC, rfl⟩ := slC.shape
  have lenA : (T.vars.take i).length = i := by rw [List.length_take]; omega
  have lenB : (T.parent.take i).length = i := by rw [List.length_take]; omega
  have lenC : (T.links.take i).length = i := by rw [List.length_take]; omega
  have h2t := Xt hown2.le (by omega) (by intro e; cases e) g2t
  have h20 := Xt leK2 (by omega) (by intro e; cases e) gK0
  obtain ⟨bs, os, ks, eS, hbs, rfl, hcellS⟩ := s0K.elem_at (i := w) hwn
  subst eS
  have hcellS' := leK2.cell1 hbs hcellS.one
  have zoA := hoA.size
  have za := hleGa.1
  have slG2 := hown2.below (Zj _) (Zj _) (Zj _) (by decide) (by decide) (by decide) hsl2
  refine Yt (by kernel_rfl) (Y2 (B := [0, 0, 2, 6, 14, 0, 32, 0, 224, 480, 992, 2046, 4095, 8191, 16383]) (π := [0, 1, 2, 3, 4, 5, 6, 7, 8, 9, 10, 11, 12, 13, 14]) (by kernel_rfl)) ?_
  refine Xd rfl rfl (Xy Xj) Xq ?_
  refine Xd rfl rfl (Xy Xj) Xq ?_
  refine Xd rfl rfl (Yc rfl) Xq ?_
  refine Xd rfl rfl (Xi (off := 0) rfl Tryz.underlying91 rfl inf22.size (by decide) rfl) Xq ?_
  refine Xd rfl rfl (Xm rfl Tryz.underlying22 rfl Xr) Xq ?_
  refine Xd rfl rfl (Xi (off := 0) Xj Tryz.underlying26 Xj inf22.size (by decide) Xj) Xq ?_
  refine Xd rfl rfl (Xm rfl Tryz.underlying22 rfl Xr) Xq ?_
  refine Xd rfl rfl (Xb rfl) Xq ?_
  refine Xd rfl rfl (Xs rfl rfl Tryz.underlying22 inf9.size X3 X3) Xq ?_
  refine Xd rfl rfl (Xm rfl Tryz.underlying9 rfl Xr) Xq ?_
  first | refine Za rfl rfl (Yf (r := [.string _]) Tryz.underlying22 inf9.size inf9.zero rfl (by decide) (by decide) (by decide) rfl) ?_
  refine Yi rfl rfl (OwnP.append (ys := [f.vars[w]]) (hoA.push _) Tryz.underlying22 inf9 rfl rfl rfl (Zt (k := kStr) rfl rfl hoA.size rfl) (by rw [lenA]; simp only [List.length_singleton]; omega) (by rw [lenA]; simp only [List.length_singleton]; omega) ?_)
  rintro v3 G3 H3 hle3 hown3
  have hsameO := OwnP.sameO (hoA.push _) hle3 hown3
  have ev : f.vars.getD w ⟨#[]⟩ = f.vars[w] := by rw [List.getD_eq_getElem?_getD, List.getElem?_eq_getElem hwn]; rfl
  rw [← ev, take_at tv] at hown3
  obtain ⟨AA', cA', rfl⟩ := hown3.shape
  have hle3' := Hp.le_trans (Hp.le_push _ _) hle3
  obtain ⟨G4, hleG4, hown4⟩ := backA G3 H3 _ _ hle3' hown3
  have g4t := Xt hleG4 (by omega) (by intro e; cases e) g2t
  have h3t := Xt hown4.le (by have := hleG4.1; omega) (by intro e; cases e) g4t
  refine ⟨Ye, ?_⟩
  refine Xd rfl rfl (Yc rfl) Xq ?_
  refine Xd rfl rfl (Xi (off := 0) rfl Tryz.underlying91 rfl inf22.size (by decide) rfl) Xq ?_
  first | refine Yi rfl rfl (Y7 rfl rfl rfl inf22.size Yj Yl rfl ?_)
  refine ⟨Ye, ?_⟩
  refine Xe ?_
  obtain ⟨H5, hH5⟩ : ∃ H5, H5 = H3.put (K.size + 1) (.own 0 [.slice AA' (T.vars.take (i + 1)).length cA', .slice AB (T.parent.take i).length cB, .slice AC (T.links.take i).length cC, .map (some K.size)]) := ⟨_, rfl⟩
  obtain ⟨G5, hG5⟩ : ∃ G5, G5 = G4.put (K.size + 1) (.own 0 [.slice AA' (T.vars.take (i + 1)).length cA', .slice AB (T.parent.take i).length cB, .slice AC (T.links.take i).length cC, .map (some K.size)]) := ⟨_, rfl⟩
  have z4 := hleG4.1
  have hown5 := hown4.put_box (by omega) g4t [.slice AA' (T.vars.take (i + 1)).length cA', .slice AB (T.parent.take i).length cB, .slice AC (T.links.take i).length cC, .map (some K.size)]
  rw [← hG5, ← hH5] at hown5
  have leG5 : K.le G5 := by rw [hG5]; exact Hp.le_put_new (Hp.le_trans leG2 hleG4) (by omega) _
  have g5m : G5.get K.size = .map es := by rw [hG5, Hp.put_other _ _ (by omega)]; exact Xt hleG4 (by omega) (by intro e; cases e) g2m
  have g5t : G5.get (K.size + 1) = .own 0 [.slice AA' (T.vars.take (i + 1)).length cA', .slice AB (T.parent.take i).length cB, .slice AC (T.links.take i).length cC, .map (some K.size)] := by rw [hG5]; exact Hp.put_same _ _ _
  have z5 : K.size + 2 ≤ G5.size := by rw [hG5]; simp; omega
  change ACode true _ _ _ _ _ (H3.put (K.size + 1) (.own 0 [.slice AA' (T.vars.take (i + 1)).length cA', .slice AB (T.parent.take i).length cB, .slice AC (T.links.take i).length cC, .map (some K.size)]))
  rw [← hH5]
  have slG5 : Sl kLink G5 (.slice Aw (Y5 f X w).length cw) (Y5 f X w) := by
    rw [hG5]
    exact (slG2.mono hleG4.sees).mono (Hp.sees_box _ g4t)
  obtain ⟨Gb, hleGb, hoB, backB⟩ := (hown5.rot stable_lists (stable_strs _)).open3
  have leK5 := Hp.le_trans leG5 hown5.le
  have h5t := Xt hown5.le (by omega) (by intro e; cases e) g5t
  have h50 := Xt leK5 (by omega) (by intro e; cases e) gK0
  have hcell25 := leK5.cell1 hb2 hcell2
  have zoB := hoB.size
  have zz5 := hown5.size
  have zb := hleGb.1
  clear hH5 hG5 hsameO
  refine Yt (by kernel_rfl) (Y2 (B := [0, 0, 2, 6, 14, 0, 32, 0, 128, 0, 896, 1920, 4064, 8160, 16382, 32767, 65535, 131071]) (π := [0, 1, 2, 3, 4, 5, 6, 7, 8, 9, 10, 11, 12, 13, 14, 15, 16, 17]) (by kernel_rfl)) ?_
  refine Xd rfl rfl (Xy Xj) Xq ?_
  refine Xd rfl rfl (Xy Xj) Xq ?_
  refine Xd rfl rfl (Yc rfl) Xq ?_
  refine Xd rfl rfl (Xi (off := 1) rfl Tryz.underlying91 rfl inf23.size (by decide) rfl) Xq ?_
  refine Xd rfl rfl (Xm rfl Tryz.underlying23 rfl Xr) Xq ?_
  refine Xd rfl rfl (Xi (off := 1) Xj Tryz.underlying26 Xj inf23.size (by decide) Xj) Xq ?_
  refine Xd rfl rfl (Xm rfl Tryz.underlying23 rfl Xr) Xq ?_
  refine Xd rfl rfl (Xi (off := 2) Xj Tryz.underlying26 Xj inf23.size (by decide) Xj) Xq ?_
  refine Xd rfl rfl (Xm rfl Tryz.underlying23 rfl Xr) Xq ?_
  refine Xd rfl rfl (Xb rfl) Xq ?_
  refine Xd rfl rfl (Xs rfl rfl Tryz.underlying23 inf3.size X3 X3) Xq ?_
  refine Xd rfl rfl (Xm rfl Tryz.underlying3 rfl Xr) Xq ?_
  refine Yi rfl rfl (Xx (Index_ints f.order _ (par f w) _ (s1K.mono leK5.sees) (by omega)) rfl Tryz.func50 rfl rfl rfl ?_)
  rintro v6 H5 ⟨rfl, rfl⟩
  refine ⟨Ye, ?_⟩
  first | refine Za rfl rfl (Yf (r := [.int .i64 _]) Tryz.underlying23 inf3.size inf3.zero rfl (by decide) (by decide) (by decide) rfl) ?_
  refine Yi rfl rfl (OwnP.append (ys := [atI f.order (par f w)]) (hoB.push _) Tryz.underlying23 inf3 rfl rfl rfl (Zt (k := Yz .i64) rfl rfl hoB.size rfl) (by rw [lenB]; simp only [List.length_singleton]; omega) (by rw [lenB]; simp only [List.length_singleton]; omega) ?_)
  rintro v7 G7 H7 hle7 hown7
  have hsameO := OwnP.sameO (hoB.push _) hle7 hown7
  rw [take_at tp] at hown7
  obtain ⟨AB', cB', rfl⟩ := hown7.shape
  have hle7' := Hp.le_trans (Hp.le_push _ _) hle7
  obtain ⟨G8, hleG8, hown8⟩ := backB G7 H7 _ _ hle7' hown7
  have g8t := Xt hleG8 (by omega) (by intro e; cases e) g5t
  have h7t := Xt hown8.le (by have := hleG8.1; omega) (by intro e; cases e) g8t
  refine ⟨Ye, ?_⟩
  refine Xd rfl rfl (Yc rfl) Xq ?_
  refine Xd rfl rfl (Xi (off := 1) rfl Tryz.underlying91 rfl inf23.size (by decide) rfl) Xq ?_
  first | refine Yi rfl rfl (Y7 rfl rfl rfl inf23.size Yj Yl rfl ?_)
  refine ⟨Ye, ?_⟩
  refine Xe ?_
  obtain ⟨H9, hH9⟩ : ∃ H9, H9 = H7.put (K.size + 1) (.own 0 [.slice AA' (T.vars.take (i + 1)).length cA', .slice AB' (T.parent.take (i + 1)).length cB', .slice AC (T.links.take i).length cC, .map (some K.size)]) := ⟨_, rfl⟩
  obtain ⟨G9, hG9⟩ : ∃ G9, G9 = G8.put (K.size + 1) (.own 0 [.slice AA' (T.vars.take (i + 1)).length cA', .slice AB' (T.parent.take (i + 1)).length cB', .slice AC (T.links.take i).length cC, .map (some K.size)]) := ⟨_, rfl⟩
  have z8 := hleG8.1
  have hown9 := hown8.put_box (by omega) g8t [.slice AA' (T.vars.take (i + 1)).length cA', .slice AB' (T.parent.take (i + 1)).length cB', .slice AC (T.links.take i).length cC, .map (some K.size)]
  rw [← hG9, ← hH9] at hown9
  have leG9 : K.le G9 := by rw [hG9]; exact Hp.le_put_new (Hp.le_trans leG5 hleG8) (by omega) _
  have g9m : G9.get K.size = .map es := by rw [hG9, Hp.put_other _ _ (by omega)]; exact Xt hleG8 (by omega) (by intro e; cases e) g5m
  have g9t : G9.get (K.size + 1) = .own 0 [.slice AA' (T.vars.take (i + 1)).length cA', .slice AB' (T.parent.take (i + 1)).length cB', .slice AC (T.links.take i).length cC, .map (some K.size)] := by rw [hG9]; exact Hp.put_same _ _ _
  have z9 : K.size + 2 ≤ G9.size := by rw [hG9]; simp; omega
  change ACode true _ _ _ _ _ (H7.put (K.size + 1) (.own 0 [.slice AA' (T.vars.take (i + 1)).length cA', .slice AB' (T.parent.take (i + 1)).length cB', .slice AC (T.links.take i).length cC, .map (some K.size)]))
  rw [← hH9]
  have slG9 : Sl kLink G9 (.slice Aw (Y5 f X w).length cw) (Y5 f X w) := by
    rw [hG9]
    exact (slG5.mono hleG8.sees).mono (Hp.sees_box _ g8t)
  have hsl9 := slG9.mono hown9.le.sees
  have h9t := Xt hown9.le (by omega) (by intro e; cases e) g9t
  have zz9 := hown9.size
  clear hH9 hG9 hsameO
  refine Yt (by kernel_rfl) (Y2 (B := [0, 0, 2, 6, 14, 0, 32, 96, 254, 511, 1023, 2047]) (π := [0, 1, 2, 3, 4, 5, 6, 7, 8, 9, 10, 11]) (by kernel_rfl)) ?_
  refine Xd rfl rfl (Xy Xj) Xq ?_
  refine Xd rfl rfl (Xy Xj) Xq ?_
  refine Xd rfl rfl (Yc rfl) Xq ?_
  refine Xd rfl rfl (Xi (off := 2) rfl Tryz.underlying91 rfl inf27.size (by decide) rfl) Xq ?_
  refine Xd rfl rfl (Xm rfl Tryz.underlying27 rfl Xr) Xq ?_
  refine Xd rfl rfl (X0 rfl) Xq ?_
  refine Yi rfl rfl (Xx (Clone_links _ _ _ hsl9 hpll) rfl Tryz.func51 rfl rfl rfl ?_)
  rintro v10 H10 ⟨G10', hle10, hownL⟩; obtain ⟨AL, cL, rfl⟩ := hownL.shape; have hle10' := Hp.le_trans hle10 hownL.le; obtain ⟨G10, hleG10, hown10⟩ := hown9.later hle10'; have slL := hown10.below (Zj _) (Zj _) (Zj _) (by decide) (by decide) (by decide) hownL.sl; obtain ⟨Gc, hleGc, hoC, backC⟩ := (hown10.rot (stable_strs _) (stable_ints _)).open3; have slLc := slL.mono hleGc.sees; have zoC := hoC.size; have h10t := Xt hle10' (by omega) (by intro e; cases e) h9t; have z10 := hleG10.1; have zc := hleGc.1
  refine ⟨Ye, ?_⟩
  refine Za rfl rfl (Yf (r := [.slice _ _ _]) Tryz.underlying27 inf83.size inf83.zero rfl (by decide) (by decide) (by decide) rfl) ?_
  refine Yi rfl rfl (OwnP.append (ys := [Y5 f X w]) (hoC.push _) Tryz.underlying27 inf83 rfl rfl rfl (Zt (k := Vx kLink) ⟨_, rfl, slLc⟩ rfl hoC.size rfl) (by rw [lenC]; simp only [List.length_singleton]; omega) (by rw [lenC]; simp only [List.length_singleton]; omega) ?_)
  rintro v11 G11 H11 hle11 hown11
  have hsameO := OwnP.sameO (hoC.push _) hle11 hown11
  rw [take_at tl] at hown11
  obtain ⟨AC', cC', rfl⟩ := hown11.shape
  have hle11' := Hp.le_trans (Hp.le_push _ _) hle11
  obtain ⟨G12, hleG12, hown12⟩ := backC G11 H11 _ _ hle11' hown11
  have g10t := Xt hleG10 (by omega) (by intro e; cases e) g9t
  have g12t := Xt hleG12 (by omega) (by intro e; cases e) g10t
  have h11t := Xt hown12.le (by have := hleG12.1; omega) (by intro e; cases e) g12t
  refine ⟨Ye, ?_⟩
  refine Xd rfl rfl (Yc rfl) Xq ?_
  refine Xd rfl rfl (Xi (off := 2) rfl Tryz.underlying91 rfl inf27.size (by decide) rfl) Xq ?_
  first | refine Yi rfl rfl (Y7 rfl rfl rfl inf27.size Yj Yl rfl ?_)
  refine ⟨Ye, ?_⟩
  obtain ⟨H13, hH13⟩ : ∃ H13, H13 = H11.put (K.size + 1) (.own 0 [.slice AA' (T.vars.take (i + 1)).length cA', .slice AB' (T.parent.take (i + 1)).length cB', .slice AC' (T.links.take (i + 1)).length cC', .map (some K.size)]) := ⟨_, rfl⟩
  obtain ⟨G13, hG13⟩ : ∃ G13, G13 = G12.put (K.size + 1) (.own 0 [.slice AA' (T.vars.take (i + 1)).length cA', .slice AB' (T.parent.take (i + 1)).length cB', .slice AC' (T.links.take (i + 1)).length cC', .map (some K.size)]) := ⟨_, rfl⟩
  have z12 := hleG12.1
  have hown13 := hown12.put_box (by omega) g12t [.slice AA' (T.vars.take (i + 1)).length cA', .slice AB' (T.parent.take (i + 1)).length cB', .slice AC' (T.links.take (i + 1)).length cC', .map (some K.size)]
  rw [← hG13, ← hH13] at hown13
  have leG13 : K.le G13 := by rw [hG13]; exact Hp.le_put_new (Hp.le_trans leG9 (Hp.le_trans hleG10 hleG12)) (by omega) _
  have g13m : G13.get K.size = .map es := by rw [hG13, Hp.put_other _ _ (by omega)]; exact Xt (Hp.le_trans hleG10 hleG12) (by omega) (by intro e; cases e) g9m
  have g13t : G13.get (K.size + 1) = .own 0 [.slice AA' (T.vars.take (i + 1)).length cA', .slice AB' (T.parent.take (i + 1)).length cB', .slice AC' (T.links.take (i + 1)).length cC', .map (some K.size)] := by rw [hG13]; exact Hp.put_same _ _ _
  have z13 : K.size + 2 ≤ G13.size := by rw [hG13]; simp; omega
  change ACode true _ _ _ _ _ (H11.put (K.size + 1) (.own 0 [.slice AA' (T.vars.take (i + 1)).length cA', .slice AB' (T.parent.take (i + 1)).length cB', .slice AC' (T.links.take (i + 1)).length cC', .map (some K.size)]))
  rw [← hH13]
  have h13t := Xt hown13.le (by omega) (by intro e; cases e) g13t
  have h13m := Xt hown13.le (by omega) (by intro e; cases e) g13m
  have zz13 := hown13.size
  obtain ⟨sl1, sl2, sl3⟩ := hown13.sls
  clear hH13 hG13 hsameO
  have eP : (T.parent.take (i + 1)).getD i 0 = T.parent.getD i 0 := by rw [List.getD_eq_getElem?_getD, List.getD_eq_getElem?_getD, List.getElem?_take, if_pos (by omega)]
  have hiL : i < (T.links.take (i + 1)).length := by rw [List.length_take]; omega
  have eL : (T.links.take (i + 1))[i]'hiL = Y5 f X w := by
    rw [List.getElem_take]
    exact (List.getElem?_eq_some_iff.1 tl).2
  have eL2 : T.links.getD i [] = Y5 f X w := by rw [List.getD_eq_getElem?_getD, tl]; rfl
  refine Xc (by kernel_rfl) ?_
  refine Xa (Xy Xj) ?_
  refine Xa (Xb rfl) ?_
  refine X1 (Xx (group_tree (b := K.size + 1) (mb := K.size) (by omega) (by omega) h13t sl2 sl3 h13m i hiL (by rw [List.length_take]; omega) (by rw [eL]; exact hpll) (fun _ => by rw [eL]; exact hrise) hsp.keys (fun a => hsp.none i a (Nat.le_refl _))) rfl Tryz.func52 rfl rfl rfl ?_)
  rintro v14 H14 ⟨es', rfl, hes'⟩
  refine Xc (by kernel_rfl) ?_
  refine Xa (Yg Xj Xj Yp) ?_
  refine Xa (Xb rfl) ?_
  refine ⟨f.order.length - (i + 1), by omega, i + 1, G13.put K.size (.map es'), _, _, _, es', by omega, rfl, Hp.le_put_new leG13 (Nat.le_refl _) _, by simp; omega, Hp.put_same _ _ _, by rw [Hp.put_other _ _ (by omega)]; exact g13t, hown13.put_map (by omega) g13m es', hsp.step ?_, e2, e3, e7, e24, e25, rfl⟩
  rw [eP, eL] at hes'
  rw [eL2]
  exact hes'
  intro hc2
  (try simp only [decide_eq_true_eq, decide_eq_false_iff_not, Bool.not_eq_true', Bool.not_eq_false'] at hc2)
  refine Yq ?_
  refine Xe ?_
  refine Xc (by kernel_rfl) ?_
  refine Xa (Xy Xj) ?_
  refine Xa (Zg rfl) ?_
  refine Xa (Xh rfl) ?_
  refine X5 ?_
  obtain rfl : i = f.order.length := by omega
  obtain ⟨sl1, sl2, sl3⟩ := hown.sls
  rw [List.take_of_length_le (by omega)] at sl1 sl2 sl3
  have zz := hown.size
  exact ⟨_, Zl (Xu rfl) (Xu rfl), Hp.le_trans leK leK1, true, .pointer (some ⟨K.size + 1, 0, none⟩), hg, rfl, by
    rw [if_pos rfl]
    exact ⟨K.size + 1, K.size, A, B, C, es, rfl, by omega, by omega, Xt hown.le (by omega) (by intro e; cases e) gt, sl1, sl2, sl3, Xt hown.le (by omega) (by intro e; cases e) gm, by rw [tl3]; exact hsp⟩⟩
end Go.Proofs.YtmakkmcjocjgmaaGreat.Am


/- Two variables, of which one link leads from the one to the other; the small living call of the statements on reducing. -/
namespace Go.Proofs.YtmakkmcjocjgmaaGreat.Am
open Go Go.RowKit
set_option maxRecDepth 100000
set_option linter.unusedVariables false
set_option linter.unusedSimpArgs false

theorem sl_two {α : Type} {k : Kd α} {H : Hp} {b c st : Nat} {x y : α} {u v : Value} (hg : H.get b = .own st [u, v]) (hb : b < H.size) (h1 : k.rep H x [u]) (h2 : k.rep H y [v]) (hst : k.sz = st) : Sl k H (.slice (some ⟨b, 0, none⟩) 2 c) [x, y] :=
  Els.sl (xs := [x, y]) (cs := [u, v]) (Els.cons (c := [u]) h1 (Els.cons (c := [v]) h2 (Els.nil _ _ []))) (Hp.sees.refl _) hb hg hst
end Go.Proofs.YtmakkmcjocjgmaaGreat.Am


/- Whether two lists of rows are one; whether a forest is small. -/
namespace Go.Proofs.YtmakkmcjocjgmaaGreat.Am
open Go Go.RowKit
set_option maxRecDepth 100000
set_option linter.unusedVariables false
set_option linter.unusedSimpArgs false

end Go.Proofs.YtmakkmcjocjgmaaGreat.Am


/- The small living call of the statements on trees. -/
namespace Go.Proofs.YtmakkmcjocjgmaaGreat.Am
open Go Go.RowKit
set_option maxRecDepth 100000
set_option linter.unusedVariables false
set_option linter.unusedSimpArgs false

theorem New_good (f : Forest) (p : Parts) (cs ds : List Value) (H : Hp) (hp : kForest.rep H f cs) (hq : kParts.rep H p ds) (hsm : Small f p) (hch : Cheap p) (hG : GoodP f p) :
    ACalls Tryz.prog 13 #[.agg cs.toArray, .agg ds.toArray] H (fun r H' => H.le H' ∧ ∃ b, r = .tuple #[.pointer (some ⟨b, 0, none⟩), .int .i64 0] ∧ TreeR H' (.pointer (some ⟨b, 0, none⟩)) (Y4 f (Ua f p))) :=
  (New_tree f p cs ds H hp hq hsm fun _ => hch).mono fun r H' ⟨hle, g, v, hg, hr, hv⟩ => by
    obtain rfl : g = true := hg.2 hG
    rw [if_pos rfl] at hv
    obtain ⟨b, _, _, _, _, _, rfl, _⟩ := id hv
    exact ⟨hle, b, hr, hv⟩
end Go.Proofs.YtmakkmcjocjgmaaGreat.Am


/- Walks in memory: made, asked. -/
namespace Go.Proofs.YtmakkmcjocjgmaaGreat.Am
open Go Go.RowKit
set_option maxRecDepth 100000
set_option linter.unusedVariables false
set_option linter.unusedSimpArgs false

def Away (wb : Nat) (G G' : Hp) : Prop := (G.put wb .dead).le (G'.put wb .dead)
theorem Away.refl (wb : Nat) (G : Hp) : Away wb G G := Hp.le_refl _
theorem Away.trans {wb : Nat} {G G1 G2 : Hp} (h : Away wb G G1) (k : Away wb G1 G2) : Away wb G G2 := Hp.le_trans h k
theorem Away.of_le {wb : Nat} {G G' : Hp} (h : G.le G') : Away wb G G' := Hp.le_put_both h wb .dead
theorem Away.put {wb : Nat} {G G' : Hp} (h : Away wb G G') (x : Blk) : Away wb G (G'.put wb x) := by
  unfold Away at h ⊢
  rw [Hp.put_put]; exact h
theorem Away.size {wb : Nat} {G G' : Hp} (h : Away wb G G') : G.size ≤ G'.size := h.1
theorem Away.keep {wb : Nat} {G G' : Hp} (h : Away wb G G') {b : Nat} {x : Blk} (hb : b < G.size) (hne : b ≠ wb) (hd : x ≠ .dead) (hg : G.get b = x) : G'.get b = x := by
  have := h.2 b hb (by rw [Hp.put_other _ _ hne, hg]; exact hd)
  rw [Hp.put_other _ _ hne, Hp.put_other _ _ hne] at this
  rw [this, hg]
theorem Away.base {wb : Nat} {K G G' : Hp} (h : Away wb G G') (hk : K.le G) (hw : K.size ≤ wb) : K.le G' :=
  ⟨Nat.le_trans hk.1 h.1, fun b hb hd => h.keep (Nat.lt_of_lt_of_le hb hk.1) (by omega) hd (hk.2 b hb hd)⟩
theorem Away.sees {wb : Nat} {G G' : Hp} (h : Away wb G G') {cs : List Value} (hg : G.get wb = .own 0 cs) : G.sees G' := by
  have h1 := (Hp.sees_any G hg .dead).trans (Hp.le.sees h)
  have h2 := h1.dead (Hp.put_same _ _ _) (G'.get wb)
  rwa [Hp.put_put, Hp.put_self _ rfl] at h2
theorem Away.tree {wb : Nat} {G G' : Hp} (h : Away wb G G') {a b c d e : Value} (hg : G.get wb = .own 0 [a, b, c, d, e]) {v : Value} {T : TreeT} (ht : TreeR G v T) : TreeR G' v T := by
  have hs := h.sees hg
  obtain ⟨tb, mb, s0, s1, s2, es, rfl, h1, h2, h3, h4, h5, h6, h7, h8⟩ := ht
  have n1 : tb ≠ wb := fun e => by rw [e, hg] at h3; simp at h3
  have n2 : mb ≠ wb := fun e => by rw [e, hg] at h7; cases h7
  exact ⟨tb, mb, s0, s1, s2, es, rfl, Nat.lt_of_lt_of_le h1 h.size, Nat.lt_of_lt_of_le h2 h.size, h.keep h1 n1 (by intro e; cases e) h3, h4.mono hs, h5.mono hs, h6.mono hs, h.keep h2 n2 (by intro e; cases e) h7, h8⟩
def rowN (o : Option RowT) : List Int := (o.map RowT.nodes).getD []
def rowC (o : Option RowT) : Int := (o.map RowT.cost).getD 0
def rowM (o : Option RowT) : Int := (o.map RowT.n).getD 0
theorem Row_rowT {T : TreeT} {v u : Value} {ns : List Int} {H : Hp} (ht : TreeR H v T) (hT : GoodT T) (hs : Sl (Yz .i64) H u ns) (hl : ns.length ≤ 1000000) :
    ACalls Tryz.prog 72 #[v, u] H (fun r H' => ∃ G1 A c, H.le G1 ∧ r = .tuple #[.agg #[.slice A (rowN (rowT T ns)).length c, .int .i64 (rowC (rowT T ns)), .int .u64 (rowM (rowT T ns))], .bool (rowT T ns).isSome] ∧ OwnP (Yz .i64) G1 H' (.slice A (rowN (rowT T ns)).length c) (rowN (rowT T ns))) :=
  (Row_tree ht hT hs hl).mono fun r H' ⟨hle, w, hr⟩ => by
    unfold rowT
    split at hr
    · rename_i h
      rw [if_pos h]
      cases hc : Z6 T ns T.vars.length with
      | none => rw [hc] at hr; exact ⟨H', none, 0, hle, hr, OwnP.nil _ _⟩
      | some cn =>
        rw [hc] at hr
        obtain ⟨rfl, G1, l1, o1⟩ := hr
        obtain ⟨A, c, rfl⟩ := o1.shape
        exact ⟨G1, A, c, l1, rfl, o1⟩
    · rename_i h
      rw [if_neg h]
      exact ⟨H', none, 0, hle, hr, OwnP.nil _ _⟩
end Go.Proofs.YtmakkmcjocjgmaaGreat.Am


/- A walk goes one place on. -/
namespace Go.Proofs.YtmakkmcjocjgmaaGreat.Am
open Go Go.RowKit
set_option maxRecDepth 100000
set_option linter.unusedVariables false
set_option linter.unusedSimpArgs false

theorem Away.push {wb : Nat} {G G' : Hp} (h : Away wb G G') (hw : wb < G'.size) (x : Blk) : Away wb G (G'.push x) := h.trans (.of_le (G'.le_push x))
end Go.Proofs.YtmakkmcjocjgmaaGreat.Am


/- Who may be above a place. -/
namespace Go.Proofs.YtmakkmcjocjgmaaGreat.Am
open Go Go.RowKit
set_option maxRecDepth 100000
set_option linter.unusedVariables false
set_option linter.unusedSimpArgs false

theorem Away.sees_map {wb : Nat} {G G' : Hp} (h : Away wb G G') {es : List (Value × Value)} (hg : G.get wb = .map es) : G.sees G' := by
  have h1 := (Hp.sees_map G hg .dead).trans (Hp.le.sees h)
  have h2 := h1.dead (Hp.put_same _ _ _) (G'.get wb)
  rwa [Hp.put_put, Hp.put_self _ rfl] at h2
structure SeenM (es : List (Value × Value)) (out : List Int) : Prop where
  keys : ∀ e ∈ es, MapKept.IsKey (.int .i64) e.1
  at_ : ∀ x : Int, Y3 es (.int .i64 x) = if x ∈ out then some (.int .i64 1) else none
theorem SeenM.nil : SeenM [] [] := ⟨fun e h => (by cases h), fun x => by rw [if_neg (by simp)]; rfl⟩
theorem SeenM.put {es : List (Value × Value)} {out : List Int} (h : SeenM es out) (x : Int) : SeenM (Vf es (.int .i64 x) (.int .i64 1)) (out ++ [x]) :=
  ⟨mapPut_keys h.keys rfl, fun y => by
    by_cases he : y = x
    · subst he
      rw [Vv, if_pos (by simp)]
    · rw [Zp (fun e => he (by injection e)), h.at_]
      simp [he]⟩
theorem av_lookup_is {P : Program} {t : Fr} {H : Hp} {d : Option Tmp} {ty : TypeId} {pos : String} {after : Array Edge} {guard : Option (Nat × Bool)} {mt kt et : TypeId} {K : Value → Prop} {x y : Operand} {b : Nat} {es : List (Value × Value)} {k z v : Value} (hv : (Y3 es k).getD z = v) (hu : P.underlying mt = some (.map kt et)) (hK : KeyTy P kt K) (hz : (P.info? et).map (·.zero) = some (some z)) (hp : ∀ φ : Inj, VRel φ z z)
    (hx : t.eval x = .map (some b)) (hy : t.eval y = k) (hk : K k) (hb : H.get b = .map es ∨ H.get b = .romap es) (hes : ∀ e ∈ es, K e.1) :
    AVal P ⟨d, .lookup mt x y false, ty, pos, after, guard⟩ t [b] H v := by
  subst hv
  exact av_lookup hu hK hz hp hx hy hk hb hes
def FewA (T : TreeT) : Prop := ∀ (d i : Nat), ((Zy T d (T.parent.getD i 0).toNat).flatMap fun a => (T.group (T.parent.getD i 0) a).map (·.b)).length ≤ 1000000 ∧ (Zy T d i).length ≤ 1000000
set_option maxHeartbeats 2000000 in
theorem above_cnt {T : TreeT} (hT : GoodT T) (hF : FewA T) {tb cb mb ms : Nat} (d : Nat) : ∀ (i : Nat), i < d → i < T.vars.length → ∀ H : Hp, H.get cb = .own 0 [.pointer (some ⟨tb, 0, none⟩), .map (some mb), .map (some ms)] → cb < H.size → TreeR H (.pointer (some ⟨tb, 0, none⟩)) T →
    ACalls Tryz.prog 90 #[.pointer (some ⟨cb, 0, none⟩), .int .i64 i] H (fun r H' => H.le H' ∧ Sl (Yz .i64) H' r (Zy T d i)) := by
  induction d with
  | zero => intro i h; omega
  | succ d ih =>
  intro i hid hiv H hc hcb ht
  have hpar := hT.par i hiv
  refine Xv Tryz.func90 rfl rfl rfl (by simp) ?_
  refine Xe ?_
  refine Xc (by kernel_rfl) ?_
  refine Xa (X9 rfl) ?_
  refine Xe ?_
  refine Xc (by kernel_rfl) ?_
  refine Xa (Xy rfl) ?_
  refine Xa (Yc rfl) ?_
  refine Xa (Xi (off := 0) rfl Tryz.underlying108 rfl inf37.size (by decide) rfl) ?_
  refine Xa (Xm rfl Tryz.underlying37 rfl Xr) ?_
  refine Xa (Xb rfl) ?_
  refine X1 (Xx (Parent_tree ht hT.l1 (i : Int)) rfl Tryz.func121 rfl rfl rfl ?_)
  rintro v6 H ⟨rfl, rfl⟩; rw [if_pos ⟨by omega, by omega⟩, Int.toNat_natCast]
  refine Xa (Xh rfl) ?_
  refine Xe ?_
  refine Xe ?_
  refine Xc (by kernel_rfl) ?_
  refine Xa (Xb rfl) ?_
  refine Xa (Zr rfl rfl) ?_
  refine X4 rfl rfl ?_ ?_
  intro hc1
  have hroot : T.parent.getD i 0 = -1 := of_decide_eq_true hc1
  refine Xe ?_
  refine Xc (by kernel_rfl) ?_
  first | refine X6 (Yf (r := [.int .i64 _]) Tryz.underlying23 inf3.size inf3.zero rfl (by decide) (by decide) (by decide) rfl) ?_
  refine Xa (X9 rfl) ?_
  refine X5 ?_
  exact ⟨_, Xz (Xu rfl), Hp.le_push _ _, by rw [Zy, if_pos hroot]; exact sl_int1⟩
  intro hc1
  have hroot : T.parent.getD i 0 ≠ -1 := of_decide_eq_false hc1
  obtain ⟨p, hp⟩ : ∃ p : Nat, T.parent.getD i 0 = p := ⟨(T.parent.getD i 0).toNat, by omega⟩
  rw [hp]
  refine X7 ?_
  refine Xe ?_
  refine Xc (by kernel_rfl) ?_
  refine Xa (X9 rfl) ?_
  refine Xe ?_
  refine Xc (by kernel_rfl) ?_
  refine X6 (am_makeMap) ?_
  refine Xa (av_assign_map rfl) ?_
  refine Xe ?_
  refine Xe ?_
  refine Xc (by kernel_rfl) ?_
  refine Xa (Xy rfl) ?_
  refine Xa (Xb rfl) ?_
  refine X1 (Xx (ih p (by omega) (by omega) _ ((Hp.push_old _ _ hcb).trans hc) (by simp; omega) (ht.mono (H.le_push _))) rfl Tryz.func90 rfl rfl rfl ?_)
  rintro v24 H2 ⟨le2, sl2⟩; obtain ⟨L, hL⟩ : ∃ L, L = Zy T d p := ⟨_, rfl⟩; rw [← hL] at sl2; obtain ⟨AA, cA, rfl⟩ := sl2.shape; have hm2 : H2.get H.size = .map [] := Xt le2 (by simp) (by intro e; cases e) (Hp.push_new _ _); have z2 := le2.1; simp only [Hp.push_size] at z2; have leH2 := Hp.le_trans (H.le_push _) le2; have hfl := (hF d i).1; rw [hp, Int.toNat_natCast, ← hL] at hfl; have hLl := (hF d p).2; rw [← hL] at hLl
  refine Xa (Yk rfl Tryz.underlying23) ?_
  refine Xa (Xb rfl) ?_
  refine X8 ?_
  refine Yy (fun n t H' => ∃ (j : Nat) (G : Hp) (es : List (Value × Value)) (A6 : Option Addr) (c6 : Nat) (out : List Int), n = L.length - j ∧ j ≤ L.length ∧ Away H.size H2 G ∧ G.get H.size = .map es ∧ OwnP (Yz .i64) G H' (.slice A6 out.length c6) out ∧ out = onceT [] ((L.take j).flatMap fun a => (T.group p a).map (·.b)) ∧ SeenM es out ∧ t 0 = .pointer (some ⟨cb, 0, none⟩) ∧ t 5 = .int .i64 p ∧ t 6 = .slice A6 out.length c6 ∧ t 7 = .map (some H.size) ∧ t 24 = .slice AA L.length cA ∧ t 25 = .int .i64 L.length ∧ t 26 = .int .i64 j) (L.length) (⟨0, H2, [], none, 0, [], rfl, Nat.zero_le _, .refl _ _, hm2, OwnP.nil _ _, rfl, .nil, rfl, rfl, rfl, rfl, rfl, rfl, rfl⟩) ?_
  rintro n t H3 ⟨j, G, es, A6, c6, out, rfl, hj, aw, gm, hown, hout, hseen, e0, e5, e6, e7, e24, e25, e26⟩
  have slG := sl2.mono (aw.sees_map hm2)
  have leG : H.le G := aw.base leH2 (Nat.le_refl _)
  have hcG := Xt leG hcb (by intro e; cases e) hc
  have htG := ht.mono leG
  have hcH := Xt hown.le (Nat.lt_of_lt_of_le hcb leG.1) (by intro e; cases e) hcG
  have zG := aw.size
  refine Xe ?_
  refine Xc (by kernel_rfl) ?_
  refine Xa (Yx Xj Xj) ?_
  refine Xe ?_
  refine X4 rfl rfl ?_ ?_
  intro hc2
  have hjl : j < L.length := by have := of_decide_eq_true hc2; omega
  obtain ⟨bA, oA, eA, hbA, hcA⟩ := (slG.mono hown.le.sees).int_at (i := (j : Int)) (by omega) (by omega)
  rw [Int.toNat_natCast] at hcA
  obtain ⟨a, ha⟩ : ∃ a, a = L.getD j 0 := ⟨_, rfl⟩
  rw [← ha] at hcA
  subst eA
  refine X7 ?_
  refine Xe ?_
  refine X8 ?_
  refine Xe ?_
  refine Xc (by kernel_rfl) ?_
  refine Xa (Xs Xj Xj Tryz.underlying23 inf3.size X3 X3) ?_
  refine Xa (Xm rfl Tryz.underlying3 rfl Xr) ?_
  refine Xa (Xh rfl) ?_
  refine Xe ?_
  refine Xc (by kernel_rfl) ?_
  refine Xa (Xy Xj) ?_
  refine Xa (Yc rfl) ?_
  refine Xa (Xi (off := 0) rfl Tryz.underlying108 rfl inf37.size (by decide) rfl) ?_
  refine Xa (Xm rfl Tryz.underlying37 rfl Xr) ?_
  refine Xa (Xb Xj) ?_
  refine Xa (Xb rfl) ?_
  refine X1 (Xx (Group_tree (htG.mono hown.le) hT.l1 hT.l2 hT.lens (p : Int) _) rfl Tryz.func91 rfl rfl rfl ?_)
  rintro v36 H5 ⟨GL, leL, hownL⟩; obtain ⟨g, hg⟩ : ∃ g, g = T.group p a := ⟨_, rfl⟩; rw [← hg] at hownL; have slL := hownL.sl; obtain ⟨AG, cG, rfl⟩ := slL.shape; have le35 := Hp.le_trans leL hownL.le; obtain ⟨G5, le5, hown5⟩ := hown.later le35; have slg := hown5.below (Zj _) (by decide) slL; have aw5 := aw.trans (.of_le le5); have gm5 := Xt le5 (by omega) (by intro e; cases e) gm; have z5 := le5.1; have hgl := group_len hT.lens (p : Int) a; rw [← hg] at hgl
  refine Xa (Yk rfl Tryz.underlying83) ?_
  refine Xa (Xb rfl) ?_
  refine X8 ?_
  refine Yy (fun n t H' => ∃ (m : Nat) (G : Hp) (es : List (Value × Value)) (A6 : Option Addr) (c6 : Nat) (out2 : List Int), n = g.length - m ∧ m ≤ g.length ∧ Away H.size G5 G ∧ G.get H.size = .map es ∧ OwnP (Yz .i64) G H' (.slice A6 out2.length c6) out2 ∧ out2 = onceT out ((g.take m).map (·.b)) ∧ SeenM es out2 ∧ t 0 = .pointer (some ⟨cb, 0, none⟩) ∧ t 5 = .int .i64 p ∧ t 6 = .slice A6 out2.length c6 ∧ t 7 = .map (some H.size) ∧ t 24 = .slice (some ⟨bA, oA, none⟩) L.length cA ∧ t 25 = .int .i64 L.length ∧ t 26 = .int .i64 j ∧ t 36 = .slice AG g.length cG ∧ t 37 = .int .i64 g.length ∧ t 38 = .int .i64 m) (g.length) (⟨0, G5, es, A6, c6, out, rfl, Nat.zero_le _, .refl _ _, gm5, hown5, rfl, hseen, e0, e5, e6, e7, e24, e25, e26, rfl, rfl, rfl⟩) ?_
  rintro n t H6 ⟨m, G6, es6, A7, c7, out6, rfl, hm, aw6, gm6, hown6, hout6, hseen6, e0, e5, e6, e7, e24, e25, e26, e36, e37, e38⟩
  have slg6 := slg.mono (aw6.sees_map gm5)
  have z6 := aw6.size
  have zz6 := hown6.size
  have hol : out6.length ≤ 2000000 := by
    have h1 := onceT_len ((g.take m).map (·.b)) out
    have h2 := onceT_len ((L.take j).flatMap fun a => (T.group p a).map (·.b)) []
    have h3 : ((L.take j).flatMap fun a => (T.group p a).map (·.b)).length ≤ (L.flatMap fun a => (T.group p a).map (·.b)).length := by
      conv => rhs; rw [← List.take_append_drop j L, List.flatMap_append, List.length_append]
      omega
    rw [← hout6, List.length_map, List.length_take] at h1
    rw [← hout] at h2
    simp only [List.length_nil] at h2
    omega
  refine Xe ?_
  refine Xc (by kernel_rfl) ?_
  refine Xa (Yx Xj Xj) ?_
  refine Xe ?_
  refine X4 rfl rfl ?_ ?_
  intro hc3
  have hml : m < g.length := by have := of_decide_eq_true hc3; omega
  obtain ⟨bg, og, eg, hbg, hcg⟩ := (slg6.mono hown6.le.sees).link_at hml
  obtain ⟨l, hl⟩ : ∃ l, l = g[m] := ⟨_, rfl⟩
  rw [← hl] at hcg
  subst eg
  refine X7 ?_
  refine Xe ?_
  refine X8 ?_
  refine Xe ?_
  refine Xc (by kernel_rfl) ?_
  refine Xa (Xs Xj Xj Tryz.underlying83 inf96.size X3 X3) ?_
  refine Xa (Yh (cs := [.int .i64 _, .int .i64 _, .int .i64 _, .int .u64 _]) rfl Tryz.underlying96 rfl inf96.size Yd) ?_
  refine X6 (Y8 (l := [.int .i64 0, .int .i64 0, .int .i64 0, .int .u64 0]) inf96.zero rfl (by decide)) ?_
  first | refine X1 (Yo (vs := [.int .i64 _, .int .i64 _, .int .i64 _, .int .u64 _]) rfl rfl inf96.size Yj Yl rfl rfl ?_)
  refine Xe ?_
  obtain ⟨H7, hH7⟩ : ∃ H7, H7 = (H6.push (.own 0 [.int .i64 0, .int .i64 0, .int .i64 0, .int .u64 0])).put H6.size (.own 0 [.int .i64 l.a, .int .i64 l.b, .int .i64 l.cost, .int .u64 l.n]) := ⟨_, rfl⟩
  obtain ⟨G7, hG7⟩ : ∃ G7, G7 = (G6.push (.own 0 [.int .i64 0, .int .i64 0, .int .i64 0, .int .u64 0])).put H6.size (.own 0 [.int .i64 l.a, .int .i64 l.b, .int .i64 l.cost, .int .u64 l.n]) := ⟨_, rfl⟩
  have hown7 := hown6.boxed [.int .i64 0, .int .i64 0, .int .i64 0, .int .u64 0] [.int .i64 l.a, .int .i64 l.b, .int .i64 l.cost, .int .u64 l.n]
  rw [← hH7, ← hG7] at hown7
  have le67 : G6.le G7 := by rw [hG7]; exact Hp.le_put_new (G6.le_push _) (by omega) _
  have gb7 : G7.get H6.size = .own 0 [.int .i64 l.a, .int .i64 l.b, .int .i64 l.cost, .int .u64 l.n] := by rw [hG7]; exact Hp.put_same _ _ _
  have z7 : G7.size = G6.size + 1 := by rw [hG7]; simp
  have gm7 := Xt le67 (by omega) (by intro e; cases e) gm6
  have hb7 := Xt hown7.le (by omega) (by intro e; cases e) gb7
  have hm7 := Xt hown7.le (by omega) (by intro e; cases e) gm7
  have zz7 := hown7.size
  change ACode true _ _ _ _ _ ((H6.push (.own 0 [.int .i64 0, .int .i64 0, .int .i64 0, .int .u64 0])).put H6.size (.own 0 [.int .i64 l.a, .int .i64 l.b, .int .i64 l.cost, .int .u64 l.n]))
  rw [← hH7]
  clear hH7 hG7
  have aw7 := aw6.trans (.of_le le67)
  have hget : (Y3 es6 (.int .i64 l.b)).getD (.int .i64 0) = .int .i64 (if l.b ∈ out6 then 1 else 0) := by rw [hseen6.at_]; split <;> rfl
  have hnext : onceT out ((g.take (m + 1)).map (·.b)) = if l.b ∈ out6 then out6 else out6 ++ [l.b] := by
    rw [← Yu hml, List.map_append, onceT_append, ← hout6, ← hl]; rfl
  refine Xc (by kernel_rfl) ?_
  refine Xa (av_move_map Xj) ?_
  refine Xa (Xi (off := 1) rfl Tryz.underlying96 rfl inf3.size (by decide) rfl) ?_
  refine Xa (Xm rfl Tryz.underlying3 rfl Xr) ?_
  refine Xa (av_lookup_is hget Tryz.underlying169 (keyTy_plain Tryz.underlying3) inf3.zero (fun φ => .int _ _) Xj Xj rfl (.inl hm7) hseen6.keys) ?_
  refine Xa (Zr rfl rfl) ?_
  refine X4 rfl rfl ?_ ?_
  intro hc4
  have hnew : ¬ l.b ∈ out6 := fun h => by have h2 := of_decide_eq_true hc4; rw [if_pos h] at h2; exact absurd h2 (by decide)
  rw [if_neg hnew] at hnext
  refine Yt (by kernel_rfl) (Y2 (B := [0, 0, 2, 0, 0, 16, 48, 120, 255, 511]) (π := [0, 1, 2, 3, 4, 5, 6, 7, 8, 9]) (by kernel_rfl)) ?_
  refine Xd rfl rfl (av_move_map Xj) Xq ?_
  refine Xd rfl rfl (Xi (off := 1) rfl Tryz.underlying96 rfl inf3.size (by decide) rfl) Xq ?_
  refine Xd rfl rfl (Xm rfl Tryz.underlying3 rfl Xr) Xq ?_
  refine Xd rfl rfl (X0 Xj) Xq ?_
  refine Xd rfl rfl (Xi (off := 1) rfl Tryz.underlying96 rfl inf3.size (by decide) rfl) Xq ?_
  refine Xd rfl rfl (Xm rfl Tryz.underlying3 rfl Xr) Xq ?_
  first | refine Za rfl rfl (Yf (r := [.int .i64 _]) Tryz.underlying23 inf3.size inf3.zero rfl (by decide) (by decide) (by decide) rfl) ?_
  refine Yi rfl rfl (OwnP.append (ys := [l.b]) (hown7.push _) Tryz.underlying23 inf3 rfl rfl rfl (Zt (k := Yz .i64) rfl rfl hown7.size rfl) (by simp only [List.length_singleton]; omega) (by simp only [List.length_singleton]; omega) ?_)
  rintro v8 G8 H8 hle8 hown8
  have hsameO := OwnP.sameO (hown7.push _) hle8 hown8
  obtain ⟨B8, c8, rfl⟩ := hown8.shape
  have le78 := Hp.le_trans (Hp.le_push _ _) hle8
  have z8 := le78.1
  have zz8 := hown8.size
  have gm8 := Xt le78 (by omega) (by intro e; cases e) gm7
  have gb8 := Xt le78 (by omega) (by intro e; cases e) gb7
  have hm8 := Xt hown8.le (by omega) (by intro e; cases e) gm8
  have hb8 := Xt hown8.le (by omega) (by intro e; cases e) gb8
  refine ⟨Ye, ?_⟩
  refine Yi rfl rfl (V3 Tryz.underlying169 (keyTy_plain Tryz.underlying3) rfl rfl rfl rfl hm8 hseen6.keys ?_)
  refine ⟨Ye, ?_⟩
  refine Xd rfl rfl (X9 rfl) Xq ?_
  refine Xc (by kernel_rfl) ?_
  refine Xa (Yg Xj Xj Yp) ?_
  refine Xa (Xb rfl) ?_
  first
    | exact ⟨g.length - (m + 1), by omega, m + 1, G7, es6, A7, c7, out6, rfl, by omega, aw7, gm7, hown7, hnext.symm, hseen6, e0, e5, e6, e7, e24, e25, e26, e36, e37, rfl⟩
    | exact ⟨g.length - (m + 1), by omega, m + 1, G8.put H.size (.map (Vf es6 (.int .i64 l.b) (.int .i64 1))), _, B8, c8, out6 ++ [l.b], rfl, by omega, (aw7.trans (.of_le le78)).put _, Hp.put_same _ _ _, hown8.put (by rw [gm8]; intro e; cases e) _ (Hp.sees_map _ gm8 _), hnext.symm, hseen6.put l.b, e0, e5, rfl, e7, e24, e25, e26, e36, e37, rfl⟩
  intro hc4
  have hold : l.b ∈ out6 := Decidable.byContradiction fun h => by have h2 := of_decide_eq_false hc4; rw [if_neg h] at h2; exact h2 rfl
  rw [if_pos hold] at hnext
  refine X7 ?_
  refine Xc (by kernel_rfl) ?_
  refine Xa (Yg Xj Xj Yp) ?_
  refine Xa (Xb rfl) ?_
  first
    | exact ⟨g.length - (m + 1), by omega, m + 1, G7, es6, A7, c7, out6, rfl, by omega, aw7, gm7, hown7, hnext.symm, hseen6, e0, e5, e6, e7, e24, e25, e26, e36, e37, rfl⟩
    | exact ⟨g.length - (m + 1), by omega, m + 1, G8.put H.size (.map (Vf es6 (.int .i64 l.b) (.int .i64 1))), _, B8, c8, out6 ++ [l.b], rfl, by omega, (aw7.trans (.of_le le78)).put _, Hp.put_same _ _ _, hown8.put (by rw [gm8]; intro e; cases e) _ (Hp.sees_map _ gm8 _), hnext.symm, hseen6.put l.b, e0, e5, rfl, e7, e24, e25, e26, e36, e37, rfl⟩
  intro hc3
  have hml : ¬ m < g.length := by have := of_decide_eq_false hc3; omega
  rw [List.take_of_length_le (by omega)] at hout6
  refine Yq ?_
  refine Xc (by kernel_rfl) ?_
  refine Xa (Yg Xj Xj Yp) ?_
  refine Xa (Xb rfl) ?_
  exact ⟨L.length - (j + 1), by omega, j + 1, G6, es6, A7, c7, out6, rfl, by omega, aw5.trans aw6, gm6, hown6, by rw [hout6, hout, ← Yu hjl, List.flatMap_append, onceT_append, List.flatMap_cons, List.flatMap_nil, List.append_nil, hg, ha, Zf hjl], hseen6, e0, e5, e6, e7, e24, e25, rfl⟩
  intro hc2
  have hjl : ¬ j < L.length := by have := of_decide_eq_false hc2; omega
  refine Yq ?_
  refine Xe ?_
  refine Xc (by kernel_rfl) ?_
  refine Xa (X0 Xj) ?_
  refine Xa (X9 rfl) ?_
  refine X5 ?_
  exact ⟨_, Xz (Xu rfl), Hp.le_trans leG hown.le, by rw [Zy, if_neg (by rw [hp]; omega), hp, Int.toNat_natCast, ← hL]; rw [List.take_of_length_le (by omega)] at hout; rw [← hout]; exact hown.sl⟩
end Go.Proofs.YtmakkmcjocjgmaaGreat.Am


/- Places and nodes, as keys. -/
namespace Go.Proofs.YtmakkmcjocjgmaaGreat.Am
open Go Go.RowKit
set_option maxRecDepth 100000
set_option linter.unusedVariables false
set_option linter.unusedSimpArgs false

theorem cspot_eq (i a i' a' : Int) (w : World) : (Op.equal 141 (Ze i a) (Ze i' a')).run Tryz.prog w = .ok (decide (i = i') && decide (a = a')) w := by
  have h := run_struct_eq (P := Tryz.prog) (xs := [.int .i64 i, .int .i64 a]) (ys := [.int .i64 i', .int .i64 a']) Tryz.underlying141 (by kernel_rfl) (fun f hf => by
    simp at hf
    rcases hf with rfl | rfl
    · exact ⟨by simp, by simp, .int Tryz.underlying3 (by decide)⟩
    · exact ⟨by simp, by simp, .int Tryz.underlying3 (by decide)⟩) w
  refine h.trans ?_
  congr 1
  rw [Bool.eq_iff_iff]
  simp [allEq, scalEq]
theorem Uv : KeyTy Tryz.prog 141 IsSpot := keyTy_struct Tryz.underlying141
  (fun {φ v v'} ⟨i, a, e⟩ h => by
    subst e
    exact VRel.agg_scal (xs := [.int .i64 i, .int .i64 a]) h (by intro v hv; simp at hv; rcases hv with rfl | rfl <;> rfl))
  (fun w em {v} ⟨i, a, e⟩ => by
    subst e
    have c : ∀ b, (Instr.checkKey em 9999 3 (.int .i64 b)).run Tryz.prog w = .ok () w := fun b => by
      show (Instr.checkKey em (9998 + 1) _ _).run _ _ = _
      unfold Instr.checkKey
      simp [run_underlying Tryz.underlying3]
    show (Instr.checkKey em (9999 + 1) _ _).run _ _ = _
    unfold Instr.checkKey
    simp [Ze, run_underlying Tryz.underlying141]
    rw [Um Tryz.underlying3 rfl (v := .int .i64 i) rfl]
    simp only [Result.andThen_ok, c]
    rw [Um Tryz.underlying3 rfl (v := .int .i64 a) rfl]
    simp only [Result.andThen_ok, c])
  (fun w {v} ⟨i, a, e⟩ => by
    subst e
    simp [Instr.keyThatStays, Instr.sameBits, Ze])
  (fun w {x y} ⟨i, a, e⟩ ⟨i', a', e'⟩ => by
    subst e e'
    refine ⟨_, cspot_eq i a i' a' w, ?_⟩
    rw [Bool.and_eq_true, decide_eq_true_eq, decide_eq_true_eq]
    exact ⟨fun ⟨h1, h2⟩ => by rw [h1, h2], fun h => by obtain ⟨h1, h2⟩ := Vd h; exact ⟨h1.symm, h2.symm⟩⟩)
end Go.Proofs.YtmakkmcjocjgmaaGreat.Am


/- What counts tell of a place. -/
namespace Go.Proofs.YtmakkmcjocjgmaaGreat.Am
open Go Go.RowKit
set_option maxRecDepth 100000
set_option linter.unusedVariables false
set_option linter.unusedSimpArgs false

structure IntsM (es : List (Value × Value)) : Prop where
  keys : ∀ e ∈ es, IsSpot e.1
  vals : ∀ k v, Y3 es k = some v → ∃ n : Int, v = .int .u64 n ∧ 0 ≤ n
noncomputable def cntAt (es : List (Value × Value)) (i a : Int) : Int := match Y3 es (Ze i a) with
  | some (.int _ n) => n
  | _ => 0
theorem IntsM.get {es : List (Value × Value)} (h : IntsM es) (i a : Int) : (Y3 es (Ze i a)).getD (.int .u64 0) = .int .u64 (cntAt es i a) ∧ 0 ≤ cntAt es i a := by
  unfold cntAt
  cases hg : Y3 es (Ze i a) with
  | none => exact ⟨rfl, Int.le_refl _⟩
  | some v =>
    obtain ⟨n, rfl, hn⟩ := h.vals _ _ hg
    exact ⟨rfl, hn⟩
theorem IntsM.nil : IntsM [] := ⟨fun e h => (by cases h), fun k v h => (by cases h)⟩
theorem IntsM.put {es : List (Value × Value)} (h : IntsM es) (i a n : Int) (hn : 0 ≤ n) : IntsM (Vf es (Ze i a) (.int .u64 n)) :=
  ⟨mapPut_keys h.keys ⟨_, _, rfl⟩, fun k v hv => by
    by_cases he : k = Ze i a
    · subst he
      rw [Vv] at hv
      injection hv with hv
      exact ⟨n, hv.symm, hn⟩
    · rw [Zp he] at hv
      exact h.vals k v hv⟩
theorem sum_cnt {T : TreeT} (hT : GoodT T) {tb cb mb ms : Nat} {es : List (Value × Value)} {H : Hp} (hc : H.get cb = .own 0 [.pointer (some ⟨tb, 0, none⟩), .map (some mb), .map (some ms)]) (ht : TreeR H (.pointer (some ⟨tb, 0, none⟩)) T) (hm : H.get ms = .map es) (he : IntsM es) (i : Nat) (hi : i < T.vars.length) (a : Int) :
    ACalls Tryz.prog 123 #[.pointer (some ⟨cb, 0, none⟩), .int .i64 i, .int .i64 a] H (fun r H' => r = .int .u64 (cntAt es i (if T.parent.getD i 0 = -1 then -1 else a)) ∧ H' = H) := by
  refine Xv Tryz.func123 rfl rfl rfl (by simp) ?_
  refine Xe ?_
  refine Xc (by kernel_rfl) ?_
  refine Xa (Xh rfl) ?_
  refine Xe ?_
  refine Xe ?_
  refine Xc (by kernel_rfl) ?_
  refine Xa (Xy rfl) ?_
  refine Xa (Yc rfl) ?_
  refine Xa (Xi (off := 0) rfl Tryz.underlying108 rfl inf37.size (by decide) rfl) ?_
  refine Xa (Xm rfl Tryz.underlying37 rfl Xr) ?_
  refine Xa (Xb rfl) ?_
  refine X1 (Xx (Parent_tree ht hT.l1 (i : Int)) rfl Tryz.func121 rfl rfl rfl ?_)
  rintro v6 H ⟨rfl, rfl⟩; rw [if_pos ⟨by omega, by omega⟩, Int.toNat_natCast]
  refine Xa (Zr rfl rfl) ?_
  refine X4 rfl rfl ?_ ?_
  intro hc1
  have hroot : T.parent.getD i 0 = -1 := of_decide_eq_true hc1
  have hget := (he.get i (-1)).1
  refine Xc (by kernel_rfl) ?_
  refine Xa (Xh rfl) ?_
  refine Xe ?_
  refine Xc (by kernel_rfl) ?_
  refine Xa (Xy rfl) ?_
  refine Xa (Yc rfl) ?_
  refine Xa (Xi (off := 2) rfl Tryz.underlying108 rfl inf106.size (by decide) rfl) ?_
  refine Xa (Xm rfl Tryz.underlying106 rfl Xr) ?_
  refine Xa (Xb rfl) ?_
  refine Xa (Xb rfl) ?_
  refine Xa (Zc (pl := [(0, 1), (1, 1)]) (r := [.int .i64 _, .int .i64 _]) Tryz.underlying141 inf141.zero (by decide) rfl rfl) ?_
  refine Xa (av_lookup_is hget Tryz.underlying106 Uv inf30.zero (fun φ => .int _ _) rfl rfl ⟨_, _, rfl⟩ (.inl hm) he.keys) ?_
  refine Xa (Xh rfl) ?_
  refine X5 ?_
  first
    | exact ⟨.int .u64 (cntAt es i (-1)), Xz (Xu rfl), by rw [if_pos hroot], rfl⟩
    | exact ⟨.int .u64 (cntAt es i a), Xz (Xu rfl), by rw [if_neg hroot], rfl⟩
  intro hc1
  have hroot : T.parent.getD i 0 ≠ -1 := of_decide_eq_false hc1
  have hget := (he.get i a).1
  refine X7 ?_
  refine Xe ?_
  refine Xc (by kernel_rfl) ?_
  refine Xa (Xy rfl) ?_
  refine Xa (Yc rfl) ?_
  refine Xa (Xi (off := 2) rfl Tryz.underlying108 rfl inf106.size (by decide) rfl) ?_
  refine Xa (Xm rfl Tryz.underlying106 rfl Xr) ?_
  refine Xa (Xb rfl) ?_
  refine Xa (Xb rfl) ?_
  refine Xa (Zc (pl := [(0, 1), (1, 1)]) (r := [.int .i64 _, .int .i64 _]) Tryz.underlying141 inf141.zero (by decide) rfl rfl) ?_
  refine Xa (av_lookup_is hget Tryz.underlying106 Uv inf30.zero (fun φ => .int _ _) rfl rfl ⟨_, _, rfl⟩ (.inl hm) he.keys) ?_
  refine Xa (Xh rfl) ?_
  refine X5 ?_
  first
    | exact ⟨.int .u64 (cntAt es i (-1)), Xz (Xu rfl), by rw [if_pos hroot], rfl⟩
    | exact ⟨.int .u64 (cntAt es i a), Xz (Xu rfl), by rw [if_neg hroot], rfl⟩
theorem mem_once : ∀ (xs out : List Int) (x : Int), x ∈ onceT out xs ↔ x ∈ out ∨ x ∈ xs
  | [], out, x => ⟨.inl, fun h => h.resolve_right (List.not_mem_nil)⟩
  | y :: xs, out, x => by
    show x ∈ onceT (if y ∈ out then out else out ++ [y]) xs ↔ _
    rw [mem_once xs, List.mem_cons]
    by_cases hy : y ∈ out
    · rw [if_pos hy]
      exact ⟨fun h => h.elim .inl fun h => .inr (.inr h), fun h => h.elim .inl fun h => h.elim (fun e => .inl (e ▸ hy)) .inr⟩
    · rw [if_neg hy, List.mem_append, List.mem_singleton, or_assoc]
theorem above_child {T : TreeT} (d : Nat) {i k : Nat} (hk : T.parent.getD k 0 = (i : Int)) (b : Int) : b ∈ Zy T (d + 1) k ↔ ∃ a ∈ Zy T d i, ∃ x ∈ T.group i a, x.b = b := by
  rw [Zy, if_neg (by rw [hk]; omega), hk, Int.toNat_natCast, mem_once]
  simp only [List.not_mem_nil, false_or, List.mem_flatMap, List.mem_map]
end Go.Proofs.YtmakkmcjocjgmaaGreat.Am


/- How few may be above a place. -/
namespace Go.Proofs.YtmakkmcjocjgmaaGreat.Am
open Go Go.RowKit
set_option maxRecDepth 100000
set_option linter.unusedVariables false
set_option linter.unusedSimpArgs false

theorem nodup_sub {α : Type} : ∀ {l m : List α}, l.Nodup → (∀ x ∈ l, x ∈ m) → l.length ≤ m.length
  | [], _, _, _ => Nat.zero_le _
  | x :: l, m, hn, hs => by
    obtain ⟨p, s, rfl⟩ := List.append_of_mem (hs x (by simp))
    obtain ⟨h1, h2⟩ := List.nodup_cons.1 hn
    have h := nodup_sub (l := l) (m := p ++ s) h2 (fun y hy => by
      have h3 := hs y (by simp [hy])
      rw [List.mem_append, List.mem_cons] at h3
      rw [List.mem_append]
      rcases h3 with h3 | rfl | h3
      · exact .inl h3
      · exact absurd hy h1
      · exact .inr h3)
    simp only [List.length_append, List.length_cons] at h ⊢
    omega
theorem once_nodup : ∀ (xs out : List Int), out.Nodup → (onceT out xs).Nodup
  | [], _, h => h
  | x :: xs, out, h => by
    show (onceT (if x ∈ out then out else out ++ [x]) xs).Nodup
    refine once_nodup xs _ ?_
    split
    · exact h
    · rename_i hx
      rw [List.nodup_append]
      exact ⟨h, by simp, fun a ha b hb => by rw [List.mem_singleton] at hb; subst hb; intro e; exact hx (e ▸ ha)⟩
theorem flatMap_few {α β : Type} {f : α → List β} {m : Nat} : ∀ {xs : List α}, (∀ x ∈ xs, (f x).length ≤ m) → (xs.flatMap f).length ≤ xs.length * m
  | [], _ => by simp
  | x :: xs, h => by
    have h1 := flatMap_few (xs := xs) fun y hy => h y (by simp [hy])
    have h2 := h x (by simp)
    rw [List.flatMap_cons, List.length_append, List.length_cons, Nat.succ_mul]
    omega
theorem group_sub {T : TreeT} {i a : Int} {x : Link} (hx : x ∈ T.group i a) : x ∈ T.links.getD i.toNat [] := by
  unfold TreeT.group at hx
  split at hx
  · unfold TreeT.row at hx
    split at hx
    · exact hx
    · exact (List.mem_filter.1 hx).1
  · cases hx
theorem group_few {T : TreeT} (hl : ∀ l ∈ T.links, l.length ≤ 1000) (i a : Int) : (T.group i a).length ≤ 1000 := by
  have hg : (T.links.getD i.toNat []).length ≤ 1000 := by
    by_cases h : i.toNat < T.links.length
    · rw [Zb h]; exact hl _ (List.getElem_mem h)
    · rw [List.getD_eq_getElem?_getD, List.getElem?_eq_none (by omega)]; simp
  unfold TreeT.group
  split
  · unfold TreeT.row
    split
    · exact hg
    · exact Nat.le_trans (List.length_filter_le _ _) hg
  · simp
theorem above_few {T : TreeT} (hl : ∀ l ∈ T.links, l.length ≤ 1000) : ∀ d i, (Zy T d i).length ≤ 1000
  | 0, _ => by simp [Zy]
  | d + 1, i => by
    rw [Zy]
    split
    · simp
    · have hg : (T.links.getD (T.parent.getD i 0).toNat []).length ≤ 1000 := by
        by_cases h : (T.parent.getD i 0).toNat < T.links.length
        · rw [Zb h]; exact hl _ (List.getElem_mem h)
        · rw [List.getD_eq_getElem?_getD, List.getElem?_eq_none (by omega)]; simp
      refine Nat.le_trans (nodup_sub (m := (T.links.getD (T.parent.getD i 0).toNat []).map (·.b)) (once_nodup _ _ List.nodup_nil) fun x hx => ?_) (by rw [List.length_map]; exact hg)
      rw [mem_once] at hx
      rcases hx with hx | hx
      · cases hx
      · obtain ⟨a, _, h1⟩ := List.mem_flatMap.1 hx
        obtain ⟨y, h2, h3⟩ := List.mem_map.1 h1
        exact List.mem_map.2 ⟨y, group_sub h2, h3⟩
theorem fewA_of {T : TreeT} (hl : ∀ l ∈ T.links, l.length ≤ 1000) : FewA T := fun d i => by
  have h1 := above_few hl d (T.parent.getD i 0).toNat
  refine ⟨Nat.le_trans (flatMap_few (m := 1000) fun a _ => by rw [List.length_map]; exact group_few hl _ _) (by omega), by have := above_few hl d i; omega⟩
theorem above_deep {T : TreeT} (hT : GoodT T) : ∀ (d i : Nat), i < d → i < T.vars.length → Zy T d i = Zy T (d + 1) i
  | 0, _, h, _ => by omega
  | d + 1, i, h, hi => by
    rw [Zy, Zy]
    rcases hT.par i hi with hp | hp
    · rw [if_pos hp, if_pos hp]
    · rw [if_neg (by omega), if_neg (by omega), above_deep hT d _ (by omega) (by omega)]
end Go.Proofs.YtmakkmcjocjgmaaGreat.Am


/- A place is counted. -/
namespace Go.Proofs.YtmakkmcjocjgmaaGreat.Am
open Go Go.RowKit
set_option maxRecDepth 100000
set_option linter.unusedVariables false
set_option linter.unusedSimpArgs false

structure FillS (T : TreeT) (K : Hp) (tb cb mb ms i : Nat) (es10 es20 : List (Value × Value)) (H : Hp) (es1 es2 : List (Value × Value)) : Prop where
  le : K.le H
  hc : H.get cb = .own 0 [.pointer (some ⟨tb, 0, none⟩), .map (some mb), .map (some ms)]
  lc : cb < H.size
  hb : H.get mb = .map es1
  lb : mb < H.size
  hs : H.get ms = .map es2
  ls : ms < H.size
  i1 : IntsM es1
  i2 : IntsM es2
  o1 : ∀ (k : Int) b, k ≠ i → Y3 es1 (Ze k b) = Y3 es10 (Ze k b)
  o2 : ∀ (k : Int) b, k ≠ i → Y3 es2 (Ze k b) = Y3 es20 (Ze k b)
  v1 : ∀ b, Y3 es1 (Ze i b) = none ∨ (Y3 es1 (Ze i b) = some (.int .u64 (Uh T T.vars.length i b)) ∧ ∃ a, ∃ x ∈ T.group i a, x.b = b)
  v2 : ∀ a, Y3 es2 (Ze i a) = none ∨ Y3 es2 (Ze i a) = some (.int .u64 (Uj T T.vars.length i a))
theorem FillS.later {T : TreeT} {K : Hp} {tb cb mb ms i : Nat} {es10 es20 es1 es2 : List (Value × Value)} {H H' : Hp} (h : FillS T K tb cb mb ms i es10 es20 H es1 es2) (hle : H.le H') : FillS T K tb cb mb ms i es10 es20 H' es1 es2 :=
  ⟨Hp.le_trans h.le hle, Xt hle h.lc (by intro e; cases e) h.hc, Nat.lt_of_lt_of_le h.lc hle.1, Xt hle h.lb (by intro e; cases e) h.hb, Nat.lt_of_lt_of_le h.lb hle.1, Xt hle h.ls (by intro e; cases e) h.hs, Nat.lt_of_lt_of_le h.ls hle.1, h.i1, h.i2, h.o1, h.o2, h.v1, h.v2⟩
theorem bel_deep {T : TreeT} (hT : GoodT T) {d i : Nat} (h : T.vars.length ≤ d + i + 1) (b : Int) : Uh T d i b = Uh T (d + 1) i b :=
  foldl_same fun n k hk => by
    obtain ⟨h3, h4⟩ := kids_lt hT hk
    rw [sumT_deep hT d k b h4 (by omega)]
theorem sum_is {T : TreeT} (hT : GoodT T) {i : Nat} (hi : i < T.vars.length) (a : Int) : Uj T T.vars.length i a = (T.group i a).foldl (fun s x => U2 s (Yv x.n (Uh T T.vars.length i x.b))) 0 := by
  obtain ⟨n, hn⟩ : ∃ n, T.vars.length = n + 1 := ⟨T.vars.length - 1, by omega⟩
  rw [hn, sumT_succ]
  exact foldl_same fun s x _ => by rw [bel_deep hT (by omega)]
theorem FillS.put1 {T : TreeT} {K : Hp} {tb cb mb ms i : Nat} {es10 es20 es1 es2 : List (Value × Value)} {H : Hp} (h : FillS T K tb cb mb ms i es10 es20 H es1 es2) (zb : K.size ≤ mb) (hne : mb ≠ ms) (b : Int) (hn : 0 ≤ Uh T T.vars.length i b) (hx : ∃ a, ∃ x ∈ T.group i a, x.b = b) : FillS T K tb cb mb ms i es10 es20 (H.put mb (.map (Vf es1 (Ze i b) (.int .u64 (Uh T T.vars.length i b))))) (Vf es1 (Ze i b) (.int .u64 (Uh T T.vars.length i b))) es2 := by
  have hcm : cb ≠ mb := fun e => by have := h.hc; rw [e, h.hb] at this; cases this
  refine ⟨Hp.le_put_new h.le zb _, by rw [Hp.put_other _ _ hcm]; exact h.hc, by simpa using h.lc, Hp.put_same _ _ _, by simpa using h.lb, by rw [Hp.put_other _ _ (Ne.symm hne)]; exact h.hs, by simpa using h.ls, h.i1.put _ _ _ hn, h.i2, fun k c hk => ?_, h.o2, fun c => ?_, h.v2⟩
  · rw [Zp (fun e => hk (Vd e).1)]; exact h.o1 k c hk
  · by_cases hc : c = b
    · subst hc; exact .inr ⟨Vv, hx⟩
    · rw [Zp (fun e => hc (Vd e).2)]; exact h.v1 c
theorem FillS.put2 {T : TreeT} {K : Hp} {tb cb mb ms i : Nat} {es10 es20 es1 es2 : List (Value × Value)} {H : Hp} (h : FillS T K tb cb mb ms i es10 es20 H es1 es2) (zs : K.size ≤ ms) (hne : mb ≠ ms) (a n : Int) (hn : 0 ≤ n) (hv : n = Uj T T.vars.length i a) : FillS T K tb cb mb ms i es10 es20 (H.put ms (.map (Vf es2 (Ze i a) (.int .u64 n)))) es1 (Vf es2 (Ze i a) (.int .u64 n)) := by
  have hcm : cb ≠ ms := fun e => by have := h.hc; rw [e, h.hs] at this; cases this
  refine ⟨Hp.le_put_new h.le zs _, by rw [Hp.put_other _ _ hcm]; exact h.hc, by simpa using h.lc, by rw [Hp.put_other _ _ hne]; exact h.hb, by simpa using h.lb, Hp.put_same _ _ _, by simpa using h.ls, h.i1, h.i2.put _ _ _ hn, h.o1, fun k c hk => ?_, h.v1, fun c => ?_⟩
  · rw [Zp (fun e => hk (Vd e).1)]; exact h.o2 k c hk
  · by_cases hc : c = a
    · subst hc hv; exact .inr Vv
    · rw [Zp (fun e => hc (Vd e).2)]; exact h.v2 c
theorem fold_times {α : Type} {f : α → Int} : ∀ {ks : List α} {n : Int}, 0 ≤ n → (∀ k ∈ ks, 0 ≤ f k) → 0 ≤ ks.foldl (fun n k => Yv n (f k)) n
  | [], _, h, _ => h
  | k :: ks, n, h, hf => fold_times (ks := ks) (n := Yv n (f k)) (Z1 h (hf k (by simp))).1 (fun k hk => hf k (by simp [hk]))
theorem fold_add {α : Type} {f : α → Int} : ∀ {ks : List α} {n : Int}, 0 ≤ n → (∀ k ∈ ks, 0 ≤ f k) → 0 ≤ ks.foldl (fun n k => U2 n (f k)) n
  | [], _, h, _ => h
  | k :: ks, n, h, hf => fold_add (ks := ks) (n := U2 n (f k)) (addI_nonneg h (hf k (by simp))) (fun k hk => hf k (by simp [hk]))
theorem Ue {T : TreeT} (hT : GoodT T) : ∀ (d i : Nat) (a : Int), 0 ≤ Uj T d i a
  | 0, _, _ => Int.le_refl _
  | d + 1, i, a => by
    rw [sumT_succ]
    exact fold_add (Int.le_refl 0) fun x hx => (Z1 (hT.group_mem hx).2.2 (fold_times (by decide) fun k _ => Ue hT d k x.b)).1
theorem belT_nonneg {T : TreeT} (hT : GoodT T) (d i : Nat) (b : Int) : 0 ≤ Uh T d i b := fold_times (by decide) fun k _ => Ue hT d k b
end Go.Proofs.YtmakkmcjocjgmaaGreat.Am


/- How many rows go on from any first nodes, plain. -/
namespace Go.Proofs.YtmakkmcjocjgmaaGreat.Am
open Go Go.RowKit
set_option maxRecDepth 100000
set_option linter.unusedVariables false
set_option linter.unusedSimpArgs false

def Zd (n : Nat) : Int := min (n : Int) Y0
theorem most_pos : (0 : Int) < Y0 := by decide
theorem Ur (a b : Nat) : Yv (Zd a) (Zd b) = Zd (a * b) := by
  have hM := most_pos
  unfold Yv Zd
  rw [show min (min (a : Int) Y0) Y0 = min (a : Int) Y0 by omega, show min (min (b : Int) Y0) Y0 = min (b : Int) Y0 by omega, Int.natCast_mul]
  rcases Nat.eq_zero_or_pos a with rfl | ha
  · rw [show min ((0 : Nat) : Int) Y0 = 0 by omega]; simp
  rcases Nat.eq_zero_or_pos b with rfl | hb
  · rw [show min ((0 : Nat) : Int) Y0 = 0 by omega]; simp
  by_cases h1 : (a : Int) ≤ Y0 <;> by_cases h2 : (b : Int) ≤ Y0
  · rw [Int.min_eq_left h1, Int.min_eq_left h2]
  · rw [Int.min_eq_left h1, Int.min_eq_right (by omega : Y0 ≤ (b : Int))]
    have h3 : 1 * Y0 ≤ (a : Int) * Y0 := Int.mul_le_mul_of_nonneg_right (by omega) (Int.le_of_lt hM)
    have h4 : (a : Int) * Y0 ≤ (a : Int) * b := Int.mul_le_mul_of_nonneg_left (by omega) (by omega)
    rw [Int.min_eq_right (by omega), Int.min_eq_right (by omega)]
  · rw [Int.min_eq_right (by omega : Y0 ≤ (a : Int)), Int.min_eq_left h2]
    have h3 : Y0 * 1 ≤ Y0 * (b : Int) := Int.mul_le_mul_of_nonneg_left (by omega) (Int.le_of_lt hM)
    have h4 : Y0 * (b : Int) ≤ (a : Int) * b := Int.mul_le_mul_of_nonneg_right (by omega) (by omega)
    rw [Int.min_eq_right (by omega), Int.min_eq_right (by omega)]
  · rw [Int.min_eq_right (by omega : Y0 ≤ (a : Int)), Int.min_eq_right (by omega : Y0 ≤ (b : Int))]
    have h3 : Y0 * 1 ≤ Y0 * Y0 := Int.mul_le_mul_of_nonneg_left (by omega) (Int.le_of_lt hM)
    have h4 : Y0 * Y0 ≤ Y0 * (b : Int) := Int.mul_le_mul_of_nonneg_left (by omega) (Int.le_of_lt hM)
    have h5 : Y0 * (b : Int) ≤ (a : Int) * b := Int.mul_le_mul_of_nonneg_right (by omega) (by omega)
    rw [Int.min_eq_right (by omega), Int.min_eq_right (by omega)]
theorem timesI_nat (a : Nat) (y : Int) : Yv (a : Int) y = Yv (Zd a) y := by
  unfold Yv Zd
  rw [show min (min (a : Int) Y0) Y0 = min (a : Int) Y0 by omega]
theorem addI_cap (a b : Nat) : U2 (Zd a) (Zd b) = Zd (a + b) := by
  have hM := most_pos
  unfold U2 Zd
  omega
theorem cap_one : (1 : Int) = Zd 1 := by decide
theorem cap_nil : (0 : Int) = Zd 0 := by decide
def Zx : List Nat → Nat
  | [] => 1
  | x :: xs => x * Zx xs
theorem fold_times_cap {F : Nat → Int} {f : Nat → Nat} : ∀ {ks : List Nat} {n : Nat}, (∀ k ∈ ks, F k = Zd (f k)) → ks.foldl (fun n k => Yv n (F k)) (Zd n) = Zd (n * Zx (ks.map f))
  | [], n, _ => by simp [Zx]
  | k :: ks, n, h => by
    rw [List.foldl_cons, h k (by simp), Ur, fold_times_cap (fun j hj => h j (by simp [hj])), List.map_cons, Zx, Nat.mul_assoc]
theorem fold_add_cap {F : Link → Int} {f : Link → Nat} : ∀ {xs : List Link} {n : Nat}, (∀ x ∈ xs, 0 ≤ x.n ∧ F x = Zd (f x)) → xs.foldl (fun s x => U2 s (Yv x.n (F x))) (Zd n) = Zd (n + (xs.map fun x => x.n.toNat * f x).sum)
  | [], n, _ => by simp
  | x :: xs, n, h => by
    obtain ⟨h1, h2⟩ := h x (by simp)
    have h3 : Yv x.n (F x) = Zd (x.n.toNat * f x) := by
      rw [h2]
      conv => lhs; rw [show x.n = ((x.n.toNat : Nat) : Int) by omega]
      rw [timesI_nat, Ur]
    rw [List.foldl_cons, h3, addI_cap, fold_add_cap (fun y hy => h y (by simp [hy])), List.map_cons, List.sum_cons, Nat.add_assoc]
def sumW (T : TreeT) : Nat → Nat → Int → Nat
  | 0, _, _ => 0
  | d + 1, i, a => ((T.group i a).map fun x => x.n.toNat * Zx ((kidsT T i).map fun k => sumW T d k x.b)).sum
theorem sumT_cap {T : TreeT} (hT : GoodT T) : ∀ (d i : Nat) (a : Int), Uj T d i a = Zd (sumW T d i a)
  | 0, _, _ => cap_nil
  | d + 1, i, a => by
    rw [sumT_succ, sumW, cap_nil, fold_add_cap (f := fun x => Zx ((kidsT T i).map fun k => sumW T d k x.b)), Nat.zero_add]
    intro x hx
    refine ⟨(hT.group_mem hx).2.2, ?_⟩
    unfold Uh
    rw [cap_one, fold_times_cap (f := fun k => sumW T d k x.b) (fun k _ => sumT_cap hT d k x.b), Nat.one_mul]
theorem Uy {α : Type} {f g : α → Nat} : ∀ {xs : List α}, (∀ x ∈ xs, f x = g x) → (xs.map f).sum = (xs.map g).sum
  | [], _ => rfl
  | x :: xs, h => by rw [List.map_cons, List.map_cons, List.sum_cons, List.sum_cons, h x (by simp), Uy fun y hy => h y (by simp [hy])]
theorem Uo {α : Type} {f g : α → Nat} : ∀ {xs : List α}, (∀ x ∈ xs, f x = g x) → Zx (xs.map f) = Zx (xs.map g)
  | [], _ => rfl
  | x :: xs, h => by rw [List.map_cons, List.map_cons, Zx, Zx, h x (by simp), Uo fun y hy => h y (by simp [hy])]
theorem sumW_deep {T : TreeT} (hT : GoodT T) : ∀ (d i : Nat) (a : Int), i < T.vars.length → T.vars.length ≤ d + i → sumW T d i a = sumW T (d + 1) i a
  | 0, i, a, h, h2 => by omega
  | d + 1, i, a, h, h2 => by
    rw [sumW, sumW]
    refine Uy fun x _ => ?_
    congr 1
    refine Uo fun k hk => ?_
    obtain ⟨h3, h4⟩ := kids_lt hT hk
    exact sumW_deep hT d k x.b h4 (by omega)
def wT (T : TreeT) (i : Nat) (a : Int) : Nat := sumW T T.vars.length i a
def wB (T : TreeT) (i : Nat) (b : Int) : Nat := Zx ((kidsT T i).map fun k => wT T k b)
theorem wT_is {T : TreeT} (hT : GoodT T) {i : Nat} (hi : i < T.vars.length) (a : Int) : wT T i a = ((T.group i a).map fun x => x.n.toNat * wB T i x.b).sum := by
  obtain ⟨n, hn⟩ : ∃ n, T.vars.length = n + 1 := ⟨T.vars.length - 1, by omega⟩
  unfold wT wB
  rw [hn, sumW]
  refine Uy fun x _ => ?_
  congr 1
  refine Uo fun k hk => ?_
  obtain ⟨h3, h4⟩ := kids_lt hT hk
  show _ = wT T k x.b
  unfold wT
  rw [hn]
  exact sumW_deep hT n k x.b h4 (by omega)
theorem prod_mul {α : Type} {f g : α → Nat} : ∀ {xs : List α}, Zx (xs.map fun x => f x * g x) = Zx (xs.map f) * Zx (xs.map g)
  | [] => rfl
  | x :: xs => by
    rw [List.map_cons, List.map_cons, List.map_cons, Zx, Zx, Zx, prod_mul]
    rw [Nat.mul_assoc, Nat.mul_assoc, Nat.mul_left_comm (g x)]
theorem prod_ones {α : Type} {f : α → Nat} : ∀ {xs : List α}, (∀ x ∈ xs, f x = 1) → Zx (xs.map f) = 1
  | [], _ => rfl
  | x :: xs, h => by rw [List.map_cons, Zx, h x (by simp), prod_ones fun y hy => h y (by simp [hy])]
theorem prod_append : ∀ (xs ys : List Nat), Zx (xs ++ ys) = Zx xs * Zx ys
  | [], ys => by rw [List.nil_append, Zx, Nat.one_mul]
  | x :: xs, ys => by rw [List.cons_append, Zx, Zx, prod_append xs ys, Nat.mul_assoc]
theorem prod_at {n j c : Nat} (hj : j < n) : Zx ((List.range n).map fun i => if i = j then c else 1) = c := by
  induction n with
  | zero => omega
  | succ n ih =>
    rw [List.range_succ, List.map_append, prod_append]
    rcases Nat.lt_or_ge j n with h | h
    · rw [ih h]
      have : ¬ n = j := by omega
      simp [Zx, this]
    · obtain rfl : n = j := by omega
      rw [prod_ones (f := fun i => if i = n then c else 1) fun i hi => by rw [List.mem_range] at hi; exact if_neg (by omega)]
      simp [Zx]
theorem prod_filter {α : Type} {f : α → Nat} {q : α → Bool} : ∀ {xs : List α}, Zx (xs.map fun x => if q x = true then f x else 1) = Zx ((xs.filter q).map f)
  | [] => rfl
  | x :: xs => by
    rw [List.map_cons, Zx, prod_filter, List.filter_cons]
    split
    · rw [List.map_cons, Zx]
    · rw [Nat.one_mul]
def openW (T : TreeT) (ns : List Int) (i : Nat) : Nat := if ns.length ≤ i ∧ T.parent.getD i 0 < ns.length then wT T i (Ym T ns i) else 1
def V1 (T : TreeT) (ns : List Int) : Nat := Zx ((List.range T.vars.length).map (openW T ns))
def restW (T : TreeT) (ns : List Int) (i : Nat) : Nat := if ns.length < i ∧ T.parent.getD i 0 < ns.length then wT T i (Ym T ns i) else 1
theorem sum_mul {α : Type} {f : α → Nat} (c : Nat) : ∀ {xs : List α}, c * (xs.map f).sum = (xs.map fun x => c * f x).sum
  | [] => rfl
  | x :: xs => by rw [List.map_cons, List.map_cons, List.sum_cons, List.sum_cons, Nat.mul_add, sum_mul c]
theorem cnt_child {T : TreeT} (hT : GoodT T) {ns : List Int} (hl : ns.length < T.vars.length) (b : Int) : V1 T (ns ++ [b]) = Zx ((List.range T.vars.length).map (restW T ns)) * wB T ns.length b := by
  have h1 : wB T ns.length b = Zx ((List.range T.vars.length).map fun i => if decide (T.parent.getD i 0 = (ns.length : Int)) = true then wT T i b else 1) := by
    unfold wB kidsT
    rw [prod_filter, hT.l1]
  rw [h1, ← prod_mul]
  refine Uo fun i hi => ?_
  rw [List.mem_range] at hi
  have hp := hT.par i hi
  unfold openW restW
  rw [List.length_append, List.length_singleton]
  simp only [decide_eq_true_eq]
  by_cases h : T.parent.getD i 0 = (ns.length : Int)
  · have h2 : Ym T (ns ++ [b]) i = b := by
      unfold Ym
      rw [if_neg (by omega), h, Int.toNat_natCast, List.getD_eq_getElem?_getD]
      simp
    rw [if_pos h, if_pos ⟨by omega, by omega⟩, if_neg (by omega), h2, Nat.one_mul]
  · rw [if_neg h, Nat.mul_one]
    by_cases h3 : ns.length < i ∧ T.parent.getD i 0 < ns.length
    · rw [if_pos h3, if_pos ⟨by omega, by omega⟩]
      congr 1
      unfold Ym
      split
      · rfl
      · rw [getD_left (by omega)]
    · rw [if_neg h3, if_neg (by omega)]
theorem cnt_step {T : TreeT} (hT : GoodT T) {ns : List Int} (hl : ns.length < T.vars.length) : V1 T ns = ((T.group ns.length (Ym T ns ns.length)).map fun x => x.n.toNat * V1 T (ns ++ [x.b])).sum := by
  have h1 : V1 T ns = Zx ((List.range T.vars.length).map (restW T ns)) * wT T ns.length (Ym T ns ns.length) := by
    rw [← prod_at (c := wT T ns.length (Ym T ns ns.length)) hl, ← prod_mul]
    refine Uo fun i hi => ?_
    rw [List.mem_range] at hi
    have hp := hT.par i hi
    unfold openW restW
    by_cases h : i = ns.length
    · subst h
      rw [if_pos ⟨Nat.le_refl _, by omega⟩, if_neg (by omega), if_pos rfl, Nat.one_mul]
    · rw [if_neg h, Nat.mul_one]
      by_cases h3 : ns.length < i ∧ T.parent.getD i 0 < ns.length
      · rw [if_pos h3, if_pos ⟨by omega, h3.2⟩]
      · rw [if_neg h3, if_neg (by omega)]
  rw [h1, wT_is hT hl, sum_mul]
  refine Uy fun x _ => ?_
  rw [cnt_child hT hl, Nat.mul_left_comm]
theorem cnt_full {T : TreeT} {ns : List Int} (hl : ns.length = T.vars.length) : V1 T ns = 1 := prod_ones fun i hi => by
  rw [List.mem_range] at hi
  unfold openW
  rw [if_neg (by omega)]
theorem mem_ext {T : TreeT} : ∀ (d : Nat) (q r : List Int), r ∈ U5 T d q → r.length = q.length + d ∧ r.take q.length = q
  | 0, q, r, h => by rw [U5, List.mem_singleton] at h; subst h; exact ⟨rfl, List.take_length⟩
  | d + 1, q, r, h => by
    rw [U5] at h
    obtain ⟨l, _, h1⟩ := List.mem_flatMap.1 h
    obtain ⟨h2, h3⟩ := mem_ext d _ r h1
    rw [List.length_append, List.length_singleton] at h2 h3
    refine ⟨by omega, ?_⟩
    have h4 := congrArg (List.take q.length) h3
    rw [List.take_take, Nat.min_eq_left (by omega), List.take_append_of_le_length (Nat.le_refl _), List.take_length] at h4
    exact h4
theorem ext_pathC {T : TreeT} (hT : GoodT T) : ∀ (d : Nat) (q r : List Int), q.length + d = T.vars.length → Path T q → r ∈ U5 T d q → Path T r
  | 0, q, r, _, hp, h => by rw [U5, List.mem_singleton] at h; subst h; exact hp
  | d + 1, q, r, hl, hp, h => by
    rw [U5] at h
    obtain ⟨l, h0, h1⟩ := List.mem_flatMap.1 h
    exact ext_pathC hT d _ r (by simp; omega) (path_snoc hT hp (by omega) h0) h1
theorem flatMap_one {β : Type} {f : Link → List β} {g : List Link} (hs : g.Pairwise fun x y => x.b < y.b) {l : Link} (hl : l ∈ g) (h : ∀ x ∈ g, x.b ≠ l.b → f x = []) : g.flatMap f = f l := by
  obtain ⟨p, s, rfl⟩ := List.append_of_mem hl
  rw [List.pairwise_append, List.pairwise_cons] at hs
  obtain ⟨_, ⟨h2, _⟩, h3⟩ := hs
  have nil : ∀ (xs : List Link), (∀ x ∈ xs, f x = []) → xs.flatMap f = [] := fun xs hx => by
    rw [List.flatMap_eq_nil_iff]; exact hx
  rw [List.flatMap_append, List.flatMap_cons, nil p, nil s, List.nil_append, List.append_nil]
  · intro x hx
    have := h2 x hx
    exact h x (by simp [hx]) (by omega)
  · intro x hx
    have := h3 x hx l (by simp)
    exact h x (by simp [hx]) (by omega)
theorem ext_preC {T : TreeT} (hT : GoodT T) {ns : List Int} (hp : Path T ns) (hl : ns.length ≤ T.vars.length) : ∀ (m d : Nat) (q : List Int), ns.length = q.length + m → ns.take q.length = q → q.length + d = T.vars.length → (U5 T d q).filter (fun r => decide (r.take ns.length = ns)) = U5 T (T.vars.length - ns.length) ns
  | 0, d, q, h1, h2, h3 => by
    rw [List.take_of_length_le (by omega)] at h2
    subst h2
    rw [show T.vars.length - ns.length = d by omega]
    exact List.filter_eq_self.2 fun r hr => decide_eq_true (mem_ext d ns r hr).2
  | m + 1, d, q, h1, h2, h3 => by
    obtain ⟨d, rfl⟩ : ∃ e, d = e + 1 := ⟨d - 1, by omega⟩
    have hq : q.length < ns.length := by omega
    obtain ⟨l, hl1, hl2⟩ := hp q.length hq
    have hab : Ym T ns q.length = Ym T q q.length := above_ext hT (by omega) fun j hj => by rw [← h2, List.length_take, Nat.min_eq_left (by omega)] at *; rw [getD_take hj]
    rw [hab] at hl1
    have hnext : ns.take (q.length + 1) = q ++ [l.b] := by
      rw [List.take_succ_eq_append_getElem hq, h2, hl2, Zf hq]
    rw [U5, List.filter_flatMap, flatMap_one (hT.sort _ _) hl1]
    · exact ext_preC hT hp hl m d (q ++ [l.b]) (by simp; omega) (by rw [List.length_append, List.length_singleton]; exact hnext) (by simp; omega)
    · intro x hx hne
      rw [List.filter_eq_nil_iff]
      intro r hr he
      have he := of_decide_eq_true he
      have h4 := (mem_ext d _ r hr).2
      rw [List.length_append, List.length_singleton] at h4
      have h5 := congrArg (List.take (q.length + 1)) he
      rw [List.take_take, Nat.min_eq_left (by omega), h4, hnext] at h5
      have h6 := (List.append_inj' h5 rfl).2
      simp only [List.cons.injEq, and_true] at h6
      exact hne h6
end Go.Proofs.YtmakkmcjocjgmaaGreat.Am


/- A walk goes to the next, or back. -/
namespace Go.Proofs.YtmakkmcjocjgmaaGreat.Am
open Go Go.RowKit
set_option maxRecDepth 100000
set_option linter.unusedVariables false
set_option linter.unusedSimpArgs false

end Go.Proofs.YtmakkmcjocjgmaaGreat.Am


/- A walk steps, tells the next row, the first one. -/
namespace Go.Proofs.YtmakkmcjocjgmaaGreat.Am
open Go Go.RowKit
set_option maxRecDepth 100000
set_option linter.unusedVariables false
set_option linter.unusedSimpArgs false

end Go.Proofs.YtmakkmcjocjgmaaGreat.Am


/- Walks as they are told to others; the first row; all rows. -/
namespace Go.Proofs.YtmakkmcjocjgmaaGreat.Am
open Go Go.RowKit
set_option maxRecDepth 100000
set_option linter.unusedVariables false
set_option linter.unusedSimpArgs false

def w0 : WalkS := ⟨[], false, false, 0⟩
def w1 : WalkS := ⟨[], false, true, 0⟩
def kRaw : Kd (Value × Int × Int) where
  sz := 3
  pos := by decide
  rep _ x cs := cs = [x.1, .int .i64 x.2.1, .int .u64 x.2.2] ∧ x.1.oneCell' = true
  len h := by rw [h.1]; rfl
  mono _ h := h
  one h v hv := by rw [h.1] at hv; simp at hv; rcases hv with rfl | rfl | rfl; exact h.2; rfl; rfl
structure Raws (G : Hp) (raws : List (Value × Int × Int)) (rows : List RowT) : Prop where
  len : raws.length = rows.length
  at_ : ∀ (i : Nat) (h : i < raws.length) (h' : i < rows.length), raws[i].2.1 = rows[i].cost ∧ raws[i].2.2 = rows[i].n ∧ Sl (Yz .i64) G raws[i].1 rows[i].nodes
theorem Raws.mono {G G' : Hp} (h : G.sees G') {raws : List (Value × Int × Int)} {rows : List RowT} (hr : Raws G raws rows) : Raws G' raws rows :=
  ⟨hr.len, fun i a b => ⟨(hr.at_ i a b).1, (hr.at_ i a b).2.1, (hr.at_ i a b).2.2.mono h⟩⟩
theorem Raws.snoc {G : Hp} {raws : List (Value × Int × Int)} {rows : List RowT} (hr : Raws G raws rows) {v : Value} {r : RowT} (hs : Sl (Yz .i64) G v r.nodes) : Raws G (raws ++ [(v, r.cost, r.n)]) (rows ++ [r]) := by
  have hl := hr.len
  refine ⟨by simp [hl], fun i a b => ?_⟩
  rw [List.length_append, List.length_singleton] at a b
  by_cases h : i < raws.length
  · have h' : i < rows.length := by omega
    rw [List.getElem_append_left h, List.getElem_append_left h']
    exact hr.at_ i h h'
  · obtain rfl : i = raws.length := by omega
    rw [List.getElem_append_right (Nat.le_refl _), List.getElem_append_right (by omega)]
    simp only [Nat.sub_self, List.getElem_cons_zero, hl]
    exact ⟨trivial, trivial, hs⟩
theorem Raws.sl {G H : Hp} {raws : List (Value × Int × Int)} {rows : List RowT} (hr : Raws G raws rows) (hle : G.sees H) {v : Value} (hs : Sl kRaw H v raws) : Sl kRow H v rows := by
  rcases hs with ⟨rfl, rfl⟩ | ⟨b, o, c, rfl, hb, hk, hx⟩
  · have := hr.len
    exact .inl ⟨rfl, List.eq_nil_of_length_eq_zero (by simpa using this.symm)⟩
  · refine .inr ⟨b, o, c, by rw [hr.len], hb, hk, fun i x hi => ?_⟩
    obtain ⟨hi', rfl⟩ := List.getElem?_eq_some_iff.1 hi
    have hi2 : i < raws.length := by rw [hr.len]; exact hi'
    obtain ⟨cs, h1, h2⟩ := hx i raws[i] (List.getElem?_eq_getElem hi2)
    obtain ⟨e1, e2, e3⟩ := hr.at_ i hi2 hi'
    refine ⟨cs, ⟨raws[i].1, ?_, e3.mono hle⟩, h2⟩
    rw [h1.1, e1, e2]
end Go.Proofs.YtmakkmcjocjgmaaGreat.Am


/- Variables that hang from nobody. -/
namespace Go.Proofs.YtmakkmcjocjgmaaGreat.Am
open Go Go.RowKit
set_option maxRecDepth 100000
set_option linter.unusedVariables false
set_option linter.unusedSimpArgs false

def Vn (ways : Int) (m : Nat) : List Link := (List.range m).map fun (k : Nat) => ⟨k, k, k, ways⟩
def Zv (k : Nat) : Forest := ⟨List.replicate k ⟨#[120]⟩, (List.range k).map fun (i : Nat) => (i : Int), List.replicate k (-1), List.replicate k [], List.replicate k []⟩
def Z2 (ways : Int) (sizes : List Int) : Parts := ⟨sizes.map fun m => Vn ways m.toNat, sizes.map fun _ => []⟩
theorem apartL_next (ways : Int) (m : Nat) : Vn ways (m + 1) = Vn ways m ++ [⟨m, m, m, ways⟩] := by
  unfold Vn
  rw [List.range_succ, List.map_append]; rfl
theorem Vm (ways : Int) (m : Nat) : (Vn ways m).length = m := by unfold Vn; simp
structure ApartR (G : Hp) (ways : Int) (sizes : List Int) (i : Nat) (nds : List (List Value)) : Prop where
  len : nds.length = i
  at_ : ∀ (j : Nat) (h : j < nds.length) (h' : j < sizes.length), ∃ w, nds[j] = [w] ∧ Sl kLink G w (Vn ways sizes[j].toNat)
theorem ApartR.mono {G G' : Hp} (h : G.sees G') {ways : Int} {sizes : List Int} {i : Nat} {nds : List (List Value)} (hr : ApartR G ways sizes i nds) : ApartR G' ways sizes i nds :=
  ⟨hr.len, fun j a b => let ⟨w, h1, h2⟩ := hr.at_ j a b; ⟨w, h1, h2.mono h⟩⟩
theorem ApartR.snoc {G : Hp} {ways : Int} {sizes : List Int} {i : Nat} {nds : List (List Value)} (hr : ApartR G ways sizes i nds) (hi : i < sizes.length) {w : Value} (hs : Sl kLink G w (Vn ways sizes[i].toNat)) : ApartR G ways sizes (i + 1) (nds ++ [[w]]) := by
  have hl := hr.len
  refine ⟨by simp [hl], fun j a b => ?_⟩
  rw [List.length_append, List.length_singleton] at a
  by_cases h : j < nds.length
  · rw [List.getElem_append_left h]; exact hr.at_ j h b
  · obtain rfl : j = nds.length := by omega
    rw [List.getElem_append_right (Nat.le_refl _)]
    simp only [Nat.sub_self, List.getElem_cons_zero]
    subst hl
    exact ⟨w, rfl, hs⟩
theorem rep_next {α : Type} (n : Nat) (x : α) : List.replicate n x ++ [x] = List.replicate (n + 1) x := by rw [List.replicate_succ']
def eStr (v : Value) (i : Nat) : Ent := ⟨1, by decide, v, List.replicate i [.string ⟨#[120]⟩]⟩
def eInt (v : Value) (i : Nat) : Ent := ⟨1, by decide, v, (List.range i).map fun (k : Nat) => [.int .i64 k]⟩
def eNeg (v : Value) (i : Nat) : Ent := ⟨1, by decide, v, List.replicate i [.int .i64 (-1)]⟩
def U0 (v : Value) (i : Nat) : Ent := ⟨1, by decide, v, List.replicate i [.slice none 0 0]⟩
def eNds (v : Value) (nds : List (List Value)) : Ent := ⟨1, by decide, v, nds⟩
theorem range_cells (i : Nat) : ((List.range i).map fun (k : Nat) => [Value.int .i64 k]) ++ [[.int .i64 i]] = (List.range (i + 1)).map fun (k : Nat) => [Value.int .i64 k] := by rw [List.range_succ, List.map_append]; rfl
theorem eStr_next (v w : Value) (i : Nat) : (⟨(eStr v i).sz, (eStr v i).pos, w, (eStr v i).raws ++ [[.string ⟨#[120]⟩]]⟩ : Ent) = eStr w (i + 1) := by unfold eStr; simp only [rep_next]
theorem eInt_next (v w : Value) (i : Nat) : (⟨(eInt v i).sz, (eInt v i).pos, w, (eInt v i).raws ++ [[.int .i64 i]]⟩ : Ent) = eInt w (i + 1) := by unfold eInt; simp only [range_cells]
theorem eNeg_next (v w : Value) (i : Nat) : (⟨(eNeg v i).sz, (eNeg v i).pos, w, (eNeg v i).raws ++ [[.int .i64 (-1)]]⟩ : Ent) = eNeg w (i + 1) := by unfold eNeg; simp only [rep_next]
theorem eNil_next (v w : Value) (i : Nat) : (⟨(U0 v i).sz, (U0 v i).pos, w, (U0 v i).raws ++ [[.slice none 0 0]]⟩ : Ent) = U0 w (i + 1) := by unfold U0; simp only [rep_next]
theorem eNds_next (v w : Value) (nds : List (List Value)) (x : List Value) : (⟨(eNds v nds).sz, (eNds v nds).pos, w, (eNds v nds).raws ++ [x]⟩ : Ent) = eNds w (nds ++ [x]) := rfl
def BxP (H G : Hp) (b2 b3 : List Value) : Prop := H.le G ∧ H.size + 4 ≤ G.size ∧ G.get H.size = .own 0 [.slice none 0 0, .slice none 0 0, .slice none 0 0, .slice none 0 0, .slice none 0 0] ∧ G.get (H.size + 1) = .own 0 [.slice none 0 0, .slice none 0 0] ∧ G.get (H.size + 2) = .own 0 b2 ∧ G.get (H.size + 3) = .own 0 b3
theorem BxP.le {H G G' : Hp} {b2 b3 : List Value} (h : BxP H G b2 b3) (hle : G.le G') : BxP H G' b2 b3 :=
  ⟨Hp.le_trans h.1 hle, Nat.le_trans h.2.1 hle.1, Xt hle (by have := h.2.1; omega) (by intro e; cases e) h.2.2.1, Xt hle (by have := h.2.1; omega) (by intro e; cases e) h.2.2.2.1, Xt hle (by have := h.2.1; omega) (by intro e; cases e) h.2.2.2.2.1, Xt hle (by have := h.2.1; omega) (by intro e; cases e) h.2.2.2.2.2⟩
theorem BxP.put2 {H G : Hp} {b2 b3 : List Value} (h : BxP H G b2 b3) (b2' : List Value) : BxP H (G.put (H.size + 2) (.own 0 b2')) b2' b3 :=
  ⟨Hp.le_put_new h.1 (by omega) _, h.2.1, by rw [Hp.put_other _ _ (by omega)]; exact h.2.2.1, by rw [Hp.put_other _ _ (by omega)]; exact h.2.2.2.1, Hp.put_same _ _ _, by rw [Hp.put_other _ _ (by omega)]; exact h.2.2.2.2.2⟩
theorem BxP.put3 {H G : Hp} {b2 b3 : List Value} (h : BxP H G b2 b3) (b3' : List Value) : BxP H (G.put (H.size + 3) (.own 0 b3')) b2 b3' :=
  ⟨Hp.le_put_new h.1 (by omega) _, h.2.1, by rw [Hp.put_other _ _ (by omega)]; exact h.2.2.1, by rw [Hp.put_other _ _ (by omega)]; exact h.2.2.2.1, by rw [Hp.put_other _ _ (by omega)]; exact h.2.2.2.2.1, Hp.put_same _ _ _⟩
theorem Z9 {H : Hp} {h : 1 ≠ 0} {v : Value} {raws : List (List Value)} {i : Nat} (hs : Sl (kCel 1 h) H v raws) (hl : raws.length = i) : ∃ A c, v = .slice A i c := by
  obtain ⟨A, c, e⟩ := hs.shape
  exact ⟨A, c, by rw [e, hl]⟩
set_option maxHeartbeats 4000000 in
theorem Apart_ok (ways : Int) (sizes : List Int) (u : Value) (H : Hp) (hs : Sl (Yz .i64) H u sizes) (hl : sizes.length ≤ 1000) (hm : ∀ m ∈ sizes, m ≤ 100000) :
    ACalls Tryz.prog 54 #[.int .u64 ways, u] H (fun r H' => ∃ cs ds, r = .tuple #[.agg cs.toArray, .agg ds.toArray] ∧ kForest.rep H' (Zv sizes.length) cs ∧ kParts.rep H' (Z2 ways sizes) ds ∧ H.le H') := by
  obtain ⟨Au, cu, rfl⟩ := hs.shape
  refine Xv Tryz.func54 rfl rfl rfl (by simp) ?_
  refine Xe ?_
  refine Xc (by kernel_rfl) ?_
  refine X6 (Y8 (l := [.slice none 0 0, .slice none 0 0, .slice none 0 0, .slice none 0 0, .slice none 0 0]) inf26.zero rfl (by decide)) ?_
  refine X6 (Y8 (l := [.slice none 0 0, .slice none 0 0]) inf29.zero rfl (by decide)) ?_
  refine Xe ?_
  refine Xc (by kernel_rfl) ?_
  refine Xa (Zc (pl := [(0, 1), (1, 1), (2, 1), (3, 1), (4, 1)]) (r := [.slice _ _ _, .slice _ _ _, .slice _ _ _, .slice _ _ _, .slice _ _ _]) Tryz.underlying26 inf26.zero (by decide) rfl rfl) ?_
  refine Xa (Zc (pl := [(0, 1), (1, 1)]) (r := [.slice _ _ _, .slice _ _ _]) Tryz.underlying29 inf29.zero (by decide) rfl rfl) ?_
  refine X6 (Y8 (l := [.slice none 0 0, .slice none 0 0, .slice none 0 0, .slice none 0 0, .slice none 0 0]) inf26.zero rfl (by decide)) ?_
  refine X6 (Y8 (l := [.slice none 0 0, .slice none 0 0]) inf29.zero rfl (by decide)) ?_
  refine X1 (Yo (vs := [.slice _ _ _, .slice _ _ _, .slice _ _ _, .slice _ _ _, .slice _ _ _]) rfl rfl inf26.size Yj Yl rfl rfl ?_)
  refine X1 (Yo (vs := [.slice _ _ _, .slice _ _ _]) rfl rfl inf29.size Yj Yl rfl rfl ?_)
  refine Xe ?_
  refine Xe ?_
  refine Xc (by kernel_rfl) ?_
  refine Xa (Xh rfl) ?_
  refine X8 ?_
  refine Yy (fun n t H' => ∃ (i : Nat) (G : Hp) (v0 v1 v2 v3 v4 v5 v6 : Value) (nds : List (List Value)), i ≤ sizes.length ∧ n = sizes.length - i ∧ BxP H G [v0, v1, v2, v3, v4] [v5, v6] ∧ OwnL G [eStr v0 i, eInt v1 i, eNeg v2 i, U0 v3 i, U0 v4 i, eNds v5 nds, U0 v6 i] H' ∧ ApartR G ways sizes i nds ∧ t 0 = .int .u64 ways ∧ t 1 = .slice Au sizes.length cu ∧ t 4 = .pointer (some ⟨H.size, 0, none⟩) ∧ t 5 = .pointer (some ⟨H.size + 1, 0, none⟩) ∧ t 6 = .pointer (some ⟨H.size + 2, 0, none⟩) ∧ t 7 = .pointer (some ⟨H.size + 3, 0, none⟩) ∧ t 8 = .int .i64 i) (sizes.length) (⟨0, _, .slice none 0 0, .slice none 0 0, .slice none 0 0, .slice none 0 0, .slice none 0 0, .slice none 0 0, .slice none 0 0, [], by omega, rfl, ⟨t_le, by simp, Yj, Yj, Yj, Yj⟩, ⟨_, OwnP.nil _ _, _, OwnP.nil _ _, _, OwnP.nil _ _, _, OwnP.nil _ _, _, OwnP.nil _ _, _, OwnP.nil _ _, _, OwnP.nil _ _, rfl⟩, ⟨rfl, fun j h _ => absurd h (Nat.not_lt_zero _)⟩, rfl, rfl, rfl, rfl, rfl, rfl, rfl⟩) ?_
  rintro n t H1 ⟨i, G, v0, v1, v2, v3, v4, v5, v6, nds, hi, rfl, hb, hown, hr, e0, e1, e4, e5, e6, e7, e8⟩
  obtain ⟨A0, k0, rfl⟩ := Z9 (hown.sl (eStr v0 i) (by simp)) (List.length_replicate)
  obtain ⟨A1, k1, rfl⟩ := Z9 (hown.sl (eInt v1 i) (by simp)) (show ((List.range i).map fun (k : Nat) => [Value.int .i64 k]).length = i by simp)
  obtain ⟨A2, k2, rfl⟩ := Z9 (hown.sl (eNeg v2 i) (by simp)) (List.length_replicate)
  obtain ⟨A3, k3, rfl⟩ := Z9 (hown.sl (U0 v3 i) (by simp)) (List.length_replicate)
  obtain ⟨A4, k4, rfl⟩ := Z9 (hown.sl (U0 v4 i) (by simp)) (List.length_replicate)
  obtain ⟨A5, k5, rfl⟩ := Z9 (hown.sl (eNds v5 nds) (by simp)) hr.len
  obtain ⟨A6, k6, rfl⟩ := Z9 (hown.sl (U0 v6 i) (by simp)) (List.length_replicate)
  have bH := hb.le hown.le
  obtain ⟨leH1, zH1, q0, q1, q2, q3⟩ := id bH
  have zz := hown.size
  refine Xe ?_
  refine Xe ?_
  refine Xc (by kernel_rfl) ?_
  refine Xa (Xb Xj) ?_
  refine Xa (X0 Xj) ?_
  refine Xa (Yk rfl Tryz.underlying23) ?_
  refine Xa (Yx rfl rfl) ?_
  refine X4 rfl rfl ?_ ?_
  intro hc1
  (try simp only [decide_eq_true_eq, decide_eq_false_iff_not, Bool.not_eq_true', Bool.not_eq_false'] at hc1)
  refine X7 ?_
  refine Xe ?_
  refine X8 ?_
  refine Xe ?_
  have hix : i < sizes.length := by omega
  have zz5 := hown.size
  have hL := (((hown.push (.own 1 [.string ⟨#[120]⟩])).push (.own 1 [.int .i64 i])).push (.own 1 [.int .i64 (-1)]))
  have leP : G.le (((G.push (.own 1 [.string ⟨#[120]⟩])).push (.own 1 [.int .i64 i])).push (.own 1 [.int .i64 (-1)])) := Hp.le_trans (Hp.le_trans (Hp.le_push (G) (.own 1 [.string ⟨#[120]⟩])) (Hp.le_push ((G.push (.own 1 [.string ⟨#[120]⟩]))) (.own 1 [.int .i64 i]))) (Hp.le_push (((G.push (.own 1 [.string ⟨#[120]⟩])).push (.own 1 [.int .i64 i]))) (.own 1 [.int .i64 (-1)]))
  have bL := hb.le leP
  have rL := hr.mono leP.sees
  have l0 : (((G.push (.own 1 [.string ⟨#[120]⟩])).push (.own 1 [.int .i64 i])).push (.own 1 [.int .i64 (-1)])).get (H1.size) = .own 1 [.string ⟨#[120]⟩] := by rw [zz5]; exact Yj
  have l1 : (((G.push (.own 1 [.string ⟨#[120]⟩])).push (.own 1 [.int .i64 i])).push (.own 1 [.int .i64 (-1)])).get (H1.size + 1) = .own 1 [.int .i64 i] := by rw [zz5]; exact Yj
  have l2 : (((G.push (.own 1 [.string ⟨#[120]⟩])).push (.own 1 [.int .i64 i])).push (.own 1 [.int .i64 (-1)])).get (H1.size + 2) = .own 1 [.int .i64 (-1)] := by rw [zz5]; exact Yj
  have zL : H1.size + 3 ≤ (((G.push (.own 1 [.string ⟨#[120]⟩])).push (.own 1 [.int .i64 i])).push (.own 1 [.int .i64 (-1)])).size := by simp; omega
  obtain ⟨GP, hGP⟩ : ∃ GP, GP = (((G.push (.own 1 [.string ⟨#[120]⟩])).push (.own 1 [.int .i64 i])).push (.own 1 [.int .i64 (-1)])) := ⟨_, rfl⟩
  rw [← hGP] at hL bL rL zL l0 l1 l2
  clear hGP leP
  refine Yt (by kernel_rfl) (Y2 (B := [0, 1, 0, 7, 0, 16, 0, 64, 255, 0, 512, 0, 4095, 1599, 16383, 32767, 65535, 131071, 262143]) (π := [0, 1, 2, 4, 5, 6, 7, 9, 10, 11, 3, 13, 8, 12, 14, 15, 16, 17, 18]) (by kernel_rfl)) ?_
  refine Xd rfl rfl (Xi (off := 0) Xj Tryz.underlying26 Xj inf22.size (by decide) Xj) Xq ?_
  refine Xd rfl rfl (Xm rfl Tryz.underlying22 rfl Xr) Xq ?_
  first | refine Za rfl rfl (Yf (r := [.string _]) Tryz.underlying22 inf9.size inf9.zero rfl (by decide) (by decide) (by decide) rfl) ?_
  refine Xd rfl rfl (Xi (off := 1) Xj Tryz.underlying26 Xj inf23.size (by decide) Xj) Xq ?_
  refine Xd rfl rfl (Xm rfl Tryz.underlying23 rfl Xr) Xq ?_
  refine Xd rfl rfl (Xb Xj) Xq ?_
  first | refine Za rfl rfl (Yf (r := [.int .i64 _]) Tryz.underlying23 inf3.size inf3.zero rfl (by decide) (by decide) (by decide) rfl) ?_
  refine Xd rfl rfl (Xi (off := 2) Xj Tryz.underlying26 Xj inf23.size (by decide) Xj) Xq ?_
  refine Xd rfl rfl (Xm rfl Tryz.underlying23 rfl Xr) Xq ?_
  first | refine Za rfl rfl (Yf (r := [.int .i64 _]) Tryz.underlying23 inf3.size inf3.zero rfl (by decide) (by decide) (by decide) rfl) ?_
  obtain ⟨Ga0, leGa0, ha0, back0⟩ := hL.rot.last
  have zGa := leGa0.1
  obtain ⟨_, zA, qa, qb, qc, qd⟩ := bL.le leGa0
  have m0 := Xt leGa0 (by omega) (by intro e; cases e) l0
  have m1 := Xt leGa0 (by omega) (by intro e; cases e) l1
  have m2 := Xt leGa0 (by omega) (by intro e; cases e) l2
  refine Yi rfl rfl (Ent.append ha0 Tryz.underlying22 inf9 Xj Xj rfl (lb := H1.size) (by omega) m0 rfl (by intro v hv; simp at hv; subst hv; rfl) (by simp only [eStr, List.length_replicate]; omega) (by decide) ?_)
  rintro w0 Gb0 Hb0 leb0 hb0
  have hsameO := Ent.sameO ha0 leb0 hb0
  obtain ⟨Gc0, lec0, hc0⟩ := back0 Gb0 Hb0 _ leb0 hb0
  rw [eStr_next] at hc0 hb0
  obtain ⟨W0, cw0, rfl⟩ : ∃ A c, w0 = Value.slice A (i + 1) c := Z9 (i := i + 1) (OwnP.sl hb0) (by simp [eStr])
  have bb0 := (bL.le lec0).le hc0.le
  obtain ⟨_, zb, qa0, qb0, qc0, qd0⟩ := id bb0
  have l1b := Xt hc0.le (by have := lec0.1; omega) (by intro e; cases e) (Xt lec0 (by omega) (by intro e; cases e) l1)
  have l2b := Xt hc0.le (by have := lec0.1; omega) (by intro e; cases e) (Xt lec0 (by omega) (by intro e; cases e) l2)
  refine ⟨Ye, ?_⟩
  clear hsameO qa qb qc qd m0 m1 m2
  clear l1b
  have l1 := Xt lec0 (by omega) (by intro e; cases e) l1
  clear l2b
  have l2 := Xt lec0 (by omega) (by intro e; cases e) l2
  replace bL := bL.le lec0
  replace rL := rL.mono lec0.sees
  replace zL := Nat.le_trans zL lec0.1
  clear hL
  have hL := hc0
  have zH0 := hL.size
  refine Xd rfl rfl (Xi (off := 0) Xj Tryz.underlying26 Xj inf22.size (by decide) Xj) Xq ?_
  obtain ⟨Ga1, leGa1, ha1, back1⟩ := hL.rot.last
  have zGa := leGa1.1
  obtain ⟨_, zA, qa, qb, qc, qd⟩ := bL.le leGa1
  have m0 := Xt leGa1 (by omega) (by intro e; cases e) l1
  have m1 := Xt leGa1 (by omega) (by intro e; cases e) l2
  refine Yi rfl rfl (Ent.append ha1 Tryz.underlying23 inf3 Xj Xj rfl (lb := H1.size + 1) (by omega) m0 rfl (by intro v hv; simp at hv; subst hv; rfl) (by simp only [eInt, List.length_map, List.length_range]; omega) (by decide) ?_)
  rintro w1 Gb1 Hb1 leb1 hb1
  have hsameO := Ent.sameO ha1 leb1 hb1
  obtain ⟨Gc1, lec1, hc1⟩ := back1 Gb1 Hb1 _ leb1 hb1
  rw [eInt_next] at hc1 hb1
  obtain ⟨W1, cw1, rfl⟩ : ∃ A c, w1 = Value.slice A (i + 1) c := Z9 (i := i + 1) (OwnP.sl hb1) (by simp [eInt])
  have bb1 := (bL.le lec1).le hc1.le
  obtain ⟨_, zb, qa1, qb1, qc1, qd1⟩ := id bb1
  have l2b := Xt hc1.le (by have := lec1.1; omega) (by intro e; cases e) (Xt lec1 (by omega) (by intro e; cases e) l2)
  refine ⟨Ye, ?_⟩
  clear hsameO qa qb qc qd m0 m1
  clear l2b
  have l2 := Xt lec1 (by omega) (by intro e; cases e) l2
  replace bL := bL.le lec1
  replace rL := rL.mono lec1.sees
  replace zL := Nat.le_trans zL lec1.1
  clear hL
  have hL := hc1
  have zH1 := hL.size
  obtain ⟨Ga2, leGa2, ha2, back2⟩ := hL.rot.last
  have zGa := leGa2.1
  obtain ⟨_, zA, qa, qb, qc, qd⟩ := bL.le leGa2
  have m0 := Xt leGa2 (by omega) (by intro e; cases e) l2
  refine Yi rfl rfl (Ent.append ha2 Tryz.underlying23 inf3 Xj Xj rfl (lb := H1.size + 2) (by omega) m0 rfl (by intro v hv; simp at hv; subst hv; rfl) (by simp only [eNeg, List.length_replicate]; omega) (by decide) ?_)
  rintro w2 Gb2 Hb2 leb2 hb2
  have hsameO := Ent.sameO ha2 leb2 hb2
  obtain ⟨Gc2, lec2, hc2⟩ := back2 Gb2 Hb2 _ leb2 hb2
  rw [eNeg_next] at hc2 hb2
  obtain ⟨W2, cw2, rfl⟩ : ∃ A c, w2 = Value.slice A (i + 1) c := Z9 (i := i + 1) (OwnP.sl hb2) (by simp [eNeg])
  have bb2 := (bL.le lec2).le hc2.le
  obtain ⟨_, zb, qa2, qb2, qc2, qd2⟩ := id bb2
  refine ⟨Ye, ?_⟩
  clear hsameO qa qb qc qd m0
  replace bL := bL.le lec2
  replace rL := rL.mono lec2.sees
  replace zL := Nat.le_trans zL lec2.1
  clear hL
  have hL := hc2
  have zH2 := hL.size
  first | refine Yi rfl rfl (Y7 rfl rfl rfl inf22.size Yj Yl rfl ?_)
  refine ⟨Ye, ?_⟩
  refine Xd rfl rfl (Xi (off := 1) Xj Tryz.underlying26 Xj inf23.size (by decide) Xj) Xq ?_
  first | refine Yi rfl rfl (Y7 rfl rfl rfl inf23.size Yj Yl rfl ?_)
  refine ⟨Ye, ?_⟩
  refine Xd rfl rfl (Xi (off := 2) Xj Tryz.underlying26 Xj inf23.size (by decide) Xj) Xq ?_
  first | refine Yi rfl rfl (Y7 rfl rfl rfl inf23.size Yj Yl rfl ?_)
  refine ⟨Ye, ?_⟩
  refine Xe ?_
  obtain ⟨H6, hH6⟩ : ∃ H6, H6 = Hb2.put (H.size + 2) (.own 0 [.slice W0 (i + 1) cw0, .slice W1 (i + 1) cw1, .slice W2 (i + 1) cw2, .slice A3 i k3, .slice A4 i k4]) := ⟨_, rfl⟩
  obtain ⟨G6, hG6⟩ : ∃ G6, G6 = Gc2.put (H.size + 2) (.own 0 [.slice W0 (i + 1) cw0, .slice W1 (i + 1) cw1, .slice W2 (i + 1) cw2, .slice A3 i k3, .slice A4 i k4]) := ⟨_, rfl⟩
  have ownG6 := hL.put_box (by have := bL.2.1; omega) bL.2.2.2.2.1 [.slice W0 (i + 1) cw0, .slice W1 (i + 1) cw1, .slice W2 (i + 1) cw2, .slice A3 i k3, .slice A4 i k4]
  have bG6 := bL.put2 [.slice W0 (i + 1) cw0, .slice W1 (i + 1) cw1, .slice W2 (i + 1) cw2, .slice A3 i k3, .slice A4 i k4]
  have rG6 := rL.mono (Hp.sees_box (cs' := [.slice W0 (i + 1) cw0, .slice W1 (i + 1) cw1, .slice W2 (i + 1) cw2, .slice A3 i k3, .slice A4 i k4]) _ bL.2.2.2.2.1)
  rw [← hG6] at ownG6 bG6 rG6
  rw [← hH6] at ownG6
  change ACode true _ _ _ _ _ (((Hb2.put (H.size + 2) (.own 0 [.slice W0 (i + 1) cw0, .slice A1 i k1, .slice A2 i k2, .slice A3 i k3, .slice A4 i k4])).put (H.size + 2) (.own 0 [.slice W0 (i + 1) cw0, .slice W1 (i + 1) cw1, .slice A2 i k2, .slice A3 i k3, .slice A4 i k4])).put (H.size + 2) (.own 0 [.slice W0 (i + 1) cw0, .slice W1 (i + 1) cw1, .slice W2 (i + 1) cw2, .slice A3 i k3, .slice A4 i k4]))
  rw [Hp.put_put]
  rw [Hp.put_put]
  rw [← hH6]
  clear hH6 hG6 hL bL rL zL
  have bbH6 := bG6.le ownG6.le
  obtain ⟨_, zzH6, s0H6, s1H6, s2H6, s3H6⟩ := id bbH6
  have zz6 := ownG6.size
  have hL := ((ownG6.push (.own 1 [.slice none 0 0])).push (.own 1 [.slice none 0 0]))
  have leP : G6.le ((G6.push (.own 1 [.slice none 0 0])).push (.own 1 [.slice none 0 0])) := Hp.le_trans (Hp.le_push (G6) (.own 1 [.slice none 0 0])) (Hp.le_push ((G6.push (.own 1 [.slice none 0 0]))) (.own 1 [.slice none 0 0]))
  have bL := bG6.le leP
  have rL := rG6.mono leP.sees
  have l0 : ((G6.push (.own 1 [.slice none 0 0])).push (.own 1 [.slice none 0 0])).get (H6.size) = .own 1 [.slice none 0 0] := by rw [zz6]; exact Yj
  have l1 : ((G6.push (.own 1 [.slice none 0 0])).push (.own 1 [.slice none 0 0])).get (H6.size + 1) = .own 1 [.slice none 0 0] := by rw [zz6]; exact Yj
  have zL : H6.size + 2 ≤ ((G6.push (.own 1 [.slice none 0 0])).push (.own 1 [.slice none 0 0])).size := by simp; omega
  obtain ⟨GP, hGP⟩ : ∃ GP, GP = ((G6.push (.own 1 [.slice none 0 0])).push (.own 1 [.slice none 0 0])) := ⟨_, rfl⟩
  rw [← hGP] at hL bL rL zL l0 l1
  clear hGP leP
  refine Yt (by kernel_rfl) (Y2 (B := [0, 1, 0, 7, 0, 16, 0, 127, 63, 511, 1023, 2047]) (π := [0, 1, 2, 4, 5, 6, 3, 8, 7, 9, 10, 11]) (by kernel_rfl)) ?_
  refine Xd rfl rfl (Xi (off := 3) Xj Tryz.underlying26 Xj inf24.size (by decide) Xj) Xq ?_
  refine Xd rfl rfl (Xm rfl Tryz.underlying24 rfl Xr) Xq ?_
  refine Za rfl rfl (Yf (r := [.slice _ _ _]) Tryz.underlying24 inf23.size inf23.zero rfl (by decide) (by decide) (by decide) rfl) ?_
  refine Xd rfl rfl (Xi (off := 4) Xj Tryz.underlying26 Xj inf24.size (by decide) Xj) Xq ?_
  refine Xd rfl rfl (Xm rfl Tryz.underlying24 rfl Xr) Xq ?_
  refine Za rfl rfl (Yf (r := [.slice _ _ _]) Tryz.underlying24 inf23.size inf23.zero rfl (by decide) (by decide) (by decide) rfl) ?_
  obtain ⟨Ga3, leGa3, ha3, back3⟩ := hL.rot.last
  have zGa := leGa3.1
  obtain ⟨_, zA, qa, qb, qc, qd⟩ := bL.le leGa3
  have m0 := Xt leGa3 (by omega) (by intro e; cases e) l0
  have m1 := Xt leGa3 (by omega) (by intro e; cases e) l1
  refine Yi rfl rfl (Ent.append ha3 Tryz.underlying24 inf23 Xj Xj rfl (lb := H6.size) (by omega) m0 rfl (by intro v hv; simp at hv; subst hv; rfl) (by simp only [U0, List.length_replicate]; omega) (by decide) ?_)
  rintro w3 Gb3 Hb3 leb3 hb3
  have hsameO := Ent.sameO ha3 leb3 hb3
  obtain ⟨Gc3, lec3, hc3⟩ := back3 Gb3 Hb3 _ leb3 hb3
  rw [eNil_next] at hc3 hb3
  obtain ⟨W3, cw3, rfl⟩ : ∃ A c, w3 = Value.slice A (i + 1) c := Z9 (i := i + 1) (OwnP.sl hb3) (by simp [U0])
  have bb3 := (bL.le lec3).le hc3.le
  obtain ⟨_, zb, qa3, qb3, qc3, qd3⟩ := id bb3
  have l1b := Xt hc3.le (by have := lec3.1; omega) (by intro e; cases e) (Xt lec3 (by omega) (by intro e; cases e) l1)
  refine ⟨Ye, ?_⟩
  clear hsameO qa qb qc qd m0 m1
  clear l1b
  have l1 := Xt lec3 (by omega) (by intro e; cases e) l1
  replace bL := bL.le lec3
  replace rL := rL.mono lec3.sees
  replace zL := Nat.le_trans zL lec3.1
  clear hL
  have hL := hc3
  have zH3 := hL.size
  refine Xd rfl rfl (Xi (off := 3) Xj Tryz.underlying26 Xj inf24.size (by decide) Xj) Xq ?_
  obtain ⟨Ga4, leGa4, ha4, back4⟩ := hL.rot.last
  have zGa := leGa4.1
  obtain ⟨_, zA, qa, qb, qc, qd⟩ := bL.le leGa4
  have m0 := Xt leGa4 (by omega) (by intro e; cases e) l1
  refine Yi rfl rfl (Ent.append ha4 Tryz.underlying24 inf23 Xj Xj rfl (lb := H6.size + 1) (by omega) m0 rfl (by intro v hv; simp at hv; subst hv; rfl) (by simp only [U0, List.length_replicate]; omega) (by decide) ?_)
  rintro w4 Gb4 Hb4 leb4 hb4
  have hsameO := Ent.sameO ha4 leb4 hb4
  obtain ⟨Gc4, lec4, hc4⟩ := back4 Gb4 Hb4 _ leb4 hb4
  rw [eNil_next] at hc4 hb4
  obtain ⟨W4, cw4, rfl⟩ : ∃ A c, w4 = Value.slice A (i + 1) c := Z9 (i := i + 1) (OwnP.sl hb4) (by simp [U0])
  have bb4 := (bL.le lec4).le hc4.le
  obtain ⟨_, zb, qa4, qb4, qc4, qd4⟩ := id bb4
  refine ⟨Ye, ?_⟩
  clear hsameO qa qb qc qd m0
  replace bL := bL.le lec4
  replace rL := rL.mono lec4.sees
  replace zL := Nat.le_trans zL lec4.1
  clear hL
  have hL := hc4
  have zH4 := hL.size
  first | refine Yi rfl rfl (Y7 rfl rfl rfl inf24.size Yj Yl rfl ?_)
  refine ⟨Ye, ?_⟩
  refine Xd rfl rfl (Xi (off := 4) Xj Tryz.underlying26 Xj inf24.size (by decide) Xj) Xq ?_
  first | refine Yi rfl rfl (Y7 rfl rfl rfl inf24.size Yj Yl rfl ?_)
  refine ⟨Ye, ?_⟩
  refine Xe ?_
  obtain ⟨H7, hH7⟩ : ∃ H7, H7 = Hb4.put (H.size + 2) (.own 0 [.slice W0 (i + 1) cw0, .slice W1 (i + 1) cw1, .slice W2 (i + 1) cw2, .slice W3 (i + 1) cw3, .slice W4 (i + 1) cw4]) := ⟨_, rfl⟩
  obtain ⟨G7, hG7⟩ : ∃ G7, G7 = Gc4.put (H.size + 2) (.own 0 [.slice W0 (i + 1) cw0, .slice W1 (i + 1) cw1, .slice W2 (i + 1) cw2, .slice W3 (i + 1) cw3, .slice W4 (i + 1) cw4]) := ⟨_, rfl⟩
  have ownG7 := hL.put_box (by have := bL.2.1; omega) bL.2.2.2.2.1 [.slice W0 (i + 1) cw0, .slice W1 (i + 1) cw1, .slice W2 (i + 1) cw2, .slice W3 (i + 1) cw3, .slice W4 (i + 1) cw4]
  have bG7 := bL.put2 [.slice W0 (i + 1) cw0, .slice W1 (i + 1) cw1, .slice W2 (i + 1) cw2, .slice W3 (i + 1) cw3, .slice W4 (i + 1) cw4]
  have rG7 := rL.mono (Hp.sees_box (cs' := [.slice W0 (i + 1) cw0, .slice W1 (i + 1) cw1, .slice W2 (i + 1) cw2, .slice W3 (i + 1) cw3, .slice W4 (i + 1) cw4]) _ bL.2.2.2.2.1)
  rw [← hG7] at ownG7 bG7 rG7
  rw [← hH7] at ownG7
  change ACode true _ _ _ _ _ ((Hb4.put (H.size + 2) (.own 0 [.slice W0 (i + 1) cw0, .slice W1 (i + 1) cw1, .slice W2 (i + 1) cw2, .slice W3 (i + 1) cw3, .slice A4 i k4])).put (H.size + 2) (.own 0 [.slice W0 (i + 1) cw0, .slice W1 (i + 1) cw1, .slice W2 (i + 1) cw2, .slice W3 (i + 1) cw3, .slice W4 (i + 1) cw4]))
  rw [Hp.put_put]
  rw [← hH7]
  clear hH7 hG7 hL bL rL zL
  have bbH7 := bG7.le ownG7.le
  obtain ⟨_, zzH7, s0H7, s1H7, s2H7, s3H7⟩ := id bbH7
  have lit7 := OwnP.lit kLink H7 (cs := [])
  have own7 := ownG7.push .dead
  have b7 := bG7.le (G7.le_push .dead)
  have r7 := rG7.mono (G7.le_push .dead).sees
  obtain ⟨bs, os, es, hbs, hcs⟩ := (hs.mono leH1.sees).int_at (i := (i : Int)) (by omega) (by omega)
  subst es
  rw [Int.toNat_natCast, Zf hix] at hcs
  have hmi := hm _ (List.getElem_mem hix)
  have hcs0 : H.cell? bs (os + i * 1) = some (.int .i64 sizes[i]) := by
    obtain ⟨b9, o9, e9, hb9, hc9⟩ := hs.int_at (i := (i : Int)) (by omega) (by omega)
    simp only [Option.some.injEq, Addr.mk.injEq, and_true] at e9
    obtain ⟨rfl, rfl⟩ := e9
    rwa [Int.toNat_natCast, Zf hix] at hc9
  have hbs0 : bs < H.size := by
    obtain ⟨b9, o9, e9, hb9, hc9⟩ := hs.int_at (i := (i : Int)) (by omega) (by omega)
    simp only [Option.some.injEq, Addr.mk.injEq, and_true] at e9
    obtain ⟨rfl, rfl⟩ := e9
    exact hb9
  have hlen7 : nds.length = i := hr.len
  refine Xc (by kernel_rfl) ?_
  first | refine X6 (Yf (r := []) Tryz.underlying83 inf96.size inf96.zero rfl (by decide) (by decide) (by decide) rfl) ?_
  refine Xa (X9 rfl) ?_
  refine Xe ?_
  refine Xe ?_
  refine Xc (by kernel_rfl) ?_
  refine Xa (Xh rfl) ?_
  refine X8 ?_
  refine Yy (fun n t H' => ∃ (k : Nat) (Gx Gm : Hp) (C : Option Addr) (c9 : Nat), k ≤ sizes[i].toNat ∧ n = sizes[i].toNat - k ∧ BxP H Gx [.slice W0 (i + 1) cw0, .slice W1 (i + 1) cw1, .slice W2 (i + 1) cw2, .slice W3 (i + 1) cw3, .slice W4 (i + 1) cw4] [.slice A5 i k5, .slice A6 i k6] ∧ OwnL Gx [eNds (.slice A5 i k5) nds, U0 (.slice A6 i k6) i, eStr (.slice W0 (i + 1) cw0) (i + 1), eInt (.slice W1 (i + 1) cw1) (i + 1), eNeg (.slice W2 (i + 1) cw2) (i + 1), U0 (.slice W3 (i + 1) cw3) (i + 1), U0 (.slice W4 (i + 1) cw4) (i + 1)] Gm ∧ ApartR Gx ways sizes i nds ∧ OwnP kLink Gm H' (.slice C k c9) (Vn ways k) ∧ t 0 = .int .u64 ways ∧ t 1 = .slice (some ⟨bs, os, none⟩) sizes.length cu ∧ t 4 = .pointer (some ⟨H.size, 0, none⟩) ∧ t 5 = .pointer (some ⟨H.size + 1, 0, none⟩) ∧ t 6 = .pointer (some ⟨H.size + 2, 0, none⟩) ∧ t 7 = .pointer (some ⟨H.size + 3, 0, none⟩) ∧ t 8 = .int .i64 i ∧ t 9 = .slice C k c9 ∧ t 10 = .int .i64 k) (sizes[i].toNat) (⟨0, _, _, _, _, by omega, rfl, b7, own7, r7, lit7, e0, e1, e4, e5, e6, e7, e8, rfl, rfl⟩) ?_
  rintro n t H8 ⟨k, Gx, Gm, C, c9, hk, rfl, bx, ownx, rx, ownl, e0, e1, e4, e5, e6, e7, e8, e9, e10⟩
  have leH8 := (bx.le (Hp.le_trans ownx.le ownl.le)).1
  have hcs8 := leH8.cell1 hbs0 hcs0
  have hll := Vm ways k
  have zl := ownl.size
  refine Xe ?_
  refine Xe ?_
  refine Xc (by kernel_rfl) ?_
  refine Xa (Xb Xj) ?_
  refine Xa (X0 Xj) ?_
  refine Xa (Xb Xj) ?_
  refine Xa (Xs rfl rfl Tryz.underlying23 inf3.size X3 X3) ?_
  refine Xa (Xm rfl Tryz.underlying3 rfl Xr) ?_
  refine Xa (Yx rfl rfl) ?_
  refine X4 rfl rfl ?_ ?_
  intro hc2
  (try simp only [decide_eq_true_eq, decide_eq_false_iff_not, Bool.not_eq_true', Bool.not_eq_false'] at hc2)
  refine X7 ?_
  refine Xe ?_
  refine X8 ?_
  refine Xc (by kernel_rfl) ?_
  refine Xa (X0 Xj) ?_
  refine Xa (Xb Xj) ?_
  refine Xa (Xb Xj) ?_
  refine Xa (Xb Xj) ?_
  refine Xa (Xb Xj) ?_
  refine Xa (Zc (pl := [(0, 1), (1, 1), (2, 1), (3, 1)]) (r := [.int .i64 _, .int .i64 _, .int .i64 _, .int .u64 _]) Tryz.underlying96 inf96.zero (by decide) rfl rfl) ?_
  first | refine X6 (Yf (r := [.int .i64 _, .int .i64 _, .int .i64 _, .int .u64 _]) Tryz.underlying83 inf96.size inf96.zero rfl (by decide) (by decide) (by decide) rfl) ?_
  refine X1 (OwnP.append (ys := [⟨k, k, k, ways⟩]) (ownl.push _) Tryz.underlying83 inf96 Xj Xj rfl (Zt (k := kLink) rfl rfl ownl.size rfl) (by rw [hll]; simp only [List.length_singleton]; omega) (by rw [hll]; simp only [List.length_singleton]; omega) ?_)
  rintro w9 G9 H9 le9 own9
  obtain ⟨C9, c99, e99⟩ := own9.shape
  rw [← apartL_next] at own9
  rw [List.length_append, hll, List.length_singleton] at e99
  subst e99
  obtain ⟨Gy, ley, owny⟩ := ownx.later (Hp.le_trans (Gm.le_push _) le9)
  refine Xa (X9 rfl) ?_
  refine Xc (by kernel_rfl) ?_
  refine Xa (Xb Xj) ?_
  refine Xa (Yg rfl rfl Yp) ?_
  refine Xa (Xh rfl) ?_
  exact ⟨sizes[i].toNat - (k + 1), by omega, k + 1, Gy, G9, C9, c99, by omega, rfl, bx.le ley, owny, rx.mono ley.sees, own9, e0, e1, e4, e5, e6, e7, e8, rfl, rfl⟩
  intro hc2
  (try simp only [decide_eq_true_eq, decide_eq_false_iff_not, Bool.not_eq_true', Bool.not_eq_false'] at hc2)
  refine Yq ?_
  obtain rfl : k = sizes[i].toNat := by omega
  obtain ⟨Gy, ley, owny⟩ := ownx.later ownl.le
  have by' := bx.le ley
  have slN := owny.below (k' := kLink) (fun st => Zj st) (by intro e he; simp at he; rcases he with rfl | rfl | rfl | rfl | rfl | rfl | rfl <;> exact (show (1 : Nat) ≠ 4 by decide)) ownl.sl
  have ry := rx.mono ley.sees
  obtain ⟨_, zz8, s08, s18, s28, s38⟩ := by'.le owny.le
  have zz12 := owny.size
  have hL := ((owny.push (.own 1 [.slice C sizes[i].toNat c9])).push (.own 1 [.slice none 0 0]))
  have leP : Gy.le ((Gy.push (.own 1 [.slice C sizes[i].toNat c9])).push (.own 1 [.slice none 0 0])) := Hp.le_trans (Hp.le_push (Gy) (.own 1 [.slice C sizes[i].toNat c9])) (Hp.le_push ((Gy.push (.own 1 [.slice C sizes[i].toNat c9]))) (.own 1 [.slice none 0 0]))
  have bL := by'.le leP
  have rL := ry.mono leP.sees
  have sN := slN.mono leP.sees
  have l0 : ((Gy.push (.own 1 [.slice C sizes[i].toNat c9])).push (.own 1 [.slice none 0 0])).get (H8.size) = .own 1 [.slice C sizes[i].toNat c9] := by rw [zz12]; exact Yj
  have l1 : ((Gy.push (.own 1 [.slice C sizes[i].toNat c9])).push (.own 1 [.slice none 0 0])).get (H8.size + 1) = .own 1 [.slice none 0 0] := by rw [zz12]; exact Yj
  have zL : H8.size + 2 ≤ ((Gy.push (.own 1 [.slice C sizes[i].toNat c9])).push (.own 1 [.slice none 0 0])).size := by simp; omega
  obtain ⟨GP, hGP⟩ : ∃ GP, GP = ((Gy.push (.own 1 [.slice C sizes[i].toNat c9])).push (.own 1 [.slice none 0 0])) := ⟨_, rfl⟩
  rw [← hGP] at hL bL rL zL sN l0 l1
  clear hGP leP
  refine Yt (by kernel_rfl) (Y2 (B := [0, 1, 0, 4, 15, 0, 32, 0, 255, 127, 1023, 2047, 4095]) (π := [0, 1, 2, 3, 5, 6, 7, 4, 9, 8, 10, 11, 12]) (by kernel_rfl)) ?_
  refine Xd rfl rfl (Xi (off := 0) Xj Tryz.underlying29 Xj inf27.size (by decide) Xj) Xq ?_
  refine Xd rfl rfl (Xm rfl Tryz.underlying27 rfl Xr) Xq ?_
  refine Xd rfl rfl (X0 Xj) Xq ?_
  refine Za rfl rfl (Yf (r := [.slice _ _ _]) Tryz.underlying27 inf83.size inf83.zero rfl (by decide) (by decide) (by decide) rfl) ?_
  refine Xd rfl rfl (Xi (off := 1) Xj Tryz.underlying29 Xj inf27.size (by decide) Xj) Xq ?_
  refine Xd rfl rfl (Xm rfl Tryz.underlying27 rfl Xr) Xq ?_
  refine Za rfl rfl (Yf (r := [.slice _ _ _]) Tryz.underlying27 inf83.size inf83.zero rfl (by decide) (by decide) (by decide) rfl) ?_
  obtain ⟨Ga5, leGa5, ha5, back5⟩ := hL.rot.last
  have zGa := leGa5.1
  obtain ⟨_, zA, qa, qb, qc, qd⟩ := bL.le leGa5
  have m0 := Xt leGa5 (by omega) (by intro e; cases e) l0
  have m1 := Xt leGa5 (by omega) (by intro e; cases e) l1
  refine Yi rfl rfl (Ent.append ha5 Tryz.underlying27 inf83 Xj Xj rfl (lb := H8.size) (by omega) m0 rfl (by intro v hv; simp at hv; subst hv; rfl) (by simp only [eNds, rL.len]; omega) (by decide) ?_)
  rintro w5 Gb5 Hb5 leb5 hb5
  have hsameO := Ent.sameO ha5 leb5 hb5
  obtain ⟨Gc5, lec5, hc5⟩ := back5 Gb5 Hb5 _ leb5 hb5
  rw [eNds_next] at hc5 hb5
  obtain ⟨W5, cw5, rfl⟩ : ∃ A c, w5 = Value.slice A (i + 1) c := Z9 (i := i + 1) (OwnP.sl hb5) (by simp [eNds, rL.len])
  have bb5 := (bL.le lec5).le hc5.le
  obtain ⟨_, zb, qa5, qb5, qc5, qd5⟩ := id bb5
  have l1b := Xt hc5.le (by have := lec5.1; omega) (by intro e; cases e) (Xt lec5 (by omega) (by intro e; cases e) l1)
  refine ⟨Ye, ?_⟩
  clear hsameO qa qb qc qd m0 m1
  clear l1b
  have l1 := Xt lec5 (by omega) (by intro e; cases e) l1
  replace bL := bL.le lec5
  replace sN := sN.mono lec5.sees
  replace rL := rL.mono lec5.sees
  replace zL := Nat.le_trans zL lec5.1
  clear hL
  have hL := hc5
  have zH5 := hL.size
  refine Xd rfl rfl (Xi (off := 0) Xj Tryz.underlying29 Xj inf27.size (by decide) Xj) Xq ?_
  obtain ⟨Ga6, leGa6, ha6, back6⟩ := hL.rot.last
  have zGa := leGa6.1
  obtain ⟨_, zA, qa, qb, qc, qd⟩ := bL.le leGa6
  have m0 := Xt leGa6 (by omega) (by intro e; cases e) l1
  refine Yi rfl rfl (Ent.append ha6 Tryz.underlying27 inf83 Xj Xj rfl (lb := H8.size + 1) (by omega) m0 rfl (by intro v hv; simp at hv; subst hv; rfl) (by simp only [U0, List.length_replicate]; omega) (by decide) ?_)
  rintro w6 Gb6 Hb6 leb6 hb6
  have hsameO := Ent.sameO ha6 leb6 hb6
  obtain ⟨Gc6, lec6, hc6⟩ := back6 Gb6 Hb6 _ leb6 hb6
  rw [eNil_next] at hc6 hb6
  obtain ⟨W6, cw6, rfl⟩ : ∃ A c, w6 = Value.slice A (i + 1) c := Z9 (i := i + 1) (OwnP.sl hb6) (by simp [U0])
  have bb6 := (bL.le lec6).le hc6.le
  obtain ⟨_, zb, qa6, qb6, qc6, qd6⟩ := id bb6
  refine ⟨Ye, ?_⟩
  clear hsameO qa qb qc qd m0
  replace bL := bL.le lec6
  replace sN := sN.mono lec6.sees
  replace rL := rL.mono lec6.sees
  replace zL := Nat.le_trans zL lec6.1
  clear hL
  have hL := hc6
  have zH6 := hL.size
  first | refine Yi rfl rfl (Y7 rfl rfl rfl inf27.size Yj Yl rfl ?_)
  refine ⟨Ye, ?_⟩
  refine Xd rfl rfl (Xi (off := 1) Xj Tryz.underlying29 Xj inf27.size (by decide) Xj) Xq ?_
  first | refine Yi rfl rfl (Y7 rfl rfl rfl inf27.size Yj Yl rfl ?_)
  refine ⟨Ye, ?_⟩
  obtain ⟨H4, hH4⟩ : ∃ H4, H4 = Hb6.put (H.size + 3) (.own 0 [.slice W5 (i + 1) cw5, .slice W6 (i + 1) cw6]) := ⟨_, rfl⟩
  obtain ⟨G4, hG4⟩ : ∃ G4, G4 = Gc6.put (H.size + 3) (.own 0 [.slice W5 (i + 1) cw5, .slice W6 (i + 1) cw6]) := ⟨_, rfl⟩
  have ownG4 := hL.put_box (by have := bL.2.1; omega) bL.2.2.2.2.2 [.slice W5 (i + 1) cw5, .slice W6 (i + 1) cw6]
  have bG4 := bL.put3 [.slice W5 (i + 1) cw5, .slice W6 (i + 1) cw6]
  have rG4 := rL.mono (Hp.sees_box (cs' := [.slice W5 (i + 1) cw5, .slice W6 (i + 1) cw6]) _ bL.2.2.2.2.2)
  rw [← hG4] at ownG4 bG4 rG4
  rw [← hH4] at ownG4
  change ACode true _ _ _ _ _ ((Hb6.put (H.size + 3) (.own 0 [.slice W5 (i + 1) cw5, .slice A6 i k6])).put (H.size + 3) (.own 0 [.slice W5 (i + 1) cw5, .slice W6 (i + 1) cw6]))
  rw [Hp.put_put]
  rw [← hH4]
  have sN4 := sN.mono (Hp.sees_box (cs' := [.slice W5 (i + 1) cw5, .slice W6 (i + 1) cw6]) _ bL.2.2.2.2.2)
  rw [← hG4] at sN4
  clear hH4 hG4 hL bL rL zL
  have bbH4 := bG4.le ownG4.le
  obtain ⟨_, zzH4, s0H4, s1H4, s2H4, s3H4⟩ := id bbH4
  refine Xc (by kernel_rfl) ?_
  refine Xa (Xb Xj) ?_
  refine Xa (Yg rfl rfl Yp) ?_
  refine Xa (Xh rfl) ?_
  exact ⟨sizes.length - (i + 1), by omega, i + 1, G4, _, _, _, _, _, _, _, (nds ++ [[Value.slice C sizes[i].toNat c9]] : List (List Value)), by omega, rfl, bG4, ownG4, rG4.snoc hix sN4, e0, e1, e4, e5, e6, e7, rfl⟩
  intro hc1
  (try simp only [decide_eq_true_eq, decide_eq_false_iff_not, Bool.not_eq_true', Bool.not_eq_false'] at hc1)
  refine Yq ?_
  refine Xe ?_
  refine Yt (by kernel_rfl) (Y2 (B := [0, 0, 1, 7]) (π := [0, 1, 2, 3]) (by kernel_rfl)) ?_
  refine Xd rfl rfl (Yh (cs := [.slice _ _ _, .slice _ _ _, .slice _ _ _, .slice _ _ _, .slice _ _ _]) Xj Tryz.underlying26 Xj inf26.size Yd) Xq ?_
  refine Xd rfl rfl (Yh (cs := [.slice _ _ _, .slice _ _ _]) Xj Tryz.underlying29 Xj inf29.size Yd) Xq ?_
  refine Yi rfl rfl (Yo (vs := [.slice _ _ _, .slice _ _ _, .slice _ _ _, .slice _ _ _, .slice _ _ _]) Xj Xj inf26.size Yj Yl Xj Xj ?_)
  refine ⟨Ye, ?_⟩
  refine Yi rfl rfl (Yo (vs := [.slice _ _ _, .slice _ _ _]) Xj Xj inf29.size Yj Yl Xj Xj ?_)
  refine ⟨Ye, ?_⟩
  refine X5 ?_
  obtain rfl : i = sizes.length := by omega
  have se := hown.le.sees
  have p0 := hown.sl (eStr (.slice A0 sizes.length k0) sizes.length) (by simp)
  have p1 := hown.sl (eInt (.slice A1 sizes.length k1) sizes.length) (by simp)
  have p2 := hown.sl (eNeg (.slice A2 sizes.length k2) sizes.length) (by simp)
  have p3 := hown.sl (U0 (.slice A3 sizes.length k3) sizes.length) (by simp)
  have p4 := hown.sl (U0 (.slice A4 sizes.length k4) sizes.length) (by simp)
  have p5 := hown.sl (eNds (.slice A5 sizes.length k5) nds) (by simp)
  have p6 := hown.sl (U0 (.slice A6 sizes.length k6) sizes.length) (by simp)
  have hrl := hr.len
  have hz1 : H1.sees (H1.put H.size (.own 0 [.slice A0 sizes.length k0, .slice A1 sizes.length k1, .slice A2 sizes.length k2, .slice A3 sizes.length k3, .slice A4 sizes.length k4])) := Hp.sees_box _ q0
  have hz2 : (H1.put H.size (.own 0 [.slice A0 sizes.length k0, .slice A1 sizes.length k1, .slice A2 sizes.length k2, .slice A3 sizes.length k3, .slice A4 sizes.length k4])).sees ((H1.put H.size (.own 0 [.slice A0 sizes.length k0, .slice A1 sizes.length k1, .slice A2 sizes.length k2, .slice A3 sizes.length k3, .slice A4 sizes.length k4])).put (H.size + 1) (.own 0 [.slice A5 sizes.length k5, .slice A6 sizes.length k6])) := Hp.sees_box (cs := [.slice none 0 0, .slice none 0 0]) _ (by rw [Hp.put_other _ _ (by omega)]; exact q1)
  have hz := hz1.trans hz2
  refine ⟨_, Zl (Y9 Xj (Y6 (cs := [.slice A0 sizes.length k0, .slice A1 sizes.length k1, .slice A2 sizes.length k2, .slice A3 sizes.length k3, .slice A4 sizes.length k4]) Tryz.underlying26 rfl inf26.size Yd)) (Y9 Xj (Y6 (cs := [.slice A5 sizes.length k5, .slice A6 sizes.length k6]) Tryz.underlying29 rfl inf29.size Yd)), [_, _, _, _, _], [_, _], rfl, ⟨_, _, _, _, _, rfl, ?_, ?_, ?_, ?_, ?_⟩, ⟨_, _, rfl, ?_, ?_⟩, Hp.le_put_new (Hp.le_put_new leH1 (Nat.le_refl _) _) (by omega) _⟩
  · exact Sl.conv (k := kStr) (p0.mono hz) (by simp [eStr, Zv]) (fun j a b => by simp [eStr, Zv, kStr])
  · exact Sl.conv (k := Yz .i64) (p1.mono hz) (by simp [eInt, Zv]) (fun j a b => by simp [eInt, Zv, Yz])
  · exact Sl.conv (k := Yz .i64) (p2.mono hz) (by simp [eNeg, Zv]) (fun j a b => by simp [eNeg, Zv, Yz])
  · exact Sl.conv (k := Vx (Yz .i64)) (p3.mono hz) (by simp [U0, Zv]) (fun j a b => by simp only [U0, Zv, List.getElem_replicate]; exact ⟨_, rfl, Sl.nil _ _⟩)
  · exact Sl.conv (k := Vx (Yz .i64)) (p4.mono hz) (by simp [U0, Zv]) (fun j a b => by simp only [U0, Zv, List.getElem_replicate]; exact ⟨_, rfl, Sl.nil _ _⟩)
  · exact Sl.conv (k := Vx kLink) (p5.mono hz) (by simp [eNds, Z2, hrl]) (fun j a b => by
      obtain ⟨w, h1, h2⟩ := hr.at_ j a (by simpa [Z2] using b)
      simp only [Z2, List.getElem_map]
      exact ⟨w, h1, (h2.mono se).mono hz⟩)
  · exact Sl.conv (k := Vx kLink) (p6.mono hz) (by simp [U0, Z2]) (fun j a b => by simp only [U0, Z2, List.getElem_replicate, List.getElem_map]; exact ⟨_, rfl, Sl.nil _ _⟩)
end Go.Proofs.YtmakkmcjocjgmaaGreat.Am


/- The small living call of the statements on reducing. -/
namespace Go.Proofs.YtmakkmcjocjgmaaGreat.Am
open Go Go.RowKit
set_option maxRecDepth 100000
set_option linter.unusedVariables false
set_option linter.unusedSimpArgs false

end Go.Proofs.YtmakkmcjocjgmaaGreat.Am


/- Forests of few variables: cut once is cut twice; the statements' own words. -/
namespace Go.Proofs.YtmakkmcjocjgmaaGreat.Am
open Go Go.RowKit
set_option maxRecDepth 100000
set_option linter.unusedVariables false
set_option linter.unusedSimpArgs false

structure BigF (f : Forest) : Prop where
  l0 : f.vars.length ≤ 9223372036854775807
  l1 : f.order.length ≤ 9223372036854775807
  l2 : f.parent.length ≤ 9223372036854775807
  l3 : f.links.length ≤ 9223372036854775807
  l4 : f.loops.length ≤ 9223372036854775807
  s3 : ∀ l ∈ f.links, l.length ≤ 9223372036854775807
  s4 : ∀ l ∈ f.loops, l.length ≤ 9223372036854775807
structure BigP (p : Parts) : Prop where
  l0 : p.nodes.length ≤ 9223372036854775807
  l1 : p.links.length ≤ 9223372036854775807
  s0 : ∀ l ∈ p.nodes, l.length ≤ 9223372036854775807
  s1 : ∀ l ∈ p.links, l.length ≤ 9223372036854775807
theorem Forest_28 (f : Forest) (cs : List Value) (H : Hp) (hp : kForest.rep H f cs) (hb : BigF f) :
    ACalls Tryz.prog 10 #[.agg cs.toArray] H (fun r H' => H.le H' ∧ ∃ ds, r = .agg ds.toArray ∧ kForest.rep H' f.few ds) := by
  have hp0 := hp
  obtain ⟨v0, v1, v2, v3, v4, rfl, hs0, hs1, hs2, hs3, hs4⟩ := hp
  obtain ⟨A0, c0, rfl⟩ := hs0.shape
  obtain ⟨A1, c1, rfl⟩ := hs1.shape
  obtain ⟨A2, c2, rfl⟩ := hs2.shape
  obtain ⟨A3, c3, rfl⟩ := hs3.shape
  obtain ⟨A4, c4, rfl⟩ := hs4.shape
  refine Xv Tryz.func10 rfl rfl rfl (by simp) ?_
  refine Xe ?_
  refine Xc (by kernel_rfl) ?_
  refine X6 (Ys rfl) ?_
  refine X6 (Y8 (l := [.slice none 0 0, .slice none 0 0, .slice none 0 0, .slice none 0 0, .slice none 0 0]) inf26.zero rfl (by decide)) ?_
  refine Xe ?_
  refine Xc (by kernel_rfl) ?_
  refine Xa (Yh (cs := [.slice _ _ _, .slice _ _ _, .slice _ _ _, .slice _ _ _, .slice _ _ _]) rfl Tryz.underlying26 rfl inf26.size Yd) ?_
  refine X1 (Xx (Few_forest f _ _ (kForest.mono Zq hp0) hb.l0 hb.l1 hb.l2 hb.l3 hb.l4 hb.s3 hb.s4) rfl Tryz.func45 rfl rfl rfl ?_)
  rintro v2 H2 ⟨hle2, ds, rfl, hds⟩; have hds0 := hds; obtain ⟨a0, a1, a2, a3, a4, rfl, ht0, ht1, ht2, ht3, ht4⟩ := hds; obtain ⟨B0, d0, rfl⟩ := ht0.shape; obtain ⟨B1, d1, rfl⟩ := ht1.shape; obtain ⟨B2, d2, rfl⟩ := ht2.shape; obtain ⟨B3, d3, rfl⟩ := ht3.shape; obtain ⟨B4, d4, rfl⟩ := ht4.shape; have hz2 := hle2.1; simp only [Hp.push_size] at hz2
  refine X1 (Yo (vs := [.slice _ _ _, .slice _ _ _, .slice _ _ _, .slice _ _ _, .slice _ _ _]) rfl rfl inf26.size Yj Yl rfl rfl ?_)
  refine X5 ?_
  have k1 : H2.get (H.size + 1) = .own 0 [.slice none 0 0, .slice none 0 0, .slice none 0 0, .slice none 0 0, .slice none 0 0] := Xt hle2 (by simp) (by intro e; cases e) Yj
  exact ⟨_, Xz (Y9 Xj (Y6 (cs := [_, _, _, _, _]) Tryz.underlying26 rfl inf26.size Yd)), Hp.le_put_new (Hp.le_trans (Hp.le_push' (H.le_push _) _) hle2) (by simp <;> omega) _, [_, _, _, _, _], rfl, kForest.mono (Hp.sees_box _ k1) hds0⟩
theorem small_few (f : Forest) (p : Parts) : Small f.few p.few4 := by
  have h8 : ∀ {α : Type} (xs : List α), (xs.take 8).length ≤ 8 := fun xs => by rw [List.length_take]; omega
  refine ⟨?_, ?_, ?_, ?_, ?_, fun l hl => ?_, fun l hl => ?_⟩
  · show ((f.vars.take 8).map _).length ≤ _; rw [List.length_map]; have := h8 f.vars; omega
  · show (f.order.take 8).length ≤ _; have := h8 f.order; omega
  · show (f.parent.take 8).length ≤ _; have := h8 f.parent; omega
  · show (((p.nodes.take 8).map Va).map _).length ≤ _; rw [List.length_map, List.length_map]; have := h8 p.nodes; omega
  · show ((p.links.take 8).map Va).length ≤ _; rw [List.length_map]; have := h8 p.links; omega
  · obtain ⟨m, _, rfl⟩ := List.mem_map.1 hl
    rw [List.length_take]; omega
  · obtain ⟨m, _, rfl⟩ := List.mem_map.1 hl
    unfold Va; rw [List.length_map, List.length_take]; omega
theorem Link.few_few (x : Link) : x.few.few = x.few := by
  unfold Link.few
  by_cases h : 1000000000 < x.cost
  · rw [if_pos h]; simp
  · rw [if_neg h, if_neg h]
theorem fewL_le (xs : List Link) : (Va xs).length ≤ 25 := by unfold Va; rw [List.length_map, List.length_take]; omega
theorem fewL_take (m : Nat) (xs : List Link) : Va ((Va xs).take m) = (Va xs).take m := by
  have h : (Va xs).map Link.few = Va xs := by
    unfold Va
    rw [List.map_map, show Link.few ∘ Link.few = Link.few from funext Link.few_few]
  show (((Va xs).take m).take 25).map Link.few = _
  rw [List.take_of_length_le (by rw [List.length_take]; have := fewL_le xs; omega), List.map_take, h]
theorem fewL_idem (xs : List Link) : Va (Va xs) = Va xs := by
  have := fewL_take (Va xs).length xs
  rwa [List.take_length] at this
theorem few4_few4 (p : Parts) : p.few4.few4 = p.few4 := by
  unfold Parts.few4 Parts.few
  simp only [List.map_map, ← List.map_take, List.take_take, Nat.min_self]
  congr 1
  · refine List.map_congr_left fun l _ => ?_
    simp only [Function.comp]
    rw [fewL_take, List.take_take, Nat.min_self]
  · exact List.map_congr_left fun l _ => fewL_idem l
theorem cutS_idem (s : ByteArray) : cutS (cutS s 32) 32 = cutS s 32 := by
  unfold cutS
  by_cases h : 32 < s.size
  · rw [if_pos h, if_neg (by rw [ByteArray.size_extract]; omega)]
  · rw [if_neg h, if_neg h]
theorem ffew_ffew (f : Forest) : f.few.few = f.few := by
  unfold Forest.few
  simp only [← List.map_take, List.take_take, Nat.min_self, List.map_map]
  congr 1
  · exact List.map_congr_left fun s _ => cutS_idem s
  · exact List.map_congr_left fun l _ => by simp [List.take_take]
  · exact List.map_congr_left fun l _ => by simp [List.take_take]
theorem bigF_few (f : Forest) : BigF f.few := by
  have h := (small_few f ⟨[], []⟩)
  have h8 : ∀ {α : Type} (xs : List α), (xs.take 8).length ≤ 8 := fun xs => by rw [List.length_take]; omega
  refine ⟨by have := h.s0; omega, by have := h.s1; omega, by have := h.s2; omega, ?_, ?_, fun l hl => ?_, fun l hl => ?_⟩
  · show ((f.links.take 8).map _).length ≤ _; rw [List.length_map]; have := h8 f.links; omega
  · show ((f.loops.take 8).map _).length ≤ _; rw [List.length_map]; have := h8 f.loops; omega
  · obtain ⟨m, _, rfl⟩ := List.mem_map.1 hl; rw [List.length_take]; omega
  · obtain ⟨m, _, rfl⟩ := List.mem_map.1 hl; rw [List.length_take]; omega
theorem bigP_few (p : Parts) : BigP p.few4 := by
  have h := (small_few ⟨[], [], [], [], []⟩ p)
  exact ⟨by have := h.s3; omega, by have := h.s4; omega, fun l hl => by have := h.s5 l hl; omega, fun l hl => by have := h.s6 l hl; omega⟩
end Go.Proofs.YtmakkmcjocjgmaaGreat.Am


/- The statement ReduceTwice, as the abstract machine runs it. -/
namespace Go.Proofs.YtmakkmcjocjgmaaGreat.Am
open Go Go.RowKit
set_option maxRecDepth 100000
set_option linter.unusedVariables false
set_option linter.unusedSimpArgs false

theorem small_sub {f : Forest} {p q : Parts} (h : Small f p) (hl : Lens f.vars.length q) (hs : Sub q p) : Small f q :=
  ⟨h.s0, h.s1, h.s2, by rw [hl.1]; exact h.s0, by rw [hl.2]; exact h.s0, fun l hm => by
    obtain ⟨i, hi, rfl⟩ := List.getElem_of_mem hm
    have k1 := (hs i).1.length_le
    unfold nd at k1
    rw [Zb hi] at k1
    exact Nat.le_trans k1 (Vp h.s5 i), fun l hm => by
    obtain ⟨i, hi, rfl⟩ := List.getElem_of_mem hm
    have k1 := (hs i).2.length_le
    unfold lk at k1
    rw [Zb hi] at k1
    exact Nat.le_trans k1 (Vp h.s6 i)⟩
end Go.Proofs.YtmakkmcjocjgmaaGreat.Am


/- What stands behind any first nodes, plain; of variables that hang from nobody. -/
namespace Go.Proofs.YtmakkmcjocjgmaaGreat.Am
open Go Go.RowKit
set_option maxRecDepth 100000
set_option linter.unusedVariables false
set_option linter.unusedSimpArgs false

def okP (T : TreeT) (ns : List Int) : Bool := (List.range ns.length).all fun i => (Z7 (T.group i (Ym T ns i)) (ns.getD i 0)).isSome
def mulT (T : TreeT) (ns : List Int) (k : Nat) : Int := (List.range k).foldl (fun n i => if ns.length ≤ i ∧ T.parent.getD i 0 < ns.length then Yv n (Uj T T.vars.length i (Ym T ns i)) else n) 1
def Zu (T : TreeT) (ns : List Int) : Int := if ns.length ≤ T.vars.length ∧ okP T ns = true then mulT T ns T.vars.length else 0
theorem mulT_succ (T : TreeT) (ns : List Int) (k : Nat) : mulT T ns (k + 1) = if ns.length ≤ k ∧ T.parent.getD k 0 < ns.length then Yv (mulT T ns k) (Uj T T.vars.length k (Ym T ns k)) else mulT T ns k := by
  unfold mulT
  rw [List.range_succ, List.foldl_append]; rfl
theorem mulT_nonneg {T : TreeT} (hT : GoodT T) (ns : List Int) : ∀ k, 0 ≤ mulT T ns k
  | 0 => by show (0 : Int) ≤ 1; decide
  | k + 1 => by
    rw [mulT_succ]
    split
    · exact (Z1 (mulT_nonneg hT ns k) (Ue hT _ _ _)).1
    · exact mulT_nonneg hT ns k
theorem mulT_cap {T : TreeT} (hT : GoodT T) (ns : List Int) : ∀ k, mulT T ns k = Zd (Zx ((List.range k).map (openW T ns)))
  | 0 => cap_one
  | k + 1 => by
    rw [mulT_succ, List.range_succ, List.map_append, prod_append, List.map_singleton, Zx, Zx, Nat.mul_one, mulT_cap hT ns k]
    unfold openW
    split
    · rw [sumT_cap hT, Ur]; rfl
    · rw [Nat.mul_one]
theorem okP_path {T : TreeT} (hT : GoodT T) {ns : List Int} : okP T ns = true ↔ Path T ns := by
  unfold okP Path
  rw [List.all_eq_true]
  constructor
  · intro h i hi
    obtain ⟨l, hl⟩ := Option.isSome_iff_exists.1 (h i (List.mem_range.2 hi))
    obtain ⟨h1, h2⟩ := (findB_iff (hT.sort _ _)).1 hl
    exact ⟨l, h1, h2⟩
  · intro h i hi
    obtain ⟨l, h1, h2⟩ := h i (List.mem_range.1 hi)
    rw [(findB_iff (hT.sort _ _)).2 ⟨h1, h2⟩]; rfl
theorem okP_bad {T : TreeT} {ns : List Int} {i : Nat} (hi : i < ns.length) (h : Z7 (T.group i (Ym T ns i)) (ns.getD i 0) = none) : okP T ns = false := by
  cases hk : okP T ns with
  | false => rfl
  | true =>
    unfold okP at hk
    have := List.all_eq_true.1 hk i (List.mem_range.2 hi)
    rw [h] at this; cases this
theorem behT_cnt {T : TreeT} (hT : GoodT T) {ns : List Int} (hl : ns.length ≤ T.vars.length) (hp : Path T ns) : Zu T ns = Zd (V1 T ns) := by
  unfold Zu V1
  rw [if_pos ⟨hl, (okP_path hT).2 hp⟩, mulT_cap hT]
theorem goodL_apart {n : Int} (h1 : 1 ≤ n) (h2 : n ≤ 4611686018427387904) {m : Nat} (hm : m ≤ 1000) : GoodL (Vn n m) := fun i hi => by
  rw [Vm] at hi
  have at_ : ∀ j (hj : j < (Vn n m).length), (Vn n m)[j] = ⟨j, j, j, n⟩ := by
    unfold Vn
    intro j hj
    rw [List.getElem_map, List.getElem_range]
  rw [at_]
  refine ⟨⟨by simp only; omega, by simp only; omega, by simp only; omega, by simp only; omega, by simp only; omega, h1, h2⟩, fun h0 => ?_⟩
  rw [at_]
  unfold Vr
  simp only [Bool.or_eq_true, decide_eq_true_eq]
  left; omega
theorem apart_nd (n : Int) (sa sb : Int) : nd (Z2 n [sa, sb]) 0 = Vn n sa.toNat ∧ nd (Z2 n [sa, sb]) 1 = Vn n sb.toNat ∧ (∀ v, lk (Z2 n [sa, sb]) v = []) ∧ ∀ v, nd (Z2 n [sa, sb]) (v + 2) = [] := by
  refine ⟨rfl, rfl, fun v => ?_, fun v => rfl⟩
  match v with
  | 0 => rfl
  | 1 => rfl
  | v + 2 => rfl
theorem good_apart {n : Int} (h1 : 1 ≤ n) (h2 : n ≤ 4611686018427387904) {sa sb : Int} (ha : sa ≤ 1000) (hb : sb ≤ 1000) : GoodP (Zv 2) (Z2 n [sa, sb]) := by
  obtain ⟨e0, e1, el, _⟩ := apart_nd n sa sb
  refine ⟨⟨rfl, rfl, rfl, rfl, fun i hi => ?_⟩, rfl, rfl, fun v hv => ?_⟩
  · have hi' : i < 2 := hi
    rcases (by omega : i = 0 ∨ i = 1) with rfl | rfl <;> (unfold OkF; decide)
  · have hv' : v < 2 := hv
    have heq : ∀ m, ∀ x ∈ Vn n m, x.a = x.b := fun m x hx => by
      unfold Vn at hx
      obtain ⟨k, _, rfl⟩ := List.mem_map.1 hx
      rfl
    have hnil : GoodL [] := fun i hi => by cases hi
    rcases (by omega : v = 0 ∨ v = 1) with rfl | rfl
    · exact ⟨goodL_apart h1 h2 (by omega), hnil, heq _, fun _ => rfl⟩
    · exact ⟨goodL_apart h1 h2 (by omega), hnil, heq _, fun _ => rfl⟩
theorem small_apart {n : Int} {sa sb : Int} (ha : sa ≤ 1000) (hb : sb ≤ 1000) : Small (Zv 2) (Z2 n [sa, sb]) := by
  refine ⟨by decide, by decide, by decide, by simp [Z2], by simp [Z2], fun l hl => ?_, fun l hl => ?_⟩
  · rcases List.mem_cons.1 (show l ∈ [Vn n sa.toNat, Vn n sb.toNat] from hl) with rfl | hl
    · rw [Vm]; omega
    · rw [List.mem_singleton.1 hl, Vm]; omega
  · rcases List.mem_cons.1 (show l ∈ [[], []] from hl) with rfl | hl
    · simp
    · rw [List.mem_singleton.1 hl]; simp
theorem cheap_apart {n : Int} (h1 : 1 ≤ n) {sa sb : Int} (ha : sa ≤ 1000) (hb : sb ≤ 1000) : Cheap (Z2 n [sa, sb]) := by
  obtain ⟨e0, e1, el, e2⟩ := apart_nd n sa sb
  have h : ∀ m : Nat, m ≤ 1000 → ∀ x ∈ Vn n m, 0 ≤ x.cost ∧ x.cost ≤ 1000000000 ∧ 0 ≤ x.n := fun m hm x hx => by
    unfold Vn at hx
    obtain ⟨k, hk, rfl⟩ := List.mem_map.1 hx
    rw [List.mem_range] at hk
    exact ⟨by simp only; omega, by simp only; omega, by simp only; omega⟩
  refine ⟨fun v => ?_, fun v x hx => ?_⟩
  · match v with
    | 0 => rw [e0]; exact h _ (by omega)
    | 1 => rw [e1]; exact h _ (by omega)
    | v + 2 => rw [e2]; intro x hx; cases hx
  · rw [el] at hx; cases hx
theorem two_roots (x : Parts) : (Y4 (Zv 2) x).vars.length = 2 ∧ (Y4 (Zv 2) x).parent = [-1, -1] ∧ (Y4 (Zv 2) x).links = [nd x 0, nd x 1] := ⟨rfl, rfl, rfl⟩
theorem apart_of {n : Int} (h1 : 1 ≤ n) (h2 : n ≤ 4611686018427387904) {sa sb : Int} (ha : sa ≤ 1000) (hb : sb ≤ 1000) : (0 < sa ∧ 0 < sb ∧ Ua (Zv 2) (Z2 n [sa, sb]) = Z2 n [sa, sb]) ∨ ((sa ≤ 0 ∨ sb ≤ 0) ∧ Ua (Zv 2) (Z2 n [sa, sb]) = U6 2) := by
  have hG := good_apart h1 h2 ha hb
  obtain ⟨k1, k2, k3, k4⟩ := V9 hG
  obtain ⟨e0, e1, el, e2⟩ := apart_nd n sa sb
  by_cases h : 0 < sa ∧ 0 < sb
  · refine .inl ⟨h.1, h.2, ofP_fix hG.gf hG.lens hG.nb (fun v hv hp => ?_) (fun h3 => ?_)⟩
    · have hv' : v < 2 := hv
      rcases (by omega : v = 0 ∨ v = 1) with rfl | rfl <;> exact absurd rfl hp
    · obtain ⟨v, hv, h4⟩ := List.any_eq_true.1 h3
      unfold Vb at h4
      rw [Bool.and_eq_true, decide_eq_true_eq, decide_eq_true_eq] at h4
      have hv : v ∈ [(0 : Int), 1] := hv
      rcases List.mem_cons.1 hv with rfl | hv
      · have h5 : (nd (Z2 n [sa, sb]) 0).length = 0 := h4.2
        rw [e0, Vm] at h5; omega
      · rw [List.mem_singleton] at hv
        subst hv
        have h5 : (nd (Z2 n [sa, sb]) 1).length = 0 := h4.2
        rw [e1, Vm] at h5; omega
  · refine .inr ⟨by omega, k4 (List.any_eq_true.2 ?_)⟩
    rcases (by omega : sa ≤ 0 ∨ sb ≤ 0) with hs | hs
    · refine ⟨0, (by decide : (0 : Int) ∈ (Zv 2).order), ?_⟩
      unfold Vb
      rw [Bool.and_eq_true, decide_eq_true_eq, decide_eq_true_eq]
      refine ⟨rfl, ?_⟩
      have h5 := ((k2 0).1).length_le
      rw [e0, Vm] at h5
      show (nd (Ua (Zv 2) (Z2 n [sa, sb])) 0).length = 0
      omega
    · refine ⟨1, (by decide : (1 : Int) ∈ (Zv 2).order), ?_⟩
      unfold Vb
      rw [Bool.and_eq_true, decide_eq_true_eq, decide_eq_true_eq]
      refine ⟨rfl, ?_⟩
      have h5 := ((k2 1).1).length_le
      rw [e1, Vm] at h5
      show (nd (Ua (Zv 2) (Z2 n [sa, sb])) 1).length = 0
      omega
theorem apart_goodT {n : Int} (h1 : 1 ≤ n) (h2 : n ≤ 4611686018427387904) {sa sb : Int} (ha : sa ≤ 1000) (hb : sb ≤ 1000) : GoodT (Y4 (Zv 2) (Ua (Zv 2) (Z2 n [sa, sb]))) := by
  have hG := good_apart h1 h2 ha hb
  obtain ⟨k1, k2, k3, k4⟩ := V9 hG
  exact good_tree (ofP_good hG) (small_sub (small_apart ha hb) k1 k2) ((cheap_apart h1 ha hb).sub k2) (by decide)
theorem apart_fewA {n : Int} (h1 : 1 ≤ n) (h2 : n ≤ 4611686018427387904) {sa sb : Int} (ha : sa ≤ 1000) (hb : sb ≤ 1000) : FewA (Y4 (Zv 2) (Ua (Zv 2) (Z2 n [sa, sb]))) := by
  obtain ⟨k1, k2, k3, k4⟩ := V9 (good_apart h1 h2 ha hb)
  obtain ⟨e0, e1, el, e2⟩ := apart_nd n sa sb
  refine fewA_of fun l hl => ?_
  rw [(two_roots _).2.2] at hl
  rcases List.mem_cons.1 hl with rfl | hl
  · have := (k2 0).1.length_le
    rw [e0, Vm] at this; omega
  · rw [List.mem_singleton.1 hl]
    have := (k2 1).1.length_le
    rw [e1, Vm] at this; omega
end Go.Proofs.YtmakkmcjocjgmaaGreat.Am


/- Trees of good parts: who is reached, how often, and which nodes a place has. -/
namespace Go.Proofs.YtmakkmcjocjgmaaGreat.Am
open Go Go.RowKit
set_option maxRecDepth 100000
set_option linter.unusedVariables false
set_option linter.unusedSimpArgs false

theorem reach_path {T : TreeT} (hT : GoodT T) {ns : List Int} (hp : Path T ns) (hl : ns.length = T.vars.length) : ∀ d i, i < d → i < T.vars.length → Ym T ns i ∈ Zy T d i
  | 0, i, h, _ => by omega
  | d + 1, i, h, hi => by
    rw [Zy]
    rcases hT.par i hi with hp0 | hp0
    · rw [if_pos hp0]; unfold Ym; rw [if_pos hp0]; simp
    · obtain ⟨p, hpp⟩ : ∃ p : Nat, T.parent.getD i 0 = p := ⟨(T.parent.getD i 0).toNat, by omega⟩
      rw [if_neg (by omega), mem_once, hpp, Int.toNat_natCast]
      have ih := reach_path hT hp hl d p (by omega) (by omega)
      obtain ⟨l, h1, h2⟩ := hp p (by omega)
      refine .inr (List.mem_flatMap.2 ⟨_, ih, List.mem_map.2 ⟨l, h1, ?_⟩⟩)
      unfold Ym
      rw [if_neg (by omega), hpp, Int.toNat_natCast]
      exact h2
def Reach (T : TreeT) : Prop := ∀ (i : Nat) (a : Int), i < T.vars.length → T.group i a ≠ [] → (T.parent.getD i 0 = -1 → a = -1) → a ∈ Zy T T.vars.length i
theorem reach_tree {f : Forest} {p : Parts} (hG : GoodP f p) (hT : GoodT (Y4 f (Ua f p))) : Reach (Y4 f (Ua f p)) := fun i a hi hne hr => by
  obtain ⟨k1, k2, k3, k4⟩ := V9 hG
  have hol : f.order.length = f.vars.length := hG.gf.l1
  have hvl : (Y4 f (Ua f p)).vars.length = f.vars.length := (Ub _).1.trans hol
  obtain ⟨l, hl⟩ := List.exists_mem_of_ne_nil _ hne
  rw [hvl] at hi
  obtain ⟨r, hr1, hr2, hr3⟩ := group_row hG hi hl
  obtain ⟨x1, x2⟩ := rows_ext hG
  have hmem : r.nodes ∈ U5 (Y4 f (Ua f p)) f.vars.length [] := by rw [← x1]; exact List.mem_map.2 ⟨r, hr1, rfl⟩
  obtain ⟨m1, m2⟩ := mem_ext _ _ _ hmem
  have hlen : r.nodes.length = (Y4 f (Ua f p)).vars.length := by rw [m1, hvl]; simp
  have hP : Path (Y4 f (Ua f p)) r.nodes := ext_pathC hT f.vars.length [] r.nodes (by simp [hvl]) (fun i hi => by simp at hi) hmem
  have hgo := reach_path hT hP hlen (Y4 f (Ua f p)).vars.length i (by omega) (by omega)
  have ha : Ym (Y4 f (Ua f p)) r.nodes i = a := by
    unfold Ym
    rcases hT.par i (by omega) with h | h
    · rw [if_pos h, hr h]
    · rw [if_neg (by omega)]
      rcases hr3 with h3 | h3
      · omega
      · exact h3
  rw [ha] at hgo
  exact hgo
def hasB (T : TreeT) (i : Nat) (b : Int) : Prop := ∃ a, ∃ x ∈ T.group i a, x.b = b
end Go.Proofs.YtmakkmcjocjgmaaGreat.Am


/- What is told of no tree and of no walk; the small living call of the statements on walks. -/
namespace Go.Proofs.YtmakkmcjocjgmaaGreat.Am
open Go Go.RowKit
set_option maxRecDepth 100000
set_option linter.unusedVariables false
set_option linter.unusedSimpArgs false

end Go.Proofs.YtmakkmcjocjgmaaGreat.Am


/- Whether two lists of numbers are one; what a tree tells of nodes. -/
namespace Go.Proofs.YtmakkmcjocjgmaaGreat.Am
open Go Go.RowKit
set_option maxRecDepth 100000
set_option linter.unusedVariables false
set_option linter.unusedSimpArgs false

end Go.Proofs.YtmakkmcjocjgmaaGreat.Am


/- The document's Up and Down. -/
namespace Go.Proofs.YtmakkmcjocjgmaaGreat.Am
open Go Go.RowKit
set_option maxRecDepth 100000
set_option linter.unusedVariables false
set_option linter.unusedSimpArgs false

end Go.Proofs.YtmakkmcjocjgmaaGreat.Am


/- The statement ReduceHalves, as the abstract machine runs it. -/
namespace Go.Proofs.YtmakkmcjocjgmaaGreat.Am
open Go Go.RowKit
set_option maxRecDepth 100000
set_option linter.unusedVariables false
set_option linter.unusedSimpArgs false

end Go.Proofs.YtmakkmcjocjgmaaGreat.Am


/- How many nodes and links; whether nothing is left. -/
namespace Go.Proofs.YtmakkmcjocjgmaaGreat.Am
open Go Go.RowKit
set_option maxRecDepth 100000
set_option linter.unusedVariables false
set_option linter.unusedSimpArgs false

end Go.Proofs.YtmakkmcjocjgmaaGreat.Am


/- The statement ReduceRows, as the abstract machine runs it. -/
namespace Go.Proofs.YtmakkmcjocjgmaaGreat.Am
open Go Go.RowKit
set_option maxRecDepth 100000
set_option linter.unusedVariables false
set_option linter.unusedSimpArgs false

theorem few_cost (x : Link) : x.few.cost ≤ 1000000000 := by
  unfold Link.few
  by_cases h : 1000000000 < x.cost
  · rw [if_pos h]; simp
  · rw [if_neg h]; omega
theorem fewL_cost {xs : List Link} {x : Link} (h : x ∈ Va xs) : x.cost ≤ 1000000000 := by
  unfold Va at h
  obtain ⟨y, _, rfl⟩ := List.mem_map.1 h
  exact few_cost y
theorem tiny_few {f : Forest} {p : Parts} (hg : GoodP f.few p.few4) (hs : f.few.vars.length < 6) : Tiny f.few p.few4 := by
  have getn : ∀ v, ∀ x ∈ nd p.few4 v, v < f.few.vars.length := fun v x hx => by
    rcases Nat.lt_or_ge v f.few.vars.length with h | h
    · exact h
    · unfold nd at hx
      rw [List.getD_eq_getElem?_getD, List.getElem?_eq_none (by have := hg.n1; omega)] at hx; simp at hx
  have getl : ∀ v, ∀ x ∈ lk p.few4 v, v < f.few.vars.length := fun v x hx => by
    rcases Nat.lt_or_ge v f.few.vars.length with h | h
    · exact h
    · unfold lk at hx
      rw [List.getD_eq_getElem?_getD, List.getElem?_eq_none (by have := hg.n2; omega)] at hx; simp at hx
  refine ⟨by omega, fun v => ?_, fun v x hx => ?_, fun v x hx => ?_⟩
  · unfold nd
    by_cases h : v < p.few4.nodes.length
    · rw [Zb h]
      obtain ⟨l, _, e⟩ := List.mem_map.1 (show p.few4.nodes[v] ∈ (p.few.nodes.map (·.take 4)) from List.getElem_mem h)
      rw [← e, List.length_take]; omega
    · rw [List.getD_eq_getElem?_getD, List.getElem?_eq_none (by omega)]; simp
  · have hv := getn v x hx
    obtain ⟨k1, _⟩ := Ut.1 (hg.ok v hv).1
    obtain ⟨a1, a2, a3, a4, a5, a6, a7⟩ := k1 x hx
    refine ⟨a5, ?_, by omega, a7⟩
    have h : v < p.few4.nodes.length := by rw [hg.n1]; exact hv
    unfold nd at hx
    rw [Zb h] at hx
    obtain ⟨l, hl, e⟩ := List.mem_map.1 (show p.few4.nodes[v] ∈ (p.few.nodes.map (·.take 4)) from List.getElem_mem h)
    rw [← e] at hx
    obtain ⟨l2, _, rfl⟩ := List.mem_map.1 hl
    exact fewL_cost (List.mem_of_mem_take hx)
  · have hv := getl v x hx
    obtain ⟨k1, _⟩ := Ut.1 (hg.ok v hv).2.1
    obtain ⟨a1, a2, a3, a4, a5, a6, a7⟩ := k1 x hx
    refine ⟨a5, ?_, by omega, a7⟩
    have h : v < p.few4.links.length := by rw [hg.n2]; exact hv
    unfold lk at hx
    rw [Zb h] at hx
    obtain ⟨l, hl, e⟩ := List.mem_map.1 (show p.few4.links[v] ∈ ((p.links.take 8).map Va) from List.getElem_mem h)
    rw [← e] at hx
    exact fewL_cost hx
theorem Tiny.sub {f : Forest} {p q : Parts} (h : Tiny f p) (hs : Sub q p) : Tiny f q :=
  ⟨h.vars, fun v => Nat.le_trans (hs v).1.length_le (h.nodes v), fun v x hx => h.costN v x ((hs v).1.subset hx), fun v x hx => h.costL v x ((hs v).2.subset hx)⟩
end Go.Proofs.YtmakkmcjocjgmaaGreat.Am


/- The statement TreeRows, as the abstract machine runs it. -/
namespace Go.Proofs.YtmakkmcjocjgmaaGreat.Am
open Go Go.RowKit
set_option maxRecDepth 100000
set_option linter.unusedVariables false
set_option linter.unusedSimpArgs false

theorem cheap_few {f : Forest} {p : Parts} (hg : GoodP f.few p.few4) : Cheap p.few4 := by
  have getn : ∀ v, ∀ x ∈ nd p.few4 v, v < f.few.vars.length := fun v x hx => by
    rcases Nat.lt_or_ge v f.few.vars.length with h | h
    · exact h
    · unfold nd at hx
      rw [List.getD_eq_getElem?_getD, List.getElem?_eq_none (by have := hg.n1; omega)] at hx; simp at hx
  have getl : ∀ v, ∀ x ∈ lk p.few4 v, v < f.few.vars.length := fun v x hx => by
    rcases Nat.lt_or_ge v f.few.vars.length with h | h
    · exact h
    · unfold lk at hx
      rw [List.getD_eq_getElem?_getD, List.getElem?_eq_none (by have := hg.n2; omega)] at hx; simp at hx
  refine ⟨fun v x hx => ?_, fun v x hx => ?_⟩
  · have hv := getn v x hx
    obtain ⟨k1, _⟩ := Ut.1 (hg.ok v hv).1
    obtain ⟨a1, a2, a3, a4, a5, a6, a7⟩ := k1 x hx
    refine ⟨a5, ?_, by omega⟩
    have h : v < p.few4.nodes.length := by rw [hg.n1]; exact hv
    unfold nd at hx
    rw [Zb h] at hx
    obtain ⟨l, hl, e⟩ := List.mem_map.1 (show p.few4.nodes[v] ∈ (p.few.nodes.map (·.take 4)) from List.getElem_mem h)
    rw [← e] at hx
    obtain ⟨l2, _, rfl⟩ := List.mem_map.1 hl
    exact fewL_cost (List.mem_of_mem_take hx)
  · have hv := getl v x hx
    obtain ⟨k1, _⟩ := Ut.1 (hg.ok v hv).2.1
    obtain ⟨a1, a2, a3, a4, a5, a6, a7⟩ := k1 x hx
    refine ⟨a5, ?_, by omega⟩
    have h : v < p.few4.links.length := by rw [hg.n2]; exact hv
    unfold lk at hx
    rw [Zb h] at hx
    obtain ⟨l, hl, e⟩ := List.mem_map.1 (show p.few4.links[v] ∈ ((p.links.take 8).map Va) from List.getElem_mem h)
    rw [← e] at hx
    exact fewL_cost hx
theorem few_vars (f : Forest) : f.few.vars.length ≤ 8 := by
  show ((f.vars.take 8).map _).length ≤ 8
  rw [List.length_map, List.length_take]; omega
end Go.Proofs.YtmakkmcjocjgmaaGreat.Am
