/- Texts that the proof rests on, part 5: lemmas for every heap that is related to a world, no condition beyond each lemma's own. -/
import Derived.Test.YtcaeoebphfjfiaaGreatEs4
import Derived.Test.YtcaeoebphfjfiaaGreatEs3

/- A tree is made. -/
namespace Go.Proofs.YtcaeoebphfjfiaaGreat.Am
open Go Go.RowKit
set_option maxRecDepth 100000
set_option linter.unusedVariables false
set_option linter.unusedSimpArgs false

set_option maxHeartbeats 4000000 in
theorem New_tree (f : Forest) (p : Parts) (cs ds : List Value) (H : Hp) (hp : kForest.rep H f cs) (hq : kParts.rep H p ds) (hsm : Small f p) (hch : GoodP f p → Cheap p) :
    ACalls Tryz.prog 9 #[.agg cs.toArray, .agg ds.toArray] H (fun r H' => H.le H' ∧ ∃ (g : Bool) (v : Value), (g = true ↔ GoodP f p) ∧ r = .tuple #[v, .int .i64 (if g = true then 0 else 1)] ∧ (if g = true then TreeR H' v (Y8 f (ofP f p)) else v = .pointer none)) := by
  have hp0 := hp
  have hq0 := hq
  obtain ⟨v0, v1, v2, v3, v4, rfl, hs0, hs1, hs2, hs3, hs4⟩ := hp
  obtain ⟨A0, c0, rfl⟩ := hs0.shape
  obtain ⟨A1, c1, rfl⟩ := hs1.shape
  obtain ⟨A2, c2, rfl⟩ := hs2.shape
  obtain ⟨A3, c3, rfl⟩ := hs3.shape
  obtain ⟨A4, c4, rfl⟩ := hs4.shape
  obtain ⟨u0, u1, rfl, hn0, hn1⟩ := hq
  obtain ⟨B0, d0, rfl⟩ := hn0.shape
  obtain ⟨B1, d1, rfl⟩ := hn1.shape
  refine Xw Tryz.func9 rfl rfl rfl (by simp) ?_
  refine Xf ?_
  refine Xb (by kernel_rfl) ?_
  refine X4 (Yp rfl) ?_
  refine X4 (Yp rfl) ?_
  refine Xa (Zi rfl) ?_
  refine Xa (Xn rfl) ?_
  refine Xf ?_
  refine Xb (by kernel_rfl) ?_
  refine Xa (Yj (cs := [.slice _ _ _, .slice _ _ _, .slice _ _ _, .slice _ _ _, .slice _ _ _]) rfl Tryz.underlying26 rfl inf26.size X9) ?_
  refine Xa (Yj (cs := [.slice _ _ _, .slice _ _ _]) rfl Tryz.underlying29 rfl inf29.size X9) ?_
  refine X3 (X2 (Of_parts f p _ _ _ (kForest.mono Zj hp0) (kParts.mono Zj hq0) hsm) rfl Tryz.func40 rfl rfl rfl ?_)
  rintro v5 H5 ⟨g, es, hg, rfl, hes, hle5⟩; obtain ⟨w0, w1, rfl, hm0, hm1⟩ := hes; obtain ⟨C0, k0, rfl⟩ := hm0.shape; obtain ⟨C1, k1, rfl⟩ := hm1.shape; have hz5 := hle5.1; simp only [Hp.push_size] at hz5; have g51 : H5.get (H.size + 1) = .own 0 [.slice B0 p.nodes.length d0, .slice B1 p.links.length d1] := Xt hle5 (by simp) (by intro e; cases e) Yg
  refine Xa (Zt rfl) ?_
  refine Xa (Yw rfl rfl) ?_
  refine Xa (Yw rfl rfl) ?_
  refine X3 (Yl (vs := [.slice _ _ _, .slice _ _ _]) rfl rfl inf29.size Yg Yi rfl rfl ?_)
  refine Xa (Xn rfl) ?_
  refine Xf ?_
  refine Xf ?_
  refine Xb (by kernel_rfl) ?_
  refine Xa (Xc rfl) ?_
  refine Xa (Zq rfl rfl) ?_
  refine X6 rfl rfl ?_ ?_
  intro hc1
  obtain rfl : g = false := by cases g with | false => rfl | true => exact absurd hc1 (by simp)
  refine Xf ?_
  refine Xb (by kernel_rfl) ?_
  refine Xa (Xc rfl) ?_
  refine Xa (Zi rfl) ?_
  refine Xa (Xn rfl) ?_
  refine X5 ?_
  exact ⟨_, Za (Xv rfl) (Xv rfl), Hp.le_put_new (Hp.le_trans (Hp.le_push' (H.le_push _) _) hle5) (Nat.le_succ _) _, false, .pointer none, hg, rfl, by simp⟩
  intro hc1
  obtain rfl : g = true := by cases g with | true => rfl | false => exact absurd hc1 (by simp)
  refine X8 ?_
  refine Xf ?_
  have hG := hg.1 rfl
  obtain ⟨k1', k2', k3', k4'⟩ := ofP_all hG
  have hXg := ofP_good hG
  have hcx := (hch hG).sub k2'
  simp only [if_true] at hm0 hm1
  obtain ⟨X, hX⟩ : ∃ X, X = ofP f p := ⟨_, rfl⟩
  rw [← hX] at k1' k2' k3' hXg hcx hm0 hm1
  rw [← hX]
  have hlens5 : ∀ l ∈ X.nodes, l.length ≤ 1000000 := fun l hm => by
    obtain ⟨i, hi, rfl⟩ := List.getElem_of_mem hm
    have h1 := (k2' i).1.length_le
    unfold nd at h1
    rw [Y6 hi] at h1
    exact Nat.le_trans h1 (Vh hsm.s5 i)
  have hlens6 : ∀ l ∈ X.links, l.length ≤ 1000000 := fun l hm => by
    obtain ⟨i, hi, rfl⟩ := List.getElem_of_mem hm
    have h1 := (k2' i).2.length_le
    unfold lk at h1
    rw [Y6 hi] at h1
    exact Nat.le_trans h1 (Vh hsm.s6 i)
  obtain ⟨T, hT⟩ : ∃ T, T = Y8 f X := ⟨_, rfl⟩
  obtain ⟨tl1, tl2, tl3⟩ := Vy (f := f) X
  have tat := fun {i : Nat} (hi : i < f.order.length) => treeOf_at (f := f) X hi
  rw [← hT] at tl1 tl2 tl3
  simp only [← hT] at tat
  rw [← hT]
  obtain ⟨K, hK⟩ : ∃ K, K = H5.put (H.size + 1) (.own 0 [.slice C0 X.nodes.length k0, .slice C1 X.links.length k1]) := ⟨_, rfl⟩
  have s5K : H5.sees K := by rw [hK]; exact Hp.sees_box _ g51
  have leK : H.le K := by rw [hK]; exact Hp.le_put_new (Hp.le_trans (Hp.le_push' (H.le_push _) _) hle5) (by omega) _
  have zK : H.size + 2 ≤ K.size := by rw [hK]; simp; omega
  have gK0 : K.get H.size = .own 0 [.slice A0 f.vars.length c0, .slice A1 f.order.length c1, .slice A2 f.parent.length c2, .slice A3 f.links.length c3, .slice A4 f.loops.length c4] := by rw [hK, Hp.put_other _ _ (by omega)]; exact Xt hle5 (by simp; omega) (by intro e; cases e) Yg
  have gK1 : K.get (H.size + 1) = .own 0 [.slice C0 X.nodes.length k0, .slice C1 X.links.length k1] := by rw [hK]; exact Hp.put_same _ _ _
  have m0K := hm0.mono s5K
  have m1K := hm1.mono s5K
  have s0K := hs0.mono leK.sees
  have s1K := hs1.mono leK.sees
  have s2K := hs2.mono leK.sees
  have hol : f.order.length = f.vars.length := hG.gf.l1
  have hpl : f.parent.length = f.vars.length := hG.gf.l2
  have hs0' := hsm.s0
  have hxn := k1'.1
  have hxl := k1'.2
  change ACode true _ _ _ _ _ (H5.put (H.size + 1) (.own 0 [.slice C0 X.nodes.length k0, .slice C1 X.links.length k1]))
  rw [← hK]
  clear hK s5K hm0 hm1 hle5 g51 hz5 hn0 hn1 hq0 hp0 hs3 hs4
  refine Xb (by kernel_rfl) ?_
  refine X4 (am_makeMap) ?_
  refine Xa (Y7 (pl := [(0, 1), (1, 1), (2, 1), (3, 1)]) (r := [.slice _ _ _, .slice _ _ _, .slice _ _ _, .map _]) Tryz.underlying73 inf73.zero (by decide) rfl rfl) ?_
  refine X4 (Yp rfl) ?_
  refine Xa (Zi rfl) ?_
  refine Xf ?_
  refine Xf ?_
  refine Xb (by kernel_rfl) ?_
  refine Xa (Xg (off := 1) rfl Tryz.underlying26 rfl inf23.size (by decide) rfl) ?_
  refine Xa (Xk rfl Tryz.underlying23 rfl Xr) ?_
  refine Xa (Ym rfl Tryz.underlying23) ?_
  refine Xa (Xc rfl) ?_
  refine Yc ?_
  refine Y2 (fun n t H' => ∃ (i : Nat) (G : Hp) (A B C : Value) (es : List (Value × Value)), i ≤ f.order.length ∧ n = f.order.length - i ∧ K.le G ∧ K.size + 2 ≤ G.size ∧ G.get K.size = .map es ∧ G.get (K.size + 1) = .own 0 [A, B, C, .map (some K.size)] ∧ Own3 kStr (Y3 .i64) (Vi kLink) G H' A B C (T.vars.take i) (T.parent.take i) (T.links.take i) ∧ Spots T i es ∧ t 2 = .pointer (some ⟨H.size, 0, none⟩) ∧ t 3 = .pointer (some ⟨H.size + 1, 0, none⟩) ∧ t 7 = .pointer (some ⟨K.size + 1, 0, none⟩) ∧ t 24 = .slice A1 f.order.length c1 ∧ t 25 = .int .i64 f.order.length ∧ t 26 = .int .i64 i) (f.order.length) (⟨0, _, _, _, _, [], by omega, rfl, Hp.le_push' (K.le_push _) _, by simp, Yg, Yg, ⟨_, _, OwnP.nil _ _, OwnP.nil _ _, OwnP.nil _ _⟩, Spots.zero T, rfl, rfl, rfl, rfl, rfl, rfl⟩) ?_
  rintro n t H1 ⟨i, G, A, B, C, es, hi, rfl, leG, zG, gm, gt, hown, hsp, e2, e3, e7, e24, e25, e26⟩
  have leK1 := Hp.le_trans leG hown.le
  have zH1 := hown.size
  have zK1 := leK1.1
  refine Xf ?_
  refine Xb (by kernel_rfl) ?_
  refine Xa (Y0 Xl Xl) ?_
  refine Xf ?_
  refine X6 rfl rfl ?_ ?_
  intro hc2
  (try simp only [decide_eq_true_eq, decide_eq_false_iff_not, Bool.not_eq_true', Bool.not_eq_false'] at hc2)
  refine X8 ?_
  refine Xf ?_
  refine Yc ?_
  refine Xf ?_
  have hix : i < f.order.length := by omega
  obtain ⟨b1, o1, rfl, hb1, hcell1⟩ := s1K.int_at (i := (i : Int)) (by omega) (by omega)
  rw [Int.toNat_natCast] at hcell1
  have hcell1' := leK1.cell1 hb1 hcell1
  obtain ⟨hwn, hwv⟩ := hG.gf.vAt_lt (s := i) (by omega)
  obtain ⟨w, hw⟩ : ∃ w : Nat, w = Z5 f i := ⟨_, rfl⟩
  rw [← hw] at hwn hwv
  rw [← hwv] at hcell1'
  obtain ⟨tv, tp, tl⟩ := tat hix
  rw [← hw] at tv tp tl
  refine Xb (by kernel_rfl) ?_
  refine Xa (Xc Xl) ?_
  refine Xa (Xs Xl Xl Tryz.underlying23 inf3.size X1 X1) ?_
  refine Xa (Xk rfl Tryz.underlying3 rfl Xr) ?_
  refine Xa (Xn rfl) ?_
  refine Xa (Xn rfl) ?_
  refine Xf ?_
  obtain ⟨bn, on, ks, eN, hbn, ⟨wn, rfl, hwN⟩, hcellN⟩ := m0K.elem_at (i := w) (by have := k1'.1; omega)
  subst eN
  have hcellN' := leK1.cell1 hbn hcellN.one
  have ndw : nd X w = X.nodes[w]'(by have := k1'.1; omega) := Y6 _
  rw [← ndw] at hwN
  obtain ⟨An, cn, rfl⟩ := hwN.shape
  have hnl : (nd X w).length ≤ 1000000 := by rw [ndw]; exact hlens5 _ (List.getElem_mem _)
  have gH0 := Xt leK1 (by omega) (by intro e; cases e) gK0
  have gH1 := Xt leK1 (by omega) (by intro e; cases e) gK1
  refine Xb (by kernel_rfl) ?_
  refine Xa (Xg (off := 0) Xl Tryz.underlying29 Xl inf27.size (by decide) Xl) ?_
  refine Xa (Xk rfl Tryz.underlying27 rfl Xr) ?_
  refine Xa (Xc rfl) ?_
  refine Xa (Xs rfl rfl Tryz.underlying27 inf68.size X1 X1) ?_
  refine Xa (Xk rfl Tryz.underlying68 rfl Xr) ?_
  refine Xa (X7 rfl) ?_
  refine Xf ?_
  refine Xf ?_
  obtain ⟨b2, o2, rfl, hb2, hcell2⟩ := s2K.int_at (i := (w : Int)) (by omega) (by omega)
  rw [Int.toNat_natCast] at hcell2
  have hcell2' := leK1.cell1 hb2 hcell2
  refine Xb (by kernel_rfl) ?_
  refine Xa (Xg (off := 2) Xl Tryz.underlying26 Xl inf23.size (by decide) Xl) ?_
  refine Xa (Xk rfl Tryz.underlying23 rfl Xr) ?_
  refine Xa (Xc rfl) ?_
  refine Xa (Xs rfl rfl Tryz.underlying23 inf3.size X1 X1) ?_
  refine Xa (Xk rfl Tryz.underlying3 rfl Xr) ?_
  refine Xa (Zq rfl rfl) ?_
  refine X6 rfl rfl ?_ ?_
  intro hc3
  have hpar : par f w ≠ -1 := of_decide_eq_true hc3
  obtain ⟨bl, ol, ks, eL, hbl, ⟨wl, rfl, hwL⟩, hcellL⟩ := m1K.elem_at (i := w) (by have := k1'.2; omega)
  subst eL
  have hcellL' := leK1.cell1 hbl hcellL.one
  have lkw : lk X w = X.links[w]'(by have := k1'.2; omega) := Y6 _
  rw [← lkw] at hwL
  obtain ⟨Al, cl, rfl⟩ := hwL.shape
  have hll : (lk X w).length ≤ 1000000 := by rw [lkw]; exact hlens6 _ (List.getElem_mem _)
  have hpk : Yz f X w = (lk X w).map (Vr (nd X w)) := by unfold Yz; rw [if_neg hpar]
  have hpll : (Yz f X w).length ≤ 1000000 := by rw [hpk, List.length_map]; exact hll
  have hrise : RiseA (Yz f X w) := by rw [hpk]; exact rise_weigh (goodL_rise (hXg.ok w hwn).2.1)
  refine Yr (by kernel_rfl) (Yy (B := [0, 1, 0, 7, 15, 0, 32, 0, 224, 480, 1023, 2047]) (π := [0, 1, 2, 3, 4, 5, 6, 7, 8, 9, 10, 11]) (by kernel_rfl)) ?_
  refine Xd rfl rfl (Xg (off := 1) Xl Tryz.underlying29 Xl inf27.size (by decide) Xl) Xp ?_
  refine Xd rfl rfl (Xk rfl Tryz.underlying27 rfl Xr) Xp ?_
  refine Xd rfl rfl (Xc rfl) Xp ?_
  refine Xd rfl rfl (Xs rfl rfl Tryz.underlying27 inf68.size X1 X1) Xp ?_
  refine Xd rfl rfl (Xk rfl Tryz.underlying68 rfl Xr) Xp ?_
  refine Xd rfl rfl (Xg (off := 0) Xl Tryz.underlying29 Xl inf27.size (by decide) Xl) Xp ?_
  refine Xd rfl rfl (Xk rfl Tryz.underlying27 rfl Xr) Xp ?_
  refine Xd rfl rfl (Xc rfl) Xp ?_
  refine Xd rfl rfl (Xs rfl rfl Tryz.underlying27 inf68.size X1 X1) Xp ?_
  refine Xd rfl rfl (Xk rfl Tryz.underlying68 rfl Xr) Xp ?_
  refine Yh rfl rfl (X2 (weighed_links (lk X w) (nd X w) _ _ _ (hwL.mono leK1.sees) (hwN.mono leK1.sees) hll hnl (goodL_strict (hXg.ok w hwn).1 (hXg.ok w hwn).2.2.1) (fun l hl => ((k3' w hwn hpar).ends l hl).2) (fun l hl => hcx.links w l hl) (fun l hl => hcx.nodes w l hl)) rfl Tryz.func41 rfl rfl rfl ?_)
  rintro v10 H2 ⟨Gw, hleW, hownW⟩; rw [← hpk] at hownW; obtain ⟨Aw, cw, rfl⟩ := hownW.shape; have hsl2 := hownW.sl; have hle2 := Hp.le_trans hleW hownW.le
  refine ⟨Yf, ?_⟩
  refine Xd rfl rfl (X7 rfl) Xp ?_
  refine Xf ?_
  obtain ⟨G2, hleG2, hown2⟩ := hown.later hle2
  have leG2 := Hp.le_trans leG hleG2
  have leK2 := Hp.le_trans leK1 hle2
  have g2m := Xt hleG2 (by omega) (by intro e; cases e) gm
  have g2t := Xt hleG2 (by omega) (by intro e; cases e) gt
  have z2 := hleG2.1
  have zz2 := hown2.size
  obtain ⟨Ga, hleGa, hoA, backA⟩ := (hown2.rot (Vs _) stable_lists).open3
  obtain ⟨AA, cA, rfl⟩ := hoA.shape
  obtain ⟨slA, slB, slC⟩ := hown2.sls
  obtain ⟨AB, cB, rfl⟩ := slB.shape
  obtain ⟨AC, cC, rfl⟩ := slC.shape
  have lenA : (T.vars.take i).length = i := by rw [List.length_take]; omega
  have lenB : (T.parent.take i).length = i := by rw [List.length_take]; omega
  have lenC : (T.links.take i).length = i := by rw [List.length_take]; omega
  have h2t := Xt hown2.le (by omega) (by intro e; cases e) g2t
  have h20 := Xt leK2 (by omega) (by intro e; cases e) gK0
  obtain ⟨bs, os, ks, eS, hbs, rfl, hcellS⟩ := s0K.elem_at (i := w) hwn
  subst eS
  have hcellS' := leK2.cell1 hbs hcellS.one
  have zoA := hoA.size
  have za := hleGa.1
  have slG2 := hown2.below (Zc _) (Zc _) (Zc _) (by decide) (by decide) (by decide) hsl2
  refine Yr (by kernel_rfl) (Yy (B := [0, 0, 2, 6, 14, 0, 32, 0, 224, 480, 992, 2046, 4095, 8191, 16383]) (π := [0, 1, 2, 3, 4, 5, 6, 7, 8, 9, 10, 11, 12, 13, 14]) (by kernel_rfl)) ?_
  refine Xd rfl rfl (Xz Xl) Xp ?_
  refine Xd rfl rfl (Xz Xl) Xp ?_
  refine Xd rfl rfl (Yd rfl) Xp ?_
  refine Xd rfl rfl (Xg (off := 0) rfl Tryz.underlying73 rfl inf22.size (by decide) rfl) Xp ?_
  refine Xd rfl rfl (Xk rfl Tryz.underlying22 rfl Xr) Xp ?_
  refine Xd rfl rfl (Xg (off := 0) Xl Tryz.underlying26 Xl inf22.size (by decide) Xl) Xp ?_
  refine Xd rfl rfl (Xk rfl Tryz.underlying22 rfl Xr) Xp ?_
  refine Xd rfl rfl (Xc rfl) Xp ?_
  refine Xd rfl rfl (Xs rfl rfl Tryz.underlying22 inf9.size X1 X1) Xp ?_
  refine Xd rfl rfl (Xk rfl Tryz.underlying9 rfl Xr) Xp ?_
  first | refine Y5 rfl rfl (Ye (r := [.string _]) Tryz.underlying22 inf9.size inf9.zero rfl (by decide) (by decide) (by decide) rfl) ?_
  refine Yh rfl rfl (OwnP.append (ys := [f.vars[w]]) (hoA.push _) Tryz.underlying22 inf9 rfl rfl rfl (Zn (k := kStr) rfl rfl hoA.size rfl) (by rw [lenA]; simp only [List.length_singleton]; omega) (by rw [lenA]; simp only [List.length_singleton]; omega) ?_)
  rintro v3 G3 H3 hle3 hown3
  have hsameO := OwnP.sameO (hoA.push _) hle3 hown3
  have ev : f.vars.getD w ⟨#[]⟩ = f.vars[w] := by rw [List.getD_eq_getElem?_getD, List.getElem?_eq_getElem hwn]; rfl
  rw [← ev, take_at tv] at hown3
  obtain ⟨AA', cA', rfl⟩ := hown3.shape
  have hle3' := Hp.le_trans (Hp.le_push _ _) hle3
  obtain ⟨G4, hleG4, hown4⟩ := backA G3 H3 _ _ hle3' hown3
  have g4t := Xt hleG4 (by omega) (by intro e; cases e) g2t
  have h3t := Xt hown4.le (by have := hleG4.1; omega) (by intro e; cases e) g4t
  refine ⟨Yf, ?_⟩
  refine Xd rfl rfl (Yd rfl) Xp ?_
  refine Xd rfl rfl (Xg (off := 0) rfl Tryz.underlying73 rfl inf22.size (by decide) rfl) Xp ?_
  first | refine Yh rfl rfl (Yx rfl rfl rfl inf22.size Yg Yi rfl ?_)
  refine ⟨Yf, ?_⟩
  refine Xf ?_
  obtain ⟨H5, hH5⟩ : ∃ H5, H5 = H3.put (K.size + 1) (.own 0 [.slice AA' (T.vars.take (i + 1)).length cA', .slice AB (T.parent.take i).length cB, .slice AC (T.links.take i).length cC, .map (some K.size)]) := ⟨_, rfl⟩
  obtain ⟨G5, hG5⟩ : ∃ G5, G5 = G4.put (K.size + 1) (.own 0 [.slice AA' (T.vars.take (i + 1)).length cA', .slice AB (T.parent.take i).length cB, .slice AC (T.links.take i).length cC, .map (some K.size)]) := ⟨_, rfl⟩
  have z4 := hleG4.1
  have hown5 := hown4.put_box (by omega) g4t [.slice AA' (T.vars.take (i + 1)).length cA', .slice AB (T.parent.take i).length cB, .slice AC (T.links.take i).length cC, .map (some K.size)]
  rw [← hG5, ← hH5] at hown5
  have leG5 : K.le G5 := by rw [hG5]; exact Hp.le_put_new (Hp.le_trans leG2 hleG4) (by omega) _
  have g5m : G5.get K.size = .map es := by rw [hG5, Hp.put_other _ _ (by omega)]; exact Xt hleG4 (by omega) (by intro e; cases e) g2m
  have g5t : G5.get (K.size + 1) = .own 0 [.slice AA' (T.vars.take (i + 1)).length cA', .slice AB (T.parent.take i).length cB, .slice AC (T.links.take i).length cC, .map (some K.size)] := by rw [hG5]; exact Hp.put_same _ _ _
  have z5 : K.size + 2 ≤ G5.size := by rw [hG5]; simp; omega
  change ACode true _ _ _ _ _ (H3.put (K.size + 1) (.own 0 [.slice AA' (T.vars.take (i + 1)).length cA', .slice AB (T.parent.take i).length cB, .slice AC (T.links.take i).length cC, .map (some K.size)]))
  rw [← hH5]
  have slG5 : Sl kLink G5 (.slice Aw (Yz f X w).length cw) (Yz f X w) := by
    rw [hG5]
    exact (slG2.mono hleG4.sees).mono (Hp.sees_box _ g4t)
  obtain ⟨Gb, hleGb, hoB, backB⟩ := (hown5.rot stable_lists (stable_strs _)).open3
  have leK5 := Hp.le_trans leG5 hown5.le
  have h5t := Xt hown5.le (by omega) (by intro e; cases e) g5t
  have h50 := Xt leK5 (by omega) (by intro e; cases e) gK0
  have hcell25 := leK5.cell1 hb2 hcell2
  have zoB := hoB.size
  have zz5 := hown5.size
  have zb := hleGb.1
  clear hH5 hG5 hsameO
  refine Yr (by kernel_rfl) (Yy (B := [0, 0, 2, 6, 14, 0, 32, 0, 128, 0, 896, 1920, 4064, 8160, 16382, 32767, 65535, 131071]) (π := [0, 1, 2, 3, 4, 5, 6, 7, 8, 9, 10, 11, 12, 13, 14, 15, 16, 17]) (by kernel_rfl)) ?_
  refine Xd rfl rfl (Xz Xl) Xp ?_
  refine Xd rfl rfl (Xz Xl) Xp ?_
  refine Xd rfl rfl (Yd rfl) Xp ?_
  refine Xd rfl rfl (Xg (off := 1) rfl Tryz.underlying73 rfl inf23.size (by decide) rfl) Xp ?_
  refine Xd rfl rfl (Xk rfl Tryz.underlying23 rfl Xr) Xp ?_
  refine Xd rfl rfl (Xg (off := 1) Xl Tryz.underlying26 Xl inf23.size (by decide) Xl) Xp ?_
  refine Xd rfl rfl (Xk rfl Tryz.underlying23 rfl Xr) Xp ?_
  refine Xd rfl rfl (Xg (off := 2) Xl Tryz.underlying26 Xl inf23.size (by decide) Xl) Xp ?_
  refine Xd rfl rfl (Xk rfl Tryz.underlying23 rfl Xr) Xp ?_
  refine Xd rfl rfl (Xc rfl) Xp ?_
  refine Xd rfl rfl (Xs rfl rfl Tryz.underlying23 inf3.size X1 X1) Xp ?_
  refine Xd rfl rfl (Xk rfl Tryz.underlying3 rfl Xr) Xp ?_
  refine Yh rfl rfl (X2 (Index_ints f.order _ (par f w) _ (s1K.mono leK5.sees) (by omega)) rfl Tryz.func42 rfl rfl rfl ?_)
  rintro v6 H5 ⟨rfl, rfl⟩
  refine ⟨Yf, ?_⟩
  first | refine Y5 rfl rfl (Ye (r := [.int .i64 _]) Tryz.underlying23 inf3.size inf3.zero rfl (by decide) (by decide) (by decide) rfl) ?_
  refine Yh rfl rfl (OwnP.append (ys := [atI f.order (par f w)]) (hoB.push _) Tryz.underlying23 inf3 rfl rfl rfl (Zn (k := Y3 .i64) rfl rfl hoB.size rfl) (by rw [lenB]; simp only [List.length_singleton]; omega) (by rw [lenB]; simp only [List.length_singleton]; omega) ?_)
  rintro v7 G7 H7 hle7 hown7
  have hsameO := OwnP.sameO (hoB.push _) hle7 hown7
  rw [take_at tp] at hown7
  obtain ⟨AB', cB', rfl⟩ := hown7.shape
  have hle7' := Hp.le_trans (Hp.le_push _ _) hle7
  obtain ⟨G8, hleG8, hown8⟩ := backB G7 H7 _ _ hle7' hown7
  have g8t := Xt hleG8 (by omega) (by intro e; cases e) g5t
  have h7t := Xt hown8.le (by have := hleG8.1; omega) (by intro e; cases e) g8t
  refine ⟨Yf, ?_⟩
  refine Xd rfl rfl (Yd rfl) Xp ?_
  refine Xd rfl rfl (Xg (off := 1) rfl Tryz.underlying73 rfl inf23.size (by decide) rfl) Xp ?_
  first | refine Yh rfl rfl (Yx rfl rfl rfl inf23.size Yg Yi rfl ?_)
  refine ⟨Yf, ?_⟩
  refine Xf ?_
  obtain ⟨H9, hH9⟩ : ∃ H9, H9 = H7.put (K.size + 1) (.own 0 [.slice AA' (T.vars.take (i + 1)).length cA', .slice AB' (T.parent.take (i + 1)).length cB', .slice AC (T.links.take i).length cC, .map (some K.size)]) := ⟨_, rfl⟩
  obtain ⟨G9, hG9⟩ : ∃ G9, G9 = G8.put (K.size + 1) (.own 0 [.slice AA' (T.vars.take (i + 1)).length cA', .slice AB' (T.parent.take (i + 1)).length cB', .slice AC (T.links.take i).length cC, .map (some K.size)]) := ⟨_, rfl⟩
  have z8 := hleG8.1
  have hown9 := hown8.put_box (by omega) g8t [.slice AA' (T.vars.take (i + 1)).length cA', .slice AB' (T.parent.take (i + 1)).length cB', .slice AC (T.links.take i).length cC, .map (some K.size)]
  rw [← hG9, ← hH9] at hown9
  have leG9 : K.le G9 := by rw [hG9]; exact Hp.le_put_new (Hp.le_trans leG5 hleG8) (by omega) _
  have g9m : G9.get K.size = .map es := by rw [hG9, Hp.put_other _ _ (by omega)]; exact Xt hleG8 (by omega) (by intro e; cases e) g5m
  have g9t : G9.get (K.size + 1) = .own 0 [.slice AA' (T.vars.take (i + 1)).length cA', .slice AB' (T.parent.take (i + 1)).length cB', .slice AC (T.links.take i).length cC, .map (some K.size)] := by rw [hG9]; exact Hp.put_same _ _ _
  have z9 : K.size + 2 ≤ G9.size := by rw [hG9]; simp; omega
  change ACode true _ _ _ _ _ (H7.put (K.size + 1) (.own 0 [.slice AA' (T.vars.take (i + 1)).length cA', .slice AB' (T.parent.take (i + 1)).length cB', .slice AC (T.links.take i).length cC, .map (some K.size)]))
  rw [← hH9]
  have slG9 : Sl kLink G9 (.slice Aw (Yz f X w).length cw) (Yz f X w) := by
    rw [hG9]
    exact (slG5.mono hleG8.sees).mono (Hp.sees_box _ g8t)
  have hsl9 := slG9.mono hown9.le.sees
  have h9t := Xt hown9.le (by omega) (by intro e; cases e) g9t
  have zz9 := hown9.size
  clear hH9 hG9 hsameO
  refine Yr (by kernel_rfl) (Yy (B := [0, 0, 2, 6, 14, 0, 32, 96, 254, 511, 1023, 2047]) (π := [0, 1, 2, 3, 4, 5, 6, 7, 8, 9, 10, 11]) (by kernel_rfl)) ?_
  refine Xd rfl rfl (Xz Xl) Xp ?_
  refine Xd rfl rfl (Xz Xl) Xp ?_
  refine Xd rfl rfl (Yd rfl) Xp ?_
  refine Xd rfl rfl (Xg (off := 2) rfl Tryz.underlying73 rfl inf27.size (by decide) rfl) Xp ?_
  refine Xd rfl rfl (Xk rfl Tryz.underlying27 rfl Xr) Xp ?_
  refine Xd rfl rfl (Xy rfl) Xp ?_
  refine Yh rfl rfl (X2 (Clone_links _ _ _ hsl9 hpll) rfl Tryz.func43 rfl rfl rfl ?_)
  rintro v10 H10 ⟨G10', hle10, hownL⟩; obtain ⟨AL, cL, rfl⟩ := hownL.shape; have hle10' := Hp.le_trans hle10 hownL.le; obtain ⟨G10, hleG10, hown10⟩ := hown9.later hle10'; have slL := hown10.below (Zc _) (Zc _) (Zc _) (by decide) (by decide) (by decide) hownL.sl; obtain ⟨Gc, hleGc, hoC, backC⟩ := (hown10.rot (stable_strs _) (Vs _)).open3; have slLc := slL.mono hleGc.sees; have zoC := hoC.size; have h10t := Xt hle10' (by omega) (by intro e; cases e) h9t; have z10 := hleG10.1; have zc := hleGc.1
  refine ⟨Yf, ?_⟩
  refine Y5 rfl rfl (Ye (r := [.slice _ _ _]) Tryz.underlying27 inf68.size inf68.zero rfl (by decide) (by decide) (by decide) rfl) ?_
  refine Yh rfl rfl (OwnP.append (ys := [Yz f X w]) (hoC.push _) Tryz.underlying27 inf68 rfl rfl rfl (Zn (k := Vi kLink) ⟨_, rfl, slLc⟩ rfl hoC.size rfl) (by rw [lenC]; simp only [List.length_singleton]; omega) (by rw [lenC]; simp only [List.length_singleton]; omega) ?_)
  rintro v11 G11 H11 hle11 hown11
  have hsameO := OwnP.sameO (hoC.push _) hle11 hown11
  rw [take_at tl] at hown11
  obtain ⟨AC', cC', rfl⟩ := hown11.shape
  have hle11' := Hp.le_trans (Hp.le_push _ _) hle11
  obtain ⟨G12, hleG12, hown12⟩ := backC G11 H11 _ _ hle11' hown11
  have g10t := Xt hleG10 (by omega) (by intro e; cases e) g9t
  have g12t := Xt hleG12 (by omega) (by intro e; cases e) g10t
  have h11t := Xt hown12.le (by have := hleG12.1; omega) (by intro e; cases e) g12t
  refine ⟨Yf, ?_⟩
  refine Xd rfl rfl (Yd rfl) Xp ?_
  refine Xd rfl rfl (Xg (off := 2) rfl Tryz.underlying73 rfl inf27.size (by decide) rfl) Xp ?_
  first | refine Yh rfl rfl (Yx rfl rfl rfl inf27.size Yg Yi rfl ?_)
  refine ⟨Yf, ?_⟩
  obtain ⟨H13, hH13⟩ : ∃ H13, H13 = H11.put (K.size + 1) (.own 0 [.slice AA' (T.vars.take (i + 1)).length cA', .slice AB' (T.parent.take (i + 1)).length cB', .slice AC' (T.links.take (i + 1)).length cC', .map (some K.size)]) := ⟨_, rfl⟩
  obtain ⟨G13, hG13⟩ : ∃ G13, G13 = G12.put (K.size + 1) (.own 0 [.slice AA' (T.vars.take (i + 1)).length cA', .slice AB' (T.parent.take (i + 1)).length cB', .slice AC' (T.links.take (i + 1)).length cC', .map (some K.size)]) := ⟨_, rfl⟩
  have z12 := hleG12.1
  have hown13 := hown12.put_box (by omega) g12t [.slice AA' (T.vars.take (i + 1)).length cA', .slice AB' (T.parent.take (i + 1)).length cB', .slice AC' (T.links.take (i + 1)).length cC', .map (some K.size)]
  rw [← hG13, ← hH13] at hown13
  have leG13 : K.le G13 := by rw [hG13]; exact Hp.le_put_new (Hp.le_trans leG9 (Hp.le_trans hleG10 hleG12)) (by omega) _
  have g13m : G13.get K.size = .map es := by rw [hG13, Hp.put_other _ _ (by omega)]; exact Xt (Hp.le_trans hleG10 hleG12) (by omega) (by intro e; cases e) g9m
  have g13t : G13.get (K.size + 1) = .own 0 [.slice AA' (T.vars.take (i + 1)).length cA', .slice AB' (T.parent.take (i + 1)).length cB', .slice AC' (T.links.take (i + 1)).length cC', .map (some K.size)] := by rw [hG13]; exact Hp.put_same _ _ _
  have z13 : K.size + 2 ≤ G13.size := by rw [hG13]; simp; omega
  change ACode true _ _ _ _ _ (H11.put (K.size + 1) (.own 0 [.slice AA' (T.vars.take (i + 1)).length cA', .slice AB' (T.parent.take (i + 1)).length cB', .slice AC' (T.links.take (i + 1)).length cC', .map (some K.size)]))
  rw [← hH13]
  have h13t := Xt hown13.le (by omega) (by intro e; cases e) g13t
  have h13m := Xt hown13.le (by omega) (by intro e; cases e) g13m
  have zz13 := hown13.size
  obtain ⟨sl1, sl2, sl3⟩ := hown13.sls
  clear hH13 hG13 hsameO
  have eP : (T.parent.take (i + 1)).getD i 0 = T.parent.getD i 0 := by rw [List.getD_eq_getElem?_getD, List.getD_eq_getElem?_getD, List.getElem?_take, if_pos (by omega)]
  have hiL : i < (T.links.take (i + 1)).length := by rw [List.length_take]; omega
  have eL : (T.links.take (i + 1))[i]'hiL = Yz f X w := by
    rw [List.getElem_take]
    exact (List.getElem?_eq_some_iff.1 tl).2
  have eL2 : T.links.getD i [] = Yz f X w := by rw [List.getD_eq_getElem?_getD, tl]; rfl
  refine Xb (by kernel_rfl) ?_
  refine Xa (Xz Xl) ?_
  refine Xa (Xc rfl) ?_
  refine X3 (X2 (group_tree (b := K.size + 1) (mb := K.size) (by omega) (by omega) h13t sl2 sl3 h13m i hiL (by rw [List.length_take]; omega) (by rw [eL]; exact hpll) (fun _ => by rw [eL]; exact hrise) hsp.keys (fun a => hsp.none i a (Nat.le_refl _))) rfl Tryz.func44 rfl rfl rfl ?_)
  rintro v14 H14 ⟨es', rfl, hes'⟩
  refine Xb (by kernel_rfl) ?_
  refine Xa (Yk Xl Xl Yu) ?_
  refine Xa (Xc rfl) ?_
  refine ⟨f.order.length - (i + 1), by omega, i + 1, G13.put K.size (.map es'), _, _, _, es', by omega, rfl, Hp.le_put_new leG13 (Nat.le_refl _) _, by simp; omega, Hp.put_same _ _ _, by rw [Hp.put_other _ _ (by omega)]; exact g13t, hown13.put_map (by omega) g13m es', hsp.step ?_, e2, e3, e7, e24, e25, rfl⟩
  rw [eP, eL] at hes'
  rw [eL2]
  exact hes'
  intro hc3
  have hpar : par f w = -1 := Decidable.not_not.1 (of_decide_eq_false hc3)
  have hpk : Yz f X w = nd X w := by unfold Yz; rw [if_pos hpar]
  have hpll : (Yz f X w).length ≤ 1000000 := by rw [hpk]; exact hnl
  have hrise : RiseA (Yz f X w) := by rw [hpk]; exact goodL_rise (hXg.ok w hwn).1
  obtain ⟨w10, hw10⟩ : ∃ w10, w10 = Value.slice An (nd X w).length cn := ⟨_, rfl⟩
  have hle2 := Hp.le_refl H1
  have hsl2 : Sl kLink H1 (.slice An (Yz f X w).length cn) (Yz f X w) := by rw [hpk]; exact hwN.mono leK1.sees
  rw [← hpk]
  obtain ⟨H2, e2'⟩ : ∃ H2, H2 = H1 := ⟨_, rfl⟩
  subst e2'
  obtain ⟨Aw, cw, eAw, eCw⟩ : ∃ Aw cw, Aw = An ∧ cw = cn := ⟨_, _, rfl, rfl⟩
  subst eAw
  subst eCw
  refine X8 ?_
  refine Xf ?_
  obtain ⟨G2, hleG2, hown2⟩ := hown.later hle2
  have leG2 := Hp.le_trans leG hleG2
  have leK2 := Hp.le_trans leK1 hle2
  have g2m := Xt hleG2 (by omega) (by intro e; cases e) gm
  have g2t := Xt hleG2 (by omega) (by intro e; cases e) gt
  have z2 := hleG2.1
  have zz2 := hown2.size
  obtain ⟨Ga, hleGa, hoA, backA⟩ := (hown2.rot (Vs _) stable_lists).open3
  obtain ⟨AA, cA, rfl⟩ := hoA.shape
  obtain ⟨slA, slB, slC⟩ := hown2.sls
  obtain ⟨AB, cB, rfl⟩ := slB.shape
  obtain ⟨AC, cC, rfl⟩ := slC.shape
  have lenA : (T.vars.take i).length = i := by rw [List.length_take]; omega
  have lenB : (T.parent.take i).length = i := by rw [List.length_take]; omega
  have lenC : (T.links.take i).length = i := by rw [List.length_take]; omega
  have h2t := Xt hown2.le (by omega) (by intro e; cases e) g2t
  have h20 := Xt leK2 (by omega) (by intro e; cases e) gK0
  obtain ⟨bs, os, ks, eS, hbs, rfl, hcellS⟩ := s0K.elem_at (i := w) hwn
  subst eS
  have hcellS' := leK2.cell1 hbs hcellS.one
  have zoA := hoA.size
  have za := hleGa.1
  have slG2 := hown2.below (Zc _) (Zc _) (Zc _) (by decide) (by decide) (by decide) hsl2
  refine Yr (by kernel_rfl) (Yy (B := [0, 0, 2, 6, 14, 0, 32, 0, 224, 480, 992, 2046, 4095, 8191, 16383]) (π := [0, 1, 2, 3, 4, 5, 6, 7, 8, 9, 10, 11, 12, 13, 14]) (by kernel_rfl)) ?_
  refine Xd rfl rfl (Xz Xl) Xp ?_
  refine Xd rfl rfl (Xz Xl) Xp ?_
  refine Xd rfl rfl (Yd rfl) Xp ?_
  refine Xd rfl rfl (Xg (off := 0) rfl Tryz.underlying73 rfl inf22.size (by decide) rfl) Xp ?_
  refine Xd rfl rfl (Xk rfl Tryz.underlying22 rfl Xr) Xp ?_
  refine Xd rfl rfl (Xg (off := 0) Xl Tryz.underlying26 Xl inf22.size (by decide) Xl) Xp ?_
  refine Xd rfl rfl (Xk rfl Tryz.underlying22 rfl Xr) Xp ?_
  refine Xd rfl rfl (Xc rfl) Xp ?_
  refine Xd rfl rfl (Xs rfl rfl Tryz.underlying22 inf9.size X1 X1) Xp ?_
  refine Xd rfl rfl (Xk rfl Tryz.underlying9 rfl Xr) Xp ?_
  first | refine Y5 rfl rfl (Ye (r := [.string _]) Tryz.underlying22 inf9.size inf9.zero rfl (by decide) (by decide) (by decide) rfl) ?_
  refine Yh rfl rfl (OwnP.append (ys := [f.vars[w]]) (hoA.push _) Tryz.underlying22 inf9 rfl rfl rfl (Zn (k := kStr) rfl rfl hoA.size rfl) (by rw [lenA]; simp only [List.length_singleton]; omega) (by rw [lenA]; simp only [List.length_singleton]; omega) ?_)
  rintro v3 G3 H3 hle3 hown3
  have hsameO := OwnP.sameO (hoA.push _) hle3 hown3
  have ev : f.vars.getD w ⟨#[]⟩ = f.vars[w] := by rw [List.getD_eq_getElem?_getD, List.getElem?_eq_getElem hwn]; rfl
  rw [← ev, take_at tv] at hown3
  obtain ⟨AA', cA', rfl⟩ := hown3.shape
  have hle3' := Hp.le_trans (Hp.le_push _ _) hle3
  obtain ⟨G4, hleG4, hown4⟩ := backA G3 H3 _ _ hle3' hown3
  have g4t := Xt hleG4 (by omega) (by intro e; cases e) g2t
  have h3t := Xt hown4.le (by have := hleG4.1; omega) (by intro e; cases e) g4t
  refine ⟨Yf, ?_⟩
  refine Xd rfl rfl (Yd rfl) Xp ?_
  refine Xd rfl rfl (Xg (off := 0) rfl Tryz.underlying73 rfl inf22.size (by decide) rfl) Xp ?_
  first | refine Yh rfl rfl (Yx rfl rfl rfl inf22.size Yg Yi rfl ?_)
  refine ⟨Yf, ?_⟩
  refine Xf ?_
  obtain ⟨H5, hH5⟩ : ∃ H5, H5 = H3.put (K.size + 1) (.own 0 [.slice AA' (T.vars.take (i + 1)).length cA', .slice AB (T.parent.take i).length cB, .slice AC (T.links.take i).length cC, .map (some K.size)]) := ⟨_, rfl⟩
  obtain ⟨G5, hG5⟩ : ∃ G5, G5 = G4.put (K.size + 1) (.own 0 [.slice AA' (T.vars.take (i + 1)).length cA', .slice AB (T.parent.take i).length cB, .slice AC (T.links.take i).length cC, .map (some K.size)]) := ⟨_, rfl⟩
  have z4 := hleG4.1
  have hown5 := hown4.put_box (by omega) g4t [.slice AA' (T.vars.take (i + 1)).length cA', .slice AB (T.parent.take i).length cB, .slice AC (T.links.take i).length cC, .map (some K.size)]
  rw [← hG5, ← hH5] at hown5
  have leG5 : K.le G5 := by rw [hG5]; exact Hp.le_put_new (Hp.le_trans leG2 hleG4) (by omega) _
  have g5m : G5.get K.size = .map es := by rw [hG5, Hp.put_other _ _ (by omega)]; exact Xt hleG4 (by omega) (by intro e; cases e) g2m
  have g5t : G5.get (K.size + 1) = .own 0 [.slice AA' (T.vars.take (i + 1)).length cA', .slice AB (T.parent.take i).length cB, .slice AC (T.links.take i).length cC, .map (some K.size)] := by rw [hG5]; exact Hp.put_same _ _ _
  have z5 : K.size + 2 ≤ G5.size := by rw [hG5]; simp; omega
  change ACode true _ _ _ _ _ (H3.put (K.size + 1) (.own 0 [.slice AA' (T.vars.take (i + 1)).length cA', .slice AB (T.parent.take i).length cB, .slice AC (T.links.take i).length cC, .map (some K.size)]))
  rw [← hH5]
  have slG5 : Sl kLink G5 (.slice Aw (Yz f X w).length cw) (Yz f X w) := by
    rw [hG5]
    exact (slG2.mono hleG4.sees).mono (Hp.sees_box _ g4t)
  obtain ⟨Gb, hleGb, hoB, backB⟩ := (hown5.rot stable_lists (stable_strs _)).open3
  have leK5 := Hp.le_trans leG5 hown5.le
  have h5t := Xt hown5.le (by omega) (by intro e; cases e) g5t
  have h50 := Xt leK5 (by omega) (by intro e; cases e) gK0
  have hcell25 := leK5.cell1 hb2 hcell2
  have zoB := hoB.size
  have zz5 := hown5.size
  have zb := hleGb.1
  clear hH5 hG5 hsameO
  refine Yr (by kernel_rfl) (Yy (B := [0, 0, 2, 6, 14, 0, 32, 0, 128, 0, 896, 1920, 4064, 8160, 16382, 32767, 65535, 131071]) (π := [0, 1, 2, 3, 4, 5, 6, 7, 8, 9, 10, 11, 12, 13, 14, 15, 16, 17]) (by kernel_rfl)) ?_
  refine Xd rfl rfl (Xz Xl) Xp ?_
  refine Xd rfl rfl (Xz Xl) Xp ?_
  refine Xd rfl rfl (Yd rfl) Xp ?_
  refine Xd rfl rfl (Xg (off := 1) rfl Tryz.underlying73 rfl inf23.size (by decide) rfl) Xp ?_
  refine Xd rfl rfl (Xk rfl Tryz.underlying23 rfl Xr) Xp ?_
  refine Xd rfl rfl (Xg (off := 1) Xl Tryz.underlying26 Xl inf23.size (by decide) Xl) Xp ?_
  refine Xd rfl rfl (Xk rfl Tryz.underlying23 rfl Xr) Xp ?_
  refine Xd rfl rfl (Xg (off := 2) Xl Tryz.underlying26 Xl inf23.size (by decide) Xl) Xp ?_
  refine Xd rfl rfl (Xk rfl Tryz.underlying23 rfl Xr) Xp ?_
  refine Xd rfl rfl (Xc rfl) Xp ?_
  refine Xd rfl rfl (Xs rfl rfl Tryz.underlying23 inf3.size X1 X1) Xp ?_
  refine Xd rfl rfl (Xk rfl Tryz.underlying3 rfl Xr) Xp ?_
  refine Yh rfl rfl (X2 (Index_ints f.order _ (par f w) _ (s1K.mono leK5.sees) (by omega)) rfl Tryz.func42 rfl rfl rfl ?_)
  rintro v6 H5 ⟨rfl, rfl⟩
  refine ⟨Yf, ?_⟩
  first | refine Y5 rfl rfl (Ye (r := [.int .i64 _]) Tryz.underlying23 inf3.size inf3.zero rfl (by decide) (by decide) (by decide) rfl) ?_
  refine Yh rfl rfl (OwnP.append (ys := [atI f.order (par f w)]) (hoB.push _) Tryz.underlying23 inf3 rfl rfl rfl (Zn (k := Y3 .i64) rfl rfl hoB.size rfl) (by rw [lenB]; simp only [List.length_singleton]; omega) (by rw [lenB]; simp only [List.length_singleton]; omega) ?_)
  rintro v7 G7 H7 hle7 hown7
  have hsameO := OwnP.sameO (hoB.push _) hle7 hown7
  rw [take_at tp] at hown7
  obtain ⟨AB', cB', rfl⟩ := hown7.shape
  have hle7' := Hp.le_trans (Hp.le_push _ _) hle7
  obtain ⟨G8, hleG8, hown8⟩ := backB G7 H7 _ _ hle7' hown7
  have g8t := Xt hleG8 (by omega) (by intro e; cases e) g5t
  have h7t := Xt hown8.le (by have := hleG8.1; omega) (by intro e; cases e) g8t
  refine ⟨Yf, ?_⟩
  refine Xd rfl rfl (Yd rfl) Xp ?_
  refine Xd rfl rfl (Xg (off := 1) rfl Tryz.underlying73 rfl inf23.size (by decide) rfl) Xp ?_
  first | refine Yh rfl rfl (Yx rfl rfl rfl inf23.size Yg Yi rfl ?_)
  refine ⟨Yf, ?_⟩
  refine Xf ?_
  obtain ⟨H9, hH9⟩ : ∃ H9, H9 = H7.put (K.size + 1) (.own 0 [.slice AA' (T.vars.take (i + 1)).length cA', .slice AB' (T.parent.take (i + 1)).length cB', .slice AC (T.links.take i).length cC, .map (some K.size)]) := ⟨_, rfl⟩
  obtain ⟨G9, hG9⟩ : ∃ G9, G9 = G8.put (K.size + 1) (.own 0 [.slice AA' (T.vars.take (i + 1)).length cA', .slice AB' (T.parent.take (i + 1)).length cB', .slice AC (T.links.take i).length cC, .map (some K.size)]) := ⟨_, rfl⟩
  have z8 := hleG8.1
  have hown9 := hown8.put_box (by omega) g8t [.slice AA' (T.vars.take (i + 1)).length cA', .slice AB' (T.parent.take (i + 1)).length cB', .slice AC (T.links.take i).length cC, .map (some K.size)]
  rw [← hG9, ← hH9] at hown9
  have leG9 : K.le G9 := by rw [hG9]; exact Hp.le_put_new (Hp.le_trans leG5 hleG8) (by omega) _
  have g9m : G9.get K.size = .map es := by rw [hG9, Hp.put_other _ _ (by omega)]; exact Xt hleG8 (by omega) (by intro e; cases e) g5m
  have g9t : G9.get (K.size + 1) = .own 0 [.slice AA' (T.vars.take (i + 1)).length cA', .slice AB' (T.parent.take (i + 1)).length cB', .slice AC (T.links.take i).length cC, .map (some K.size)] := by rw [hG9]; exact Hp.put_same _ _ _
  have z9 : K.size + 2 ≤ G9.size := by rw [hG9]; simp; omega
  change ACode true _ _ _ _ _ (H7.put (K.size + 1) (.own 0 [.slice AA' (T.vars.take (i + 1)).length cA', .slice AB' (T.parent.take (i + 1)).length cB', .slice AC (T.links.take i).length cC, .map (some K.size)]))
  rw [← hH9]
  have slG9 : Sl kLink G9 (.slice Aw (Yz f X w).length cw) (Yz f X w) := by
    rw [hG9]
    exact (slG5.mono hleG8.sees).mono (Hp.sees_box _ g8t)
  have hsl9 := slG9.mono hown9.le.sees
  have h9t := Xt hown9.le (by omega) (by intro e; cases e) g9t
  have zz9 := hown9.size
  clear hH9 hG9 hsameO
  refine Yr (by kernel_rfl) (Yy (B := [0, 0, 2, 6, 14, 0, 32, 96, 254, 511, 1023, 2047]) (π := [0, 1, 2, 3, 4, 5, 6, 7, 8, 9, 10, 11]) (by kernel_rfl)) ?_
  refine Xd rfl rfl (Xz Xl) Xp ?_
  refine Xd rfl rfl (Xz Xl) Xp ?_
  refine Xd rfl rfl (Yd rfl) Xp ?_
  refine Xd rfl rfl (Xg (off := 2) rfl Tryz.underlying73 rfl inf27.size (by decide) rfl) Xp ?_
  refine Xd rfl rfl (Xk rfl Tryz.underlying27 rfl Xr) Xp ?_
  refine Xd rfl rfl (Xy rfl) Xp ?_
  refine Yh rfl rfl (X2 (Clone_links _ _ _ hsl9 hpll) rfl Tryz.func43 rfl rfl rfl ?_)
  rintro v10 H10 ⟨G10', hle10, hownL⟩; obtain ⟨AL, cL, rfl⟩ := hownL.shape; have hle10' := Hp.le_trans hle10 hownL.le; obtain ⟨G10, hleG10, hown10⟩ := hown9.later hle10'; have slL := hown10.below (Zc _) (Zc _) (Zc _) (by decide) (by decide) (by decide) hownL.sl; obtain ⟨Gc, hleGc, hoC, backC⟩ := (hown10.rot (stable_strs _) (Vs _)).open3; have slLc := slL.mono hleGc.sees; have zoC := hoC.size; have h10t := Xt hle10' (by omega) (by intro e; cases e) h9t; have z10 := hleG10.1; have zc := hleGc.1
  refine ⟨Yf, ?_⟩
  refine Y5 rfl rfl (Ye (r := [.slice _ _ _]) Tryz.underlying27 inf68.size inf68.zero rfl (by decide) (by decide) (by decide) rfl) ?_
  refine Yh rfl rfl (OwnP.append (ys := [Yz f X w]) (hoC.push _) Tryz.underlying27 inf68 rfl rfl rfl (Zn (k := Vi kLink) ⟨_, rfl, slLc⟩ rfl hoC.size rfl) (by rw [lenC]; simp only [List.length_singleton]; omega) (by rw [lenC]; simp only [List.length_singleton]; omega) ?_)
  rintro v11 G11 H11 hle11 hown11
  have hsameO := OwnP.sameO (hoC.push _) hle11 hown11
  rw [take_at tl] at hown11
  obtain ⟨AC', cC', rfl⟩ := hown11.shape
  have hle11' := Hp.le_trans (Hp.le_push _ _) hle11
  obtain ⟨G12, hleG12, hown12⟩ := backC G11 H11 _ _ hle11' hown11
  have g10t := Xt hleG10 (by omega) (by intro e; cases e) g9t
  have g12t := Xt hleG12 (by omega) (by intro e; cases e) g10t
  have h11t := Xt hown12.le (by have := hleG12.1; omega) (by intro e; cases e) g12t
  refine ⟨Yf, ?_⟩
  refine Xd rfl rfl (Yd rfl) Xp ?_
  refine Xd rfl rfl (Xg (off := 2) rfl Tryz.underlying73 rfl inf27.size (by decide) rfl) Xp ?_
  first | refine Yh rfl rfl (Yx rfl rfl rfl inf27.size Yg Yi rfl ?_)
  refine ⟨Yf, ?_⟩
  obtain ⟨H13, hH13⟩ : ∃ H13, H13 = H11.put (K.size + 1) (.own 0 [.slice AA' (T.vars.take (i + 1)).length cA', .slice AB' (T.parent.take (i + 1)).length cB', .slice AC' (T.links.take (i + 1)).length cC', .map (some K.size)]) := ⟨_, rfl⟩
  obtain ⟨G13, hG13⟩ : ∃ G13, G13 = G12.put (K.size + 1) (.own 0 [.slice AA' (T.vars.take (i + 1)).length cA', .slice AB' (T.parent.take (i + 1)).length cB', .slice AC' (T.links.take (i + 1)).length cC', .map (some K.size)]) := ⟨_, rfl⟩
  have z12 := hleG12.1
  have hown13 := hown12.put_box (by omega) g12t [.slice AA' (T.vars.take (i + 1)).length cA', .slice AB' (T.parent.take (i + 1)).length cB', .slice AC' (T.links.take (i + 1)).length cC', .map (some K.size)]
  rw [← hG13, ← hH13] at hown13
  have leG13 : K.le G13 := by rw [hG13]; exact Hp.le_put_new (Hp.le_trans leG9 (Hp.le_trans hleG10 hleG12)) (by omega) _
  have g13m : G13.get K.size = .map es := by rw [hG13, Hp.put_other _ _ (by omega)]; exact Xt (Hp.le_trans hleG10 hleG12) (by omega) (by intro e; cases e) g9m
  have g13t : G13.get (K.size + 1) = .own 0 [.slice AA' (T.vars.take (i + 1)).length cA', .slice AB' (T.parent.take (i + 1)).length cB', .slice AC' (T.links.take (i + 1)).length cC', .map (some K.size)] := by rw [hG13]; exact Hp.put_same _ _ _
  have z13 : K.size + 2 ≤ G13.size := by rw [hG13]; simp; omega
  change ACode true _ _ _ _ _ (H11.put (K.size + 1) (.own 0 [.slice AA' (T.vars.take (i + 1)).length cA', .slice AB' (T.parent.take (i + 1)).length cB', .slice AC' (T.links.take (i + 1)).length cC', .map (some K.size)]))
  rw [← hH13]
  have h13t := Xt hown13.le (by omega) (by intro e; cases e) g13t
  have h13m := Xt hown13.le (by omega) (by intro e; cases e) g13m
  have zz13 := hown13.size
  obtain ⟨sl1, sl2, sl3⟩ := hown13.sls
  clear hH13 hG13 hsameO
  have eP : (T.parent.take (i + 1)).getD i 0 = T.parent.getD i 0 := by rw [List.getD_eq_getElem?_getD, List.getD_eq_getElem?_getD, List.getElem?_take, if_pos (by omega)]
  have hiL : i < (T.links.take (i + 1)).length := by rw [List.length_take]; omega
  have eL : (T.links.take (i + 1))[i]'hiL = Yz f X w := by
    rw [List.getElem_take]
    exact (List.getElem?_eq_some_iff.1 tl).2
  have eL2 : T.links.getD i [] = Yz f X w := by rw [List.getD_eq_getElem?_getD, tl]; rfl
  refine Xb (by kernel_rfl) ?_
  refine Xa (Xz Xl) ?_
  refine Xa (Xc rfl) ?_
  refine X3 (X2 (group_tree (b := K.size + 1) (mb := K.size) (by omega) (by omega) h13t sl2 sl3 h13m i hiL (by rw [List.length_take]; omega) (by rw [eL]; exact hpll) (fun _ => by rw [eL]; exact hrise) hsp.keys (fun a => hsp.none i a (Nat.le_refl _))) rfl Tryz.func44 rfl rfl rfl ?_)
  rintro v14 H14 ⟨es', rfl, hes'⟩
  refine Xb (by kernel_rfl) ?_
  refine Xa (Yk Xl Xl Yu) ?_
  refine Xa (Xc rfl) ?_
  refine ⟨f.order.length - (i + 1), by omega, i + 1, G13.put K.size (.map es'), _, _, _, es', by omega, rfl, Hp.le_put_new leG13 (Nat.le_refl _) _, by simp; omega, Hp.put_same _ _ _, by rw [Hp.put_other _ _ (by omega)]; exact g13t, hown13.put_map (by omega) g13m es', hsp.step ?_, e2, e3, e7, e24, e25, rfl⟩
  rw [eP, eL] at hes'
  rw [eL2]
  exact hes'
  intro hc2
  (try simp only [decide_eq_true_eq, decide_eq_false_iff_not, Bool.not_eq_true', Bool.not_eq_false'] at hc2)
  refine Yq ?_
  refine Xf ?_
  refine Xb (by kernel_rfl) ?_
  refine Xa (Xz Xl) ?_
  refine Xa (Zi rfl) ?_
  refine Xa (Xn rfl) ?_
  refine X5 ?_
  obtain rfl : i = f.order.length := by omega
  obtain ⟨sl1, sl2, sl3⟩ := hown.sls
  rw [List.take_of_length_le (by omega)] at sl1 sl2 sl3
  have zz := hown.size
  exact ⟨_, Za (Xv rfl) (Xv rfl), Hp.le_trans leK leK1, true, .pointer (some ⟨K.size + 1, 0, none⟩), hg, rfl, by
    rw [if_pos rfl]
    exact ⟨K.size + 1, K.size, A, B, C, es, rfl, by omega, by omega, Xt hown.le (by omega) (by intro e; cases e) gt, sl1, sl2, sl3, Xt hown.le (by omega) (by intro e; cases e) gm, by rw [tl3]; exact hsp⟩⟩
end Go.Proofs.YtcaeoebphfjfiaaGreat.Am


/- Two variables, of which one link leads from the one to the other; the small living call of the statements on reducing. -/
namespace Go.Proofs.YtcaeoebphfjfiaaGreat.Am
open Go Go.RowKit
set_option maxRecDepth 100000
set_option linter.unusedVariables false
set_option linter.unusedSimpArgs false

theorem sl_two {α : Type} {k : Kd α} {H : Hp} {b c st : Nat} {x y : α} {u v : Value} (hg : H.get b = .own st [u, v]) (hb : b < H.size) (h1 : k.rep H x [u]) (h2 : k.rep H y [v]) (hst : k.sz = st) : Sl k H (.slice (some ⟨b, 0, none⟩) 2 c) [x, y] :=
  Els.sl (xs := [x, y]) (cs := [u, v]) (Els.cons (c := [u]) h1 (Els.cons (c := [v]) h2 (Els.nil _ _ []))) (Hp.sees.refl _) hb hg hst
end Go.Proofs.YtcaeoebphfjfiaaGreat.Am


/- Whether two lists of rows are one; whether a forest is small. -/
namespace Go.Proofs.YtcaeoebphfjfiaaGreat.Am
open Go Go.RowKit
set_option maxRecDepth 100000
set_option linter.unusedVariables false
set_option linter.unusedSimpArgs false

end Go.Proofs.YtcaeoebphfjfiaaGreat.Am


/- The small living call of the statements on trees. -/
namespace Go.Proofs.YtcaeoebphfjfiaaGreat.Am
open Go Go.RowKit
set_option maxRecDepth 100000
set_option linter.unusedVariables false
set_option linter.unusedSimpArgs false

theorem New_good (f : Forest) (p : Parts) (cs ds : List Value) (H : Hp) (hp : kForest.rep H f cs) (hq : kParts.rep H p ds) (hsm : Small f p) (hch : Cheap p) (hG : GoodP f p) :
    ACalls Tryz.prog 9 #[.agg cs.toArray, .agg ds.toArray] H (fun r H' => H.le H' ∧ ∃ b, r = .tuple #[.pointer (some ⟨b, 0, none⟩), .int .i64 0] ∧ TreeR H' (.pointer (some ⟨b, 0, none⟩)) (Y8 f (ofP f p))) :=
  (New_tree f p cs ds H hp hq hsm fun _ => hch).mono fun r H' ⟨hle, g, v, hg, hr, hv⟩ => by
    obtain rfl : g = true := hg.2 hG
    rw [if_pos rfl] at hv
    obtain ⟨b, _, _, _, _, _, rfl, _⟩ := id hv
    exact ⟨hle, b, hr, hv⟩
end Go.Proofs.YtcaeoebphfjfiaaGreat.Am


/- Walks in memory: made, asked. -/
namespace Go.Proofs.YtcaeoebphfjfiaaGreat.Am
open Go Go.RowKit
set_option maxRecDepth 100000
set_option linter.unusedVariables false
set_option linter.unusedSimpArgs false

def Away (wb : Nat) (G G' : Hp) : Prop := (G.put wb .dead).le (G'.put wb .dead)
theorem Away.refl (wb : Nat) (G : Hp) : Away wb G G := Hp.le_refl _
theorem Away.trans {wb : Nat} {G G1 G2 : Hp} (h : Away wb G G1) (k : Away wb G1 G2) : Away wb G G2 := Hp.le_trans h k
theorem Away.of_le {wb : Nat} {G G' : Hp} (h : G.le G') : Away wb G G' := Hp.le_put_both h wb .dead
theorem Away.put {wb : Nat} {G G' : Hp} (h : Away wb G G') (x : Blk) : Away wb G (G'.put wb x) := by
  unfold Away at h ⊢
  rw [Hp.put_put]; exact h
theorem Away.size {wb : Nat} {G G' : Hp} (h : Away wb G G') : G.size ≤ G'.size := h.1
theorem Away.keep {wb : Nat} {G G' : Hp} (h : Away wb G G') {b : Nat} {x : Blk} (hb : b < G.size) (hne : b ≠ wb) (hd : x ≠ .dead) (hg : G.get b = x) : G'.get b = x := by
  have := h.2 b hb (by rw [Hp.put_other _ _ hne, hg]; exact hd)
  rw [Hp.put_other _ _ hne, Hp.put_other _ _ hne] at this
  rw [this, hg]
theorem Away.base {wb : Nat} {K G G' : Hp} (h : Away wb G G') (hk : K.le G) (hw : K.size ≤ wb) : K.le G' :=
  ⟨Nat.le_trans hk.1 h.1, fun b hb hd => h.keep (Nat.lt_of_lt_of_le hb hk.1) (by omega) hd (hk.2 b hb hd)⟩
theorem Away.sees {wb : Nat} {G G' : Hp} (h : Away wb G G') {cs : List Value} (hg : G.get wb = .own 0 cs) : G.sees G' := by
  have h1 := (Hp.sees_any G hg .dead).trans (Hp.le.sees h)
  have h2 := h1.dead (Hp.put_same _ _ _) (G'.get wb)
  rwa [Hp.put_put, Hp.put_self _ rfl] at h2
theorem Away.tree {wb : Nat} {G G' : Hp} (h : Away wb G G') {a b c d e : Value} (hg : G.get wb = .own 0 [a, b, c, d, e]) {v : Value} {T : TreeT} (ht : TreeR G v T) : TreeR G' v T := by
  have hs := h.sees hg
  obtain ⟨tb, mb, s0, s1, s2, es, rfl, h1, h2, h3, h4, h5, h6, h7, h8⟩ := ht
  have n1 : tb ≠ wb := fun e => by rw [e, hg] at h3; simp at h3
  have n2 : mb ≠ wb := fun e => by rw [e, hg] at h7; cases h7
  exact ⟨tb, mb, s0, s1, s2, es, rfl, Nat.lt_of_lt_of_le h1 h.size, Nat.lt_of_lt_of_le h2 h.size, h.keep h1 n1 (by intro e; cases e) h3, h4.mono hs, h5.mono hs, h6.mono hs, h.keep h2 n2 (by intro e; cases e) h7, h8⟩
def Zu (G H : Hp) (wb : Nat) (tv : Value) (S : Zk) : Prop := ∃ B c, wb < G.size ∧ G.get wb = .own 0 [tv, .slice B S.nodes.length c, .bool S.back, .bool S.over, .int .i64 S.steps] ∧ OwnP (Y3 .i64) G H (.slice B S.nodes.length c) S.nodes
def V3 (o : Option RowT) : List Int := (o.map RowT.nodes).getD []
def rowC (o : Option RowT) : Int := (o.map RowT.cost).getD 0
def rowM (o : Option RowT) : Int := (o.map RowT.n).getD 0
def RowO (G : Hp) (r : Value) (o : Option RowT) : Prop := ∃ A c, r = .tuple #[.agg #[.slice A (V3 o).length c, .int .i64 (rowC o), .int .u64 (rowM o)], .bool o.isSome] ∧ Sl (Y3 .i64) G (.slice A (V3 o).length c) (V3 o)
theorem rowO_none (G : Hp) : RowO G (.tuple #[.agg #[.slice none 0 0, .int .i64 0, .int .u64 0], .bool false]) none := ⟨none, 0, rfl, Sl.nil _ _⟩
theorem Row_rowT {T : TreeT} {v u : Value} {ns : List Int} {H : Hp} (ht : TreeR H v T) (hT : GoodT T) (hs : Sl (Y3 .i64) H u ns) (hl : ns.length ≤ 1000000) :
    ACalls Tryz.prog 70 #[v, u] H (fun r H' => ∃ G1 A c, H.le G1 ∧ r = .tuple #[.agg #[.slice A (V3 (V2 T ns)).length c, .int .i64 (rowC (V2 T ns)), .int .u64 (rowM (V2 T ns))], .bool (V2 T ns).isSome] ∧ OwnP (Y3 .i64) G1 H' (.slice A (V3 (V2 T ns)).length c) (V3 (V2 T ns))) :=
  (Row_tree ht hT hs hl).mono fun r H' ⟨hle, w, hr⟩ => by
    unfold V2
    split at hr
    · rename_i h
      rw [if_pos h]
      cases hc : Vf T ns T.vars.length with
      | none => rw [hc] at hr; exact ⟨H', none, 0, hle, hr, OwnP.nil _ _⟩
      | some cn =>
        rw [hc] at hr
        obtain ⟨rfl, G1, l1, o1⟩ := hr
        obtain ⟨A, c, rfl⟩ := o1.shape
        exact ⟨G1, A, c, l1, rfl, o1⟩
    · rename_i h
      rw [if_neg h]
      exact ⟨H', none, 0, hle, hr, OwnP.nil _ _⟩
theorem fresh_tree (tb : Nat) (H : Hp) : ACalls Tryz.prog 49 #[.pointer (some ⟨tb, 0, none⟩)] H (fun r H' => r = .pointer (some ⟨H.size, 0, none⟩) ∧ H.le H' ∧ Zu H' H' H.size (.pointer (some ⟨tb, 0, none⟩)) ⟨[], false, false, 0⟩) := by
  refine Xw Tryz.func49 rfl rfl rfl (by simp) ?_
  refine Xf ?_
  refine Xb (by kernel_rfl) ?_
  refine Xa (Zi rfl) ?_
  refine Xf ?_
  refine Xb (by kernel_rfl) ?_
  refine Xa (Xz rfl) ?_
  refine Xa (Y7 (pl := [(0, 1), (1, 1), (2, 1), (3, 1), (4, 1)]) (r := [.pointer _, .slice _ _ _, .bool _, .bool _, .int .i64 _]) Tryz.underlying86 inf86.zero (by decide) rfl rfl) ?_
  refine X4 (Yp rfl) ?_
  refine Xa (Zi rfl) ?_
  refine Xf ?_
  refine Xb (by kernel_rfl) ?_
  refine Xa (Xz rfl) ?_
  refine Xa (Xz rfl) ?_
  refine Xa (Z4 rfl t_spot rfl Tryz.underlying32) ?_
  refine Xa (Yd rfl) ?_
  refine Xa (Xg (off := 3) rfl Tryz.underlying86 rfl inf4.size (by decide) rfl) ?_
  first | refine X3 (Yx rfl rfl rfl inf4.size Yg Yi rfl ?_)
  refine Xf ?_
  refine Xb (by kernel_rfl) ?_
  refine Xa (Xz rfl) ?_
  refine Xa (Zi rfl) ?_
  refine X5 ?_
  exact ⟨_, Xx (Xv rfl), rfl, Hp.le_put_new (H.le_push _) (Nat.le_refl _) _, none, 0, by simp, Hp.put_same _ _ _, OwnP.nil _ _⟩
theorem above_walk {T : TreeT} (hT : GoodT T) {tv : Value} {S : Zk} {wb : Nat} {G H : Hp} (hW : Zu G H wb tv S) (ht : TreeR G tv T) (i : Nat) (hi : i < T.vars.length) (hl : i ≤ S.nodes.length) :
    ACalls Tryz.prog 65 #[.pointer (some ⟨wb, 0, none⟩), .int .i64 i] H (fun r H' => r = .int .i64 (Yv T S.nodes i) ∧ H' = H) := by
  obtain ⟨B, c, hwb, gw, hown⟩ := hW
  have hw := Xt hown.le hwb (by intro e; cases e) gw
  have hp := hT.par i hi
  obtain ⟨tb, _, _, _, _, _, etv, _⟩ := id ht
  subst etv
  refine Xw Tryz.func65 rfl rfl rfl (by simp) ?_
  refine Xf ?_
  refine Xb (by kernel_rfl) ?_
  refine Xa (Xn rfl) ?_
  refine Xf ?_
  refine Xf ?_
  refine Xb (by kernel_rfl) ?_
  refine Xa (Xz rfl) ?_
  refine Xa (Yd rfl) ?_
  refine Xa (Xg (off := 0) rfl Tryz.underlying86 rfl inf32.size (by decide) rfl) ?_
  refine Xa (Xk rfl Tryz.underlying32 rfl Xr) ?_
  refine Xa (Xc rfl) ?_
  refine X3 (X2 (Parent_tree (ht.mono hown.le) hT.l1 (i : Int)) rfl Tryz.func85 rfl rfl rfl ?_)
  rintro v6 H ⟨rfl, rfl⟩; rw [if_pos ⟨by omega, by omega⟩, Int.toNat_natCast]
  refine Xa (Xn rfl) ?_
  refine Xf ?_
  refine Xb (by kernel_rfl) ?_
  refine Xa (Xc rfl) ?_
  refine Xa (Zq rfl rfl) ?_
  refine X6 rfl rfl ?_ ?_
  intro hc1
  have hne : T.parent.getD i 0 ≠ -1 := of_decide_eq_true hc1
  have hpr := hp.resolve_left hne
  obtain ⟨b, o, rfl, hb, hcell⟩ := hown.sl.int_at (i := T.parent.getD i 0) hpr.1 (by omega)
  refine Xf ?_
  refine Xb (by kernel_rfl) ?_
  refine Xa (Xz rfl) ?_
  refine Xa (Yd rfl) ?_
  refine Xa (Xg (off := 1) rfl Tryz.underlying86 rfl inf23.size (by decide) rfl) ?_
  refine Xa (Xk rfl Tryz.underlying23 rfl Xr) ?_
  refine Xa (Xc rfl) ?_
  refine Xa (Xs rfl rfl Tryz.underlying23 inf3.size X1 X1) ?_
  refine Xa (Xk rfl Tryz.underlying3 rfl Xr) ?_
  refine Xa (Xn rfl) ?_
  refine X5 ?_
  exact ⟨.int .i64 (S.nodes.getD (T.parent.getD i 0).toNat 0), Xx (Xv rfl), by unfold Yv; rw [if_neg hne], rfl⟩
  intro hc1
  have hne : T.parent.getD i 0 = -1 := Decidable.not_not.1 (of_decide_eq_false hc1)
  refine X8 ?_
  refine Xf ?_
  refine Xb (by kernel_rfl) ?_
  refine Xa (Xn rfl) ?_
  refine X5 ?_
  exact ⟨.int .i64 (-1), Xx (Xv rfl), by unfold Yv; rw [if_pos hne], rfl⟩
theorem row_walk {T : TreeT} (hT : GoodT T) {tv : Value} {S : Zk} {wb : Nat} {G H : Hp} (hW : Zu G H wb tv S) (ht : TreeR G tv T) (hl : S.nodes.length ≤ 1000000) :
    ACalls Tryz.prog 88 #[.pointer (some ⟨wb, 0, none⟩)] H (fun r H' => ∃ G', G.le G' ∧ Zu G' H' wb tv S ∧ RowO G' r (V2 T S.nodes)) := by
  obtain ⟨B, c, hwb, gw, hown⟩ := hW
  have hw := Xt hown.le hwb (by intro e; cases e) gw
  have zz := hown.size
  obtain ⟨tb, _, _, _, _, _, etv, _⟩ := id ht
  subst etv
  have hownP := hown.push (.own 0 [.slice none 0 0, .int .i64 0, .int .u64 0])
  refine Xw Tryz.func88 rfl rfl rfl (by simp) ?_
  refine Xf ?_
  refine Xb (by kernel_rfl) ?_
  refine X4 (Y4 (l := [.slice none 0 0, .int .i64 0, .int .u64 0]) inf44.zero rfl (by decide)) ?_
  refine Xa (Xo rfl) ?_
  refine Xf ?_
  refine Yr (by kernel_rfl) (Yy (B := [0, 1, 3, 7, 0, 16, 48, 112, 255, 511, 511, 2047, 4095]) (π := [0, 1, 2, 3, 4, 5, 6, 7, 8, 9, 10, 11, 12]) (by kernel_rfl)) ?_
  refine Xd rfl rfl (Xz rfl) Xp ?_
  refine Xd rfl rfl (Yd rfl) Xp ?_
  refine Xd rfl rfl (Xg (off := 0) rfl Tryz.underlying86 rfl inf32.size (by decide) rfl) Xp ?_
  refine Xd rfl rfl (Xk rfl Tryz.underlying32 rfl Xr) Xp ?_
  refine Xd rfl rfl (Xz rfl) Xp ?_
  refine Xd rfl rfl (Yd rfl) Xp ?_
  refine Xd rfl rfl (Xg (off := 1) rfl Tryz.underlying86 rfl inf23.size (by decide) rfl) Xp ?_
  refine Xd rfl rfl (Xk rfl Tryz.underlying23 rfl Xr) Xp ?_
  refine Yh rfl rfl (X2 (Row_rowT ((ht.mono hown.le).mono (H.le_push _)) hT (hown.sl.mono (H.le_push _).sees) hl) rfl Tryz.func70 rfl rfl rfl ?_)
  rintro v6 H6 ⟨G1, A1, k1, le1, rfl, own1⟩; have le6 := Hp.le_trans le1 own1.le; have z6 := le6.1; simp only [Hp.push_size] at z6; have g6 : H6.get H.size = .own 0 [.slice none 0 0, .int .i64 0, .int .u64 0] := Xt le6 (by simp) (by intro e; cases e) Yg
  refine ⟨Yf, ?_⟩
  refine Xd rfl rfl (Yw rfl rfl) Xp ?_
  refine Xd rfl rfl (Yw rfl rfl) Xp ?_
  refine Yh rfl rfl (Yl (vs := [.slice _ _ _, .int .i64 _, .int .u64 _]) rfl rfl inf44.size Yg Yi rfl rfl ?_)
  refine ⟨Yf, ?_⟩
  refine Xd rfl rfl (Xo rfl) Xp ?_
  refine X5 ?_
  obtain ⟨G2, l2, o2⟩ := hownP.later le1
  obtain ⟨G3, o3, o4⟩ := OwnP.swap2 (Vs _) o2 own1
  have z2 := l2.1
  simp only [Hp.push_size] at z2
  have k2 : G2.get H.size = .own 0 [.slice none 0 0, .int .i64 0, .int .u64 0] := by
    have h1 : (G.push (.own 0 [.slice none 0 0, .int .i64 0, .int .u64 0])).get H.size = .own 0 [.slice none 0 0, .int .i64 0, .int .u64 0] := by rw [zz]; exact Hp.push_new _ _
    exact Xt l2 (by rw [zz]; simp) (by intro e; cases e) h1
  have k3 := Xt o3.le (by omega) (by intro e; cases e) k2
  have gw2 : G2.get wb = _ := Xt l2 (by simp; omega) (by intro e; cases e) ((Hp.push_old _ _ hwb).trans gw)
  have gw3 := Xt o3.le (by omega) (by intro e; cases e) gw2
  have z3 := o3.size
  exact ⟨_, Za (Ys Xl (Yo (cs := [_, _, _]) Tryz.underlying44 rfl inf44.size X9)) (Xv rfl), G3.put H.size _, Hp.le_put_new (Hp.le_trans (G.le_push _) (Hp.le_trans l2 o3.le)) (by omega) _, ⟨B, c, by simp; omega, by rw [Hp.put_other _ _ (by omega)]; exact gw3, o4.put (by rw [k3]; intro e; cases e) _ (Hp.sees_box _ k3)⟩, A1, k1, rfl, o3.sl.mono (Hp.sees_box _ k3)⟩
theorem Over_walk {tv : Value} {S : Zk} {wb : Nat} {G H : Hp} (hW : Zu G H wb tv S) : ACalls Tryz.prog 14 #[.pointer (some ⟨wb, 0, none⟩)] H (fun r H' => r = .bool S.over ∧ H' = H) := by
  obtain ⟨B, c, hwb, gw, hown⟩ := hW
  have hw := Xt hown.le hwb (by intro e; cases e) gw
  refine Xw Tryz.func14 rfl rfl rfl (by simp) ?_
  refine Xf ?_
  refine Xb (by kernel_rfl) ?_
  refine Xa (Xo rfl) ?_
  refine Xf ?_
  refine Xb (by kernel_rfl) ?_
  refine Xa (Xz rfl) ?_
  refine Xa (Z4 rfl t_spot rfl Tryz.underlying40) ?_
  refine Xa (Xq rfl) ?_
  refine Yb rfl rfl rfl ?_ ?_
  intro hg1
  cases hg1
  intro hg1
  have hp1 := hg1; try simp only [decide_eq_true_eq, decide_eq_false_iff_not, Bool.not_eq_true', Bool.not_eq_false'] at hp1
  refine Xj (Xh rfl rfl rfl hg1) (Xz rfl) ?_
  refine Xj (Xh rfl rfl rfl hg1) (Yd rfl) ?_
  refine Xj (Xh rfl rfl rfl hg1) (Xg (off := 3) rfl Tryz.underlying86 rfl inf4.size (by decide) rfl) ?_
  refine Xj (Xh rfl rfl rfl hg1) (Xk rfl Tryz.underlying4 rfl Xr) ?_
  refine Xa (Xm (congrArg Value.bool hg1) rfl) ?_
  refine Xa (Xo rfl) ?_
  refine X5 ?_
  exact ⟨.bool S.over, Xx (Xv rfl), rfl, rfl⟩
theorem Steps_walk {tv : Value} {S : Zk} {wb : Nat} {G H : Hp} (hW : Zu G H wb tv S) : ACalls Tryz.prog 18 #[.pointer (some ⟨wb, 0, none⟩)] H (fun r H' => r = .int .i64 S.steps ∧ H' = H) := by
  obtain ⟨B, c, hwb, gw, hown⟩ := hW
  have hw := Xt hown.le hwb (by intro e; cases e) gw
  refine Xw Tryz.func18 rfl rfl rfl (by simp) ?_
  refine Xf ?_
  refine Xb (by kernel_rfl) ?_
  refine Xa (Xn rfl) ?_
  refine Xf ?_
  refine Xf ?_
  refine Xb (by kernel_rfl) ?_
  refine Xa (Xz rfl) ?_
  refine Xa (Z4 rfl t_spot rfl Tryz.underlying40) ?_
  refine X6 rfl rfl ?_ ?_
  intro hc1
  cases hc1
  intro hc1
  (try simp only [decide_eq_true_eq, decide_eq_false_iff_not, Bool.not_eq_true', Bool.not_eq_false'] at hc1)
  refine X8 ?_
  refine Xf ?_
  refine Xb (by kernel_rfl) ?_
  refine Xa (Xz rfl) ?_
  refine Xa (Yd rfl) ?_
  refine Xa (Xg (off := 4) rfl Tryz.underlying86 rfl inf3.size (by decide) rfl) ?_
  refine Xa (Xk rfl Tryz.underlying3 rfl Xr) ?_
  refine Xa (Xn rfl) ?_
  refine X5 ?_
  exact ⟨.int .i64 S.steps, Xx (Xv rfl), rfl, rfl⟩
end Go.Proofs.YtcaeoebphfjfiaaGreat.Am


/- A walk goes one place on. -/
namespace Go.Proofs.YtcaeoebphfjfiaaGreat.Am
open Go Go.RowKit
set_option maxRecDepth 100000
set_option linter.unusedVariables false
set_option linter.unusedSimpArgs false

theorem Away.put_new {wb : Nat} {G G' : Hp} (h : Away wb G G') {b : Nat} (hb : G.size ≤ b) (hne : b ≠ wb) (x : Blk) : Away wb G (G'.put b x) := by
  unfold Away at h ⊢
  rw [Hp.put_comm _ hne]
  exact Hp.le_put_new h hb x
theorem Away.push {wb : Nat} {G G' : Hp} (h : Away wb G G') (hw : wb < G'.size) (x : Blk) : Away wb G (G'.push x) := h.trans (.of_le (G'.le_push x))
set_option maxHeartbeats 1000000 in
theorem on_walk {T : TreeT} (hT : GoodT T) {tv : Value} {S : Zk} {wb : Nat} {G H : Hp} (hW : Zu G H wb tv S) (ht : TreeR G tv T) (hl : S.nodes.length ≤ T.vars.length) :
    ACalls Tryz.prog 79 #[.pointer (some ⟨wb, 0, none⟩)] H (fun r H' => ∃ G', Away wb G G' ∧ Zu G' H' wb tv (onS T S).1 ∧ RowO G' r (onS T S).2) := by
  have hfew := hT.few
  have hW1 : Zu (G.push (.own 0 [.slice none 0 0, .int .i64 0, .int .u64 0])) (H.push (.own 0 [.slice none 0 0, .int .i64 0, .int .u64 0])) wb tv S := by
    obtain ⟨B, c, hwb, gw, hown⟩ := hW
    exact ⟨B, c, by simp; omega, (Hp.push_old _ _ hwb).trans gw, hown.push _⟩
  have aw1 : Away wb G (G.push (.own 0 [.slice none 0 0, .int .i64 0, .int .u64 0])) := .of_le (G.le_push _)
  have ht1 := ht.mono (G.le_push (.own 0 [.slice none 0 0, .int .i64 0, .int .u64 0]))
  have gz1 : (G.push (.own 0 [.slice none 0 0, .int .i64 0, .int .u64 0])).get G.size = .own 0 [.slice none 0 0, .int .i64 0, .int .u64 0] := Hp.push_new _ _
  have zz0 : H.size = G.size := by obtain ⟨_, _, _, _, hown⟩ := hW; exact hown.size
  have zs1 : (G.push (.own 0 [.slice none 0 0, .int .i64 0, .int .u64 0])).size = G.size + 1 := by simp
  have hwb0 : wb < G.size := by obtain ⟨_, _, h, _, _⟩ := hW; exact h
  obtain ⟨tb, _, _, _, _, _, etv, _⟩ := id ht
  subst etv
  obtain ⟨G1, hG1⟩ : ∃ G1, G1 = G.push (.own 0 [.slice none 0 0, .int .i64 0, .int .u64 0]) := ⟨_, rfl⟩
  obtain ⟨H1, hH1⟩ : ∃ H1, H1 = H.push (.own 0 [.slice none 0 0, .int .i64 0, .int .u64 0]) := ⟨_, rfl⟩
  rw [← hG1, ← hH1] at hW1
  rw [← hG1] at aw1 ht1 gz1 zs1
  obtain ⟨B, c, hwb1, gw1, hown1⟩ := id hW1
  have hw1 := Xt hown1.le hwb1 (by intro e; cases e) gw1
  have hz1 := Xt hown1.le (by omega) (by intro e; cases e) gz1
  have zz1 := hown1.size
  clear hW ht
  refine Xw Tryz.func79 rfl rfl rfl (by simp) ?_
  refine Xf ?_
  refine Xb (by kernel_rfl) ?_
  refine X4 (Y4 (l := [.slice none 0 0, .int .i64 0, .int .u64 0]) inf44.zero rfl (by decide)) ?_
  refine Xa (Xo rfl) ?_
  refine Xf ?_
  change ACode true _ _ _ _ _ (H.push (.own 0 [.slice none 0 0, .int .i64 0, .int .u64 0]))
  rw [← hH1, zz0]
  refine Xb (by kernel_rfl) ?_
  refine Xa (Xz rfl) ?_
  refine Xa (Yd rfl) ?_
  refine Xa (Xg (off := 1) rfl Tryz.underlying86 rfl inf23.size (by decide) rfl) ?_
  refine Xa (Xk rfl Tryz.underlying23 rfl Xr) ?_
  refine Xa (Ym rfl Tryz.underlying23) ?_
  refine Xa (Xn rfl) ?_
  refine Xf ?_
  refine Xf ?_
  refine Xb (by kernel_rfl) ?_
  refine Xa (Xc rfl) ?_
  refine Xa (Xz rfl) ?_
  refine Xa (Yd rfl) ?_
  refine Xa (Xg (off := 0) rfl Tryz.underlying86 rfl inf32.size (by decide) rfl) ?_
  refine Xa (Xk rfl Tryz.underlying32 rfl Xr) ?_
  refine X3 (X2 (Len_tree (ht1.mono hown1.le)) rfl Tryz.func57 rfl rfl rfl ?_)
  rintro v5 H1 ⟨rfl, rfl⟩
  refine Xa (Zy rfl rfl) ?_
  refine X6 rfl rfl ?_ ?_
  intro hc1
  have hfull : S.nodes.length = T.vars.length := by have := of_decide_eq_true hc1; omega
  have hon : onS T S = (⟨S.nodes, true, S.over, S.steps⟩, V2 T S.nodes) := by unfold onS; rw [if_pos hfull]
  refine Xf ?_
  refine Xb (by kernel_rfl) ?_
  refine Xa (Xz rfl) ?_
  refine Xa (Yd rfl) ?_
  refine Xa (Xg (off := 2) rfl Tryz.underlying86 rfl inf4.size (by decide) rfl) ?_
  first | refine X3 (Yx rfl rfl rfl inf4.size Yg Yi rfl ?_)
  refine Xf ?_
  have hW2 : Zu (G1.put wb (.own 0 [.pointer (some ⟨tb, 0, none⟩), .slice B S.nodes.length c, .bool true, .bool S.over, .int .i64 S.steps])) (H1.put wb (.own 0 [.pointer (some ⟨tb, 0, none⟩), .slice B S.nodes.length c, .bool true, .bool S.over, .int .i64 S.steps])) wb (.pointer (some ⟨tb, 0, none⟩)) ⟨S.nodes, true, S.over, S.steps⟩ :=
    ⟨B, c, by simpa using hwb1, Hp.put_same _ _ _, hown1.put (by rw [gw1]; intro e; cases e) _ (Hp.sees_box _ gw1)⟩
  have ht2 := (Away.put (.refl wb G1) (.own 0 [.pointer (some ⟨tb, 0, none⟩), .slice B S.nodes.length c, .bool true, .bool S.over, .int .i64 S.steps])).tree gw1 ht1
  refine Xb (by kernel_rfl) ?_
  refine Xa (Xz rfl) ?_
  refine X3 (X2 (row_walk hT hW2 ht2 (by show S.nodes.length ≤ _; omega)) rfl Tryz.func88 rfl rfl rfl ?_)
  rintro v6 H3 ⟨G3, le3, ⟨B3, c3, hwb3, gw3, hown3⟩, A3, k3, rfl, sl3⟩; have z3 := le3.1; simp only [Hp.put_size] at z3; have gz3 := Xt le3 (by simp; omega) (by intro e; cases e) ((Hp.put_other _ _ (by omega)).trans gz1); have hz3 := Xt hown3.le (by omega) (by intro e; cases e) gz3; have zz3 := hown3.size
  refine Xa (Yw rfl rfl) ?_
  refine Xa (Yw rfl rfl) ?_
  refine X3 (Yl (vs := [.slice _ _ _, .int .i64 _, .int .u64 _]) rfl rfl inf44.size Yg Yi rfl rfl ?_)
  refine Xa (Xo rfl) ?_
  refine X5 ?_
  rw [hon]
  exact ⟨_, Za (Ys Xl (Yo (cs := [_, _, _]) Tryz.underlying44 rfl inf44.size X9)) (Xv rfl), G3.put G.size _, ((aw1.put _).trans (.of_le le3)).put_new (Nat.le_refl _) (by omega) _, ⟨B3, c3, by simpa using hwb3, by rw [Hp.put_other _ _ (by omega)]; exact gw3, hown3.put (by rw [gz3]; intro e; cases e) _ (Hp.sees_box _ gz3)⟩, A3, k3, rfl, sl3.mono (Hp.sees_box _ gz3)⟩
  intro hc1
  have hfull : ¬ S.nodes.length = T.vars.length := by have := of_decide_eq_false hc1; omega
  have hlt : S.nodes.length < T.vars.length := by omega
  refine X8 ?_
  refine Xf ?_
  refine Yr (by kernel_rfl) (Yy (B := [0, 1, 3, 7, 0, 0, 0, 96, 255, 511]) (π := [0, 1, 2, 3, 4, 5, 6, 7, 8, 9]) (by kernel_rfl)) ?_
  refine Xd rfl rfl (Xz rfl) Xp ?_
  refine Xd rfl rfl (Yd rfl) Xp ?_
  refine Xd rfl rfl (Xg (off := 0) rfl Tryz.underlying86 rfl inf32.size (by decide) rfl) Xp ?_
  refine Xd rfl rfl (Xk rfl Tryz.underlying32 rfl Xr) Xp ?_
  refine Xd rfl rfl (Xc rfl) Xp ?_
  refine Xd rfl rfl (Xz rfl) Xp ?_
  refine Xd rfl rfl (Xc rfl) Xp ?_
  refine Yh rfl rfl (X2 (above_walk hT hW1 ht1 S.nodes.length hlt (Nat.le_refl _)) rfl Tryz.func65 rfl rfl rfl ?_)
  rintro v7 H1 ⟨rfl, rfl⟩
  refine ⟨Yf, ?_⟩
  refine Yh rfl rfl (X2 (Group_tree (ht1.mono hown1.le) hT.l1 hT.l2 hT.lens (S.nodes.length : Int) _) rfl Tryz.func66 rfl rfl rfl ?_)
  rintro v8 H3 ⟨GL, leL, hownL⟩; obtain ⟨L, hL⟩ : ∃ L, L = T.group S.nodes.length (Yv T S.nodes S.nodes.length) := ⟨_, rfl⟩; rw [← hL] at hownL; have slL := hownL.sl; obtain ⟨AL, cL, rfl⟩ := slL.shape; have le13 := Hp.le_trans leL hownL.le; obtain ⟨G3, le3, hown3⟩ := hown1.later le13; have slG := hown3.below (Zc _) (by decide) slL
  refine ⟨Yf, ?_⟩
  refine Xd rfl rfl (X7 rfl) Xp ?_
  refine Xf ?_
  refine Xf ?_
  have z3 := le3.1
  have zz3 := hown3.size
  have gw3 := Xt le3 hwb1 (by intro e; cases e) gw1
  have gz3 := Xt le3 (by omega) (by intro e; cases e) gz1
  have hw3 := Xt hown3.le (by omega) (by intro e; cases e) gw3
  have hz3 := Xt hown3.le (by omega) (by intro e; cases e) gz3
  have aw3 := aw1.trans (.of_le le3)
  have ht3 := ht1.mono le3
  refine Xb (by kernel_rfl) ?_
  refine Xa (Xy rfl) ?_
  refine Xa (Ym rfl Tryz.underlying68) ?_
  refine Xa (Zy rfl rfl) ?_
  refine X6 rfl rfl ?_ ?_
  intro hc2
  have hnil : L = [] := List.eq_nil_of_length_eq_zero (by have := of_decide_eq_true hc2; omega)
  have hon : onS T S = (⟨S.nodes, true, S.over, S.steps⟩, none) := by unfold onS; rw [if_neg hfull, ← hL, hnil]
  refine Xf ?_
  refine Xb (by kernel_rfl) ?_
  refine Xa (Xz rfl) ?_
  refine Xa (Yd rfl) ?_
  refine Xa (Xg (off := 2) rfl Tryz.underlying86 rfl inf4.size (by decide) rfl) ?_
  first | refine X3 (Yx rfl rfl rfl inf4.size Yg Yi rfl ?_)
  refine Xf ?_
  refine Xb (by kernel_rfl) ?_
  refine Xa (Y7 (pl := [(0, 1), (1, 1), (2, 1)]) (r := [.slice _ _ _, .int .i64 _, .int .u64 _]) Tryz.underlying44 inf44.zero (by decide) rfl rfl) ?_
  refine X3 (Yl (vs := [.slice _ _ _, .int .i64 _, .int .u64 _]) rfl rfl inf44.size Yg Yi rfl rfl ?_)
  refine Xa (Xo rfl) ?_
  refine X5 ?_
  rw [hon]
  exact ⟨_, Za (Ys Xl (Yo (cs := [_, _, _]) Tryz.underlying44 rfl inf44.size X9)) (Xv rfl), (G3.put wb _).put G.size _, (aw3.put _).put_new (Nat.le_refl _) (by omega) _, ⟨B, c, by simp; omega, by rw [Hp.put_other _ _ (by omega)]; exact Hp.put_same _ _ _, (hown3.put (by rw [gw3]; intro e; cases e) _ (Hp.sees_box _ gw3)).put (by rw [Hp.put_other _ _ (by omega), gz3]; intro e; cases e) _ (Hp.sees_box (cs := [.slice none 0 0, .int .i64 0, .int .u64 0]) _ (by rw [Hp.put_other _ _ (by omega)]; exact gz3))⟩, rowO_none _⟩
  intro hc2
  have hpos : 0 < L.length := by have := of_decide_eq_false hc2; omega
  obtain ⟨l, ls, hls⟩ : ∃ l ls, L = l :: ls := by cases L with | nil => simp at hpos | cons l ls => exact ⟨l, ls, rfl⟩
  obtain ⟨bl, ol, el, hbl, hcl⟩ := slL.link_at hpos
  subst el
  have hl0 : L[0] = l := by simp only [hls, List.getElem_cons_zero]
  rw [hl0] at hcl
  have hclb := hcl 1 _ rfl
  refine X8 ?_
  refine Xf ?_
  refine Yr (by kernel_rfl) (Yy (B := [0, 0, 2, 6, 14, 0, 32, 96, 224, 480, 1022, 2047, 4095, 8191]) (π := [0, 1, 2, 3, 4, 5, 6, 7, 8, 9, 10, 11, 12, 13]) (by kernel_rfl)) ?_
  refine Xd rfl rfl (Xz rfl) Xp ?_
  refine Xd rfl rfl (Xz rfl) Xp ?_
  refine Xd rfl rfl (Yd rfl) Xp ?_
  refine Xd rfl rfl (Xg (off := 1) rfl Tryz.underlying86 rfl inf23.size (by decide) rfl) Xp ?_
  refine Xd rfl rfl (Xk rfl Tryz.underlying23 rfl Xr) Xp ?_
  refine Xd rfl rfl (Xy rfl) Xp ?_
  refine Xd rfl rfl (Xs rfl rfl Tryz.underlying68 inf78.size X1 X1) Xp ?_
  refine Xd rfl rfl (Xg (off := 1) rfl Tryz.underlying78 rfl inf3.size (by decide) rfl) Xp ?_
  refine Xd rfl rfl (Xk rfl Tryz.underlying3 rfl Xr) Xp ?_
  first | refine Y5 rfl rfl (Ye (r := [.int .i64 _]) Tryz.underlying23 inf3.size inf3.zero rfl (by decide) (by decide) (by decide) rfl) ?_
  refine Yh rfl rfl (OwnP.append (ys := [l.b]) (hown3.push _) Tryz.underlying23 inf3 rfl rfl rfl (Zn (k := Y3 .i64) rfl rfl hown3.size rfl) (by simp only [List.length_singleton]; omega) (by simp only [List.length_singleton]; omega) ?_)
  rintro v9 G5 H5 hle5 hown5
  have hsameO := OwnP.sameO (hown3.push _) hle5 hown5
  obtain ⟨B5, c5, rfl⟩ := hown5.shape
  have le35 := Hp.le_trans (Hp.le_push _ _) hle5
  have z5 := le35.1
  have zz5 := hown5.size
  have gw5 := Xt le35 (by omega) (by intro e; cases e) gw3
  have gz5 := Xt le35 (by omega) (by intro e; cases e) gz3
  have hw5 := Xt hown5.le (by omega) (by intro e; cases e) gw5
  have hz5 := Xt hown5.le (by omega) (by intro e; cases e) gz5
  have aw5 := aw3.trans (.of_le le35)
  have ht5 := ht3.mono le35
  refine ⟨Yf, ?_⟩
  refine Xd rfl rfl (Yd rfl) Xp ?_
  refine Xd rfl rfl (Xg (off := 1) rfl Tryz.underlying86 rfl inf23.size (by decide) rfl) Xp ?_
  first | refine Yh rfl rfl (Yx rfl rfl rfl inf23.size Yg Yi rfl ?_)
  refine ⟨Yf, ?_⟩
  refine Xf ?_
  refine Xf ?_
  obtain ⟨H6, hH6⟩ : ∃ H6, H6 = H5.put wb (.own 0 [.pointer (some ⟨tb, 0, none⟩), .slice B5 (S.nodes ++ [l.b]).length c5, .bool S.back, .bool S.over, .int .i64 S.steps]) := ⟨_, rfl⟩
  obtain ⟨G6, hG6⟩ : ∃ G6, G6 = G5.put wb (.own 0 [.pointer (some ⟨tb, 0, none⟩), .slice B5 (S.nodes ++ [l.b]).length c5, .bool S.back, .bool S.over, .int .i64 S.steps]) := ⟨_, rfl⟩
  have hown6 : OwnP (Y3 .i64) G6 H6 (.slice B5 (S.nodes ++ [l.b]).length c5) (S.nodes ++ [l.b]) := by rw [hG6, hH6]; exact hown5.put (by rw [gw5]; intro e; cases e) _ (Hp.sees_box _ gw5)
  have gw6 : G6.get wb = .own 0 [.pointer (some ⟨tb, 0, none⟩), .slice B5 (S.nodes ++ [l.b]).length c5, .bool S.back, .bool S.over, .int .i64 S.steps] := by rw [hG6]; exact Hp.put_same _ _ _
  have gz6 : G6.get G.size = .own 0 [.slice none 0 0, .int .i64 0, .int .u64 0] := by rw [hG6, Hp.put_other _ _ (by omega)]; exact gz5
  have aw56 : Away wb G5 G6 := by rw [hG6]; exact Away.put (.refl _ _) _
  have aw6 := aw5.trans aw56
  have z6 := aw56.size
  have zz6 := hown6.size
  have hw6 := Xt hown6.le (by omega) (by intro e; cases e) gw6
  have hz6 := Xt hown6.le (by omega) (by intro e; cases e) gz6
  have ht6 := aw56.tree gw5 ht5
  change ACode true _ _ _ _ _ (H5.put wb (.own 0 [.pointer (some ⟨tb, 0, none⟩), .slice B5 (S.nodes ++ [l.b]).length c5, .bool S.back, .bool S.over, .int .i64 S.steps]))
  rw [← hH6]
  clear hH6 hG6 hsameO
  have hlen : (S.nodes ++ [l.b]).length = S.nodes.length + 1 := by simp
  refine Yr (by kernel_rfl) (Yy (B := [0, 1, 3, 7, 15, 0, 32, 96, 224, 480, 1023]) (π := [0, 1, 2, 3, 4, 5, 6, 7, 8, 9, 10]) (by kernel_rfl)) ?_
  refine Xd rfl rfl (Xz rfl) Xp ?_
  refine Xd rfl rfl (Yd rfl) Xp ?_
  refine Xd rfl rfl (Xg (off := 1) rfl Tryz.underlying86 rfl inf23.size (by decide) rfl) Xp ?_
  refine Xd rfl rfl (Xk rfl Tryz.underlying23 rfl Xr) Xp ?_
  refine Xd rfl rfl (Ym rfl Tryz.underlying23) Xp ?_
  refine Xd rfl rfl (Xz rfl) Xp ?_
  refine Xd rfl rfl (Yd rfl) Xp ?_
  refine Xd rfl rfl (Xg (off := 0) rfl Tryz.underlying86 rfl inf32.size (by decide) rfl) Xp ?_
  refine Xd rfl rfl (Xk rfl Tryz.underlying32 rfl Xr) Xp ?_
  refine Yh rfl rfl (X2 (Len_tree (ht6.mono hown6.le)) rfl Tryz.func57 rfl rfl rfl ?_)
  rintro v10 H6 ⟨rfl, rfl⟩
  refine ⟨Yf, ?_⟩
  refine Xd rfl rfl (Y0 rfl rfl) Xp ?_
  refine X6 rfl rfl ?_ ?_
  intro hc3
  have hmore : S.nodes.length + 1 < T.vars.length := by have := of_decide_eq_true hc3; omega
  have hon : onS T S = (⟨S.nodes ++ [l.b], S.back, S.over, S.steps⟩, none) := by unfold onS; rw [if_neg hfull, ← hL, hls]; exact if_pos hmore
  refine Xf ?_
  refine Xb (by kernel_rfl) ?_
  refine Xa (Y7 (pl := [(0, 1), (1, 1), (2, 1)]) (r := [.slice _ _ _, .int .i64 _, .int .u64 _]) Tryz.underlying44 inf44.zero (by decide) rfl rfl) ?_
  refine X3 (Yl (vs := [.slice _ _ _, .int .i64 _, .int .u64 _]) rfl rfl inf44.size Yg Yi rfl rfl ?_)
  refine Xa (Xo rfl) ?_
  refine X5 ?_
  rw [hon]
  exact ⟨_, Za (Ys Xl (Yo (cs := [_, _, _]) Tryz.underlying44 rfl inf44.size X9)) (Xv rfl), G6.put G.size _, aw6.put_new (Nat.le_refl _) (by omega) _, ⟨B5, c5, by simp; omega, by rw [Hp.put_other _ _ (by omega)]; exact gw6, hown6.put (by rw [gz6]; intro e; cases e) _ (Hp.sees_box _ gz6)⟩, rowO_none _⟩
  intro hc3
  have hmore : ¬ S.nodes.length + 1 < T.vars.length := by have := of_decide_eq_false hc3; omega
  have hon : onS T S = (⟨S.nodes ++ [l.b], true, S.over, S.steps⟩, V2 T (S.nodes ++ [l.b])) := by unfold onS; rw [if_neg hfull, ← hL, hls]; exact if_neg hmore
  refine X8 ?_
  refine Xf ?_
  refine Xb (by kernel_rfl) ?_
  refine Xa (Xz rfl) ?_
  refine Xa (Yd rfl) ?_
  refine Xa (Xg (off := 2) rfl Tryz.underlying86 rfl inf4.size (by decide) rfl) ?_
  first | refine X3 (Yx rfl rfl rfl inf4.size Yg Yi rfl ?_)
  refine Xf ?_
  have hW7 : Zu (G6.put wb (.own 0 [.pointer (some ⟨tb, 0, none⟩), .slice B5 (S.nodes ++ [l.b]).length c5, .bool true, .bool S.over, .int .i64 S.steps])) (H6.put wb (.own 0 [.pointer (some ⟨tb, 0, none⟩), .slice B5 (S.nodes ++ [l.b]).length c5, .bool true, .bool S.over, .int .i64 S.steps])) wb (.pointer (some ⟨tb, 0, none⟩)) ⟨S.nodes ++ [l.b], true, S.over, S.steps⟩ :=
    ⟨B5, c5, by simp; omega, Hp.put_same _ _ _, hown6.put (by rw [gw6]; intro e; cases e) _ (Hp.sees_box _ gw6)⟩
  have ht7 := (Away.put (.refl wb G6) (.own 0 [.pointer (some ⟨tb, 0, none⟩), .slice B5 (S.nodes ++ [l.b]).length c5, .bool true, .bool S.over, .int .i64 S.steps])).tree gw6 ht6
  refine Xb (by kernel_rfl) ?_
  refine Xa (Xz rfl) ?_
  refine X3 (X2 (row_walk hT hW7 ht7 (by show (S.nodes ++ [l.b]).length ≤ _; omega)) rfl Tryz.func88 rfl rfl rfl ?_)
  rintro v11 H8 ⟨G8, le8, ⟨B8, c8, hwb8, gw8, hown8⟩, A8, k8, rfl, sl8⟩; have z8 := le8.1; simp only [Hp.put_size] at z8; have gz8 := Xt le8 (by simp; omega) (by intro e; cases e) ((Hp.put_other _ _ (by omega)).trans gz6); have hz8 := Xt hown8.le (by omega) (by intro e; cases e) gz8; have zz8 := hown8.size
  refine Xa (Yw rfl rfl) ?_
  refine Xa (Yw rfl rfl) ?_
  refine X3 (Yl (vs := [.slice _ _ _, .int .i64 _, .int .u64 _]) rfl rfl inf44.size Yg Yi rfl rfl ?_)
  refine Xa (Xo rfl) ?_
  refine X5 ?_
  rw [hon]
  exact ⟨_, Za (Ys Xl (Yo (cs := [_, _, _]) Tryz.underlying44 rfl inf44.size X9)) (Xv rfl), G8.put G.size _, ((aw6.put _).trans (.of_le le8)).put_new (Nat.le_refl _) (by omega) _, ⟨B8, c8, by simpa using hwb8, by rw [Hp.put_other _ _ (by omega)]; exact gw8, hown8.put (by rw [gz8]; intro e; cases e) _ (Hp.sees_box _ gz8)⟩, A8, k8, rfl, sl8.mono (Hp.sees_box _ gz8)⟩
end Go.Proofs.YtcaeoebphfjfiaaGreat.Am


/- A walk goes to the next, or back. -/
namespace Go.Proofs.YtcaeoebphfjfiaaGreat.Am
open Go Go.RowKit
set_option maxRecDepth 100000
set_option linter.unusedVariables false
set_option linter.unusedSimpArgs false

theorem again1_raw (xs : List Link) (A : Option Addr) (c i : Nat) (m : Int) (b1 b2 : Nat) (H : Hp) (h1 : H.cell? b1 0 = some (.slice A xs.length c)) (h2 : H.cell? b2 0 = some (.int .i64 m)) (hs : Sl kLink H (.slice A xs.length c) xs) (hi : i < xs.length) (hb1 : b1 < H.size) (hb2 : b2 < H.size) :
    ACalls Tryz.prog 97 #[.int .i64 i, .pointer (some ⟨b1, 0, none⟩), .pointer (some ⟨b2, 0, none⟩)] H (fun r _ => r = .bool (decide (m < xs[i].b))) := by
  obtain ⟨b, o, rfl, hb, hcell⟩ := hs.link_at hi
  have hcellb := hcell 1 _ rfl
  refine Xw Tryz.func97 rfl rfl rfl (by simp) ?_
  refine Xf ?_
  refine Xb (by kernel_rfl) ?_
  refine Xa (Xo rfl) ?_
  refine Xf ?_
  refine Yr (by kernel_rfl) (Yy (B := [0, 0, 3, 7, 15, 0, 63, 127]) (π := [0, 1, 2, 3, 4, 5, 6, 7]) (by kernel_rfl)) ?_
  refine Xd rfl rfl (Xk rfl Tryz.underlying68 rfl Xr) Xp ?_
  refine Xd rfl rfl (Xc rfl) Xp ?_
  refine Xd rfl rfl (Xs rfl rfl Tryz.underlying68 inf78.size X1 X1) Xp ?_
  refine Xd rfl rfl (Xg (off := 1) rfl Tryz.underlying78 rfl inf3.size (by decide) rfl) Xp ?_
  refine Xd rfl rfl (Xk rfl Tryz.underlying3 rfl Xr) Xp ?_
  refine Xd rfl rfl (Xk rfl Tryz.underlying3 rfl Xr) Xp ?_
  refine Xd rfl rfl (av_gt rfl rfl) Xp ?_
  refine Xd rfl rfl (Xo rfl) Xp ?_
  refine X5 ?_
  exact ⟨_, Xx (Xv rfl), rfl⟩
theorem nextB_at {g : List Link} {m : Int} {i : Nat} (hi : i < g.length) (h : m < g[i].b) (hno : ∀ j, j < i → ∀ h : j < g.length, ¬ m < g[j].b) : nextB g m = some g[i] := by
  unfold nextB
  rw [List.find?_eq_some_iff_getElem]
  exact ⟨decide_eq_true h, i, hi, rfl, fun j hj => by simp only [decide_eq_false (hno j hj (by omega)), Bool.not_false]⟩
theorem nextB_no {g : List Link} {m : Int} (h : ∀ l ∈ g, ¬ m < l.b) : nextB g m = none := by
  unfold nextB
  rw [List.find?_eq_none]
  intro l hl
  simp [h l hl]
set_option maxHeartbeats 2000000 in
theorem again_walk {T : TreeT} (hT : GoodT T) {tv : Value} {S : Zk} {wb : Nat} {G H : Hp} (hW : Zu G H wb tv S) (ht : TreeR G tv T) (hl : S.nodes.length ≤ T.vars.length) :
    ACalls Tryz.prog 78 #[.pointer (some ⟨wb, 0, none⟩)] H (fun r H' => ∃ G', Away wb G G' ∧ Zu G' H' wb tv (againS T S).1 ∧ RowO G' r (againS T S).2) := by
  have hfew := hT.few
  have hW1 : Zu (G.push (.own 0 [.slice none 0 0, .int .i64 0, .int .u64 0])) (H.push (.own 0 [.slice none 0 0, .int .i64 0, .int .u64 0])) wb tv S := by
    obtain ⟨B, c, hwb, gw, hown⟩ := hW
    exact ⟨B, c, by simp; omega, (Hp.push_old _ _ hwb).trans gw, hown.push _⟩
  have aw1 : Away wb G (G.push (.own 0 [.slice none 0 0, .int .i64 0, .int .u64 0])) := .of_le (G.le_push _)
  have ht1 := ht.mono (G.le_push (.own 0 [.slice none 0 0, .int .i64 0, .int .u64 0]))
  have gz1 : (G.push (.own 0 [.slice none 0 0, .int .i64 0, .int .u64 0])).get G.size = .own 0 [.slice none 0 0, .int .i64 0, .int .u64 0] := Hp.push_new _ _
  have zz0 : H.size = G.size := by obtain ⟨_, _, _, _, hown⟩ := hW; exact hown.size
  have zs1 : (G.push (.own 0 [.slice none 0 0, .int .i64 0, .int .u64 0])).size = G.size + 1 := by simp
  have hwb0 : wb < G.size := by obtain ⟨_, _, h, _, _⟩ := hW; exact h
  obtain ⟨tb, _, _, _, _, _, etv, _⟩ := id ht
  subst etv
  obtain ⟨G1, hG1⟩ : ∃ G1, G1 = G.push (.own 0 [.slice none 0 0, .int .i64 0, .int .u64 0]) := ⟨_, rfl⟩
  obtain ⟨H1, hH1⟩ : ∃ H1, H1 = H.push (.own 0 [.slice none 0 0, .int .i64 0, .int .u64 0]) := ⟨_, rfl⟩
  rw [← hG1, ← hH1] at hW1
  rw [← hG1] at aw1 ht1 gz1 zs1
  obtain ⟨B, c, hwb1, gw1, hown1⟩ := id hW1
  have hw1 := Xt hown1.le hwb1 (by intro e; cases e) gw1
  have hz1 := Xt hown1.le (by omega) (by intro e; cases e) gz1
  have zz1 := hown1.size
  clear hW ht
  refine Xw Tryz.func78 rfl rfl rfl (by simp) ?_
  refine Xf ?_
  refine Xb (by kernel_rfl) ?_
  refine X4 (Y4 (l := [.slice none 0 0, .int .i64 0, .int .u64 0]) inf44.zero rfl (by decide)) ?_
  refine Xa (Xo rfl) ?_
  refine Xf ?_
  refine Xf ?_
  change ACode true _ _ _ _ _ (H.push (.own 0 [.slice none 0 0, .int .i64 0, .int .u64 0]))
  rw [← hH1, zz0]
  refine Xb (by kernel_rfl) ?_
  refine Xa (Xz rfl) ?_
  refine Xa (Yd rfl) ?_
  refine Xa (Xg (off := 1) rfl Tryz.underlying86 rfl inf23.size (by decide) rfl) ?_
  refine Xa (Xk rfl Tryz.underlying23 rfl Xr) ?_
  refine Xa (Ym rfl Tryz.underlying23) ?_
  refine Xa (Zy rfl rfl) ?_
  refine X6 rfl rfl ?_ ?_
  intro hc1
  have h0 : S.nodes.length = 0 := by have := of_decide_eq_true hc1; omega
  have hag : againS T S = (⟨S.nodes, S.back, true, S.steps⟩, none) := by unfold againS; rw [if_pos h0]
  refine Xf ?_
  refine Xb (by kernel_rfl) ?_
  refine Xa (Xz rfl) ?_
  refine Xa (Yd rfl) ?_
  refine Xa (Xg (off := 3) rfl Tryz.underlying86 rfl inf4.size (by decide) rfl) ?_
  first | refine X3 (Yx rfl rfl rfl inf4.size Yg Yi rfl ?_)
  refine Xf ?_
  refine Xb (by kernel_rfl) ?_
  refine Xa (Y7 (pl := [(0, 1), (1, 1), (2, 1)]) (r := [.slice _ _ _, .int .i64 _, .int .u64 _]) Tryz.underlying44 inf44.zero (by decide) rfl rfl) ?_
  refine X3 (Yl (vs := [.slice _ _ _, .int .i64 _, .int .u64 _]) rfl rfl inf44.size Yg Yi rfl rfl ?_)
  refine Xa (Xo rfl) ?_
  refine X5 ?_
  rw [hag]
  exact ⟨_, Za (Ys Xl (Yo (cs := [_, _, _]) Tryz.underlying44 rfl inf44.size X9)) (Xv rfl), (G1.put wb _).put G.size _, (aw1.put _).put_new (Nat.le_refl _) (by omega) _, ⟨B, c, by simp; omega, by rw [Hp.put_other _ _ (by omega)]; exact Hp.put_same _ _ _, (hown1.put (by rw [gw1]; intro e; cases e) _ (Hp.sees_box _ gw1)).put (by rw [Hp.put_other _ _ (by omega), gz1]; intro e; cases e) _ (Hp.sees_box (cs := [.slice none 0 0, .int .i64 0, .int .u64 0]) _ (by rw [Hp.put_other _ _ (by omega)]; exact gz1))⟩, rowO_none _⟩
  intro hc1
  have h0 : ¬ S.nodes.length = 0 := by have := of_decide_eq_false hc1; omega
  obtain ⟨i, hi⟩ : ∃ i, S.nodes.length = i + 1 := ⟨S.nodes.length - 1, by omega⟩
  have hin : i < T.vars.length := by omega
  refine X8 ?_
  refine Xf ?_
  refine Xb (by kernel_rfl) ?_
  refine Xa (Xz rfl) ?_
  refine Xa (Yd rfl) ?_
  refine Xa (Xg (off := 1) rfl Tryz.underlying86 rfl inf23.size (by decide) rfl) ?_
  refine Xa (Xk rfl Tryz.underlying23 rfl Xr) ?_
  refine Xa (Ym rfl Tryz.underlying23) ?_
  refine Xa (av_sub_is (r := (i : Int)) rfl rfl (by omega) (by omega)) ?_
  refine Xa (Xn rfl) ?_
  refine Xf ?_
  obtain ⟨b0, cs0, eB, _, hb0, hd0, eH1, _, _⟩ := hown1.place (by omega)
  subst eB
  have gb0 : H1.get b0 = .own 1 cs0 := by rw [eH1]; exact Hp.put_same _ _ _
  obtain ⟨b9, o9, e9, hb9, hcell9⟩ := hown1.sl.int_at (i := (i : Int)) (by omega) (by omega)
  simp only [Option.some.injEq, Addr.mk.injEq, and_true] at e9
  obtain ⟨rfl, rfl⟩ := e9
  rw [Int.toNat_natCast] at hcell9
  obtain ⟨x, hx⟩ : ∃ x, x = S.nodes.getD i 0 := ⟨_, rfl⟩
  rw [← hx] at hcell9
  have hcut := (hown1.push (.own 0 [.int .i64 x])).cut (m := i) (by omega)
  refine Xb (by kernel_rfl) ?_
  refine Xa (Xz rfl) ?_
  refine Xa (Yd rfl) ?_
  refine Xa (Xg (off := 1) rfl Tryz.underlying86 rfl inf23.size (by decide) rfl) ?_
  refine Xa (Xk rfl Tryz.underlying23 rfl Xr) ?_
  refine Xa (Xc rfl) ?_
  refine Xa (Xs rfl rfl Tryz.underlying23 inf3.size X1 X1) ?_
  refine Xa (Xk rfl Tryz.underlying3 rfl Xr) ?_
  refine X4 (Y4 (l := [.int .i64 0]) inf3.zero rfl (by decide)) ?_
  first | refine X3 (Yx rfl rfl rfl inf3.size Yg Yi rfl ?_)
  refine Xf ?_
  refine Xb (by kernel_rfl) ?_
  refine Xa (Xz rfl) ?_
  refine Xa (Xz rfl) ?_
  refine Xa (Yd rfl) ?_
  refine Xa (Xg (off := 1) rfl Tryz.underlying86 rfl inf23.size (by decide) rfl) ?_
  refine Xa (Xk rfl Tryz.underlying23 rfl Xr) ?_
  refine Xa (Xc rfl) ?_
  refine Xa (av_take (m := i) Xl Tryz.underlying23 inf3.size Xl (by omega) (by omega) (.inr ⟨_, Yg⟩)) ?_
  refine Xa (Yd rfl) ?_
  refine Xa (Xg (off := 1) rfl Tryz.underlying86 rfl inf23.size (by decide) rfl) ?_
  first | refine X3 (Yx rfl rfl rfl inf23.size Yg Yi rfl ?_)
  refine Xf ?_
  obtain ⟨H3, hH3⟩ : ∃ H3, H3 = ((H1.push (.own 0 [.int .i64 0])).put H1.size (.own 0 [.int .i64 x])).put wb (.own 0 [.pointer (some ⟨tb, 0, none⟩), .slice (some ⟨b0, 0, none⟩) i c, .bool S.back, .bool S.over, .int .i64 S.steps]) := ⟨_, rfl⟩
  obtain ⟨G3, hG3⟩ : ∃ G3, G3 = ((G1.push (.own 0 [.int .i64 0])).put H1.size (.own 0 [.int .i64 x])).put wb (.own 0 [.pointer (some ⟨tb, 0, none⟩), .slice (some ⟨b0, 0, none⟩) i c, .bool S.back, .bool S.over, .int .i64 S.steps]) := ⟨_, rfl⟩
  have hlp : (S.nodes.take i).length = i := by rw [List.length_take]; omega
  have gw2 : ((G1.push (.own 0 [.int .i64 0])).put H1.size (.own 0 [.int .i64 x])).get wb = .own 0 [.pointer (some ⟨tb, 0, none⟩), .slice (some ⟨b0, 0, none⟩) S.nodes.length c, .bool S.back, .bool S.over, .int .i64 S.steps] := by rw [Hp.put_other _ _ (by omega), Hp.push_old _ _ hwb1]; exact gw1
  have hown3 : OwnP (Y3 .i64) G3 H3 (.slice (some ⟨b0, 0, none⟩) i c) (S.nodes.take i) := by
    rw [hG3, hH3]
    refine OwnP.put ?_ (by rw [gw2]; intro e; cases e) _ (Hp.sees_box _ gw2)
    exact (hown1.boxed [.int .i64 0] [.int .i64 x]).cut (m := i) (by omega)
  have aw13 : Away wb G1 G3 := by rw [hG3]; exact ((Away.refl wb G1).push hwb1 _ |>.put_new (by omega) (by omega) _).put _
  have aw3 := aw1.trans aw13
  have gw3 : G3.get wb = .own 0 [.pointer (some ⟨tb, 0, none⟩), .slice (some ⟨b0, 0, none⟩) i c, .bool S.back, .bool S.over, .int .i64 S.steps] := by rw [hG3]; exact Hp.put_same _ _ _
  have gl3 : G3.get H1.size = .own 0 [.int .i64 x] := by rw [hG3, Hp.put_other _ _ (by omega)]; exact Hp.put_same _ _ _
  have gz3 : G3.get G.size = .own 0 [.slice none 0 0, .int .i64 0, .int .u64 0] := aw13.keep (by omega) (by omega) (by intro e; cases e) gz1
  have z3 : G3.size = G1.size + 1 := by rw [hG3]; simp
  have zz3 := hown3.size
  have ht3 := aw13.tree gw1 ht1
  have hw3 := Xt hown3.le (by omega) (by intro e; cases e) gw3
  have hl3 := Xt hown3.le (by omega) (by intro e; cases e) gl3
  have hz3 := Xt hown3.le (by omega) (by intro e; cases e) gz3
  have hWp : ∀ y, Zu (G3.push y) (H3.push y) wb (.pointer (some ⟨tb, 0, none⟩)) ⟨S.nodes.take i, S.back, S.over, S.steps⟩ := fun y => ⟨some ⟨b0, 0, none⟩, c, by simp; omega, by rw [Hp.push_old _ _ (by omega)]; simp only [hlp]; exact gw3, by simp only [hlp]; exact hown3.push _⟩
  change ACode true _ _ _ _ _ (((H1.push (.own 0 [.int .i64 0])).put H1.size (.own 0 [.int .i64 x])).put wb (.own 0 [.pointer (some ⟨tb, 0, none⟩), .slice (some ⟨b0, 0, none⟩) i c, .bool S.back, .bool S.over, .int .i64 S.steps]))
  rw [← hH3]
  clear hH3 hG3 hcut gw2
  have habv : Yv T S.nodes i = Yv T (S.nodes.take i) i := above_ext hT hin (fun j hj => (getD_take hj).symm)
  refine Yr (by kernel_rfl) (Yy (B := [0, 1, 3, 7, 0, 0, 0, 96, 255, 0, 1023]) (π := [0, 1, 2, 3, 4, 5, 6, 9, 7, 8, 10]) (by kernel_rfl)) ?_
  refine Xd rfl rfl (Xz rfl) Xp ?_
  refine Xd rfl rfl (Yd rfl) Xp ?_
  refine Xd rfl rfl (Xg (off := 0) rfl Tryz.underlying86 rfl inf32.size (by decide) rfl) Xp ?_
  refine Xd rfl rfl (Xk rfl Tryz.underlying32 rfl Xr) Xp ?_
  refine Xd rfl rfl (Xc rfl) Xp ?_
  refine Xd rfl rfl (Xz rfl) Xp ?_
  refine Xd rfl rfl (Xc rfl) Xp ?_
  refine Y5 rfl rfl (Y4 (l := [.slice none 0 0]) inf68.zero rfl (by decide)) ?_
  refine Yh rfl rfl (X2 (above_walk hT (hWp _) (ht3.mono (G3.le_push _)) i hin (by rw [hlp]; exact Nat.le_refl _)) rfl Tryz.func65 rfl rfl rfl ?_)
  rintro v7 H4 ⟨rfl, rfl⟩
  refine ⟨Yf, ?_⟩
  refine Yh rfl rfl (X2 (Group_tree ((ht3.mono hown3.le).mono (H3.le_push _)) hT.l1 hT.l2 hT.lens (i : Int) _) rfl Tryz.func66 rfl rfl rfl ?_)
  rintro v8 H5 ⟨GL, leL, hownL⟩; obtain ⟨L, hL⟩ : ∃ L, L = T.group i (Yv T S.nodes i) := ⟨_, rfl⟩; simp only [] at hownL; rw [← habv, ← hL] at hownL; have slL := hownL.sl; obtain ⟨AL, cL, rfl⟩ := slL.shape; have le35 := Hp.le_trans leL hownL.le; obtain ⟨G5, le5, hown5⟩ := (hown3.push (.own 0 [.slice none 0 0])).later le35; have slG := hown5.below (Zc _) (by decide) slL; have z5 := le5.1; simp only [Hp.push_size] at z5; have zz5 := hown5.size; have gq5 : G5.get H3.size = .own 0 [.slice none 0 0] := Xt le5 (by simp; omega) (by intro e; cases e) (by rw [zz3]; exact Hp.push_new _ _); have hq5 := Xt hown5.le (by omega) (by intro e; cases e) gq5; have gw5 := Xt le5 (by simp; omega) (by intro e; cases e) ((Hp.push_old _ _ (by omega)).trans gw3); have gl5 := Xt le5 (by simp; omega) (by intro e; cases e) ((Hp.push_old _ _ (by omega)).trans gl3); have gz5 := Xt le5 (by simp; omega) (by intro e; cases e) ((Hp.push_old _ _ (by omega)).trans gz3); have ht5 := (ht3.mono (G3.le_push (.own 0 [.slice none 0 0]))).mono le5; have aw5 := (aw3.push (by omega) (.own 0 [.slice none 0 0])).trans (.of_le le5)
  refine ⟨Yf, ?_⟩
  first | refine Yh rfl rfl (Yx rfl rfl rfl inf68.size Yg Yi rfl ?_)
  refine ⟨Yf, ?_⟩
  refine Xf ?_
  obtain ⟨H6, hH6⟩ : ∃ H6, H6 = H5.put H3.size (.own 0 [.slice AL L.length cL]) := ⟨_, rfl⟩
  obtain ⟨G6, hG6⟩ : ∃ G6, G6 = G5.put H3.size (.own 0 [.slice AL L.length cL]) := ⟨_, rfl⟩
  have hown6 : OwnP (Y3 .i64) G6 H6 (.slice (some ⟨b0, 0, none⟩) i c) (S.nodes.take i) := by rw [hG6, hH6]; exact hown5.put (by rw [gq5]; intro e; cases e) _ (Hp.sees_box _ gq5)
  have se56 : G5.sees G6 := by rw [hG6]; exact Hp.sees_box _ gq5
  have slG6 := slG.mono se56
  have gq6 : G6.get H3.size = .own 0 [.slice AL L.length cL] := by rw [hG6]; exact Hp.put_same _ _ _
  have gw6 : G6.get wb = .own 0 [.pointer (some ⟨tb, 0, none⟩), .slice (some ⟨b0, 0, none⟩) i c, .bool S.back, .bool S.over, .int .i64 S.steps] := by rw [hG6, Hp.put_other _ _ (by omega)]; exact gw5
  have gl6 : G6.get H1.size = .own 0 [.int .i64 x] := by rw [hG6, Hp.put_other _ _ (by omega)]; exact gl5
  have gz6 : G6.get G.size = .own 0 [.slice none 0 0, .int .i64 0, .int .u64 0] := by rw [hG6, Hp.put_other _ _ (by omega)]; exact gz5
  have aw6 : Away wb G G6 := by rw [hG6]; exact aw5.put_new (by omega) (by omega) _
  have ht6 : TreeR G6 (.pointer (some ⟨tb, 0, none⟩)) T := by
    rw [hG6]
    obtain ⟨tb', mb, s0, s1, s2, es, e1, q1, q2, q3, q4, q5, q6, q7, q8⟩ := ht5
    have n1 : tb' ≠ H3.size := fun e => by rw [e, gq5] at q3; simp at q3
    have n2 : mb ≠ H3.size := fun e => by rw [e, gq5] at q7; cases q7
    have se := Hp.sees_box (cs' := [.slice AL L.length cL]) _ gq5
    exact ⟨tb', mb, s0, s1, s2, es, e1, q1, q2, by rw [Hp.put_other _ _ n1]; exact q3, q4.mono se, q5.mono se, q6.mono se, by rw [Hp.put_other _ _ n2]; exact q7, q8⟩
  have z6 : G6.size = G5.size := by rw [hG6]; simp
  have zz6 := hown6.size
  have hw6 := Xt hown6.le (by omega) (by intro e; cases e) gw6
  have hl6 := Xt hown6.le (by omega) (by intro e; cases e) gl6
  have hz6 := Xt hown6.le (by omega) (by intro e; cases e) gz6
  have hq6 := Xt hown6.le (by omega) (by intro e; cases e) gq6
  have slH6 := slG6.mono hown6.le.sees
  change ACode true _ _ _ _ _ (H5.put H3.size (.own 0 [.slice AL L.length cL]))
  rw [← hH6]
  clear hH6 hG6
  have hLl : L.length ≤ 1000000 := by rw [hL]; exact group_len hT.lens _ _
  have hLs : L.Pairwise fun x y => x.b < y.b := by rw [hL]; exact hT.sort _ _
  have hmono : ∀ (a b : Nat) (ha : a < L.length) (hb : b < L.length), a < b → L[a].b < L[b].b := fun a b ha hb h => List.pairwise_iff_getElem.1 hLs a b ha hb h
  have c1' : H6.cell? H3.size 0 = some (.slice AL L.length cL) := Z1 (cs := [.slice AL L.length cL]) hq6
  have c2' : H6.cell? H1.size 0 = some (.int .i64 x) := Z1 (cs := [.int .i64 x]) hl6
  have call1 : ∀ k, k < L.length → ACalls Tryz.prog 97 (#[.int .i64 (k : Nat)] ++ #[.pointer (some ⟨H3.size, 0, none⟩), .pointer (some ⟨H1.size, 0, none⟩)]) H6 (fun r H' => r = .bool (if h : k < L.length then decide (x < L[k].b) else true) ∧ H' = H6) := fun k hk =>
    ACalls.pure (R := fun r => r = .bool (if h : k < L.length then decide (x < L[k].b) else true)) (fun v h => by rw [h]; rfl) ((again1_raw L AL cL k x H3.size H1.size H6.ro (cell_ro c1') (cell_ro c2') (slH6.mono H6.sees_ro) hk (by show H3.size < H6.size; omega) (by show H1.size < H6.size; omega)).mono fun r _ h => by rw [h, dif_pos hk])
  have mono1 : ∀ a b, a ≤ b → b < L.length → (if h : a < L.length then decide (x < L[a].b) else true) = true → (if h : b < L.length then decide (x < L[b].b) else true) = true := fun a b hab hb h => by
    rw [dif_pos (by omega)] at h ⊢
    rcases Nat.lt_or_eq_of_le hab with h1 | h1
    · have := hmono a b (by omega) hb h1
      have := of_decide_eq_true h
      exact decide_eq_true (by omega)
    · subst h1; exact h
  have hag : againS T S = match nextB L x with
    | none => (⟨S.nodes.take i, S.back, S.over, S.steps⟩, none)
    | some l => if i + 1 < T.vars.length then (⟨S.nodes.take i ++ [l.b], false, S.over, S.steps⟩, none) else (⟨S.nodes.take i ++ [l.b], S.back, S.over, S.steps⟩, V2 T (S.nodes.take i ++ [l.b])) := by
    unfold againS
    rw [if_neg h0]
    simp only [hi, Nat.add_sub_cancel, ← hx, ← hL]
    try (cases nextB L x <;> rfl)
  refine Xb (by kernel_rfl) ?_
  refine Xa (Xk rfl Tryz.underlying68 rfl Xr) ?_
  refine Xa (Ym rfl Tryz.underlying68) ?_
  refine Xa (av_makeFunc) ?_
  refine X3 (X2 (Search_gen L.length 97 _ #[.pointer (some ⟨H3.size, 0, none⟩), .pointer (some ⟨H1.size, 0, none⟩)] (fun k => if h : k < L.length then decide (x < L[k].b) else true) H6 Tryz.func97 rfl rfl call1 mono1 (by omega)) rfl Tryz.func67 rfl rfl rfl ?_)
  rintro v9 H6 ⟨⟨lo, rfl, hlo, hlo1, hlo2⟩, rfl⟩
  refine Xa (Xn rfl) ?_
  refine Xf ?_
  refine Xf ?_
  refine Xb (by kernel_rfl) ?_
  refine Xa (Xc rfl) ?_
  refine Xa (Xk rfl Tryz.underlying68 rfl Xr) ?_
  refine Xa (Ym rfl Tryz.underlying68) ?_
  refine Xa (Zy rfl rfl) ?_
  refine X6 rfl rfl ?_ ?_
  intro hc2
  have heq : lo = L.length := by have := of_decide_eq_true hc2; omega
  have hnb : nextB L x = none := nextB_no fun l hl => by
    obtain ⟨j, hj, rfl⟩ := List.getElem_of_mem hl
    have := hlo1 j (by omega)
    rw [dif_pos hj] at this
    exact of_decide_eq_false this
  rw [hnb] at hag
  refine Xf ?_
  refine Xb (by kernel_rfl) ?_
  refine Xa (Y7 (pl := [(0, 1), (1, 1), (2, 1)]) (r := [.slice _ _ _, .int .i64 _, .int .u64 _]) Tryz.underlying44 inf44.zero (by decide) rfl rfl) ?_
  refine X3 (Yl (vs := [.slice _ _ _, .int .i64 _, .int .u64 _]) rfl rfl inf44.size Yg Yi rfl rfl ?_)
  refine Xa (Xo rfl) ?_
  refine X5 ?_
  rw [hag]
  exact ⟨_, Za (Ys Xl (Yo (cs := [_, _, _]) Tryz.underlying44 rfl inf44.size X9)) (Xv rfl), G6.put G.size (.own 0 [.slice none 0 0, .int .i64 0, .int .u64 0]), aw6.put_new (Nat.le_refl _) (by omega) _, ⟨some ⟨b0, 0, none⟩, c, by simp; omega, by rw [Hp.put_other _ _ (by omega)]; simp only [hlp]; exact gw6, by simp only [hlp]; exact hown6.put (by rw [gz6]; intro e; cases e) _ (Hp.sees_box _ gz6)⟩, rowO_none _⟩
  intro hc2
  have hlt : lo < L.length := by have := of_decide_eq_false hc2; omega
  obtain ⟨bl, ol, el, hbl, hcl⟩ := slH6.link_at hlt
  subst el
  obtain ⟨l, hl'⟩ : ∃ l, l = L[lo] := ⟨_, rfl⟩
  rw [← hl'] at hcl
  have hclb := hcl 1 _ rfl
  have hnb : nextB L x = some l := by
    rw [hl']
    exact nextB_at hlt (by have := hlo2 lo (Nat.le_refl _) hlt; rw [dif_pos hlt] at this; exact of_decide_eq_true this) fun j hj h => by
      have := hlo1 j hj
      rw [dif_pos h] at this
      exact of_decide_eq_false this
  rw [hnb] at hag
  simp only at hag
  refine X8 ?_
  refine Xf ?_
  refine Yr (by kernel_rfl) (Yy (B := [0, 0, 2, 6, 14, 0, 0, 96, 224, 480, 992, 2046, 4095, 8191, 16383]) (π := [0, 1, 2, 3, 4, 5, 6, 7, 8, 9, 10, 11, 12, 13, 14]) (by kernel_rfl)) ?_
  refine Xd rfl rfl (Xz rfl) Xp ?_
  refine Xd rfl rfl (Xz rfl) Xp ?_
  refine Xd rfl rfl (Yd rfl) Xp ?_
  refine Xd rfl rfl (Xg (off := 1) rfl Tryz.underlying86 rfl inf23.size (by decide) rfl) Xp ?_
  refine Xd rfl rfl (Xk rfl Tryz.underlying23 rfl Xr) Xp ?_
  refine Xd rfl rfl (Xk rfl Tryz.underlying68 rfl Xr) Xp ?_
  refine Xd rfl rfl (Xc rfl) Xp ?_
  refine Xd rfl rfl (Xs rfl rfl Tryz.underlying68 inf78.size X1 X1) Xp ?_
  refine Xd rfl rfl (Xg (off := 1) rfl Tryz.underlying78 rfl inf3.size (by decide) rfl) Xp ?_
  refine Xd rfl rfl (Xk rfl Tryz.underlying3 rfl Xr) Xp ?_
  first | refine Y5 rfl rfl (Ye (r := [.int .i64 _]) Tryz.underlying23 inf3.size inf3.zero rfl (by decide) (by decide) (by decide) rfl) ?_
  refine Yh rfl rfl (OwnP.append (ys := [l.b]) (hown6.push _) Tryz.underlying23 inf3 rfl rfl rfl (Zn (k := Y3 .i64) rfl rfl hown6.size rfl) (by simp only [List.length_singleton, hlp]; omega) (by simp only [List.length_singleton, hlp]; omega) ?_)
  rintro v9 G7 H7 hle7 hown7
  have hsameO := OwnP.sameO (hown6.push _) hle7 hown7
  obtain ⟨B7, c7, rfl⟩ := hown7.shape
  have le67 := Hp.le_trans (Hp.le_push _ _) hle7
  have z7 := le67.1
  have zz7 := hown7.size
  have gw7 := Xt le67 (by omega) (by intro e; cases e) gw6
  have gz7 := Xt le67 (by omega) (by intro e; cases e) gz6
  have hw7 := Xt hown7.le (by omega) (by intro e; cases e) gw7
  have hz7 := Xt hown7.le (by omega) (by intro e; cases e) gz7
  have aw7 := aw6.trans (.of_le le67)
  have ht7 := ht6.mono le67
  refine ⟨Yf, ?_⟩
  refine Xd rfl rfl (Yd rfl) Xp ?_
  refine Xd rfl rfl (Xg (off := 1) rfl Tryz.underlying86 rfl inf23.size (by decide) rfl) Xp ?_
  first | refine Yh rfl rfl (Yx rfl rfl rfl inf23.size Yg Yi rfl ?_)
  refine ⟨Yf, ?_⟩
  refine Xf ?_
  refine Xf ?_
  obtain ⟨H8, hH8⟩ : ∃ H8, H8 = H7.put wb (.own 0 [.pointer (some ⟨tb, 0, none⟩), .slice B7 (S.nodes.take i ++ [l.b]).length c7, .bool S.back, .bool S.over, .int .i64 S.steps]) := ⟨_, rfl⟩
  obtain ⟨G8, hG8⟩ : ∃ G8, G8 = G7.put wb (.own 0 [.pointer (some ⟨tb, 0, none⟩), .slice B7 (S.nodes.take i ++ [l.b]).length c7, .bool S.back, .bool S.over, .int .i64 S.steps]) := ⟨_, rfl⟩
  have hown8 : OwnP (Y3 .i64) G8 H8 (.slice B7 (S.nodes.take i ++ [l.b]).length c7) (S.nodes.take i ++ [l.b]) := by rw [hG8, hH8]; exact hown7.put (by rw [gw7]; intro e; cases e) _ (Hp.sees_box _ gw7)
  have gw8 : G8.get wb = .own 0 [.pointer (some ⟨tb, 0, none⟩), .slice B7 (S.nodes.take i ++ [l.b]).length c7, .bool S.back, .bool S.over, .int .i64 S.steps] := by rw [hG8]; exact Hp.put_same _ _ _
  have gz8 : G8.get G.size = .own 0 [.slice none 0 0, .int .i64 0, .int .u64 0] := by rw [hG8, Hp.put_other _ _ (by omega)]; exact gz7
  have aw78 : Away wb G7 G8 := by rw [hG8]; exact Away.put (.refl _ _) _
  have aw8 := aw7.trans aw78
  have z8 := aw78.size
  have zz8 := hown8.size
  have hw8 := Xt hown8.le (by omega) (by intro e; cases e) gw8
  have hz8 := Xt hown8.le (by omega) (by intro e; cases e) gz8
  have ht8 := aw78.tree gw7 ht7
  change ACode true _ _ _ _ _ (H7.put wb (.own 0 [.pointer (some ⟨tb, 0, none⟩), .slice B7 (S.nodes.take i ++ [l.b]).length c7, .bool S.back, .bool S.over, .int .i64 S.steps]))
  rw [← hH8]
  clear hH8 hG8 hsameO
  have hlen : (S.nodes.take i ++ [l.b]).length = i + 1 := by rw [List.length_append, hlp, List.length_singleton]
  refine Yr (by kernel_rfl) (Yy (B := [0, 1, 3, 7, 15, 0, 32, 96, 224, 480, 1023]) (π := [0, 1, 2, 3, 4, 5, 6, 7, 8, 9, 10]) (by kernel_rfl)) ?_
  refine Xd rfl rfl (Xz rfl) Xp ?_
  refine Xd rfl rfl (Yd rfl) Xp ?_
  refine Xd rfl rfl (Xg (off := 1) rfl Tryz.underlying86 rfl inf23.size (by decide) rfl) Xp ?_
  refine Xd rfl rfl (Xk rfl Tryz.underlying23 rfl Xr) Xp ?_
  refine Xd rfl rfl (Ym rfl Tryz.underlying23) Xp ?_
  refine Xd rfl rfl (Xz rfl) Xp ?_
  refine Xd rfl rfl (Yd rfl) Xp ?_
  refine Xd rfl rfl (Xg (off := 0) rfl Tryz.underlying86 rfl inf32.size (by decide) rfl) Xp ?_
  refine Xd rfl rfl (Xk rfl Tryz.underlying32 rfl Xr) Xp ?_
  refine Yh rfl rfl (X2 (Len_tree (ht8.mono hown8.le)) rfl Tryz.func57 rfl rfl rfl ?_)
  rintro v10 H8 ⟨rfl, rfl⟩
  refine ⟨Yf, ?_⟩
  refine Xd rfl rfl (Y0 rfl rfl) Xp ?_
  refine X6 rfl rfl ?_ ?_
  intro hc3
  have hmore : i + 1 < T.vars.length := by have := of_decide_eq_true hc3; omega
  rw [if_pos hmore] at hag
  refine Xf ?_
  refine Xb (by kernel_rfl) ?_
  refine Xa (Xz rfl) ?_
  refine Xa (Yd rfl) ?_
  refine Xa (Xg (off := 2) rfl Tryz.underlying86 rfl inf4.size (by decide) rfl) ?_
  first | refine X3 (Yx rfl rfl rfl inf4.size Yg Yi rfl ?_)
  refine Xf ?_
  refine Xb (by kernel_rfl) ?_
  refine Xa (Y7 (pl := [(0, 1), (1, 1), (2, 1)]) (r := [.slice _ _ _, .int .i64 _, .int .u64 _]) Tryz.underlying44 inf44.zero (by decide) rfl rfl) ?_
  refine X3 (Yl (vs := [.slice _ _ _, .int .i64 _, .int .u64 _]) rfl rfl inf44.size Yg Yi rfl rfl ?_)
  refine Xa (Xo rfl) ?_
  refine X5 ?_
  rw [hag]
  exact ⟨_, Za (Ys Xl (Yo (cs := [_, _, _]) Tryz.underlying44 rfl inf44.size X9)) (Xv rfl), (G8.put wb _).put G.size _, (aw8.put _).put_new (Nat.le_refl _) (by omega) _, ⟨B7, c7, by simp; omega, by rw [Hp.put_other _ _ (by omega)]; exact Hp.put_same _ _ _, (hown8.put (by rw [gw8]; intro e; cases e) _ (Hp.sees_box _ gw8)).put (by rw [Hp.put_other _ _ (by omega), gz8]; intro e; cases e) _ (Hp.sees_box (cs := [.slice none 0 0, .int .i64 0, .int .u64 0]) _ (by rw [Hp.put_other _ _ (by omega)]; exact gz8))⟩, rowO_none _⟩
  intro hc3
  have hmore : ¬ i + 1 < T.vars.length := by have := of_decide_eq_false hc3; omega
  rw [if_neg hmore] at hag
  refine X8 ?_
  refine Xf ?_
  have hW9 : Zu G8 H8 wb (.pointer (some ⟨tb, 0, none⟩)) ⟨S.nodes.take i ++ [l.b], S.back, S.over, S.steps⟩ := ⟨B7, c7, by omega, gw8, hown8⟩
  refine Xb (by kernel_rfl) ?_
  refine Xa (Xz rfl) ?_
  refine X3 (X2 (row_walk hT hW9 ht8 (by show (S.nodes.take i ++ [l.b]).length ≤ _; omega)) rfl Tryz.func88 rfl rfl rfl ?_)
  rintro v11 H9 ⟨G9, le9, ⟨B9, c9, hwb9, gw9, hown9⟩, A9, k9, rfl, sl9⟩; have z9 := le9.1; have gz9 := Xt le9 (by omega) (by intro e; cases e) gz8; have hz9 := Xt hown9.le (by omega) (by intro e; cases e) gz9; have zz9 := hown9.size
  refine Xa (Yw rfl rfl) ?_
  refine Xa (Yw rfl rfl) ?_
  refine X3 (Yl (vs := [.slice _ _ _, .int .i64 _, .int .u64 _]) rfl rfl inf44.size Yg Yi rfl rfl ?_)
  refine Xa (Xo rfl) ?_
  refine X5 ?_
  rw [hag]
  exact ⟨_, Za (Ys Xl (Yo (cs := [_, _, _]) Tryz.underlying44 rfl inf44.size X9)) (Xv rfl), G9.put G.size _, (aw8.trans (.of_le le9)).put_new (Nat.le_refl _) (by omega) _, ⟨B9, c9, by simpa using hwb9, by rw [Hp.put_other _ _ (by omega)]; exact gw9, hown9.put (by rw [gz9]; intro e; cases e) _ (Hp.sees_box _ gz9)⟩, A9, k9, rfl, sl9.mono (Hp.sees_box _ gz9)⟩
end Go.Proofs.YtcaeoebphfjfiaaGreat.Am


/- A walk steps, tells the next row, the first one. -/
namespace Go.Proofs.YtcaeoebphfjfiaaGreat.Am
open Go Go.RowKit
set_option maxRecDepth 100000
set_option linter.unusedVariables false
set_option linter.unusedSimpArgs false

theorem step_over {T : TreeT} {S : Zk} (h : S.over = true) : Z8 T S = (S, none) := if_pos h
set_option maxHeartbeats 1000000 in
theorem step_walk {T : TreeT} (hT : GoodT T) {tv : Value} {S : Zk} {wb : Nat} {G H : Hp} (hW : Zu G H wb tv S) (ht : S.over = false → TreeR G tv T) (hl : S.nodes.length ≤ T.vars.length) (hs0 : 0 ≤ S.steps) (hs1 : S.steps ≤ 1000000000000) (htv : ∃ v, tv = .pointer v) :
    ACalls Tryz.prog 50 #[.pointer (some ⟨wb, 0, none⟩)] H (fun r H' => ∃ G', Away wb G G' ∧ Zu G' H' wb tv (Z8 T S).1 ∧ RowO G' r (Z8 T S).2) := by
  obtain ⟨v0, rfl⟩ := htv
  obtain ⟨B, c, hwb, gw, hown⟩ := hW
  have zz := hown.size
  have hownP := hown.push (.own 0 [.slice none 0 0, .int .i64 0, .int .u64 0])
  have gwP : (G.push (.own 0 [.slice none 0 0, .int .i64 0, .int .u64 0])).get wb = .own 0 [.pointer v0, .slice B S.nodes.length c, .bool S.back, .bool S.over, .int .i64 S.steps] := (Hp.push_old _ _ hwb).trans gw
  have gzP : (G.push (.own 0 [.slice none 0 0, .int .i64 0, .int .u64 0])).get H.size = .own 0 [.slice none 0 0, .int .i64 0, .int .u64 0] := by rw [zz]; exact Hp.push_new _ _
  have hw := Xt hownP.le (by simp; omega) (by intro e; cases e) gwP
  have hz := Xt hownP.le (by simp; omega) (by intro e; cases e) gzP
  have awP : Away wb G (G.push (.own 0 [.slice none 0 0, .int .i64 0, .int .u64 0])) := .of_le (G.le_push _)
  refine Xw Tryz.func50 rfl rfl rfl (by simp) ?_
  refine Xf ?_
  refine Xb (by kernel_rfl) ?_
  refine X4 (Y4 (l := [.slice none 0 0, .int .i64 0, .int .u64 0]) inf44.zero rfl (by decide)) ?_
  refine Xa (Xo rfl) ?_
  refine Xf ?_
  refine Xf ?_
  refine Xb (by kernel_rfl) ?_
  refine Xa (Xz rfl) ?_
  refine Xa (Z4 rfl t_spot rfl Tryz.underlying40) ?_
  refine Xa (Xq rfl) ?_
  refine Yb rfl rfl rfl ?_ ?_
  intro hg1
  cases hg1
  intro hg1
  have hp1 := hg1; try simp only [decide_eq_true_eq, decide_eq_false_iff_not, Bool.not_eq_true', Bool.not_eq_false'] at hp1
  refine Xj (Xh rfl rfl rfl hg1) (Xz rfl) ?_
  refine Xj (Xh rfl rfl rfl hg1) (Yd rfl) ?_
  refine Xj (Xh rfl rfl rfl hg1) (Xg (off := 3) rfl Tryz.underlying86 rfl inf4.size (by decide) rfl) ?_
  refine Xj (Xh rfl rfl rfl hg1) (Xk rfl Tryz.underlying4 rfl Xr) ?_
  refine Xa (Xm (congrArg Value.bool hg1) rfl) ?_
  refine X6 rfl rfl ?_ ?_
  intro hc2
  have ho : S.over = true := hc2
  refine Xf ?_
  refine Xb (by kernel_rfl) ?_
  refine Xa (Y7 (pl := [(0, 1), (1, 1), (2, 1)]) (r := [.slice _ _ _, .int .i64 _, .int .u64 _]) Tryz.underlying44 inf44.zero (by decide) rfl rfl) ?_
  refine X3 (Yl (vs := [.slice _ _ _, .int .i64 _, .int .u64 _]) rfl rfl inf44.size Yg Yi rfl rfl ?_)
  refine Xa (Xo rfl) ?_
  refine X5 ?_
  rw [step_over ho]
  exact ⟨_, Za (Ys Xl (Yo (cs := [_, _, _]) Tryz.underlying44 rfl inf44.size X9)) (Xv rfl), (G.push (.own 0 [.slice none 0 0, .int .i64 0, .int .u64 0])).put H.size (.own 0 [.slice none 0 0, .int .i64 0, .int .u64 0]), awP.put_new (by omega) (by omega) _, ⟨B, c, by simp; omega, by rw [Hp.put_other _ _ (by omega)]; exact gwP, hownP.put (by rw [gzP]; intro e; cases e) _ (Hp.sees_box _ gzP)⟩, rowO_none _⟩
  intro hc2
  have ho : S.over = false := hc2
  have ho' : ¬ S.over = true := by rw [ho]; decide
  have ht1 := (ht ho).mono (G.le_push (.own 0 [.slice none 0 0, .int .i64 0, .int .u64 0]))
  refine X8 ?_
  refine Xf ?_
  refine Xb (by kernel_rfl) ?_
  refine Xa (Xz rfl) ?_
  refine Xa (Yd rfl) ?_
  refine Xa (Xg (off := 4) rfl Tryz.underlying86 rfl inf3.size (by decide) rfl) ?_
  refine Xa (Xk rfl Tryz.underlying3 rfl Xr) ?_
  refine Xa (Yk rfl rfl Yu) ?_
  refine Xa (Yd rfl) ?_
  refine Xa (Xg (off := 4) rfl Tryz.underlying86 rfl inf3.size (by decide) rfl) ?_
  first | refine X3 (Yx rfl rfl rfl inf3.size Yg Yi rfl ?_)
  refine Xf ?_
  refine Xf ?_
  obtain ⟨H2, hH2⟩ : ∃ H2, H2 = (H.push (.own 0 [.slice none 0 0, .int .i64 0, .int .u64 0])).put wb (.own 0 [.pointer v0, .slice B S.nodes.length c, .bool S.back, .bool S.over, .int .i64 (S.steps + 1)]) := ⟨_, rfl⟩
  obtain ⟨G2, hG2⟩ : ∃ G2, G2 = (G.push (.own 0 [.slice none 0 0, .int .i64 0, .int .u64 0])).put wb (.own 0 [.pointer v0, .slice B S.nodes.length c, .bool S.back, .bool S.over, .int .i64 (S.steps + 1)]) := ⟨_, rfl⟩
  have hown2 : OwnP (Y3 .i64) G2 H2 (.slice B S.nodes.length c) S.nodes := by rw [hG2, hH2]; exact hownP.put (by rw [gwP]; intro e; cases e) _ (Hp.sees_box _ gwP)
  have gw2 : G2.get wb = .own 0 [.pointer v0, .slice B S.nodes.length c, .bool S.back, .bool S.over, .int .i64 (S.steps + 1)] := by rw [hG2]; exact Hp.put_same _ _ _
  have gz2 : G2.get H.size = .own 0 [.slice none 0 0, .int .i64 0, .int .u64 0] := by rw [hG2, Hp.put_other _ _ (by omega)]; exact gzP
  have awP2 : Away wb (G.push (.own 0 [.slice none 0 0, .int .i64 0, .int .u64 0])) G2 := by rw [hG2]; exact Away.put (.refl _ _) _
  have aw2 := awP.trans awP2
  have ht2 := awP2.tree gwP ht1
  have z2 : G2.size = G.size + 1 := by rw [hG2]; simp
  have hw2 := Xt hown2.le (by omega) (by intro e; cases e) gw2
  have hz2 := Xt hown2.le (by omega) (by intro e; cases e) gz2
  have hW2 : Zu G2 H2 wb (.pointer v0) ⟨S.nodes, S.back, S.over, S.steps + 1⟩ := ⟨B, c, by omega, gw2, hown2⟩
  change ACode true _ _ _ _ _ ((H.push (.own 0 [.slice none 0 0, .int .i64 0, .int .u64 0])).put wb (.own 0 [.pointer v0, .slice B S.nodes.length c, .bool S.back, .bool S.over, .int .i64 (S.steps + 1)]))
  rw [← hH2]
  clear hH2 hG2
  refine Xb (by kernel_rfl) ?_
  refine Xa (Xz rfl) ?_
  refine Xa (Yd rfl) ?_
  refine Xa (Xg (off := 2) rfl Tryz.underlying86 rfl inf4.size (by decide) rfl) ?_
  refine Xa (Xk rfl Tryz.underlying4 rfl Xr) ?_
  refine X6 rfl rfl ?_ ?_
  intro hc3
  have hb : S.back = true := hc3
  have hst : Z8 T S = againS T ⟨S.nodes, S.back, S.over, S.steps + 1⟩ := by unfold Z8; rw [if_neg ho', if_pos hb]
  refine Xf ?_
  refine Xb (by kernel_rfl) ?_
  refine Xa (Xz rfl) ?_
  refine X3 (X2 (again_walk hT hW2 ht2 hl) rfl Tryz.func78 rfl rfl rfl ?_)
  rintro v11 H9 ⟨G9, aw9, ⟨B9, c9, hwb9, gw9, hown9⟩, A9, k9, rfl, sl9⟩; have z9 := aw9.size; have gz9 := aw9.keep (by omega) (by omega) (by intro e; cases e) gz2; have hz9 := Xt hown9.le (by omega) (by intro e; cases e) gz9; have zz9 := hown9.size
  refine Xa (Yw rfl rfl) ?_
  refine Xa (Yw rfl rfl) ?_
  refine X3 (Yl (vs := [.slice _ _ _, .int .i64 _, .int .u64 _]) rfl rfl inf44.size Yg Yi rfl rfl ?_)
  refine Xa (Xo rfl) ?_
  refine X5 ?_
  rw [hst]
  exact ⟨_, Za (Ys Xl (Yo (cs := [_, _, _]) Tryz.underlying44 rfl inf44.size X9)) (Xv rfl), G9.put H.size _, (aw2.trans aw9).put_new (by omega) (by omega) _, ⟨B9, c9, by simpa using hwb9, by rw [Hp.put_other _ _ (by omega)]; exact gw9, hown9.put (by rw [gz9]; intro e; cases e) _ (Hp.sees_box _ gz9)⟩, A9, k9, rfl, sl9.mono (Hp.sees_box _ gz9)⟩
  intro hc3
  have hb : S.back = false := hc3
  have hst : Z8 T S = onS T ⟨S.nodes, S.back, S.over, S.steps + 1⟩ := by unfold Z8; rw [if_neg ho', if_neg (by rw [hb]; decide)]
  refine X8 ?_
  refine Xf ?_
  refine Xb (by kernel_rfl) ?_
  refine Xa (Xz rfl) ?_
  refine X3 (X2 (on_walk hT hW2 ht2 hl) rfl Tryz.func79 rfl rfl rfl ?_)
  rintro v11 H9 ⟨G9, aw9, ⟨B9, c9, hwb9, gw9, hown9⟩, A9, k9, rfl, sl9⟩; have z9 := aw9.size; have gz9 := aw9.keep (by omega) (by omega) (by intro e; cases e) gz2; have hz9 := Xt hown9.le (by omega) (by intro e; cases e) gz9; have zz9 := hown9.size
  refine Xa (Yw rfl rfl) ?_
  refine Xa (Yw rfl rfl) ?_
  refine X3 (Yl (vs := [.slice _ _ _, .int .i64 _, .int .u64 _]) rfl rfl inf44.size Yg Yi rfl rfl ?_)
  refine Xa (Xo rfl) ?_
  refine X5 ?_
  rw [hst]
  exact ⟨_, Za (Ys Xl (Yo (cs := [_, _, _]) Tryz.underlying44 rfl inf44.size X9)) (Xv rfl), G9.put H.size _, (aw2.trans aw9).put_new (by omega) (by omega) _, ⟨B9, c9, by simpa using hwb9, by rw [Hp.put_other _ _ (by omega)]; exact gw9, hown9.put (by rw [gz9]; intro e; cases e) _ (Hp.sees_box _ gz9)⟩, A9, k9, rfl, sl9.mono (Hp.sees_box _ gz9)⟩
set_option maxHeartbeats 1000000 in
theorem next_walk {T : TreeT} (hT : GoodT T) (hA : Alive T) {tv : Value} {S : Zk} {wb : Nat} {G H : Hp} (hW : Zu G H wb tv S) (ht : S.over = false → TreeR G tv T) (hv : ValS T S) (hs0 : 0 ≤ S.steps) (hs1 : S.steps ≤ 100000000000) (htv : ∃ v, tv = .pointer v) :
    ACalls Tryz.prog 52 #[.pointer (some ⟨wb, 0, none⟩)] H (fun r H' => ∃ G', Away wb G G' ∧ Zu G' H' wb tv (Vu T S).1 ∧ RowO G' r (Vu T S).2) := by
  have hph := phi_le hv.len
  have hfew := hT.few
  have zz : H.size = G.size := by obtain ⟨_, _, _, _, hown⟩ := hW; exact hown.size
  have hwb0 : wb < G.size := by obtain ⟨_, _, h, _, _⟩ := hW; exact h
  have gwS : ∃ cs, G.get wb = .own 0 cs := by obtain ⟨_, _, _, h, _⟩ := hW; exact ⟨_, h⟩
  refine Xw Tryz.func52 rfl rfl rfl (by simp) ?_
  refine Xf ?_
  refine Xb (by kernel_rfl) ?_
  refine X4 (Y4 (l := [.slice none 0 0, .int .i64 0, .int .u64 0]) inf44.zero rfl (by decide)) ?_
  refine Xa (Xo rfl) ?_
  refine Xf ?_
  refine Yc ?_
  refine Y2 (fun n t H' => ∃ (S1 : Zk) (G1 : Hp), n = phi T S1 ∧ Away wb G G1 ∧ Zu G1 H' wb tv S1 ∧ Vu T S1 = Vu T S ∧ ValS T S1 ∧ (S1.over = false → TreeR G1 tv T) ∧ 0 ≤ S1.steps ∧ S1.steps + phi T S1 ≤ S.steps + phi T S ∧ G.size + 1 ≤ G1.size ∧ G1.get G.size = .own 0 [.slice none 0 0, .int .i64 0, .int .u64 0] ∧ t 0 = .pointer (some ⟨wb, 0, none⟩) ∧ t 2 = .pointer (some ⟨G.size, 0, none⟩)) (phi T S) (⟨S, G.push (.own 0 [.slice none 0 0, .int .i64 0, .int .u64 0]), rfl, .of_le (G.le_push _), (by obtain ⟨B, c, h1, h2, h3⟩ := hW; exact ⟨B, c, by simp; omega, (Hp.push_old _ _ h1).trans h2, h3.push _⟩), rfl, hv, fun h => (ht h).mono (G.le_push _), hs0, Int.le_refl _, by simp, Hp.push_new _ _, rfl, by show Value.pointer (some ⟨H.size, 0, none⟩) = _; rw [zz]⟩) ?_
  rintro n t H1 ⟨S1, G1, rfl, aw1, hW1, hnx, hv1, ht1, hst0, hst1, zG1, gz1, e0, e2⟩
  obtain ⟨B, c, hwb1, gw1, hown1⟩ := id hW1
  have hw1 := Xt hown1.le hwb1 (by intro e; cases e) gw1
  have hz1 := Xt hown1.le (by omega) (by intro e; cases e) gz1
  have zz1 := hown1.size
  refine Xf ?_
  refine Xf ?_
  refine Xb (by kernel_rfl) ?_
  refine Xa (Xz Xl) ?_
  refine Xa (av_ptr_ne_nil rfl rfl Tryz.underlying40) ?_
  refine Xa (Xq rfl) ?_
  refine Yb rfl rfl rfl ?_ ?_
  intro hg1
  have hp1 := hg1; try simp only [decide_eq_true_eq, decide_eq_false_iff_not, Bool.not_eq_true', Bool.not_eq_false'] at hp1
  refine Xj (Xh rfl rfl rfl hg1) (Xz Xl) ?_
  refine Xj (Xh rfl rfl rfl hg1) (Yd rfl) ?_
  refine Xj (Xh rfl rfl rfl hg1) (Xg (off := 3) rfl Tryz.underlying86 rfl inf4.size (by decide) rfl) ?_
  refine Xj (Xh rfl rfl rfl hg1) (Xk rfl Tryz.underlying4 rfl Xr) ?_
  refine Xj (Xh rfl rfl rfl hg1) (Zs rfl) ?_
  refine Xa (Xm (congrArg Value.bool hg1) rfl) ?_
  refine X6 rfl rfl ?_ ?_
  intro hc2
  have ho : S1.over = false := by have h := hc2; simpa using h
  refine X8 ?_
  refine Yc ?_
  refine Xf ?_
  refine Xb (by kernel_rfl) ?_
  refine Xa (Xz Xl) ?_
  refine X3 (X2 (step_walk hT hW1 ht1 hv1.len hst0 (by omega) htv) rfl Tryz.func50 rfl rfl rfl ?_)
  rintro v3 H3 ⟨G3, aw3, hW3, A3, k3, rfl, sl3⟩
  refine Xa (Zt rfl) ?_
  refine Xa (Yw rfl rfl) ?_
  refine Xa (Yw rfl rfl) ?_
  refine X4 (Y4 (l := [.slice none 0 0, .int .i64 0, .int .u64 0]) inf44.zero rfl (by decide)) ?_
  refine X3 (Yl (vs := [.slice _ _ _, .int .i64 _, .int .u64 _]) rfl rfl inf44.size Yg Yi rfl rfl ?_)
  refine Xa (Xo rfl) ?_
  refine Xf ?_
  obtain ⟨o, ho3⟩ : ∃ o, o = (Z8 T S1).2 := ⟨_, rfl⟩
  obtain ⟨S3, hS3⟩ : ∃ S3, S3 = (Z8 T S1).1 := ⟨_, rfl⟩
  have hpair : Z8 T S1 = (S3, o) := by rw [ho3, hS3]
  have htell := step_tells hT hv1
  have hstp := step_steps (T := T) ho
  have hnext := next_step hT hA hv1 ho
  have hphn := step_phi hA hv1 ho hT
  rw [hpair] at hnext
  rw [← hS3] at hW3 hstp htell hphn
  rw [← ho3] at sl3 htell hphn
  rw [← ho3]
  obtain ⟨B3, c3, hwb3, gw3, hown3⟩ := id hW3
  have zz3 := hown3.size
  have z3 := aw3.size
  have aw03 := aw1.trans aw3
  have gz3 := aw3.keep (by omega) (by omega) (by intro e; cases e) gz1
  have hz3 := Xt hown3.le (by omega) (by intro e; cases e) gz3
  have ht3 := aw3.tree gw1 (ht1 ho)
  have hp1 := phi_pos (T := T) ho
  refine Xb (by kernel_rfl) ?_
  refine Xa (Xq rfl) ?_
  refine X6 rfl rfl ?_ ?_
  intro hc3
  obtain ⟨r3, rfl⟩ : ∃ r3, o = some r3 := by have h := hc3; cases o with | none => cases h | some r => exact ⟨r, rfl⟩
  have hfin : Vu T S = (S3, some r3) := hnx.symm.trans hnext
  refine Xf ?_
  refine Xb (by kernel_rfl) ?_
  refine Xa (Yj (cs := [.slice _ _ _, .int .i64 _, .int .u64 _]) rfl Tryz.underlying44 rfl inf44.size X9) ?_
  refine X3 (Yl (vs := [.slice _ _ _, .int .i64 _, .int .u64 _]) Xl Xl inf44.size Yg Yi Xl Xl ?_)
  refine Xa (Xo rfl) ?_
  refine X5 ?_
  rw [hfin]
  have hownB := hown3.boxed [.slice none 0 0, .int .i64 0, .int .u64 0] [.slice A3 (V3 (some r3)).length k3, .int .i64 (rowC (some r3)), .int .u64 (rowM (some r3))]
  have gzB : ((G3.push (.own 0 [.slice none 0 0, .int .i64 0, .int .u64 0])).put H3.size (.own 0 [.slice A3 (V3 (some r3)).length k3, .int .i64 (rowC (some r3)), .int .u64 (rowM (some r3))])).get G.size = .own 0 [.slice none 0 0, .int .i64 0, .int .u64 0] := by rw [Hp.put_other _ _ (by omega), Hp.push_old _ _ (by omega)]; exact gz3
  have gwB : ((G3.push (.own 0 [.slice none 0 0, .int .i64 0, .int .u64 0])).put H3.size (.own 0 [.slice A3 (V3 (some r3)).length k3, .int .i64 (rowC (some r3)), .int .u64 (rowM (some r3))])).get wb = .own 0 [tv, .slice B3 S3.nodes.length c3, .bool S3.back, .bool S3.over, .int .i64 S3.steps] := by rw [Hp.put_other _ _ (by omega), Hp.push_old _ _ (by omega)]; exact gw3
  have slB : Sl (Y3 .i64) ((G3.push (.own 0 [.slice none 0 0, .int .i64 0, .int .u64 0])).put H3.size (.own 0 [.slice A3 (V3 (some r3)).length k3, .int .i64 (rowC (some r3)), .int .u64 (rowM (some r3))])) (.slice A3 (V3 (some r3)).length k3) (V3 (some r3)) := sl3.mono (Hp.sees_put_new (Hp.le_push _ _).sees (by omega) _)
  exact ⟨_, Za (Ys Xl (Yo (cs := [_, _, _]) Tryz.underlying44 rfl inf44.size X9)) (Xv rfl), (((G3.push (.own 0 [.slice none 0 0, .int .i64 0, .int .u64 0])).put H3.size (.own 0 [.slice A3 (V3 (some r3)).length k3, .int .i64 (rowC (some r3)), .int .u64 (rowM (some r3))]))).put G.size _, ((aw03.push (by omega) _).put_new (by omega) (by omega) _).put_new (Nat.le_refl _) (by omega) _, ⟨B3, c3, by simp; omega, by rw [Hp.put_other _ _ (by omega)]; exact gwB, hownB.put (by rw [gzB]; intro e; cases e) _ (Hp.sees_box _ gzB)⟩, A3, k3, rfl, slB.mono (Hp.sees_box _ gzB)⟩
  intro hc3
  obtain rfl : o = none := by have h := hc3; cases o with | none => rfl | some r => cases h
  have hfin : Vu T S3 = Vu T S := hnext.symm.trans hnx
  have hphn := hphn rfl
  refine X8 ?_
  refine ⟨phi T S3, hphn, S3, (G3.push (.own 0 [.slice none 0 0, .int .i64 0, .int .u64 0])).put H3.size (.own 0 [.slice A3 (V3 (none : Option RowT)).length k3, .int .i64 (rowC none), .int .u64 (rowM none)]), rfl, (aw03.push (by omega) _).put_new (by omega) (by omega) _, ⟨B3, c3, by simp; omega, by rw [Hp.put_other _ _ (by omega), Hp.push_old _ _ (by omega)]; exact gw3, hown3.boxed _ _⟩, hfin, htell.1, fun _ => ht3.mono (Hp.le_put_new (G3.le_push _) (by omega) _), by omega, by omega, by simp; omega, by rw [Hp.put_other _ _ (by omega), Hp.push_old _ _ (by omega)]; exact gz3, e0, e2⟩
  intro hc2
  have ho : S1.over = true := by have h := hc2; simpa using h
  refine Yq ?_
  refine Xf ?_
  refine Xb (by kernel_rfl) ?_
  refine Xa (Y7 (pl := [(0, 1), (1, 1), (2, 1)]) (r := [.slice _ _ _, .int .i64 _, .int .u64 _]) Tryz.underlying44 inf44.zero (by decide) rfl rfl) ?_
  refine X3 (Yl (vs := [.slice _ _ _, .int .i64 _, .int .u64 _]) Xl Xl inf44.size Yg Yi Xl Xl ?_)
  refine Xa (Xo rfl) ?_
  refine X5 ?_
  rw [next_over ho] at hnx
  rw [← hnx]
  exact ⟨_, Za (Ys Xl (Yo (cs := [_, _, _]) Tryz.underlying44 rfl inf44.size X9)) (Xv rfl), G1.put G.size (.own 0 [.slice none 0 0, .int .i64 0, .int .u64 0]), aw1.put_new (Nat.le_refl _) (by omega) _, ⟨B, c, by simp; omega, by rw [Hp.put_other _ _ (by omega)]; exact gw1, hown1.put (by rw [gz1]; intro e; cases e) _ (Hp.sees_box _ gz1)⟩, rowO_none _⟩
  intro hg1
  cases hg1
end Go.Proofs.YtcaeoebphfjfiaaGreat.Am


/- Walks as they are told to others; the first row; all rows. -/
namespace Go.Proofs.YtcaeoebphfjfiaaGreat.Am
open Go Go.RowKit
set_option maxRecDepth 100000
set_option linter.unusedVariables false
set_option linter.unusedSimpArgs false

def w0 : Zk := ⟨[], false, false, 0⟩
def w1 : Zk := ⟨[], false, true, 0⟩
theorem val_w0 (T : TreeT) : ValS T w0 := ⟨Nat.zero_le _, fun i h => absurd h (Nat.not_lt_zero _)⟩
theorem val_w1 (T : TreeT) : ValS T w1 := ⟨Nat.zero_le _, fun i h => absurd h (Nat.not_lt_zero _)⟩
theorem Step_walk {T : TreeT} (hT : GoodT T) {tv : Value} {S : Zk} {wb : Nat} {G H : Hp} (hW : Zu G H wb tv S) (ht : S.over = false → TreeR G tv T) (hl : S.nodes.length ≤ T.vars.length) (hs0 : 0 ≤ S.steps) (hs1 : S.steps ≤ 1000000000000) (htv : ∃ v, tv = .pointer v) :
    ACalls Tryz.prog 15 #[.pointer (some ⟨wb, 0, none⟩)] H (fun r H' => ∃ G', Away wb G G' ∧ Zu G' H' wb tv (Z8 T S).1 ∧ RowO G' r (Z8 T S).2) := by
  have zz : H.size = G.size := by obtain ⟨_, _, _, _, hown⟩ := hW; exact hown.size
  have hwb0 : wb < G.size := by obtain ⟨_, _, h, _, _⟩ := hW; exact h
  have hW1 : Zu (G.push (.own 0 [.slice none 0 0, .int .i64 0, .int .u64 0])) (H.push (.own 0 [.slice none 0 0, .int .i64 0, .int .u64 0])) wb tv S := by
    obtain ⟨B, c, hwb, gw, hown⟩ := hW
    exact ⟨B, c, by simp; omega, (Hp.push_old _ _ hwb).trans gw, hown.push _⟩
  refine Xw Tryz.func15 rfl rfl rfl (by simp) ?_
  refine Xf ?_
  refine Xb (by kernel_rfl) ?_
  refine X4 (Y4 (l := [.slice none 0 0, .int .i64 0, .int .u64 0]) inf44.zero rfl (by decide)) ?_
  refine Xa (Xo rfl) ?_
  refine Xf ?_
  refine Xb (by kernel_rfl) ?_
  refine Xa (Xz rfl) ?_
  refine X3 (X2 (step_walk hT hW1 (fun h => (ht h).mono (G.le_push _)) hl hs0 hs1 htv) rfl Tryz.func50 rfl rfl rfl ?_)
  rintro v11 H9 ⟨G9, aw9, ⟨B9, c9, hwb9, gw9, hown9⟩, A9, k9, rfl, sl9⟩; have z9 := aw9.size; simp only [Hp.push_size] at z9; have gz9 := aw9.keep (by simp) (by omega) (by intro e; cases e) (Hp.push_new G _); have hz9 := Xt hown9.le (by omega) (by intro e; cases e) gz9; rw [← zz] at gz9 hz9; have zz9 := hown9.size
  refine Xa (Yw rfl rfl) ?_
  refine Xa (Yw rfl rfl) ?_
  refine X3 (Yl (vs := [.slice _ _ _, .int .i64 _, .int .u64 _]) rfl rfl inf44.size Yg Yi rfl rfl ?_)
  refine Xa (Xo rfl) ?_
  refine X5 ?_
  exact ⟨_, Za (Ys Xl (Yo (cs := [_, _, _]) Tryz.underlying44 rfl inf44.size X9)) (Xv rfl), G9.put H.size _, ((Away.of_le (G.le_push _)).trans aw9).put_new (by omega) (by omega) _, ⟨B9, c9, by simpa using hwb9, by rw [Hp.put_other _ _ (by omega)]; exact gw9, hown9.put (by rw [gz9]; intro e; cases e) _ (Hp.sees_box _ gz9)⟩, A9, k9, rfl, sl9.mono (Hp.sees_box _ gz9)⟩
theorem New_walk (tb : Nat) (H : Hp) : ACalls Tryz.prog 13 #[.pointer (some ⟨tb, 0, none⟩)] H (fun r H' => r = .pointer (some ⟨H.size, 0, none⟩) ∧ H.le H' ∧ Zu H' H' H.size (.pointer (some ⟨tb, 0, none⟩)) w0) := by
  refine Xw Tryz.func13 rfl rfl rfl (by simp) ?_
  refine Xf ?_
  refine Xb (by kernel_rfl) ?_
  refine Xa (Zi rfl) ?_
  refine Xf ?_
  refine Xb (by kernel_rfl) ?_
  refine Xa (Xz rfl) ?_
  refine X3 (X2 (fresh_tree tb _) rfl Tryz.func49 rfl rfl rfl ?_)
  rintro v3 H3 ⟨rfl, hle3, hW3⟩
  refine Xa (Zi rfl) ?_
  refine X5 ?_
  exact ⟨_, Xx (Xv rfl), rfl, hle3, hW3⟩
def kRaw : Kd (Value × Int × Int) where
  sz := 3
  pos := by decide
  rep _ x cs := cs = [x.1, .int .i64 x.2.1, .int .u64 x.2.2] ∧ x.1.oneCell' = true
  len h := by rw [h.1]; rfl
  mono _ h := h
  one h v hv := by rw [h.1] at hv; simp at hv; rcases hv with rfl | rfl | rfl; exact h.2; rfl; rfl
theorem stable_raw (st : Nat) : Vd kRaw st := Plain.stable (fun _ _ _ _ h => h) st
structure Raws (G : Hp) (raws : List (Value × Int × Int)) (rows : List RowT) : Prop where
  len : raws.length = rows.length
  at_ : ∀ (i : Nat) (h : i < raws.length) (h' : i < rows.length), raws[i].2.1 = rows[i].cost ∧ raws[i].2.2 = rows[i].n ∧ Sl (Y3 .i64) G raws[i].1 rows[i].nodes
theorem Raws.mono {G G' : Hp} (h : G.sees G') {raws : List (Value × Int × Int)} {rows : List RowT} (hr : Raws G raws rows) : Raws G' raws rows :=
  ⟨hr.len, fun i a b => ⟨(hr.at_ i a b).1, (hr.at_ i a b).2.1, (hr.at_ i a b).2.2.mono h⟩⟩
theorem Raws.snoc {G : Hp} {raws : List (Value × Int × Int)} {rows : List RowT} (hr : Raws G raws rows) {v : Value} {r : RowT} (hs : Sl (Y3 .i64) G v r.nodes) : Raws G (raws ++ [(v, r.cost, r.n)]) (rows ++ [r]) := by
  have hl := hr.len
  refine ⟨by simp [hl], fun i a b => ?_⟩
  rw [List.length_append, List.length_singleton] at a b
  by_cases h : i < raws.length
  · have h' : i < rows.length := by omega
    rw [List.getElem_append_left h, List.getElem_append_left h']
    exact hr.at_ i h h'
  · obtain rfl : i = raws.length := by omega
    rw [List.getElem_append_right (Nat.le_refl _), List.getElem_append_right (by omega)]
    simp only [Nat.sub_self, List.getElem_cons_zero, hl]
    exact ⟨trivial, trivial, hs⟩
theorem Raws.sl {G H : Hp} {raws : List (Value × Int × Int)} {rows : List RowT} (hr : Raws G raws rows) (hle : G.sees H) {v : Value} (hs : Sl kRaw H v raws) : Sl kRow H v rows := by
  rcases hs with ⟨rfl, rfl⟩ | ⟨b, o, c, rfl, hb, hk, hx⟩
  · have := hr.len
    exact .inl ⟨rfl, List.eq_nil_of_length_eq_zero (by simpa using this.symm)⟩
  · refine .inr ⟨b, o, c, by rw [hr.len], hb, hk, fun i x hi => ?_⟩
    obtain ⟨hi', rfl⟩ := List.getElem?_eq_some_iff.1 hi
    have hi2 : i < raws.length := by rw [hr.len]; exact hi'
    obtain ⟨cs, h1, h2⟩ := hx i raws[i] (List.getElem?_eq_getElem hi2)
    obtain ⟨e1, e2, e3⟩ := hr.at_ i hi2 hi'
    refine ⟨cs, ⟨raws[i].1, ?_, e3.mono hle⟩, h2⟩
    rw [h1.1, e1, e2]
theorem OwnP.away {α : Type} {k : Kd α} {G0 G G' : Hp} {v : Value} {xs : List α} (h : OwnP k G0 G v xs) {wb : Nat} {cs : List Value} (hw : G.get wb = .own 0 cs) (hA : Away wb G G') : ∃ G1, Away wb G0 G1 ∧ OwnP k G1 G' v xs ∧ G0.get wb = .own 0 cs := by
  rcases h with ⟨rfl, rfl, rfl⟩ | ⟨b, ds, c, rfl, hb, hd, rfl, hcap, he⟩
  · exact ⟨G', hA, .inl ⟨rfl, rfl, rfl⟩, hw⟩
  · have hne : wb ≠ b := fun e => by
      subst e
      rw [Hp.put_same] at hw
      injection hw with h1 _
      exact k.pos h1
    have hw0 : G0.get wb = .own 0 cs := by rw [Hp.put_other _ _ hne] at hw; exact hw
    have hg : G'.get b = .own k.sz ds := hA.keep (by simpa using hb) (Ne.symm hne) (by intro e; cases e) (Hp.put_same _ _ _)
    have aw : Away wb G0 (G'.put b .dead) := by
      refine ⟨by have := hA.size; simpa using this, fun i hi hn => ?_⟩
      by_cases h1 : i = wb
      · subst h1; rw [Hp.put_same] at hn; exact absurd rfl hn
      · rw [Hp.put_other _ _ h1] at hn ⊢
        rw [Hp.put_other _ _ h1]
        have h2 : i ≠ b := fun e => hn (by rw [e]; exact hd)
        rw [Hp.put_other _ _ h2]
        exact hA.keep (by simpa using hi) h1 hn (Hp.put_other _ _ h2)
    exact ⟨G'.put b .dead, aw, .inr ⟨b, ds, c, rfl, by have := hA.size; simp at *; omega, Hp.put_same _ _ _, by rw [Hp.put_put]; exact (Hp.put_self _ hg).symm, hcap, he.mono (aw.sees hw0)⟩, hw0⟩
theorem OwnP.low_get {α : Type} {k : Kd α} {G H : Hp} {v : Value} {xs : List α} (h : OwnP k G H v xs) {b : Nat} {cs : List Value} (hg : H.get b = .own 0 cs) : G.get b = .own 0 cs := by
  rcases h with ⟨rfl, rfl, rfl⟩ | ⟨b1, ds, c, rfl, hb, hd, rfl, hcap, he⟩
  · exact hg
  · have hne : b ≠ b1 := fun e => by
      subst e
      rw [Hp.put_same] at hg
      injection hg with h1 _
      exact k.pos h1
    rwa [Hp.put_other _ _ hne] at hg
def allN (T : TreeT) : Nat → Zk → List RowT
  | 0, _ => []
  | k + 1, S => match Vu T S with
    | (S1, some r) => r :: allN T k S1
    | (_, none) => []
set_option maxHeartbeats 1000000 in
theorem All_gen {T : TreeT} (hT : GoodT T) (hA : Alive T) (v : Option Addr) (S : Zk) (hS : S = w0 ∨ S = w1) (hf : ∀ H, ACalls Tryz.prog 49 #[.pointer v] H (fun r H' => r = .pointer (some ⟨H.size, 0, none⟩) ∧ H.le H' ∧ Zu H' H' H.size (.pointer v) S)) (H : Hp) (ht : S.over = false → TreeR H (.pointer v) T) (most : Int) (hm : ∀ k, (allN T k S).length ≤ 1000000) :
    ACalls Tryz.prog 19 #[.pointer v, .int .i64 most] H (fun r H' => H.le H' ∧ Sl kRow H' r (allN T most.toNat S)) := by
  have hv : ValS T S := by rcases hS with rfl | rfl; exact val_w0 T; exact val_w1 T
  have hs : S.steps = 0 := by rcases hS with rfl | rfl <;> rfl
  refine Xw Tryz.func19 rfl rfl rfl (by simp) ?_
  refine Xf ?_
  refine Xb (by kernel_rfl) ?_
  refine Xa (X7 rfl) ?_
  refine Xf ?_
  refine Xb (by kernel_rfl) ?_
  refine Xa (X7 rfl) ?_
  refine Xf ?_
  refine Xb (by kernel_rfl) ?_
  refine Xa (Xz rfl) ?_
  refine X3 (X2 (hf _) rfl Tryz.func49 rfl rfl rfl ?_)
  rintro v3 H3 ⟨rfl, hle3, hW3⟩
  refine Xa (Zi rfl) ?_
  refine Xf ?_
  refine Yc ?_
  refine Y2 (fun n t H' => ∃ (S1 : Zk) (G0 G : Hp) (C : Option Addr) (c5 : Nat) (raws : List (Value × Int × Int)) (rows : List RowT), n = most.toNat + 1 - rows.length ∧ H.le G0 ∧ OwnP kRaw G0 G (.slice C raws.length c5) raws ∧ Raws G0 raws rows ∧ Zu G H' H.size (.pointer v) S1 ∧ rows ++ allN T (most.toNat - rows.length) S1 = allN T most.toNat S ∧ (rows.length : Int) ≤ max most 0 ∧ ValS T S1 ∧ (S1.over = false → TreeR G0 (.pointer v) T) ∧ 0 ≤ S1.steps ∧ S1.steps ≤ 10000 * rows.length ∧ t 1 = .int .i64 most ∧ t 5 = .slice C raws.length c5 ∧ t 6 = .pointer (some ⟨H.size, 0, none⟩)) (most.toNat + 1) (⟨S, H3, H3, none, 0, [], [], by simp, hle3, OwnP.nil _ _, ⟨rfl, fun i a _ => absurd a (Nat.not_lt_zero _)⟩, hW3, by simp, by simp; omega, hv, fun h => (ht h).mono hle3, by omega, by simp; omega, rfl, rfl, rfl⟩) ?_
  rintro n t H1 ⟨S1, G0, G, C, c5, raws, rows, rfl, leG0, hout, hraw, hW1, hall, hmost, hv1, ht1, hst0, hst1, e1, e5, e6⟩
  have hlr := hraw.len
  obtain ⟨B1, c1, hwb1, hwG, hown1⟩ := id hW1
  have hrl : rows.length ≤ 1000000 := by have := hm most.toNat; rw [← hall, List.length_append] at this; omega
  have hph := phi_le hv1.len
  have hfew := hT.few
  refine Xf ?_
  refine Xf ?_
  refine Xb (by kernel_rfl) ?_
  refine Xa (Xy Xl) ?_
  refine Xa (Ym rfl Tryz.underlying51) ?_
  refine Xa (Xc Xl) ?_
  refine Xa (Y0 rfl rfl) ?_
  refine X6 rfl rfl ?_ ?_
  intro hc1
  have hless : (raws.length : Int) < most := of_decide_eq_true hc1
  refine X8 ?_
  refine Yc ?_
  refine Xf ?_
  refine Xb (by kernel_rfl) ?_
  refine Xa (Xz Xl) ?_
  refine X3 (X2 (next_walk hT hA hW1 (fun h => (ht1 h).mono hout.le) hv1 hst0 (by omega) ⟨_, rfl⟩) rfl Tryz.func52 rfl rfl rfl ?_)
  rintro v7 H7 ⟨G7, aw7, hW7, A7, k7, rfl, sl7⟩
  refine Xa (Zt rfl) ?_
  refine Xa (Yw rfl rfl) ?_
  refine Xa (Yw rfl rfl) ?_
  refine X4 (Y4 (l := [.slice none 0 0, .int .i64 0, .int .u64 0]) inf44.zero rfl (by decide)) ?_
  refine X3 (Yl (vs := [.slice _ _ _, .int .i64 _, .int .u64 _]) rfl rfl inf44.size Yg Yi rfl rfl ?_)
  refine Xa (Xo rfl) ?_
  refine Xf ?_
  refine Xf ?_
  have htell := next_tells hT hA _ S1 hv1 (Nat.le_refl _)
  obtain ⟨o, ho7⟩ : ∃ o, o = (Vu T S1).2 := ⟨_, rfl⟩
  obtain ⟨S7, hS7⟩ : ∃ S7, S7 = (Vu T S1).1 := ⟨_, rfl⟩
  have hpair : Vu T S1 = (S7, o) := by rw [ho7, hS7]
  rw [← hS7] at hW7 htell
  rw [← ho7] at sl7 htell
  rw [← ho7]
  obtain ⟨q, hq⟩ : ∃ q, most.toNat - rows.length = q + 1 := ⟨most.toNat - rows.length - 1, by omega⟩
  rw [hq] at hall
  simp only [allN, hpair] at hall
  obtain ⟨B7, c7, hwb7, gw7, hown7⟩ := id hW7
  have zz7 := hown7.size
  obtain ⟨G1, aw1, hout1, hw0⟩ := hout.away hwG aw7
  have hraw1 := hraw.mono (aw1.sees hw0)
  have leG1 : H.le G1 := aw1.base leG0 (Nat.le_refl _)
  have zz1 := hout1.size
  refine Xb (by kernel_rfl) ?_
  refine Xa (Xq rfl) ?_
  refine Xa (Zs rfl) ?_
  refine X6 rfl rfl ?_ ?_
  intro hc2
  obtain rfl : o = none := by have h := hc2; cases o with | none => rfl | some r => cases h
  simp only [List.append_nil] at hall
  refine Yq ?_
  refine Xf ?_
  refine Xb (by kernel_rfl) ?_
  refine Xa (Xy Xl) ?_
  refine Xa (X7 rfl) ?_
  refine X5 ?_
  first
    | (refine ⟨_, Xx (Xv rfl), Hp.le_put_new (Hp.le_push' (Hp.le_trans (Hp.le_trans leG1 hout1.le) hown7.le) _) (by have := leG1.1; omega) _, ?_⟩
       rw [← hall]
       have se : G7.sees ((H7.push (.own 0 [.slice none 0 0, .int .i64 0, .int .u64 0])).put H7.size (.own 0 [.slice A7 (V3 (none : Option RowT)).length k7, .int .i64 (rowC none), .int .u64 (rowM none)])) := Hp.sees_put_new (hown7.le.sees.push _) (by omega) _
       exact hraw1.sl (hout1.le.sees.trans se) (hout1.sl.mono se))
    | (refine ⟨_, Xx (Xv rfl), Hp.le_trans leG0 (Hp.le_trans hout.le hown1.le), ?_⟩
       have h0 : most.toNat - rows.length = 0 := by omega
       rw [h0] at hall
       simp only [allN, List.append_nil] at hall
       rw [← hall]
       exact hraw.sl (hout.le.sees.trans hown1.le.sees) (hout.sl.mono hown1.le.sees))
  intro hc2
  obtain ⟨r7, rfl⟩ : ∃ r7, o = some r7 := by have h := hc2; cases o with | none => cases h | some r => exact ⟨r, rfl⟩
  simp only at hall
  have hno : S1.over = false := by
    cases ho1 : S1.over with
    | false => rfl
    | true => rw [next_over ho1] at hpair; cases hpair
  have htr1 := aw1.tree hw0 (ht1 hno)
  have slr : Sl (Y3 .i64) G1 (.slice A7 (V3 (some r7)).length k7) r7.nodes := hout1.below (Vs _) (by decide) sl7
  have leP : H.le ((G1.push (.own 0 [.slice none 0 0, .int .i64 0, .int .u64 0])).put H7.size (.own 0 [.slice A7 (V3 (some r7)).length k7, .int .i64 (rowC (some r7)), .int .u64 (rowM (some r7))])) := Hp.le_put_new (Hp.le_push' leG1 _) (by have := leG1.1; have := hout1.size; omega) _
  have hoB := hout1.boxed [.slice none 0 0, .int .i64 0, .int .u64 0] [.slice A7 (V3 (some r7)).length k7, .int .i64 (rowC (some r7)), .int .u64 (rowM (some r7))]
  rw [← zz7] at hoB
  have hnB := hown7.boxed [.slice none 0 0, .int .i64 0, .int .u64 0] [.slice A7 (V3 (some r7)).length k7, .int .i64 (rowC (some r7)), .int .u64 (rowM (some r7))]
  obtain ⟨Gn, hn1, ho1⟩ := OwnP.swap2 (Vs _) hoB hnB
  have seB : G1.sees ((G1.push (.own 0 [.slice none 0 0, .int .i64 0, .int .u64 0])).put H7.size (.own 0 [.slice A7 (V3 (some r7)).length k7, .int .i64 (rowC (some r7)), .int .u64 (rowM (some r7))])) := Hp.sees_put_new (Hp.le_push _ _).sees (by have := hout1.size; omega) _
  have gwB : ((G7.push (.own 0 [.slice none 0 0, .int .i64 0, .int .u64 0])).put H7.size (.own 0 [.slice A7 (V3 (some r7)).length k7, .int .i64 (rowC (some r7)), .int .u64 (rowM (some r7))])).get H.size = .own 0 [.pointer v, .slice B7 S7.nodes.length c7, .bool S7.back, .bool S7.over, .int .i64 S7.steps] := by rw [Hp.put_other _ _ (by omega), Hp.push_old _ _ (by omega)]; exact gw7
  refine X8 ?_
  refine Xb (by kernel_rfl) ?_
  refine Xa (Xy Xl) ?_
  refine Xa (Yj (cs := [.slice _ _ _, .int .i64 _, .int .u64 _]) rfl Tryz.underlying44 rfl inf44.size X9) ?_
  refine X4 (Ye (r := [.slice _ _ _, .int .i64 _, .int .u64 _]) Tryz.underlying51 inf44.size inf44.zero rfl (by decide) (by decide) (by decide) rfl) ?_
  refine X3 (OwnP.append (ys := [(.slice A7 (V3 (some r7)).length k7, rowC (some r7), rowM (some r7))]) (ho1.push _) Tryz.underlying51 inf44 Xl Xl rfl (Zn (k := kRaw) ⟨rfl, rfl⟩ rfl ho1.size rfl) (by simp only [List.length_singleton]; omega) (by simp only [List.length_singleton]; omega) ?_)
  rintro v8 G8 H8 hle8 hown8
  obtain ⟨C8, k8, rfl⟩ := hown8.shape
  obtain ⟨G9, le9, hn9⟩ := hn1.later (Hp.le_trans (Hp.le_push Gn _) hle8)
  obtain ⟨G10, ho10, hn10⟩ := OwnP.swap2 (stable_raw _) hn9 hown8
  have gwL := hoB.low_get gwB
  have hzB := hoB.size
  have gw9 := Xt le9 (by simp; omega) (by intro e; cases e) gwL
  have z9 := le9.1
  have gw10 := Xt ho10.le (by simp at z9; omega) (by intro e; cases e) gw9
  refine Xa (X7 rfl) ?_
  refine ⟨most.toNat + 1 - (rows.length + 1), by omega, S7, G9, G10, C8, k8, raws ++ [(.slice A7 (V3 (some r7)).length k7, rowC (some r7), rowM (some r7))], rows ++ [r7], by simp, Hp.le_trans leP le9, ho10, (hraw1.mono (seB.trans le9.sees)).snoc (slr.mono (seB.trans le9.sees)), ⟨B7, c7, ?_, ?_, hn10⟩, ?_, ?_, htell.1, ?_, ?_, ?_, e1, rfl, e6⟩
  · have := ho10.size; simp at z9; omega
  · exact gw10
  · rw [← hall]; simp [show most.toNat - (rows.length + 1) = q by omega]
  · simp; omega
  · intro _; exact (htr1.mono (Hp.le_put_new (G1.le_push _) (by omega) _)).mono le9
  · omega
  · simp; omega
  intro hc1
  have hless : ¬ (raws.length : Int) < most := of_decide_eq_false hc1
  refine Yq ?_
  refine Xf ?_
  refine Xb (by kernel_rfl) ?_
  refine Xa (Xy Xl) ?_
  refine Xa (X7 rfl) ?_
  refine X5 ?_
  first
    | (refine ⟨_, Xx (Xv rfl), Hp.le_put_new (Hp.le_push' (Hp.le_trans (Hp.le_trans leG1 hout1.le) hown7.le) _) (by have := leG1.1; omega) _, ?_⟩
       rw [← hall]
       have se : G7.sees ((H7.push (.own 0 [.slice none 0 0, .int .i64 0, .int .u64 0])).put H7.size (.own 0 [.slice A7 (V3 (none : Option RowT)).length k7, .int .i64 (rowC none), .int .u64 (rowM none)])) := Hp.sees_put_new (hown7.le.sees.push _) (by omega) _
       exact hraw1.sl (hout1.le.sees.trans se) (hout1.sl.mono se))
    | (refine ⟨_, Xx (Xv rfl), Hp.le_trans leG0 (Hp.le_trans hout.le hown1.le), ?_⟩
       have h0 : most.toNat - rows.length = 0 := by omega
       rw [h0] at hall
       simp only [allN, List.append_nil] at hall
       rw [← hall]
       exact hraw.sl (hout.le.sees.trans hown1.le.sees) (hout.sl.mono hown1.le.sees))
end Go.Proofs.YtcaeoebphfjfiaaGreat.Am
