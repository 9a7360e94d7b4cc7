/- Texts that the proof rests on, part 5: lemmas for every heap that is related to a world, no condition beyond each lemma's own. -/
import Derived.Test.YtmakkmcjocjgmaaGreatCa4
import Derived.Test.YtmakkmcjocjgmaaGreatCa3
import Derived.Test.YtmakkmcjocjgmaaGreatCaTy
import Derived.Test.YtmakkmcjocjgmaaGreatCaOwnL
namespace Go.Proofs.YtmakkmcjocjgmaaGreat.Am
open Go Go.RowKit
set_option linter.unusedVariables false
set_option linter.unusedSimpArgs false
set_option maxRecDepth 100000
set_option maxHeartbeats 4000000 in
theorem New_tree (f : Forest) (p : Parts) (cs ds : List Value) (H : Hp) (hp : kForest.rep H f cs) (hq : kParts.rep H p ds) (hsm : Small f p) (hch : GoodP f p → Cheap p) :
  ACalls Tryz.prog 13 #[.agg cs.toArray, .agg ds.toArray] H (fun r H' => H.le H' ∧ ∃ (g : Bool) (v : Value), (g = true ↔ GoodP f p) ∧ r = .tuple #[v, .int .i64 (if g = true then 0 else 1)] ∧ (if g = true then TreeR H' v (Zg f (ofP f p)) else v = .pointer none)) := by
 have hp0 := hp
 have hq0 := hq
 obtain ⟨v0, v1, v2, v3, v4, rfl, hs0, hs1, hs2, hs3, hs4⟩ := hp
 obtain ⟨A0, c0, rfl⟩ := hs0.shape
 obtain ⟨A1, c1, rfl⟩ := hs1.shape
 obtain ⟨A2, c2, rfl⟩ := hs2.shape
 obtain ⟨A3, c3, rfl⟩ := hs3.shape
 obtain ⟨A4, c4, rfl⟩ := hs4.shape
 obtain ⟨u0, u1, rfl, hn0, hn1⟩ := hq
 obtain ⟨B0, d0, rfl⟩ := hn0.shape
 obtain ⟨B1, d1, rfl⟩ := hn1.shape
 refine Xv Tryz.func13 rfl rfl rfl (by simp) ?_
 refine Xe ?_
 refine Xu ?_
 refine Xz (Yw rfl) ?_
 refine Xz (Yw rfl) ?_
 refine Xa (Z3 rfl) ?_
 refine Xa (Xi rfl) ?_
 refine Xe ?_
 refine Xu ?_
 refine Xa (Yl (cs := [.slice _ _ _, .slice _ _ _, .slice _ _ _, .slice _ _ _, .slice _ _ _]) rfl Tryz.underlying26 rfl inf26.size X8) ?_
 refine Xa (Yl (cs := [.slice _ _ _, .slice _ _ _]) rfl Tryz.underlying29 rfl inf29.size X8) ?_
 refine Xw (Xy (Of_parts f p _ _ _ (kForest.mono Zp hp0) (kParts.mono Zp hq0) hsm) rfl Tryz.func48 rfl rfl rfl ?_)
 rintro v5 H5 ⟨g, es, hg, rfl, hes, hle5⟩; obtain ⟨w0, w1, rfl, hm0, hm1⟩ := hes; obtain ⟨C0, k0, rfl⟩ := hm0.shape; obtain ⟨C1, k1, rfl⟩ := hm1.shape; have hz5 := hle5.1; simp only [Hp.push_size] at hz5; have g51 : H5.get (H.size + 1) = .own 0 [.slice B0 p.nodes.length d0, .slice B1 p.links.length d1] := Xr hle5 (by simp) (by intro e; cases e) Yd
 refine Xa (Zm rfl) ?_
 refine Xa (Yj rfl rfl) ?_
 refine Xa (Yj rfl rfl) ?_
 refine Xw (Yf (vs := [.slice _ _ _, .slice _ _ _]) rfl rfl inf29.size Yd Yg rfl rfl ?_)
 refine Xa (Xi rfl) ?_
 refine Xe ?_
 refine Xe ?_
 refine Xu ?_
 refine Xa (Xb rfl) ?_
 refine Xa (Zw rfl rfl) ?_
 refine X5 rfl rfl ?_ ?_
 intro hc1
 obtain rfl : g = false := by cases g with | false => rfl | true => exact absurd hc1 (by simp)
 refine Xe ?_
 refine Xu ?_
 refine Xa (Xb rfl) ?_
 refine Xa (Z3 rfl) ?_
 refine Xa (Xi rfl) ?_
 refine X2 ?_
 exact ⟨_, Y8 (Xs rfl) (Xs rfl), Hp.le_put_new (Hp.le_trans (Hp.le_push' (H.le_push _) _) hle5) (Nat.le_succ _) _, false, .pointer none, hg, rfl, by simp⟩
 intro hc1
 obtain rfl : g = true := by cases g with | true => rfl | false => exact absurd hc1 (by simp)
 refine X9 ?_
 refine Xe ?_
 have hG := hg.1 rfl
 obtain ⟨k1', k2', k3', k4'⟩ := ofP_all hG
 have hXg := ofP_good hG
 have hcx := (hch hG).sub k2'
 simp only [if_true] at hm0 hm1
 obtain ⟨X, hX⟩ : ∃ X, X = ofP f p := ⟨_, rfl⟩
 rw [← hX] at k1' k2' k3' hXg hcx hm0 hm1
 rw [← hX]
 have hlens5 : ∀ l ∈ X.nodes, l.length ≤ 1000000 := fun l hm => by
  obtain ⟨i, hi, rfl⟩ := List.getElem_of_mem hm
  have h1 := (k2' i).1.length_le
  unfold nd at h1
  rw [Ze hi] at h1
  exact Nat.le_trans h1 (V2 hsm.s5 i)
 have hlens6 : ∀ l ∈ X.links, l.length ≤ 1000000 := fun l hm => by
  obtain ⟨i, hi, rfl⟩ := List.getElem_of_mem hm
  have h1 := (k2' i).2.length_le
  unfold lk at h1
  rw [Ze hi] at h1
  exact Nat.le_trans h1 (V2 hsm.s6 i)
 obtain ⟨T, hT⟩ : ∃ T, T = Zg f X := ⟨_, rfl⟩
 obtain ⟨tl1, tl2, tl3⟩ := Ut (f := f) X
 have tat := fun {i : Nat} (hi : i < f.order.length) => treeOf_at (f := f) X hi
 rw [← hT] at tl1 tl2 tl3
 simp only [← hT] at tat
 rw [← hT]
 obtain ⟨K, hK⟩ : ∃ K, K = H5.put (H.size + 1) (.own 0 [.slice C0 X.nodes.length k0, .slice C1 X.links.length k1]) := ⟨_, rfl⟩
 have s5K : H5.sees K := by rw [hK]; exact Hp.sees_box _ g51
 have leK : H.le K := by rw [hK]; exact Hp.le_put_new (Hp.le_trans (Hp.le_push' (H.le_push _) _) hle5) (by omega) _
 have zK : H.size + 2 ≤ K.size := by rw [hK]; simp; omega
 have gK0 : K.get H.size = .own 0 [.slice A0 f.vars.length c0, .slice A1 f.order.length c1, .slice A2 f.parent.length c2, .slice A3 f.links.length c3, .slice A4 f.loops.length c4] := by rw [hK, Hp.put_other _ _ (by omega)]; exact Xr hle5 (by simp; omega) (by intro e; cases e) Yd
 have gK1 : K.get (H.size + 1) = .own 0 [.slice C0 X.nodes.length k0, .slice C1 X.links.length k1] := by rw [hK]; exact Hp.put_same _ _ _
 have m0K := hm0.mono s5K
 have m1K := hm1.mono s5K
 have s0K := hs0.mono leK.sees
 have s1K := hs1.mono leK.sees
 have s2K := hs2.mono leK.sees
 have hol : f.order.length = f.vars.length := hG.gf.l1
 have hpl : f.parent.length = f.vars.length := hG.gf.l2
 have hs0' := hsm.s0
 have hxn := k1'.1
 have hxl := k1'.2
 change ACode true _ _ _ _ _ (H5.put (H.size + 1) (.own 0 [.slice C0 X.nodes.length k0, .slice C1 X.links.length k1]))
 rw [← hK]
 clear hK s5K hm0 hm1 hle5 g51 hz5 hn0 hn1 hq0 hp0 hs3 hs4
 refine Xu ?_
 refine Xz (am_makeMap) ?_
 refine Xa (Y6 (pl := [(0, 1), (1, 1), (2, 1), (3, 1)]) (r := [.slice _ _ _, .slice _ _ _, .slice _ _ _, .map _]) Tryz.underlying91 inf91.zero (by decide) rfl rfl) ?_
 refine Xz (Yw rfl) ?_
 refine Xa (Z3 rfl) ?_
 refine Xe ?_
 refine Xe ?_
 refine Xu ?_
 refine Xa (Xf (off := 1) rfl Tryz.underlying26 rfl inf23.size (by decide) rfl) ?_
 refine Xa (Xk rfl Tryz.underlying23 rfl Xp) ?_
 refine Xa (Ys rfl Tryz.underlying23) ?_
 refine Xa (Xb rfl) ?_
 refine Ye ?_
 refine Y5 (fun n t H' => ∃ (i : Nat) (G : Hp) (A B C : Value) (es : List (Value × Value)), i ≤ f.order.length ∧ n = f.order.length - i ∧ K.le G ∧ K.size + 2 ≤ G.size ∧ G.get K.size = .map es ∧ G.get (K.size + 1) = .own 0 [A, B, C, .map (some K.size)] ∧ Own3 kStr (Y1 .i64) (V1 kLink) G H' A B C (T.vars.take i) (T.parent.take i) (T.links.take i) ∧ Spots T i es ∧ t 2 = .pointer (some ⟨H.size, 0, none⟩) ∧ t 3 = .pointer (some ⟨H.size + 1, 0, none⟩) ∧ t 7 = .pointer (some ⟨K.size + 1, 0, none⟩) ∧ t 24 = .slice A1 f.order.length c1 ∧ t 25 = .int .i64 f.order.length ∧ t 26 = .int .i64 i) (f.order.length) (⟨0, _, _, _, _, [], by omega, rfl, Hp.le_push' (K.le_push _) _, by simp, Yd, Yd, ⟨_, _, OwnP.nil _ _, OwnP.nil _ _, OwnP.nil _ _⟩, Spots.zero T, rfl, rfl, rfl, rfl, rfl, rfl⟩) ?_
 rintro n t H1 ⟨i, G, A, B, C, es, hi, rfl, leG, zG, gm, gt, hown, hsp, e2, e3, e7, e24, e25, e26⟩
 have leK1 := Hp.le_trans leG hown.le
 have zH1 := hown.size
 have zK1 := leK1.1
 refine Xe ?_
 refine Xu ?_
 refine Xa (Za Xm Xm) ?_
 refine Xe ?_
 refine X5 rfl rfl ?_ ?_
 intro hc2
 (try simp only [Yt] at hc2)
 refine X9 ?_
 refine Xe ?_
 refine Ye ?_
 refine Xe ?_
 have hix : i < f.order.length := by omega
 obtain ⟨b1, o1, rfl, hb1, hcell1⟩ := s1K.int_at (i := (i : Int)) (by omega) (by omega)
 rw [Int.toNat_natCast] at hcell1
 have hcell1' := leK1.cell1 hb1 hcell1
 obtain ⟨hwn, hwv⟩ := hG.gf.vAt_lt (s := i) (by omega)
 obtain ⟨w, hw⟩ : ∃ w : Nat, w = Vj f i := ⟨_, rfl⟩
 rw [← hw] at hwn hwv
 rw [← hwv] at hcell1'
 obtain ⟨tv, tp, tl⟩ := tat hix
 rw [← hw] at tv tp tl
 refine Xu ?_
 refine Xa (Xb Xm) ?_
 refine Xa (Xt Xm Xm Tryz.underlying23 inf3.size X6 X6) ?_
 refine Xa (Xk rfl Tryz.underlying3 rfl Xp) ?_
 refine Xa (Xi rfl) ?_
 refine Xa (Xi rfl) ?_
 refine Xe ?_
 obtain ⟨bn, on, ks, eN, hbn, ⟨wn, rfl, hwN⟩, hcellN⟩ := m0K.elem_at (i := w) (by have := k1'.1; omega)
 subst eN
 have hcellN' := leK1.cell1 hbn hcellN.one
 have ndw : nd X w = X.nodes[w]'(by have := k1'.1; omega) := Ze _
 rw [← ndw] at hwN
 obtain ⟨An, cn, rfl⟩ := hwN.shape
 have hnl : (nd X w).length ≤ 1000000 := by rw [ndw]; exact hlens5 _ (List.getElem_mem _)
 have gH0 := Xr leK1 (by omega) (by intro e; cases e) gK0
 have gH1 := Xr leK1 (by omega) (by intro e; cases e) gK1
 refine Xu ?_
 refine Xa (Xf (off := 0) Xm Tryz.underlying29 Xm inf27.size (by decide) Xm) ?_
 refine Xa (Xk rfl Tryz.underlying27 rfl Xp) ?_
 refine Xa (Xb rfl) ?_
 refine Xa (Xt rfl rfl Tryz.underlying27 inf83.size X6 X6) ?_
 refine Xa (Xk rfl Tryz.underlying83 rfl Xp) ?_
 refine Xa (Yc rfl) ?_
 refine Xe ?_
 refine Xe ?_
 obtain ⟨b2, o2, rfl, hb2, hcell2⟩ := s2K.int_at (i := (w : Int)) (by omega) (by omega)
 rw [Int.toNat_natCast] at hcell2
 have hcell2' := leK1.cell1 hb2 hcell2
 refine Xu ?_
 refine Xa (Xf (off := 2) Xm Tryz.underlying26 Xm inf23.size (by decide) Xm) ?_
 refine Xa (Xk rfl Tryz.underlying23 rfl Xp) ?_
 refine Xa (Xb rfl) ?_
 refine Xa (Xt rfl rfl Tryz.underlying23 inf3.size X6 X6) ?_
 refine Xa (Xk rfl Tryz.underlying3 rfl Xp) ?_
 refine Xa (Zw rfl rfl) ?_
 refine X5 rfl rfl ?_ ?_
 intro hc3
 have hpar : par f w ≠ -1 := of_decide_eq_true hc3
 obtain ⟨bl, ol, ks, eL, hbl, ⟨wl, rfl, hwL⟩, hcellL⟩ := m1K.elem_at (i := w) (by have := k1'.2; omega)
 subst eL
 have hcellL' := leK1.cell1 hbl hcellL.one
 have lkw : lk X w = X.links[w]'(by have := k1'.2; omega) := Ze _
 rw [← lkw] at hwL
 obtain ⟨Al, cl, rfl⟩ := hwL.shape
 have hll : (lk X w).length ≤ 1000000 := by rw [lkw]; exact hlens6 _ (List.getElem_mem _)
 have hpk : Zc f X w = (lk X w).map (Ug (nd X w)) := by unfold Zc; rw [if_neg hpar]
 have hpll : (Zc f X w).length ≤ 1000000 := by rw [hpk, List.length_map]; exact hll
 have hrise : RiseA (Zc f X w) := by rw [hpk]; exact rise_weigh (goodL_rise (hXg.ok w hwn).2.1)
 refine Yy (by kernel_rfl) (Y4 (B := [0, 1, 0, 7, 15, 0, 32, 0, 224, 480, 1023, 2047]) (π := [0, 1, 2, 3, 4, 5, 6, 7, 8, 9, 10, 11]) (by kernel_rfl)) ?_
 refine Xd rfl rfl (Xf (off := 1) Xm Tryz.underlying29 Xm inf27.size (by decide) Xm) Xq ?_
 refine Xd rfl rfl (Xk rfl Tryz.underlying27 rfl Xp) Xq ?_
 refine Xd rfl rfl (Xb rfl) Xq ?_
 refine Xd rfl rfl (Xt rfl rfl Tryz.underlying27 inf83.size X6 X6) Xq ?_
 refine Xd rfl rfl (Xk rfl Tryz.underlying83 rfl Xp) Xq ?_
 refine Xd rfl rfl (Xf (off := 0) Xm Tryz.underlying29 Xm inf27.size (by decide) Xm) Xq ?_
 refine Xd rfl rfl (Xk rfl Tryz.underlying27 rfl Xp) Xq ?_
 refine Xd rfl rfl (Xb rfl) Xq ?_
 refine Xd rfl rfl (Xt rfl rfl Tryz.underlying27 inf83.size X6 X6) Xq ?_
 refine Xd rfl rfl (Xk rfl Tryz.underlying83 rfl Xp) Xq ?_
 refine Ym rfl rfl (Xy (weighed_links (lk X w) (nd X w) _ _ _ (hwL.mono leK1.sees) (hwN.mono leK1.sees) hll hnl (goodL_strict (hXg.ok w hwn).1 (hXg.ok w hwn).2.2.1) (fun l hl => ((k3' w hwn hpar).ends l hl).2) (fun l hl => hcx.links w l hl) (fun l hl => hcx.nodes w l hl)) rfl Tryz.func49 rfl rfl rfl ?_)
 rintro v10 H2 ⟨Gw, hleW, hownW⟩; rw [← hpk] at hownW; obtain ⟨Aw, cw, rfl⟩ := hownW.shape; have hsl2 := hownW.sl; have hle2 := Hp.le_trans hleW hownW.le
 refine ⟨Yk, ?_⟩
 refine Xd rfl rfl (Yc rfl) Xq ?_
 refine Xe ?_
 obtain ⟨G2, hleG2, hown2⟩ := hown.later hle2
 have leG2 := Hp.le_trans leG hleG2
 have leK2 := Hp.le_trans leK1 hle2
 have g2m := Xr hleG2 (by omega) (by intro e; cases e) gm
 have g2t := Xr hleG2 (by omega) (by intro e; cases e) gt
 have z2 := hleG2.1
 have zz2 := hown2.size
 obtain ⟨Ga, hleGa, hoA, backA⟩ := (hown2.rot (stable_ints _) stable_lists).open3
 obtain ⟨AA, cA, rfl⟩ := hoA.shape
 obtain ⟨slA, slB, slC⟩ := hown2.sls
 obtain ⟨AB, cB, rfl⟩ := slB.shape
 obtain ⟨AC, cC, rfl⟩ := slC.shape
 have lenA : (T.vars.take i).length = i := by rw [List.length_take]; omega
 have lenB : (T.parent.take i).length = i := by rw [List.length_take]; omega
 have lenC : (T.links.take i).length = i := by rw [List.length_take]; omega
 have h2t := Xr hown2.le (by omega) (by intro e; cases e) g2t
 have h20 := Xr leK2 (by omega) (by intro e; cases e) gK0
 obtain ⟨bs, os, ks, eS, hbs, rfl, hcellS⟩ := s0K.elem_at (i := w) hwn
 subst eS
 have hcellS' := leK2.cell1 hbs hcellS.one
 have zoA := hoA.size
 have za := hleGa.1
 have slG2 := hown2.below (Zn _) (Zn _) (Zn _) (by decide) (by decide) (by decide) hsl2
 refine Yy (by kernel_rfl) (Y4 (B := [0, 0, 2, 6, 14, 0, 32, 0, 224, 480, 992, 2046, 4095, 8191, 16383]) (π := [0, 1, 2, 3, 4, 5, 6, 7, 8, 9, 10, 11, 12, 13, 14]) (by kernel_rfl)) ?_
 refine Xd rfl rfl (X0 Xm) Xq ?_
 refine Xd rfl rfl (X0 Xm) Xq ?_
 refine Xd rfl rfl (Yi rfl) Xq ?_
 refine Xd rfl rfl (Xf (off := 0) rfl Tryz.underlying91 rfl inf22.size (by decide) rfl) Xq ?_
 refine Xd rfl rfl (Xk rfl Tryz.underlying22 rfl Xp) Xq ?_
 refine Xd rfl rfl (Xf (off := 0) Xm Tryz.underlying26 Xm inf22.size (by decide) Xm) Xq ?_
 refine Xd rfl rfl (Xk rfl Tryz.underlying22 rfl Xp) Xq ?_
 refine Xd rfl rfl (Xb rfl) Xq ?_
 refine Xd rfl rfl (Xt rfl rfl Tryz.underlying22 inf9.size X6 X6) Xq ?_
 refine Xd rfl rfl (Xk rfl Tryz.underlying9 rfl Xp) Xq ?_
 first | refine Zb rfl rfl (Yh (r := [.string _]) Tryz.underlying22 inf9.size inf9.zero rfl (by decide) (by decide) (by decide) rfl) ?_
 refine Ym rfl rfl (OwnP.append (ys := [f.vars[w]]) (hoA.push _) Tryz.underlying22 inf9 rfl rfl rfl (Zo (k := kStr) rfl rfl hoA.size rfl) (by rw [lenA]; simp only [List.length_singleton]; omega) (by rw [lenA]; simp only [List.length_singleton]; omega) ?_)
 rintro v3 G3 H3 hle3 hown3
 have hsameO := OwnP.sameO (hoA.push _) hle3 hown3
 have ev : f.vars.getD w ⟨#[]⟩ = f.vars[w] := by rw [List.getD_eq_getElem?_getD, List.getElem?_eq_getElem hwn]; rfl
 rw [← ev, take_at tv] at hown3
 obtain ⟨AA', cA', rfl⟩ := hown3.shape
 have hle3' := Hp.le_trans (Hp.le_push _ _) hle3
 obtain ⟨G4, hleG4, hown4⟩ := backA G3 H3 _ _ hle3' hown3
 have g4t := Xr hleG4 (by omega) (by intro e; cases e) g2t
 have h3t := Xr hown4.le (by have := hleG4.1; omega) (by intro e; cases e) g4t
 refine ⟨Yk, ?_⟩
 refine Xd rfl rfl (Yi rfl) Xq ?_
 refine Xd rfl rfl (Xf (off := 0) rfl Tryz.underlying91 rfl inf22.size (by decide) rfl) Xq ?_
 first | refine Ym rfl rfl (Y3 rfl rfl rfl inf22.size Yd Yg rfl ?_)
 refine ⟨Yk, ?_⟩
 refine Xe ?_
 obtain ⟨H5, hH5⟩ : ∃ H5, H5 = H3.put (K.size + 1) (.own 0 [.slice AA' (T.vars.take (i + 1)).length cA', .slice AB (T.parent.take i).length cB, .slice AC (T.links.take i).length cC, .map (some K.size)]) := ⟨_, rfl⟩
 obtain ⟨G5, hG5⟩ : ∃ G5, G5 = G4.put (K.size + 1) (.own 0 [.slice AA' (T.vars.take (i + 1)).length cA', .slice AB (T.parent.take i).length cB, .slice AC (T.links.take i).length cC, .map (some K.size)]) := ⟨_, rfl⟩
 have z4 := hleG4.1
 have hown5 := hown4.put_box (by omega) g4t [.slice AA' (T.vars.take (i + 1)).length cA', .slice AB (T.parent.take i).length cB, .slice AC (T.links.take i).length cC, .map (some K.size)]
 rw [← hG5, ← hH5] at hown5
 have leG5 : K.le G5 := by rw [hG5]; exact Hp.le_put_new (Hp.le_trans leG2 hleG4) (by omega) _
 have g5m : G5.get K.size = .map es := by rw [hG5, Hp.put_other _ _ (by omega)]; exact Xr hleG4 (by omega) (by intro e; cases e) g2m
 have g5t : G5.get (K.size + 1) = .own 0 [.slice AA' (T.vars.take (i + 1)).length cA', .slice AB (T.parent.take i).length cB, .slice AC (T.links.take i).length cC, .map (some K.size)] := by rw [hG5]; exact Hp.put_same _ _ _
 have z5 : K.size + 2 ≤ G5.size := by rw [hG5]; simp; omega
 change ACode true _ _ _ _ _ (H3.put (K.size + 1) (.own 0 [.slice AA' (T.vars.take (i + 1)).length cA', .slice AB (T.parent.take i).length cB, .slice AC (T.links.take i).length cC, .map (some K.size)]))
 rw [← hH5]
 have slG5 : Sl kLink G5 (.slice Aw (Zc f X w).length cw) (Zc f X w) := by
  rw [hG5]
  exact (slG2.mono hleG4.sees).mono (Hp.sees_box _ g4t)
 obtain ⟨Gb, hleGb, hoB, backB⟩ := (hown5.rot stable_lists (stable_strs _)).open3
 have leK5 := Hp.le_trans leG5 hown5.le
 have h5t := Xr hown5.le (by omega) (by intro e; cases e) g5t
 have h50 := Xr leK5 (by omega) (by intro e; cases e) gK0
 have hcell25 := leK5.cell1 hb2 hcell2
 have zoB := hoB.size
 have zz5 := hown5.size
 have zb := hleGb.1
 clear hH5 hG5 hsameO
 refine Yy (by kernel_rfl) (Y4 (B := [0, 0, 2, 6, 14, 0, 32, 0, 128, 0, 896, 1920, 4064, 8160, 16382, 32767, 65535, 131071]) (π := [0, 1, 2, 3, 4, 5, 6, 7, 8, 9, 10, 11, 12, 13, 14, 15, 16, 17]) (by kernel_rfl)) ?_
 refine Xd rfl rfl (X0 Xm) Xq ?_
 refine Xd rfl rfl (X0 Xm) Xq ?_
 refine Xd rfl rfl (Yi rfl) Xq ?_
 refine Xd rfl rfl (Xf (off := 1) rfl Tryz.underlying91 rfl inf23.size (by decide) rfl) Xq ?_
 refine Xd rfl rfl (Xk rfl Tryz.underlying23 rfl Xp) Xq ?_
 refine Xd rfl rfl (Xf (off := 1) Xm Tryz.underlying26 Xm inf23.size (by decide) Xm) Xq ?_
 refine Xd rfl rfl (Xk rfl Tryz.underlying23 rfl Xp) Xq ?_
 refine Xd rfl rfl (Xf (off := 2) Xm Tryz.underlying26 Xm inf23.size (by decide) Xm) Xq ?_
 refine Xd rfl rfl (Xk rfl Tryz.underlying23 rfl Xp) Xq ?_
 refine Xd rfl rfl (Xb rfl) Xq ?_
 refine Xd rfl rfl (Xt rfl rfl Tryz.underlying23 inf3.size X6 X6) Xq ?_
 refine Xd rfl rfl (Xk rfl Tryz.underlying3 rfl Xp) Xq ?_
 refine Ym rfl rfl (Xy (Index_ints f.order _ (par f w) _ (s1K.mono leK5.sees) (by omega)) rfl Tryz.func50 rfl rfl rfl ?_)
 rintro v6 H5 ⟨rfl, rfl⟩
 refine ⟨Yk, ?_⟩
 first | refine Zb rfl rfl (Yh (r := [.int .i64 _]) Tryz.underlying23 inf3.size inf3.zero rfl (by decide) (by decide) (by decide) rfl) ?_
 refine Ym rfl rfl (OwnP.append (ys := [atI f.order (par f w)]) (hoB.push _) Tryz.underlying23 inf3 rfl rfl rfl (Zo (k := Y1 .i64) rfl rfl hoB.size rfl) (by rw [lenB]; simp only [List.length_singleton]; omega) (by rw [lenB]; simp only [List.length_singleton]; omega) ?_)
 rintro v7 G7 H7 hle7 hown7
 have hsameO := OwnP.sameO (hoB.push _) hle7 hown7
 rw [take_at tp] at hown7
 obtain ⟨AB', cB', rfl⟩ := hown7.shape
 have hle7' := Hp.le_trans (Hp.le_push _ _) hle7
 obtain ⟨G8, hleG8, hown8⟩ := backB G7 H7 _ _ hle7' hown7
 have g8t := Xr hleG8 (by omega) (by intro e; cases e) g5t
 have h7t := Xr hown8.le (by have := hleG8.1; omega) (by intro e; cases e) g8t
 refine ⟨Yk, ?_⟩
 refine Xd rfl rfl (Yi rfl) Xq ?_
 refine Xd rfl rfl (Xf (off := 1) rfl Tryz.underlying91 rfl inf23.size (by decide) rfl) Xq ?_
 first | refine Ym rfl rfl (Y3 rfl rfl rfl inf23.size Yd Yg rfl ?_)
 refine ⟨Yk, ?_⟩
 refine Xe ?_
 obtain ⟨H9, hH9⟩ : ∃ H9, H9 = H7.put (K.size + 1) (.own 0 [.slice AA' (T.vars.take (i + 1)).length cA', .slice AB' (T.parent.take (i + 1)).length cB', .slice AC (T.links.take i).length cC, .map (some K.size)]) := ⟨_, rfl⟩
 obtain ⟨G9, hG9⟩ : ∃ G9, G9 = G8.put (K.size + 1) (.own 0 [.slice AA' (T.vars.take (i + 1)).length cA', .slice AB' (T.parent.take (i + 1)).length cB', .slice AC (T.links.take i).length cC, .map (some K.size)]) := ⟨_, rfl⟩
 have z8 := hleG8.1
 have hown9 := hown8.put_box (by omega) g8t [.slice AA' (T.vars.take (i + 1)).length cA', .slice AB' (T.parent.take (i + 1)).length cB', .slice AC (T.links.take i).length cC, .map (some K.size)]
 rw [← hG9, ← hH9] at hown9
 have leG9 : K.le G9 := by rw [hG9]; exact Hp.le_put_new (Hp.le_trans leG5 hleG8) (by omega) _
 have g9m : G9.get K.size = .map es := by rw [hG9, Hp.put_other _ _ (by omega)]; exact Xr hleG8 (by omega) (by intro e; cases e) g5m
 have g9t : G9.get (K.size + 1) = .own 0 [.slice AA' (T.vars.take (i + 1)).length cA', .slice AB' (T.parent.take (i + 1)).length cB', .slice AC (T.links.take i).length cC, .map (some K.size)] := by rw [hG9]; exact Hp.put_same _ _ _
 have z9 : K.size + 2 ≤ G9.size := by rw [hG9]; simp; omega
 change ACode true _ _ _ _ _ (H7.put (K.size + 1) (.own 0 [.slice AA' (T.vars.take (i + 1)).length cA', .slice AB' (T.parent.take (i + 1)).length cB', .slice AC (T.links.take i).length cC, .map (some K.size)]))
 rw [← hH9]
 have slG9 : Sl kLink G9 (.slice Aw (Zc f X w).length cw) (Zc f X w) := by
  rw [hG9]
  exact (slG5.mono hleG8.sees).mono (Hp.sees_box _ g8t)
 have hsl9 := slG9.mono hown9.le.sees
 have h9t := Xr hown9.le (by omega) (by intro e; cases e) g9t
 have zz9 := hown9.size
 clear hH9 hG9 hsameO
 refine Yy (by kernel_rfl) (Y4 (B := [0, 0, 2, 6, 14, 0, 32, 96, 254, 511, 1023, 2047]) (π := [0, 1, 2, 3, 4, 5, 6, 7, 8, 9, 10, 11]) (by kernel_rfl)) ?_
 refine Xd rfl rfl (X0 Xm) Xq ?_
 refine Xd rfl rfl (X0 Xm) Xq ?_
 refine Xd rfl rfl (Yi rfl) Xq ?_
 refine Xd rfl rfl (Xf (off := 2) rfl Tryz.underlying91 rfl inf27.size (by decide) rfl) Xq ?_
 refine Xd rfl rfl (Xk rfl Tryz.underlying27 rfl Xp) Xq ?_
 refine Xd rfl rfl (X1 rfl) Xq ?_
 refine Ym rfl rfl (Xy (Clone_links _ _ _ hsl9 hpll) rfl Tryz.func51 rfl rfl rfl ?_)
 rintro v10 H10 ⟨G10', hle10, hownL⟩; obtain ⟨AL, cL, rfl⟩ := hownL.shape; have hle10' := Hp.le_trans hle10 hownL.le; obtain ⟨G10, hleG10, hown10⟩ := hown9.later hle10'; have slL := hown10.below (Zn _) (Zn _) (Zn _) (by decide) (by decide) (by decide) hownL.sl; obtain ⟨Gc, hleGc, hoC, backC⟩ := (hown10.rot (stable_strs _) (stable_ints _)).open3; have slLc := slL.mono hleGc.sees; have zoC := hoC.size; have h10t := Xr hle10' (by omega) (by intro e; cases e) h9t; have z10 := hleG10.1; have zc := hleGc.1
 refine ⟨Yk, ?_⟩
 refine Zb rfl rfl (Yh (r := [.slice _ _ _]) Tryz.underlying27 inf83.size inf83.zero rfl (by decide) (by decide) (by decide) rfl) ?_
 refine Ym rfl rfl (OwnP.append (ys := [Zc f X w]) (hoC.push _) Tryz.underlying27 inf83 rfl rfl rfl (Zo (k := V1 kLink) ⟨_, rfl, slLc⟩ rfl hoC.size rfl) (by rw [lenC]; simp only [List.length_singleton]; omega) (by rw [lenC]; simp only [List.length_singleton]; omega) ?_)
 rintro v11 G11 H11 hle11 hown11
 have hsameO := OwnP.sameO (hoC.push _) hle11 hown11
 rw [take_at tl] at hown11
 obtain ⟨AC', cC', rfl⟩ := hown11.shape
 have hle11' := Hp.le_trans (Hp.le_push _ _) hle11
 obtain ⟨G12, hleG12, hown12⟩ := backC G11 H11 _ _ hle11' hown11
 have g10t := Xr hleG10 (by omega) (by intro e; cases e) g9t
 have g12t := Xr hleG12 (by omega) (by intro e; cases e) g10t
 have h11t := Xr hown12.le (by have := hleG12.1; omega) (by intro e; cases e) g12t
 refine ⟨Yk, ?_⟩
 refine Xd rfl rfl (Yi rfl) Xq ?_
 refine Xd rfl rfl (Xf (off := 2) rfl Tryz.underlying91 rfl inf27.size (by decide) rfl) Xq ?_
 first | refine Ym rfl rfl (Y3 rfl rfl rfl inf27.size Yd Yg rfl ?_)
 refine ⟨Yk, ?_⟩
 obtain ⟨H13, hH13⟩ : ∃ H13, H13 = H11.put (K.size + 1) (.own 0 [.slice AA' (T.vars.take (i + 1)).length cA', .slice AB' (T.parent.take (i + 1)).length cB', .slice AC' (T.links.take (i + 1)).length cC', .map (some K.size)]) := ⟨_, rfl⟩
 obtain ⟨G13, hG13⟩ : ∃ G13, G13 = G12.put (K.size + 1) (.own 0 [.slice AA' (T.vars.take (i + 1)).length cA', .slice AB' (T.parent.take (i + 1)).length cB', .slice AC' (T.links.take (i + 1)).length cC', .map (some K.size)]) := ⟨_, rfl⟩
 have z12 := hleG12.1
 have hown13 := hown12.put_box (by omega) g12t [.slice AA' (T.vars.take (i + 1)).length cA', .slice AB' (T.parent.take (i + 1)).length cB', .slice AC' (T.links.take (i + 1)).length cC', .map (some K.size)]
 rw [← hG13, ← hH13] at hown13
 have leG13 : K.le G13 := by rw [hG13]; exact Hp.le_put_new (Hp.le_trans leG9 (Hp.le_trans hleG10 hleG12)) (by omega) _
 have g13m : G13.get K.size = .map es := by rw [hG13, Hp.put_other _ _ (by omega)]; exact Xr (Hp.le_trans hleG10 hleG12) (by omega) (by intro e; cases e) g9m
 have g13t : G13.get (K.size + 1) = .own 0 [.slice AA' (T.vars.take (i + 1)).length cA', .slice AB' (T.parent.take (i + 1)).length cB', .slice AC' (T.links.take (i + 1)).length cC', .map (some K.size)] := by rw [hG13]; exact Hp.put_same _ _ _
 have z13 : K.size + 2 ≤ G13.size := by rw [hG13]; simp; omega
 change ACode true _ _ _ _ _ (H11.put (K.size + 1) (.own 0 [.slice AA' (T.vars.take (i + 1)).length cA', .slice AB' (T.parent.take (i + 1)).length cB', .slice AC' (T.links.take (i + 1)).length cC', .map (some K.size)]))
 rw [← hH13]
 have h13t := Xr hown13.le (by omega) (by intro e; cases e) g13t
 have h13m := Xr hown13.le (by omega) (by intro e; cases e) g13m
 have zz13 := hown13.size
 obtain ⟨sl1, sl2, sl3⟩ := hown13.sls
 clear hH13 hG13 hsameO
 have eP : (T.parent.take (i + 1)).getD i 0 = T.parent.getD i 0 := by rw [List.getD_eq_getElem?_getD, List.getD_eq_getElem?_getD, List.getElem?_take, if_pos (by omega)]
 have hiL : i < (T.links.take (i + 1)).length := by rw [List.length_take]; omega
 have eL : (T.links.take (i + 1))[i]'hiL = Zc f X w := by
  rw [List.getElem_take]
  exact (List.getElem?_eq_some_iff.1 tl).2
 have eL2 : T.links.getD i [] = Zc f X w := by rw [List.getD_eq_getElem?_getD, tl]; rfl
 refine Xu ?_
 refine Xa (X0 Xm) ?_
 refine Xa (Xb rfl) ?_
 refine Xw (Xy (group_tree (b := K.size + 1) (mb := K.size) (by omega) (by omega) h13t sl2 sl3 h13m i hiL (by rw [List.length_take]; omega) (by rw [eL]; exact hpll) (fun _ => by rw [eL]; exact hrise) hsp.keys (fun a => hsp.none i a (Nat.le_refl _))) rfl Tryz.func52 rfl rfl rfl ?_)
 rintro v14 H14 ⟨es', rfl, hes'⟩
 refine Xu ?_
 refine Xa (Yn Xm Xm Y0) ?_
 refine Xa (Xb rfl) ?_
 refine ⟨f.order.length - (i + 1), by omega, i + 1, G13.put K.size (.map es'), _, _, _, es', by omega, rfl, Hp.le_put_new leG13 (Nat.le_refl _) _, by simp; omega, Hp.put_same _ _ _, by rw [Hp.put_other _ _ (by omega)]; exact g13t, hown13.put_map (by omega) g13m es', hsp.step ?_, e2, e3, e7, e24, e25, rfl⟩
 rw [eP, eL] at hes'
 rw [eL2]
 exact hes'
 intro hc3
 have hpar : par f w = -1 := Decidable.not_not.1 (of_decide_eq_false hc3)
 have hpk : Zc f X w = nd X w := by unfold Zc; rw [if_pos hpar]
 have hpll : (Zc f X w).length ≤ 1000000 := by rw [hpk]; exact hnl
 have hrise : RiseA (Zc f X w) := by rw [hpk]; exact goodL_rise (hXg.ok w hwn).1
 obtain ⟨w10, hw10⟩ : ∃ w10, w10 = Value.slice An (nd X w).length cn := ⟨_, rfl⟩
 have hle2 := Hp.le_refl H1
 have hsl2 : Sl kLink H1 (.slice An (Zc f X w).length cn) (Zc f X w) := by rw [hpk]; exact hwN.mono leK1.sees
 rw [← hpk]
 obtain ⟨H2, e2'⟩ : ∃ H2, H2 = H1 := ⟨_, rfl⟩
 subst e2'
 obtain ⟨Aw, cw, eAw, eCw⟩ : ∃ Aw cw, Aw = An ∧ cw = cn := ⟨_, _, rfl, rfl⟩
 subst eAw
 subst eCw
 refine X9 ?_
 refine Xe ?_
 obtain ⟨G2, hleG2, hown2⟩ := hown.later hle2
 have leG2 := Hp.le_trans leG hleG2
 have leK2 := Hp.le_trans leK1 hle2
 have g2m := Xr hleG2 (by omega) (by intro e; cases e) gm
 have g2t := Xr hleG2 (by omega) (by intro e; cases e) gt
 have z2 := hleG2.1
 have zz2 := hown2.size
 obtain ⟨Ga, hleGa, hoA, backA⟩ := (hown2.rot (stable_ints _) stable_lists).open3
 obtain ⟨AA, cA, rfl⟩ := hoA.shape
 obtain ⟨slA, slB, slC⟩ := hown2.sls
 obtain ⟨AB, cB, rfl⟩ := slB.shape
 obtain ⟨AC, cC, rfl⟩ := slC.shape
 have lenA : (T.vars.take i).length = i := by rw [List.length_take]; omega
 have lenB : (T.parent.take i).length = i := by rw [List.length_take]; omega
 have lenC : (T.links.take i).length = i := by rw [List.length_take]; omega
 have h2t := Xr hown2.le (by omega) (by intro e; cases e) g2t
 have h20 := Xr leK2 (by omega) (by intro e; cases e) gK0
 obtain ⟨bs, os, ks, eS, hbs, rfl, hcellS⟩ := s0K.elem_at (i := w) hwn
 subst eS
 have hcellS' := leK2.cell1 hbs hcellS.one
 have zoA := hoA.size
 have za := hleGa.1
 have slG2 := hown2.below (Zn _) (Zn _) (Zn _) (by decide) (by decide) (by decide) hsl2
 refine Yy (by kernel_rfl) (Y4 (B := [0, 0, 2, 6, 14, 0, 32, 0, 224, 480, 992, 2046, 4095, 8191, 16383]) (π := [0, 1, 2, 3, 4, 5, 6, 7, 8, 9, 10, 11, 12, 13, 14]) (by kernel_rfl)) ?_
 refine Xd rfl rfl (X0 Xm) Xq ?_
 refine Xd rfl rfl (X0 Xm) Xq ?_
 refine Xd rfl rfl (Yi rfl) Xq ?_
 refine Xd rfl rfl (Xf (off := 0) rfl Tryz.underlying91 rfl inf22.size (by decide) rfl) Xq ?_
 refine Xd rfl rfl (Xk rfl Tryz.underlying22 rfl Xp) Xq ?_
 refine Xd rfl rfl (Xf (off := 0) Xm Tryz.underlying26 Xm inf22.size (by decide) Xm) Xq ?_
 refine Xd rfl rfl (Xk rfl Tryz.underlying22 rfl Xp) Xq ?_
 refine Xd rfl rfl (Xb rfl) Xq ?_
 refine Xd rfl rfl (Xt rfl rfl Tryz.underlying22 inf9.size X6 X6) Xq ?_
 refine Xd rfl rfl (Xk rfl Tryz.underlying9 rfl Xp) Xq ?_
 first | refine Zb rfl rfl (Yh (r := [.string _]) Tryz.underlying22 inf9.size inf9.zero rfl (by decide) (by decide) (by decide) rfl) ?_
 refine Ym rfl rfl (OwnP.append (ys := [f.vars[w]]) (hoA.push _) Tryz.underlying22 inf9 rfl rfl rfl (Zo (k := kStr) rfl rfl hoA.size rfl) (by rw [lenA]; simp only [List.length_singleton]; omega) (by rw [lenA]; simp only [List.length_singleton]; omega) ?_)
 rintro v3 G3 H3 hle3 hown3
 have hsameO := OwnP.sameO (hoA.push _) hle3 hown3
 have ev : f.vars.getD w ⟨#[]⟩ = f.vars[w] := by rw [List.getD_eq_getElem?_getD, List.getElem?_eq_getElem hwn]; rfl
 rw [← ev, take_at tv] at hown3
 obtain ⟨AA', cA', rfl⟩ := hown3.shape
 have hle3' := Hp.le_trans (Hp.le_push _ _) hle3
 obtain ⟨G4, hleG4, hown4⟩ := backA G3 H3 _ _ hle3' hown3
 have g4t := Xr hleG4 (by omega) (by intro e; cases e) g2t
 have h3t := Xr hown4.le (by have := hleG4.1; omega) (by intro e; cases e) g4t
 refine ⟨Yk, ?_⟩
 refine Xd rfl rfl (Yi rfl) Xq ?_
 refine Xd rfl rfl (Xf (off := 0) rfl Tryz.underlying91 rfl inf22.size (by decide) rfl) Xq ?_
 first | refine Ym rfl rfl (Y3 rfl rfl rfl inf22.size Yd Yg rfl ?_)
 refine ⟨Yk, ?_⟩
 refine Xe ?_
 obtain ⟨H5, hH5⟩ : ∃ H5, H5 = H3.put (K.size + 1) (.own 0 [.slice AA' (T.vars.take (i + 1)).length cA', .slice AB (T.parent.take i).length cB, .slice AC (T.links.take i).length cC, .map (some K.size)]) := ⟨_, rfl⟩
 obtain ⟨G5, hG5⟩ : ∃ G5, G5 = G4.put (K.size + 1) (.own 0 [.slice AA' (T.vars.take (i + 1)).length cA', .slice AB (T.parent.take i).length cB, .slice AC (T.links.take i).length cC, .map (some K.size)]) := ⟨_, rfl⟩
 have z4 := hleG4.1
 have hown5 := hown4.put_box (by omega) g4t [.slice AA' (T.vars.take (i + 1)).length cA', .slice AB (T.parent.take i).length cB, .slice AC (T.links.take i).length cC, .map (some K.size)]
 rw [← hG5, ← hH5] at hown5
 have leG5 : K.le G5 := by rw [hG5]; exact Hp.le_put_new (Hp.le_trans leG2 hleG4) (by omega) _
 have g5m : G5.get K.size = .map es := by rw [hG5, Hp.put_other _ _ (by omega)]; exact Xr hleG4 (by omega) (by intro e; cases e) g2m
 have g5t : G5.get (K.size + 1) = .own 0 [.slice AA' (T.vars.take (i + 1)).length cA', .slice AB (T.parent.take i).length cB, .slice AC (T.links.take i).length cC, .map (some K.size)] := by rw [hG5]; exact Hp.put_same _ _ _
 have z5 : K.size + 2 ≤ G5.size := by rw [hG5]; simp; omega
 change ACode true _ _ _ _ _ (H3.put (K.size + 1) (.own 0 [.slice AA' (T.vars.take (i + 1)).length cA', .slice AB (T.parent.take i).length cB, .slice AC (T.links.take i).length cC, .map (some K.size)]))
 rw [← hH5]
 have slG5 : Sl kLink G5 (.slice Aw (Zc f X w).length cw) (Zc f X w) := by
  rw [hG5]
  exact (slG2.mono hleG4.sees).mono (Hp.sees_box _ g4t)
 obtain ⟨Gb, hleGb, hoB, backB⟩ := (hown5.rot stable_lists (stable_strs _)).open3
 have leK5 := Hp.le_trans leG5 hown5.le
 have h5t := Xr hown5.le (by omega) (by intro e; cases e) g5t
 have h50 := Xr leK5 (by omega) (by intro e; cases e) gK0
 have hcell25 := leK5.cell1 hb2 hcell2
 have zoB := hoB.size
 have zz5 := hown5.size
 have zb := hleGb.1
 clear hH5 hG5 hsameO
 refine Yy (by kernel_rfl) (Y4 (B := [0, 0, 2, 6, 14, 0, 32, 0, 128, 0, 896, 1920, 4064, 8160, 16382, 32767, 65535, 131071]) (π := [0, 1, 2, 3, 4, 5, 6, 7, 8, 9, 10, 11, 12, 13, 14, 15, 16, 17]) (by kernel_rfl)) ?_
 refine Xd rfl rfl (X0 Xm) Xq ?_
 refine Xd rfl rfl (X0 Xm) Xq ?_
 refine Xd rfl rfl (Yi rfl) Xq ?_
 refine Xd rfl rfl (Xf (off := 1) rfl Tryz.underlying91 rfl inf23.size (by decide) rfl) Xq ?_
 refine Xd rfl rfl (Xk rfl Tryz.underlying23 rfl Xp) Xq ?_
 refine Xd rfl rfl (Xf (off := 1) Xm Tryz.underlying26 Xm inf23.size (by decide) Xm) Xq ?_
 refine Xd rfl rfl (Xk rfl Tryz.underlying23 rfl Xp) Xq ?_
 refine Xd rfl rfl (Xf (off := 2) Xm Tryz.underlying26 Xm inf23.size (by decide) Xm) Xq ?_
 refine Xd rfl rfl (Xk rfl Tryz.underlying23 rfl Xp) Xq ?_
 refine Xd rfl rfl (Xb rfl) Xq ?_
 refine Xd rfl rfl (Xt rfl rfl Tryz.underlying23 inf3.size X6 X6) Xq ?_
 refine Xd rfl rfl (Xk rfl Tryz.underlying3 rfl Xp) Xq ?_
 refine Ym rfl rfl (Xy (Index_ints f.order _ (par f w) _ (s1K.mono leK5.sees) (by omega)) rfl Tryz.func50 rfl rfl rfl ?_)
 rintro v6 H5 ⟨rfl, rfl⟩
 refine ⟨Yk, ?_⟩
 first | refine Zb rfl rfl (Yh (r := [.int .i64 _]) Tryz.underlying23 inf3.size inf3.zero rfl (by decide) (by decide) (by decide) rfl) ?_
 refine Ym rfl rfl (OwnP.append (ys := [atI f.order (par f w)]) (hoB.push _) Tryz.underlying23 inf3 rfl rfl rfl (Zo (k := Y1 .i64) rfl rfl hoB.size rfl) (by rw [lenB]; simp only [List.length_singleton]; omega) (by rw [lenB]; simp only [List.length_singleton]; omega) ?_)
 rintro v7 G7 H7 hle7 hown7
 have hsameO := OwnP.sameO (hoB.push _) hle7 hown7
 rw [take_at tp] at hown7
 obtain ⟨AB', cB', rfl⟩ := hown7.shape
 have hle7' := Hp.le_trans (Hp.le_push _ _) hle7
 obtain ⟨G8, hleG8, hown8⟩ := backB G7 H7 _ _ hle7' hown7
 have g8t := Xr hleG8 (by omega) (by intro e; cases e) g5t
 have h7t := Xr hown8.le (by have := hleG8.1; omega) (by intro e; cases e) g8t
 refine ⟨Yk, ?_⟩
 refine Xd rfl rfl (Yi rfl) Xq ?_
 refine Xd rfl rfl (Xf (off := 1) rfl Tryz.underlying91 rfl inf23.size (by decide) rfl) Xq ?_
 first | refine Ym rfl rfl (Y3 rfl rfl rfl inf23.size Yd Yg rfl ?_)
 refine ⟨Yk, ?_⟩
 refine Xe ?_
 obtain ⟨H9, hH9⟩ : ∃ H9, H9 = H7.put (K.size + 1) (.own 0 [.slice AA' (T.vars.take (i + 1)).length cA', .slice AB' (T.parent.take (i + 1)).length cB', .slice AC (T.links.take i).length cC, .map (some K.size)]) := ⟨_, rfl⟩
 obtain ⟨G9, hG9⟩ : ∃ G9, G9 = G8.put (K.size + 1) (.own 0 [.slice AA' (T.vars.take (i + 1)).length cA', .slice AB' (T.parent.take (i + 1)).length cB', .slice AC (T.links.take i).length cC, .map (some K.size)]) := ⟨_, rfl⟩
 have z8 := hleG8.1
 have hown9 := hown8.put_box (by omega) g8t [.slice AA' (T.vars.take (i + 1)).length cA', .slice AB' (T.parent.take (i + 1)).length cB', .slice AC (T.links.take i).length cC, .map (some K.size)]
 rw [← hG9, ← hH9] at hown9
 have leG9 : K.le G9 := by rw [hG9]; exact Hp.le_put_new (Hp.le_trans leG5 hleG8) (by omega) _
 have g9m : G9.get K.size = .map es := by rw [hG9, Hp.put_other _ _ (by omega)]; exact Xr hleG8 (by omega) (by intro e; cases e) g5m
 have g9t : G9.get (K.size + 1) = .own 0 [.slice AA' (T.vars.take (i + 1)).length cA', .slice AB' (T.parent.take (i + 1)).length cB', .slice AC (T.links.take i).length cC, .map (some K.size)] := by rw [hG9]; exact Hp.put_same _ _ _
 have z9 : K.size + 2 ≤ G9.size := by rw [hG9]; simp; omega
 change ACode true _ _ _ _ _ (H7.put (K.size + 1) (.own 0 [.slice AA' (T.vars.take (i + 1)).length cA', .slice AB' (T.parent.take (i + 1)).length cB', .slice AC (T.links.take i).length cC, .map (some K.size)]))
 rw [← hH9]
 have slG9 : Sl kLink G9 (.slice Aw (Zc f X w).length cw) (Zc f X w) := by
  rw [hG9]
  exact (slG5.mono hleG8.sees).mono (Hp.sees_box _ g8t)
 have hsl9 := slG9.mono hown9.le.sees
 have h9t := Xr hown9.le (by omega) (by intro e; cases e) g9t
 have zz9 := hown9.size
 clear hH9 hG9 hsameO
 refine Yy (by kernel_rfl) (Y4 (B := [0, 0, 2, 6, 14, 0, 32, 96, 254, 511, 1023, 2047]) (π := [0, 1, 2, 3, 4, 5, 6, 7, 8, 9, 10, 11]) (by kernel_rfl)) ?_
 refine Xd rfl rfl (X0 Xm) Xq ?_
 refine Xd rfl rfl (X0 Xm) Xq ?_
 refine Xd rfl rfl (Yi rfl) Xq ?_
 refine Xd rfl rfl (Xf (off := 2) rfl Tryz.underlying91 rfl inf27.size (by decide) rfl) Xq ?_
 refine Xd rfl rfl (Xk rfl Tryz.underlying27 rfl Xp) Xq ?_
 refine Xd rfl rfl (X1 rfl) Xq ?_
 refine Ym rfl rfl (Xy (Clone_links _ _ _ hsl9 hpll) rfl Tryz.func51 rfl rfl rfl ?_)
 rintro v10 H10 ⟨G10', hle10, hownL⟩; obtain ⟨AL, cL, rfl⟩ := hownL.shape; have hle10' := Hp.le_trans hle10 hownL.le; obtain ⟨G10, hleG10, hown10⟩ := hown9.later hle10'; have slL := hown10.below (Zn _) (Zn _) (Zn _) (by decide) (by decide) (by decide) hownL.sl; obtain ⟨Gc, hleGc, hoC, backC⟩ := (hown10.rot (stable_strs _) (stable_ints _)).open3; have slLc := slL.mono hleGc.sees; have zoC := hoC.size; have h10t := Xr hle10' (by omega) (by intro e; cases e) h9t; have z10 := hleG10.1; have zc := hleGc.1
 refine ⟨Yk, ?_⟩
 refine Zb rfl rfl (Yh (r := [.slice _ _ _]) Tryz.underlying27 inf83.size inf83.zero rfl (by decide) (by decide) (by decide) rfl) ?_
 refine Ym rfl rfl (OwnP.append (ys := [Zc f X w]) (hoC.push _) Tryz.underlying27 inf83 rfl rfl rfl (Zo (k := V1 kLink) ⟨_, rfl, slLc⟩ rfl hoC.size rfl) (by rw [lenC]; simp only [List.length_singleton]; omega) (by rw [lenC]; simp only [List.length_singleton]; omega) ?_)
 rintro v11 G11 H11 hle11 hown11
 have hsameO := OwnP.sameO (hoC.push _) hle11 hown11
 rw [take_at tl] at hown11
 obtain ⟨AC', cC', rfl⟩ := hown11.shape
 have hle11' := Hp.le_trans (Hp.le_push _ _) hle11
 obtain ⟨G12, hleG12, hown12⟩ := backC G11 H11 _ _ hle11' hown11
 have g10t := Xr hleG10 (by omega) (by intro e; cases e) g9t
 have g12t := Xr hleG12 (by omega) (by intro e; cases e) g10t
 have h11t := Xr hown12.le (by have := hleG12.1; omega) (by intro e; cases e) g12t
 refine ⟨Yk, ?_⟩
 refine Xd rfl rfl (Yi rfl) Xq ?_
 refine Xd rfl rfl (Xf (off := 2) rfl Tryz.underlying91 rfl inf27.size (by decide) rfl) Xq ?_
 first | refine Ym rfl rfl (Y3 rfl rfl rfl inf27.size Yd Yg rfl ?_)
 refine ⟨Yk, ?_⟩
 obtain ⟨H13, hH13⟩ : ∃ H13, H13 = H11.put (K.size + 1) (.own 0 [.slice AA' (T.vars.take (i + 1)).length cA', .slice AB' (T.parent.take (i + 1)).length cB', .slice AC' (T.links.take (i + 1)).length cC', .map (some K.size)]) := ⟨_, rfl⟩
 obtain ⟨G13, hG13⟩ : ∃ G13, G13 = G12.put (K.size + 1) (.own 0 [.slice AA' (T.vars.take (i + 1)).length cA', .slice AB' (T.parent.take (i + 1)).length cB', .slice AC' (T.links.take (i + 1)).length cC', .map (some K.size)]) := ⟨_, rfl⟩
 have z12 := hleG12.1
 have hown13 := hown12.put_box (by omega) g12t [.slice AA' (T.vars.take (i + 1)).length cA', .slice AB' (T.parent.take (i + 1)).length cB', .slice AC' (T.links.take (i + 1)).length cC', .map (some K.size)]
 rw [← hG13, ← hH13] at hown13
 have leG13 : K.le G13 := by rw [hG13]; exact Hp.le_put_new (Hp.le_trans leG9 (Hp.le_trans hleG10 hleG12)) (by omega) _
 have g13m : G13.get K.size = .map es := by rw [hG13, Hp.put_other _ _ (by omega)]; exact Xr (Hp.le_trans hleG10 hleG12) (by omega) (by intro e; cases e) g9m
 have g13t : G13.get (K.size + 1) = .own 0 [.slice AA' (T.vars.take (i + 1)).length cA', .slice AB' (T.parent.take (i + 1)).length cB', .slice AC' (T.links.take (i + 1)).length cC', .map (some K.size)] := by rw [hG13]; exact Hp.put_same _ _ _
 have z13 : K.size + 2 ≤ G13.size := by rw [hG13]; simp; omega
 change ACode true _ _ _ _ _ (H11.put (K.size + 1) (.own 0 [.slice AA' (T.vars.take (i + 1)).length cA', .slice AB' (T.parent.take (i + 1)).length cB', .slice AC' (T.links.take (i + 1)).length cC', .map (some K.size)]))
 rw [← hH13]
 have h13t := Xr hown13.le (by omega) (by intro e; cases e) g13t
 have h13m := Xr hown13.le (by omega) (by intro e; cases e) g13m
 have zz13 := hown13.size
 obtain ⟨sl1, sl2, sl3⟩ := hown13.sls
 clear hH13 hG13 hsameO
 have eP : (T.parent.take (i + 1)).getD i 0 = T.parent.getD i 0 := by rw [List.getD_eq_getElem?_getD, List.getD_eq_getElem?_getD, List.getElem?_take, if_pos (by omega)]
 have hiL : i < (T.links.take (i + 1)).length := by rw [List.length_take]; omega
 have eL : (T.links.take (i + 1))[i]'hiL = Zc f X w := by
  rw [List.getElem_take]
  exact (List.getElem?_eq_some_iff.1 tl).2
 have eL2 : T.links.getD i [] = Zc f X w := by rw [List.getD_eq_getElem?_getD, tl]; rfl
 refine Xu ?_
 refine Xa (X0 Xm) ?_
 refine Xa (Xb rfl) ?_
 refine Xw (Xy (group_tree (b := K.size + 1) (mb := K.size) (by omega) (by omega) h13t sl2 sl3 h13m i hiL (by rw [List.length_take]; omega) (by rw [eL]; exact hpll) (fun _ => by rw [eL]; exact hrise) hsp.keys (fun a => hsp.none i a (Nat.le_refl _))) rfl Tryz.func52 rfl rfl rfl ?_)
 rintro v14 H14 ⟨es', rfl, hes'⟩
 refine Xu ?_
 refine Xa (Yn Xm Xm Y0) ?_
 refine Xa (Xb rfl) ?_
 refine ⟨f.order.length - (i + 1), by omega, i + 1, G13.put K.size (.map es'), _, _, _, es', by omega, rfl, Hp.le_put_new leG13 (Nat.le_refl _) _, by simp; omega, Hp.put_same _ _ _, by rw [Hp.put_other _ _ (by omega)]; exact g13t, hown13.put_map (by omega) g13m es', hsp.step ?_, e2, e3, e7, e24, e25, rfl⟩
 rw [eP, eL] at hes'
 rw [eL2]
 exact hes'
 intro hc2
 (try simp only [Yt] at hc2)
 refine Yx ?_
 refine Xe ?_
 refine Xu ?_
 refine Xa (X0 Xm) ?_
 refine Xa (Z3 rfl) ?_
 refine Xa (Xi rfl) ?_
 refine X2 ?_
 obtain rfl : i = f.order.length := by omega
 obtain ⟨sl1, sl2, sl3⟩ := hown.sls
 rw [List.take_of_length_le (by omega)] at sl1 sl2 sl3
 have zz := hown.size
 exact ⟨_, Y8 (Xs rfl) (Xs rfl), Hp.le_trans leK leK1, true, .pointer (some ⟨K.size + 1, 0, none⟩), hg, rfl, by
  rw [if_pos rfl]
  exact ⟨K.size + 1, K.size, A, B, C, es, rfl, by omega, by omega, Xr hown.le (by omega) (by intro e; cases e) gt, sl1, sl2, sl3, Xr hown.le (by omega) (by intro e; cases e) gm, by rw [tl3]; exact hsp⟩⟩
theorem sl_one1 {α : Type} {k : Kd α} {H : Hp} {b c st : Nat} {x : α} {u : Value} (hg : H.get b = .own st [u]) (hb : b < H.size) (h1 : k.rep H x [u]) (hst : k.sz = st) : Sl k H (.slice (some ⟨b, 0, none⟩) 1 c) [x] :=
 Els.sl (xs := [x]) (cs := [u]) (Els.cons (c := [u]) h1 (Els.nil _ _ [])) (Hp.sees.refl _) hb hg hst

theorem New_good (f : Forest) (p : Parts) (cs ds : List Value) (H : Hp) (hp : kForest.rep H f cs) (hq : kParts.rep H p ds) (hsm : Small f p) (hch : Cheap p) (hG : GoodP f p) :
  ACalls Tryz.prog 13 #[.agg cs.toArray, .agg ds.toArray] H (fun r H' => H.le H' ∧ ∃ b, r = .tuple #[.pointer (some ⟨b, 0, none⟩), .int .i64 0] ∧ TreeR H' (.pointer (some ⟨b, 0, none⟩)) (Zg f (ofP f p))) :=
 (New_tree f p cs ds H hp hq hsm fun _ => hch).mono fun r H' ⟨hle, g, v, hg, hr, hv⟩ => by
  obtain rfl : g = true := hg.2 hG
  rw [if_pos rfl] at hv
  obtain ⟨b, _, _, _, _, _, rfl, _⟩ := id hv
  exact ⟨hle, b, hr, hv⟩
def Away (wb : Nat) (G G' : Hp) : Prop := (G.put wb .dead).le (G'.put wb .dead)
theorem Away.refl (wb : Nat) (G : Hp) : Away wb G G := Hp.le_refl _
theorem Away.trans {wb : Nat} {G G1 G2 : Hp} (h : Away wb G G1) (k : Away wb G1 G2) : Away wb G G2 := Hp.le_trans h k
theorem Away.of_le {wb : Nat} {G G' : Hp} (h : G.le G') : Away wb G G' := Hp.le_put_both h wb .dead
theorem Away.put {wb : Nat} {G G' : Hp} (h : Away wb G G') (x : Blk) : Away wb G (G'.put wb x) := by
 unfold Away at h ⊢
 rw [Hp.put_put]; exact h
theorem Away.size {wb : Nat} {G G' : Hp} (h : Away wb G G') : G.size ≤ G'.size := h.1
theorem Away.keep {wb : Nat} {G G' : Hp} (h : Away wb G G') {b : Nat} {x : Blk} (hb : b < G.size) (hne : b ≠ wb) (hd : x ≠ .dead) (hg : G.get b = x) : G'.get b = x := by
 have := h.2 b hb (by rw [Hp.put_other _ _ hne, hg]; exact hd)
 rw [Hp.put_other _ _ hne, Hp.put_other _ _ hne] at this
 rw [this, hg]
theorem Away.base {wb : Nat} {K G G' : Hp} (h : Away wb G G') (hk : K.le G) (hw : K.size ≤ wb) : K.le G' :=
 ⟨Nat.le_trans hk.1 h.1, fun b hb hd => h.keep (Nat.lt_of_lt_of_le hb hk.1) (by omega) hd (hk.2 b hb hd)⟩
theorem Away.sees {wb : Nat} {G G' : Hp} (h : Away wb G G') {cs : List Value} (hg : G.get wb = .own 0 cs) : G.sees G' := by
 have h1 := (Hp.sees_any G hg .dead).trans (Hp.le.sees h)
 have h2 := h1.dead (Hp.put_same _ _ _) (G'.get wb)
 rwa [Hp.put_put, Hp.put_self _ rfl] at h2
theorem Away.tree {wb : Nat} {G G' : Hp} (h : Away wb G G') {a b c d e : Value} (hg : G.get wb = .own 0 [a, b, c, d, e]) {v : Value} {T : TreeT} (ht : TreeR G v T) : TreeR G' v T := by
 have hs := h.sees hg
 obtain ⟨tb, mb, s0, s1, s2, es, rfl, h1, h2, h3, h4, h5, h6, h7, h8⟩ := ht
 have n1 : tb ≠ wb := fun e => by rw [e, hg] at h3; simp at h3
 have n2 : mb ≠ wb := fun e => by rw [e, hg] at h7; cases h7
 exact ⟨tb, mb, s0, s1, s2, es, rfl, Nat.lt_of_lt_of_le h1 h.size, Nat.lt_of_lt_of_le h2 h.size, h.keep h1 n1 (by intro e; cases e) h3, h4.mono hs, h5.mono hs, h6.mono hs, h.keep h2 n2 (by intro e; cases e) h7, h8⟩
def Ub (G H : Hp) (wb : Nat) (tv : Value) (S : Z6) : Prop := ∃ B c, wb < G.size ∧ G.get wb = .own 0 [tv, .slice B S.nodes.length c, .bool S.back, .bool S.over, .int .i64 S.steps] ∧ OwnP (Y1 .i64) G H (.slice B S.nodes.length c) S.nodes
def Uy (o : Option RowT) : List Int := (o.map RowT.nodes).getD []
def rowC (o : Option RowT) : Int := (o.map RowT.cost).getD 0
def rowM (o : Option RowT) : Int := (o.map RowT.n).getD 0
def RowO (G : Hp) (r : Value) (o : Option RowT) : Prop := ∃ A c, r = .tuple #[.agg #[.slice A (Uy o).length c, .int .i64 (rowC o), .int .u64 (rowM o)], .bool o.isSome] ∧ Sl (Y1 .i64) G (.slice A (Uy o).length c) (Uy o)
theorem Ui (G : Hp) : RowO G (.tuple #[.agg #[.slice none 0 0, .int .i64 0, .int .u64 0], .bool false]) none := ⟨none, 0, rfl, Sl.nil _ _⟩
theorem Row_rowT {T : TreeT} {v u : Value} {ns : List Int} {H : Hp} (ht : TreeR H v T) (hT : GoodT T) (hs : Sl (Y1 .i64) H u ns) (hl : ns.length ≤ 1000000) :
  ACalls Tryz.prog 72 #[v, u] H (fun r H' => ∃ G1 A c, H.le G1 ∧ r = .tuple #[.agg #[.slice A (Uy (Vm T ns)).length c, .int .i64 (rowC (Vm T ns)), .int .u64 (rowM (Vm T ns))], .bool (Vm T ns).isSome] ∧ OwnP (Y1 .i64) G1 H' (.slice A (Uy (Vm T ns)).length c) (Uy (Vm T ns))) :=
 (Row_tree ht hT hs hl).mono fun r H' ⟨hle, w, hr⟩ => by
  unfold Vm
  split at hr
  ·rename_i h
   rw [if_pos h]
   cases hc : Z4 T ns T.vars.length with
   | none => rw [hc] at hr; exact ⟨H', none, 0, hle, hr, OwnP.nil _ _⟩
   | some cn =>
    rw [hc] at hr
    obtain ⟨rfl, G1, l1, o1⟩ := hr
    obtain ⟨A, c, rfl⟩ := o1.shape
    exact ⟨G1, A, c, l1, rfl, o1⟩
  ·rename_i h
   rw [if_neg h]
   exact ⟨H', none, 0, hle, hr, OwnP.nil _ _⟩
theorem fresh_tree (tb : Nat) (H : Hp) : ACalls Tryz.prog 115 #[.pointer (some ⟨tb, 0, none⟩)] H (fun r H' => r = .pointer (some ⟨H.size, 0, none⟩) ∧ H.le H' ∧ Ub H' H' H.size (.pointer (some ⟨tb, 0, none⟩)) ⟨[], false, false, 0⟩) := by
 refine Xv Tryz.func115 rfl rfl rfl (by simp) ?_
 refine Xe ?_
 refine Xu ?_
 refine Xa (Z3 rfl) ?_
 refine Xe ?_
 refine Xu ?_
 refine Xa (X0 rfl) ?_
 refine Xa (Y6 (pl := [(0, 1), (1, 1), (2, 1), (3, 1), (4, 1)]) (r := [.pointer _, .slice _ _ _, .bool _, .bool _, .int .i64 _]) Tryz.underlying167 inf167.zero (by decide) rfl rfl) ?_
 refine Xz (Yw rfl) ?_
 refine Xa (Z3 rfl) ?_
 refine Xe ?_
 refine Xu ?_
 refine Xa (X0 rfl) ?_
 refine Xa (X0 rfl) ?_
 refine Xa (Un rfl t_spot rfl Tryz.underlying37) ?_
 refine Xa (Yi rfl) ?_
 refine Xa (Xf (off := 3) rfl Tryz.underlying167 rfl inf4.size (by decide) rfl) ?_
 first | refine Xw (Y3 rfl rfl rfl inf4.size Yd Yg rfl ?_)
 refine Xe ?_
 refine Xu ?_
 refine Xa (X0 rfl) ?_
 refine Xa (Z3 rfl) ?_
 refine X2 ?_
 exact ⟨_, Xx (Xs rfl), rfl, Hp.le_put_new (H.le_push _) (Nat.le_refl _) _, none, 0, by simp, Hp.put_same _ _ _, OwnP.nil _ _⟩
theorem above_walk {T : TreeT} (hT : GoodT T) {tv : Value} {S : Z6} {wb : Nat} {G H : Hp} (hW : Ub G H wb tv S) (ht : TreeR G tv T) (i : Nat) (hi : i < T.vars.length) (hl : i ≤ S.nodes.length) :
  ACalls Tryz.prog 118 #[.pointer (some ⟨wb, 0, none⟩), .int .i64 i] H (fun r H' => r = .int .i64 (Yp T S.nodes i) ∧ H' = H) := by
 obtain ⟨B, c, hwb, gw, hown⟩ := hW
 have hw := Xr hown.le hwb (by intro e; cases e) gw
 have hp := hT.par i hi
 obtain ⟨tb, _, _, _, _, _, etv, _⟩ := id ht
 subst etv
 refine Xv Tryz.func118 rfl rfl rfl (by simp) ?_
 refine Xe ?_
 refine Xu ?_
 refine Xa (Xi rfl) ?_
 refine Xe ?_
 refine Xe ?_
 refine Xu ?_
 refine Xa (X0 rfl) ?_
 refine Xa (Yi rfl) ?_
 refine Xa (Xf (off := 0) rfl Tryz.underlying167 rfl inf37.size (by decide) rfl) ?_
 refine Xa (Xk rfl Tryz.underlying37 rfl Xp) ?_
 refine Xa (Xb rfl) ?_
 refine Xw (Xy (Parent_tree (ht.mono hown.le) hT.l1 (i : Int)) rfl Tryz.func121 rfl rfl rfl ?_)
 rintro v6 H ⟨rfl, rfl⟩; rw [if_pos ⟨by omega, by omega⟩, Int.toNat_natCast]
 refine Xa (Xi rfl) ?_
 refine Xe ?_
 refine Xu ?_
 refine Xa (Xb rfl) ?_
 refine Xa (Zw rfl rfl) ?_
 refine X5 rfl rfl ?_ ?_
 intro hc1
 have hne : T.parent.getD i 0 ≠ -1 := of_decide_eq_true hc1
 have hpr := hp.resolve_left hne
 obtain ⟨b, o, rfl, hb, hcell⟩ := hown.sl.int_at (i := T.parent.getD i 0) hpr.1 (by omega)
 refine Xe ?_
 refine Xu ?_
 refine Xa (X0 rfl) ?_
 refine Xa (Yi rfl) ?_
 refine Xa (Xf (off := 1) rfl Tryz.underlying167 rfl inf23.size (by decide) rfl) ?_
 refine Xa (Xk rfl Tryz.underlying23 rfl Xp) ?_
 refine Xa (Xb rfl) ?_
 refine Xa (Xt rfl rfl Tryz.underlying23 inf3.size X6 X6) ?_
 refine Xa (Xk rfl Tryz.underlying3 rfl Xp) ?_
 refine Xa (Xi rfl) ?_
 refine X2 ?_
 exact ⟨.int .i64 (S.nodes.getD (T.parent.getD i 0).toNat 0), Xx (Xs rfl), by unfold Yp; rw [if_neg hne], rfl⟩
 intro hc1
 have hne : T.parent.getD i 0 = -1 := Decidable.not_not.1 (of_decide_eq_false hc1)
 refine X9 ?_
 refine Xe ?_
 refine Xu ?_
 refine Xa (Xi rfl) ?_
 refine X2 ?_
 exact ⟨.int .i64 (-1), Xx (Xs rfl), by unfold Yp; rw [if_pos hne], rfl⟩
theorem row_walk {T : TreeT} (hT : GoodT T) {tv : Value} {S : Z6} {wb : Nat} {G H : Hp} (hW : Ub G H wb tv S) (ht : TreeR G tv T) (hl : S.nodes.length ≤ 1000000) :
  ACalls Tryz.prog 138 #[.pointer (some ⟨wb, 0, none⟩)] H (fun r H' => ∃ G', G.le G' ∧ Ub G' H' wb tv S ∧ RowO G' r (Vm T S.nodes)) := by
 obtain ⟨B, c, hwb, gw, hown⟩ := hW
 have hw := Xr hown.le hwb (by intro e; cases e) gw
 have zz := hown.size
 obtain ⟨tb, _, _, _, _, _, etv, _⟩ := id ht
 subst etv
 have hownP := hown.push (.own 0 [.slice none 0 0, .int .i64 0, .int .u64 0])
 refine Xv Tryz.func138 rfl rfl rfl (by simp) ?_
 refine Xe ?_
 refine Xu ?_
 refine Xz (Yz (l := [.slice none 0 0, .int .i64 0, .int .u64 0]) inf46.zero rfl (by decide)) ?_
 refine Xa (Xn rfl) ?_
 refine Xe ?_
 refine Yy (by kernel_rfl) (Y4 (B := [0, 1, 3, 7, 0, 16, 48, 112, 255, 511, 511, 2047, 4095]) (π := [0, 1, 2, 3, 4, 5, 6, 7, 8, 9, 10, 11, 12]) (by kernel_rfl)) ?_
 refine Xd rfl rfl (X0 rfl) Xq ?_
 refine Xd rfl rfl (Yi rfl) Xq ?_
 refine Xd rfl rfl (Xf (off := 0) rfl Tryz.underlying167 rfl inf37.size (by decide) rfl) Xq ?_
 refine Xd rfl rfl (Xk rfl Tryz.underlying37 rfl Xp) Xq ?_
 refine Xd rfl rfl (X0 rfl) Xq ?_
 refine Xd rfl rfl (Yi rfl) Xq ?_
 refine Xd rfl rfl (Xf (off := 1) rfl Tryz.underlying167 rfl inf23.size (by decide) rfl) Xq ?_
 refine Xd rfl rfl (Xk rfl Tryz.underlying23 rfl Xp) Xq ?_
 refine Ym rfl rfl (Xy (Row_rowT ((ht.mono hown.le).mono (H.le_push _)) hT (hown.sl.mono (H.le_push _).sees) hl) rfl Tryz.func72 rfl rfl rfl ?_)
 rintro v6 H6 ⟨G1, A1, k1, le1, rfl, own1⟩; have le6 := Hp.le_trans le1 own1.le; have z6 := le6.1; simp only [Hp.push_size] at z6; have g6 : H6.get H.size = .own 0 [.slice none 0 0, .int .i64 0, .int .u64 0] := Xr le6 (by simp) (by intro e; cases e) Yd
 refine ⟨Yk, ?_⟩
 refine Xd rfl rfl (Yj rfl rfl) Xq ?_
 refine Xd rfl rfl (Yj rfl rfl) Xq ?_
 refine Ym rfl rfl (Yf (vs := [.slice _ _ _, .int .i64 _, .int .u64 _]) rfl rfl inf46.size Yd Yg rfl rfl ?_)
 refine ⟨Yk, ?_⟩
 refine Xd rfl rfl (Xn rfl) Xq ?_
 refine X2 ?_
 obtain ⟨G2, l2, o2⟩ := hownP.later le1
 obtain ⟨G3, o3, o4⟩ := OwnP.swap2 (stable_ints _) o2 own1
 have z2 := l2.1
 simp only [Hp.push_size] at z2
 have k2 : G2.get H.size = .own 0 [.slice none 0 0, .int .i64 0, .int .u64 0] := by
  have h1 : (G.push (.own 0 [.slice none 0 0, .int .i64 0, .int .u64 0])).get H.size = .own 0 [.slice none 0 0, .int .i64 0, .int .u64 0] := by rw [zz]; exact Hp.push_new _ _
  exact Xr l2 (by rw [zz]; simp) (by intro e; cases e) h1
 have k3 := Xr o3.le (by omega) (by intro e; cases e) k2
 have gw2 : G2.get wb = _ := Xr l2 (by simp; omega) (by intro e; cases e) ((Hp.push_old _ _ hwb).trans gw)
 have gw3 := Xr o3.le (by omega) (by intro e; cases e) gw2
 have z3 := o3.size
 exact ⟨_, Y8 (Yq Xm (Yo (cs := [_, _, _]) Tryz.underlying46 rfl inf46.size X8)) (Xs rfl), G3.put H.size _, Hp.le_put_new (Hp.le_trans (G.le_push _) (Hp.le_trans l2 o3.le)) (by omega) _, ⟨B, c, by simp; omega, by rw [Hp.put_other _ _ (by omega)]; exact gw3, o4.put (by rw [k3]; intro e; cases e) _ (Hp.sees_box _ k3)⟩, A1, k1, rfl, o3.sl.mono (Hp.sees_box _ k3)⟩
theorem Away.put_new {wb : Nat} {G G' : Hp} (h : Away wb G G') {b : Nat} (hb : G.size ≤ b) (hne : b ≠ wb) (x : Blk) : Away wb G (G'.put b x) := by
 unfold Away at h ⊢
 rw [Hp.put_comm _ hne]
 exact Hp.le_put_new h hb x
theorem Away.push {wb : Nat} {G G' : Hp} (h : Away wb G G') (hw : wb < G'.size) (x : Blk) : Away wb G (G'.push x) := h.trans (.of_le (G'.le_push x))
set_option maxHeartbeats 1000000 in
theorem on_walk {T : TreeT} (hT : GoodT T) {tv : Value} {S : Z6} {wb : Nat} {G H : Hp} (hW : Ub G H wb tv S) (ht : TreeR G tv T) (hl : S.nodes.length ≤ T.vars.length) :
  ACalls Tryz.prog 148 #[.pointer (some ⟨wb, 0, none⟩)] H (fun r H' => ∃ G', Away wb G G' ∧ Ub G' H' wb tv (onS T S).1 ∧ RowO G' r (onS T S).2) := by
 have hfew := hT.few
 have hW1 : Ub (G.push (.own 0 [.slice none 0 0, .int .i64 0, .int .u64 0])) (H.push (.own 0 [.slice none 0 0, .int .i64 0, .int .u64 0])) wb tv S := by
  obtain ⟨B, c, hwb, gw, hown⟩ := hW
  exact ⟨B, c, by simp; omega, (Hp.push_old _ _ hwb).trans gw, hown.push _⟩
 have aw1 : Away wb G (G.push (.own 0 [.slice none 0 0, .int .i64 0, .int .u64 0])) := .of_le (G.le_push _)
 have ht1 := ht.mono (G.le_push (.own 0 [.slice none 0 0, .int .i64 0, .int .u64 0]))
 have gz1 : (G.push (.own 0 [.slice none 0 0, .int .i64 0, .int .u64 0])).get G.size = .own 0 [.slice none 0 0, .int .i64 0, .int .u64 0] := Hp.push_new _ _
 have zz0 : H.size = G.size := by obtain ⟨_, _, _, _, hown⟩ := hW; exact hown.size
 have zs1 : (G.push (.own 0 [.slice none 0 0, .int .i64 0, .int .u64 0])).size = G.size + 1 := by simp
 have hwb0 : wb < G.size := by obtain ⟨_, _, h, _, _⟩ := hW; exact h
 obtain ⟨tb, _, _, _, _, _, etv, _⟩ := id ht
 subst etv
 obtain ⟨G1, hG1⟩ : ∃ G1, G1 = G.push (.own 0 [.slice none 0 0, .int .i64 0, .int .u64 0]) := ⟨_, rfl⟩
 obtain ⟨H1, hH1⟩ : ∃ H1, H1 = H.push (.own 0 [.slice none 0 0, .int .i64 0, .int .u64 0]) := ⟨_, rfl⟩
 rw [← hG1, ← hH1] at hW1
 rw [← hG1] at aw1 ht1 gz1 zs1
 obtain ⟨B, c, hwb1, gw1, hown1⟩ := id hW1
 have hw1 := Xr hown1.le hwb1 (by intro e; cases e) gw1
 have hz1 := Xr hown1.le (by omega) (by intro e; cases e) gz1
 have zz1 := hown1.size
 clear hW ht
 refine Xv Tryz.func148 rfl rfl rfl (by simp) ?_
 refine Xe ?_
 refine Xu ?_
 refine Xz (Yz (l := [.slice none 0 0, .int .i64 0, .int .u64 0]) inf46.zero rfl (by decide)) ?_
 refine Xa (Xn rfl) ?_
 refine Xe ?_
 change ACode true _ _ _ _ _ (H.push (.own 0 [.slice none 0 0, .int .i64 0, .int .u64 0]))
 rw [← hH1, zz0]
 refine Xu ?_
 refine Xa (X0 rfl) ?_
 refine Xa (Yi rfl) ?_
 refine Xa (Xf (off := 1) rfl Tryz.underlying167 rfl inf23.size (by decide) rfl) ?_
 refine Xa (Xk rfl Tryz.underlying23 rfl Xp) ?_
 refine Xa (Ys rfl Tryz.underlying23) ?_
 refine Xa (Xi rfl) ?_
 refine Xe ?_
 refine Xe ?_
 refine Xu ?_
 refine Xa (Xb rfl) ?_
 refine Xa (X0 rfl) ?_
 refine Xa (Yi rfl) ?_
 refine Xa (Xf (off := 0) rfl Tryz.underlying167 rfl inf37.size (by decide) rfl) ?_
 refine Xa (Xk rfl Tryz.underlying37 rfl Xp) ?_
 refine Xw (Xy (Len_tree (ht1.mono hown1.le)) rfl Tryz.func62 rfl rfl rfl ?_)
 rintro v5 H1 ⟨rfl, rfl⟩
 refine Xa (Zx rfl rfl) ?_
 refine X5 rfl rfl ?_ ?_
 intro hc1
 have hfull : S.nodes.length = T.vars.length := by have := of_decide_eq_true hc1; omega
 have hon : onS T S = (⟨S.nodes, true, S.over, S.steps⟩, Vm T S.nodes) := by unfold onS; rw [if_pos hfull]
 refine Xe ?_
 refine Xu ?_
 refine Xa (X0 rfl) ?_
 refine Xa (Yi rfl) ?_
 refine Xa (Xf (off := 2) rfl Tryz.underlying167 rfl inf4.size (by decide) rfl) ?_
 first | refine Xw (Y3 rfl rfl rfl inf4.size Yd Yg rfl ?_)
 refine Xe ?_
 have hW2 : Ub (G1.put wb (.own 0 [.pointer (some ⟨tb, 0, none⟩), .slice B S.nodes.length c, .bool true, .bool S.over, .int .i64 S.steps])) (H1.put wb (.own 0 [.pointer (some ⟨tb, 0, none⟩), .slice B S.nodes.length c, .bool true, .bool S.over, .int .i64 S.steps])) wb (.pointer (some ⟨tb, 0, none⟩)) ⟨S.nodes, true, S.over, S.steps⟩ :=
  ⟨B, c, by simpa using hwb1, Hp.put_same _ _ _, hown1.put (by rw [gw1]; intro e; cases e) _ (Hp.sees_box _ gw1)⟩
 have ht2 := (Away.put (.refl wb G1) (.own 0 [.pointer (some ⟨tb, 0, none⟩), .slice B S.nodes.length c, .bool true, .bool S.over, .int .i64 S.steps])).tree gw1 ht1
 refine Xu ?_
 refine Xa (X0 rfl) ?_
 refine Xw (Xy (row_walk hT hW2 ht2 (by show S.nodes.length ≤ _; omega)) rfl Tryz.func138 rfl rfl rfl ?_)
 rintro v6 H3 ⟨G3, le3, ⟨B3, c3, hwb3, gw3, hown3⟩, A3, k3, rfl, sl3⟩; have z3 := le3.1; simp only [Hp.put_size] at z3; have gz3 := Xr le3 (by simp; omega) (by intro e; cases e) ((Hp.put_other _ _ (by omega)).trans gz1); have hz3 := Xr hown3.le (by omega) (by intro e; cases e) gz3; have zz3 := hown3.size
 refine Xa (Yj rfl rfl) ?_
 refine Xa (Yj rfl rfl) ?_
 refine Xw (Yf (vs := [.slice _ _ _, .int .i64 _, .int .u64 _]) rfl rfl inf46.size Yd Yg rfl rfl ?_)
 refine Xa (Xn rfl) ?_
 refine X2 ?_
 rw [hon]
 exact ⟨_, Y8 (Yq Xm (Yo (cs := [_, _, _]) Tryz.underlying46 rfl inf46.size X8)) (Xs rfl), G3.put G.size _, ((aw1.put _).trans (.of_le le3)).put_new (Nat.le_refl _) (by omega) _, ⟨B3, c3, by simpa using hwb3, by rw [Hp.put_other _ _ (by omega)]; exact gw3, hown3.put (by rw [gz3]; intro e; cases e) _ (Hp.sees_box _ gz3)⟩, A3, k3, rfl, sl3.mono (Hp.sees_box _ gz3)⟩
 intro hc1
 have hfull : ¬ S.nodes.length = T.vars.length := by have := of_decide_eq_false hc1; omega
 have hlt : S.nodes.length < T.vars.length := by omega
 refine X9 ?_
 refine Xe ?_
 refine Yy (by kernel_rfl) (Y4 (B := [0, 1, 3, 7, 0, 0, 0, 96, 255, 511]) (π := [0, 1, 2, 3, 4, 5, 6, 7, 8, 9]) (by kernel_rfl)) ?_
 refine Xd rfl rfl (X0 rfl) Xq ?_
 refine Xd rfl rfl (Yi rfl) Xq ?_
 refine Xd rfl rfl (Xf (off := 0) rfl Tryz.underlying167 rfl inf37.size (by decide) rfl) Xq ?_
 refine Xd rfl rfl (Xk rfl Tryz.underlying37 rfl Xp) Xq ?_
 refine Xd rfl rfl (Xb rfl) Xq ?_
 refine Xd rfl rfl (X0 rfl) Xq ?_
 refine Xd rfl rfl (Xb rfl) Xq ?_
 refine Ym rfl rfl (Xy (above_walk hT hW1 ht1 S.nodes.length hlt (Nat.le_refl _)) rfl Tryz.func118 rfl rfl rfl ?_)
 rintro v7 H1 ⟨rfl, rfl⟩
 refine ⟨Yk, ?_⟩
 refine Ym rfl rfl (Xy (Group_tree (ht1.mono hown1.le) hT.l1 hT.l2 hT.lens (S.nodes.length : Int) _) rfl Tryz.func91 rfl rfl rfl ?_)
 rintro v8 H3 ⟨GL, leL, hownL⟩; obtain ⟨L, hL⟩ : ∃ L, L = T.group S.nodes.length (Yp T S.nodes S.nodes.length) := ⟨_, rfl⟩; rw [← hL] at hownL; have slL := hownL.sl; obtain ⟨AL, cL, rfl⟩ := slL.shape; have le13 := Hp.le_trans leL hownL.le; obtain ⟨G3, le3, hown3⟩ := hown1.later le13; have slG := hown3.below (Zn _) (by decide) slL
 refine ⟨Yk, ?_⟩
 refine Xd rfl rfl (Yc rfl) Xq ?_
 refine Xe ?_
 refine Xe ?_
 have z3 := le3.1
 have zz3 := hown3.size
 have gw3 := Xr le3 hwb1 (by intro e; cases e) gw1
 have gz3 := Xr le3 (by omega) (by intro e; cases e) gz1
 have hw3 := Xr hown3.le (by omega) (by intro e; cases e) gw3
 have hz3 := Xr hown3.le (by omega) (by intro e; cases e) gz3
 have aw3 := aw1.trans (.of_le le3)
 have ht3 := ht1.mono le3
 refine Xu ?_
 refine Xa (X1 rfl) ?_
 refine Xa (Ys rfl Tryz.underlying83) ?_
 refine Xa (Zx rfl rfl) ?_
 refine X5 rfl rfl ?_ ?_
 intro hc2
 have hnil : L = [] := List.eq_nil_of_length_eq_zero (by have := of_decide_eq_true hc2; omega)
 have hon : onS T S = (⟨S.nodes, true, S.over, S.steps⟩, none) := by unfold onS; rw [if_neg hfull, ← hL, hnil]
 refine Xe ?_
 refine Xu ?_
 refine Xa (X0 rfl) ?_
 refine Xa (Yi rfl) ?_
 refine Xa (Xf (off := 2) rfl Tryz.underlying167 rfl inf4.size (by decide) rfl) ?_
 first | refine Xw (Y3 rfl rfl rfl inf4.size Yd Yg rfl ?_)
 refine Xe ?_
 refine Xu ?_
 refine Xa (Y6 (pl := [(0, 1), (1, 1), (2, 1)]) (r := [.slice _ _ _, .int .i64 _, .int .u64 _]) Tryz.underlying46 inf46.zero (by decide) rfl rfl) ?_
 refine Xw (Yf (vs := [.slice _ _ _, .int .i64 _, .int .u64 _]) rfl rfl inf46.size Yd Yg rfl rfl ?_)
 refine Xa (Xn rfl) ?_
 refine X2 ?_
 rw [hon]
 exact ⟨_, Y8 (Yq Xm (Yo (cs := [_, _, _]) Tryz.underlying46 rfl inf46.size X8)) (Xs rfl), (G3.put wb _).put G.size _, (aw3.put _).put_new (Nat.le_refl _) (by omega) _, ⟨B, c, by simp; omega, by rw [Hp.put_other _ _ (by omega)]; exact Hp.put_same _ _ _, (hown3.put (by rw [gw3]; intro e; cases e) _ (Hp.sees_box _ gw3)).put (by rw [Hp.put_other _ _ (by omega), gz3]; intro e; cases e) _ (Hp.sees_box (cs := [.slice none 0 0, .int .i64 0, .int .u64 0]) _ (by rw [Hp.put_other _ _ (by omega)]; exact gz3))⟩, Ui _⟩
 intro hc2
 have hpos : 0 < L.length := by have := of_decide_eq_false hc2; omega
 obtain ⟨l, ls, hls⟩ : ∃ l ls, L = l :: ls := by cases L with | nil => simp at hpos | cons l ls => exact ⟨l, ls, rfl⟩
 obtain ⟨bl, ol, el, hbl, hcl⟩ := slL.link_at hpos
 subst el
 have hl0 : L[0] = l := by simp only [hls, List.getElem_cons_zero]
 rw [hl0] at hcl
 have hclb := hcl 1 _ rfl
 refine X9 ?_
 refine Xe ?_
 refine Yy (by kernel_rfl) (Y4 (B := [0, 0, 2, 6, 14, 0, 32, 96, 224, 480, 1022, 2047, 4095, 8191]) (π := [0, 1, 2, 3, 4, 5, 6, 7, 8, 9, 10, 11, 12, 13]) (by kernel_rfl)) ?_
 refine Xd rfl rfl (X0 rfl) Xq ?_
 refine Xd rfl rfl (X0 rfl) Xq ?_
 refine Xd rfl rfl (Yi rfl) Xq ?_
 refine Xd rfl rfl (Xf (off := 1) rfl Tryz.underlying167 rfl inf23.size (by decide) rfl) Xq ?_
 refine Xd rfl rfl (Xk rfl Tryz.underlying23 rfl Xp) Xq ?_
 refine Xd rfl rfl (X1 rfl) Xq ?_
 refine Xd rfl rfl (Xt rfl rfl Tryz.underlying83 inf96.size X6 X6) Xq ?_
 refine Xd rfl rfl (Xf (off := 1) rfl Tryz.underlying96 rfl inf3.size (by decide) rfl) Xq ?_
 refine Xd rfl rfl (Xk rfl Tryz.underlying3 rfl Xp) Xq ?_
 first | refine Zb rfl rfl (Yh (r := [.int .i64 _]) Tryz.underlying23 inf3.size inf3.zero rfl (by decide) (by decide) (by decide) rfl) ?_
 refine Ym rfl rfl (OwnP.append (ys := [l.b]) (hown3.push _) Tryz.underlying23 inf3 rfl rfl rfl (Zo (k := Y1 .i64) rfl rfl hown3.size rfl) (by simp only [List.length_singleton]; omega) (by simp only [List.length_singleton]; omega) ?_)
 rintro v9 G5 H5 hle5 hown5
 have hsameO := OwnP.sameO (hown3.push _) hle5 hown5
 obtain ⟨B5, c5, rfl⟩ := hown5.shape
 have le35 := Hp.le_trans (Hp.le_push _ _) hle5
 have z5 := le35.1
 have zz5 := hown5.size
 have gw5 := Xr le35 (by omega) (by intro e; cases e) gw3
 have gz5 := Xr le35 (by omega) (by intro e; cases e) gz3
 have hw5 := Xr hown5.le (by omega) (by intro e; cases e) gw5
 have hz5 := Xr hown5.le (by omega) (by intro e; cases e) gz5
 have aw5 := aw3.trans (.of_le le35)
 have ht5 := ht3.mono le35
 refine ⟨Yk, ?_⟩
 refine Xd rfl rfl (Yi rfl) Xq ?_
 refine Xd rfl rfl (Xf (off := 1) rfl Tryz.underlying167 rfl inf23.size (by decide) rfl) Xq ?_
 first | refine Ym rfl rfl (Y3 rfl rfl rfl inf23.size Yd Yg rfl ?_)
 refine ⟨Yk, ?_⟩
 refine Xe ?_
 refine Xe ?_
 obtain ⟨H6, hH6⟩ : ∃ H6, H6 = H5.put wb (.own 0 [.pointer (some ⟨tb, 0, none⟩), .slice B5 (S.nodes ++ [l.b]).length c5, .bool S.back, .bool S.over, .int .i64 S.steps]) := ⟨_, rfl⟩
 obtain ⟨G6, hG6⟩ : ∃ G6, G6 = G5.put wb (.own 0 [.pointer (some ⟨tb, 0, none⟩), .slice B5 (S.nodes ++ [l.b]).length c5, .bool S.back, .bool S.over, .int .i64 S.steps]) := ⟨_, rfl⟩
 have hown6 : OwnP (Y1 .i64) G6 H6 (.slice B5 (S.nodes ++ [l.b]).length c5) (S.nodes ++ [l.b]) := by rw [hG6, hH6]; exact hown5.put (by rw [gw5]; intro e; cases e) _ (Hp.sees_box _ gw5)
 have gw6 : G6.get wb = .own 0 [.pointer (some ⟨tb, 0, none⟩), .slice B5 (S.nodes ++ [l.b]).length c5, .bool S.back, .bool S.over, .int .i64 S.steps] := by rw [hG6]; exact Hp.put_same _ _ _
 have gz6 : G6.get G.size = .own 0 [.slice none 0 0, .int .i64 0, .int .u64 0] := by rw [hG6, Hp.put_other _ _ (by omega)]; exact gz5
 have aw56 : Away wb G5 G6 := by rw [hG6]; exact Away.put (.refl _ _) _
 have aw6 := aw5.trans aw56
 have z6 := aw56.size
 have zz6 := hown6.size
 have hw6 := Xr hown6.le (by omega) (by intro e; cases e) gw6
 have hz6 := Xr hown6.le (by omega) (by intro e; cases e) gz6
 have ht6 := aw56.tree gw5 ht5
 change ACode true _ _ _ _ _ (H5.put wb (.own 0 [.pointer (some ⟨tb, 0, none⟩), .slice B5 (S.nodes ++ [l.b]).length c5, .bool S.back, .bool S.over, .int .i64 S.steps]))
 rw [← hH6]
 clear hH6 hG6 hsameO
 have hlen : (S.nodes ++ [l.b]).length = S.nodes.length + 1 := by simp
 refine Yy (by kernel_rfl) (Y4 (B := [0, 1, 3, 7, 15, 0, 32, 96, 224, 480, 1023]) (π := [0, 1, 2, 3, 4, 5, 6, 7, 8, 9, 10]) (by kernel_rfl)) ?_
 refine Xd rfl rfl (X0 rfl) Xq ?_
 refine Xd rfl rfl (Yi rfl) Xq ?_
 refine Xd rfl rfl (Xf (off := 1) rfl Tryz.underlying167 rfl inf23.size (by decide) rfl) Xq ?_
 refine Xd rfl rfl (Xk rfl Tryz.underlying23 rfl Xp) Xq ?_
 refine Xd rfl rfl (Ys rfl Tryz.underlying23) Xq ?_
 refine Xd rfl rfl (X0 rfl) Xq ?_
 refine Xd rfl rfl (Yi rfl) Xq ?_
 refine Xd rfl rfl (Xf (off := 0) rfl Tryz.underlying167 rfl inf37.size (by decide) rfl) Xq ?_
 refine Xd rfl rfl (Xk rfl Tryz.underlying37 rfl Xp) Xq ?_
 refine Ym rfl rfl (Xy (Len_tree (ht6.mono hown6.le)) rfl Tryz.func62 rfl rfl rfl ?_)
 rintro v10 H6 ⟨rfl, rfl⟩
 refine ⟨Yk, ?_⟩
 refine Xd rfl rfl (Za rfl rfl) Xq ?_
 refine X5 rfl rfl ?_ ?_
 intro hc3
 have hmore : S.nodes.length + 1 < T.vars.length := by have := of_decide_eq_true hc3; omega
 have hon : onS T S = (⟨S.nodes ++ [l.b], S.back, S.over, S.steps⟩, none) := by unfold onS; rw [if_neg hfull, ← hL, hls]; exact if_pos hmore
 refine Xe ?_
 refine Xu ?_
 refine Xa (Y6 (pl := [(0, 1), (1, 1), (2, 1)]) (r := [.slice _ _ _, .int .i64 _, .int .u64 _]) Tryz.underlying46 inf46.zero (by decide) rfl rfl) ?_
 refine Xw (Yf (vs := [.slice _ _ _, .int .i64 _, .int .u64 _]) rfl rfl inf46.size Yd Yg rfl rfl ?_)
 refine Xa (Xn rfl) ?_
 refine X2 ?_
 rw [hon]
 exact ⟨_, Y8 (Yq Xm (Yo (cs := [_, _, _]) Tryz.underlying46 rfl inf46.size X8)) (Xs rfl), G6.put G.size _, aw6.put_new (Nat.le_refl _) (by omega) _, ⟨B5, c5, by simp; omega, by rw [Hp.put_other _ _ (by omega)]; exact gw6, hown6.put (by rw [gz6]; intro e; cases e) _ (Hp.sees_box _ gz6)⟩, Ui _⟩
 intro hc3
 have hmore : ¬ S.nodes.length + 1 < T.vars.length := by have := of_decide_eq_false hc3; omega
 have hon : onS T S = (⟨S.nodes ++ [l.b], true, S.over, S.steps⟩, Vm T (S.nodes ++ [l.b])) := by unfold onS; rw [if_neg hfull, ← hL, hls]; exact if_neg hmore
 refine X9 ?_
 refine Xe ?_
 refine Xu ?_
 refine Xa (X0 rfl) ?_
 refine Xa (Yi rfl) ?_
 refine Xa (Xf (off := 2) rfl Tryz.underlying167 rfl inf4.size (by decide) rfl) ?_
 first | refine Xw (Y3 rfl rfl rfl inf4.size Yd Yg rfl ?_)
 refine Xe ?_
 have hW7 : Ub (G6.put wb (.own 0 [.pointer (some ⟨tb, 0, none⟩), .slice B5 (S.nodes ++ [l.b]).length c5, .bool true, .bool S.over, .int .i64 S.steps])) (H6.put wb (.own 0 [.pointer (some ⟨tb, 0, none⟩), .slice B5 (S.nodes ++ [l.b]).length c5, .bool true, .bool S.over, .int .i64 S.steps])) wb (.pointer (some ⟨tb, 0, none⟩)) ⟨S.nodes ++ [l.b], true, S.over, S.steps⟩ :=
  ⟨B5, c5, by simp; omega, Hp.put_same _ _ _, hown6.put (by rw [gw6]; intro e; cases e) _ (Hp.sees_box _ gw6)⟩
 have ht7 := (Away.put (.refl wb G6) (.own 0 [.pointer (some ⟨tb, 0, none⟩), .slice B5 (S.nodes ++ [l.b]).length c5, .bool true, .bool S.over, .int .i64 S.steps])).tree gw6 ht6
 refine Xu ?_
 refine Xa (X0 rfl) ?_
 refine Xw (Xy (row_walk hT hW7 ht7 (by show (S.nodes ++ [l.b]).length ≤ _; omega)) rfl Tryz.func138 rfl rfl rfl ?_)
 rintro v11 H8 ⟨G8, le8, ⟨B8, c8, hwb8, gw8, hown8⟩, A8, k8, rfl, sl8⟩; have z8 := le8.1; simp only [Hp.put_size] at z8; have gz8 := Xr le8 (by simp; omega) (by intro e; cases e) ((Hp.put_other _ _ (by omega)).trans gz6); have hz8 := Xr hown8.le (by omega) (by intro e; cases e) gz8; have zz8 := hown8.size
 refine Xa (Yj rfl rfl) ?_
 refine Xa (Yj rfl rfl) ?_
 refine Xw (Yf (vs := [.slice _ _ _, .int .i64 _, .int .u64 _]) rfl rfl inf46.size Yd Yg rfl rfl ?_)
 refine Xa (Xn rfl) ?_
 refine X2 ?_
 rw [hon]
 exact ⟨_, Y8 (Yq Xm (Yo (cs := [_, _, _]) Tryz.underlying46 rfl inf46.size X8)) (Xs rfl), G8.put G.size _, ((aw6.put _).trans (.of_le le8)).put_new (Nat.le_refl _) (by omega) _, ⟨B8, c8, by simpa using hwb8, by rw [Hp.put_other _ _ (by omega)]; exact gw8, hown8.put (by rw [gz8]; intro e; cases e) _ (Hp.sees_box _ gz8)⟩, A8, k8, rfl, sl8.mono (Hp.sees_box _ gz8)⟩
theorem Away.sees_map {wb : Nat} {G G' : Hp} (h : Away wb G G') {es : List (Value × Value)} (hg : G.get wb = .map es) : G.sees G' := by
 have h1 := (Hp.sees_map G hg .dead).trans (Hp.le.sees h)
 have h2 := h1.dead (Hp.put_same _ _ _) (G'.get wb)
 rwa [Hp.put_put, Hp.put_self _ rfl] at h2
structure SeenM (es : List (Value × Value)) (out : List Int) : Prop where
 keys : ∀ e ∈ es, MapKept.IsKey (.int .i64) e.1
 at_ : ∀ x : Int, Zj es (.int .i64 x) = if x ∈ out then some (.int .i64 1) else none
theorem SeenM.nil : SeenM [] [] := ⟨fun e h => (by cases h), fun x => by rw [if_neg (by simp)]; rfl⟩
theorem SeenM.put {es : List (Value × Value)} {out : List Int} (h : SeenM es out) (x : Int) : SeenM (V7 es (.int .i64 x) (.int .i64 1)) (out ++ [x]) :=
 ⟨mapPut_keys h.keys rfl, fun y => by
  by_cases he : y = x
  ·subst he
   rw [mapGet_put, if_pos (by simp)]
  ·rw [Vn (fun e => he (by injection e)), h.at_]
   simp [he]⟩

structure IntsM (es : List (Value × Value)) : Prop where
 keys : ∀ e ∈ es, IsSpot e.1
 vals : ∀ k v, Zj es k = some v → ∃ n : Int, v = .int .u64 n ∧ 0 ≤ n
noncomputable def cntAt (es : List (Value × Value)) (i a : Int) : Int := match Zj es (Zq i a) with
 | some (.int _ n) => n
 | _ => 0
theorem IntsM.get {es : List (Value × Value)} (h : IntsM es) (i a : Int) : (Zj es (Zq i a)).getD (.int .u64 0) = .int .u64 (cntAt es i a) ∧ 0 ≤ cntAt es i a := by
 unfold cntAt
 cases hg : Zj es (Zq i a) with
 | none => exact ⟨rfl, Int.le_refl _⟩
 | some v =>
  obtain ⟨n, rfl, hn⟩ := h.vals _ _ hg
  exact ⟨rfl, hn⟩
theorem IntsM.nil : IntsM [] := ⟨fun e h => (by cases h), fun k v h => (by cases h)⟩
theorem IntsM.put {es : List (Value × Value)} (h : IntsM es) (i a n : Int) (hn : 0 ≤ n) : IntsM (V7 es (Zq i a) (.int .u64 n)) :=
 ⟨mapPut_keys h.keys ⟨_, _, rfl⟩, fun k v hv => by
  by_cases he : k = Zq i a
  ·subst he
   rw [mapGet_put] at hv
   injection hv with hv
   exact ⟨n, hv.symm, hn⟩
  ·rw [Vn he] at hv
   exact h.vals k v hv⟩
structure FillS (T : TreeT) (K : Hp) (tb cb mb ms i : Nat) (es10 es20 : List (Value × Value)) (H : Hp) (es1 es2 : List (Value × Value)) : Prop where
 le : K.le H
 hc : H.get cb = .own 0 [.pointer (some ⟨tb, 0, none⟩), .map (some mb), .map (some ms)]
 lc : cb < H.size
 hb : H.get mb = .map es1
 lb : mb < H.size
 hs : H.get ms = .map es2
 ls : ms < H.size
 i1 : IntsM es1
 i2 : IntsM es2
 o1 : ∀ (k : Int) b, k ≠ i → Zj es1 (Zq k b) = Zj es10 (Zq k b)
 o2 : ∀ (k : Int) b, k ≠ i → Zj es2 (Zq k b) = Zj es20 (Zq k b)
 v1 : ∀ b, Zj es1 (Zq i b) = none ∨ (Zj es1 (Zq i b) = some (.int .u64 (belT T T.vars.length i b)) ∧ ∃ a, ∃ x ∈ T.group i a, x.b = b)
 v2 : ∀ a, Zj es2 (Zq i a) = none ∨ Zj es2 (Zq i a) = some (.int .u64 (sumT T T.vars.length i a))
theorem FillS.later {T : TreeT} {K : Hp} {tb cb mb ms i : Nat} {es10 es20 es1 es2 : List (Value × Value)} {H H' : Hp} (h : FillS T K tb cb mb ms i es10 es20 H es1 es2) (hle : H.le H') : FillS T K tb cb mb ms i es10 es20 H' es1 es2 :=
 ⟨Hp.le_trans h.le hle, Xr hle h.lc (by intro e; cases e) h.hc, Nat.lt_of_lt_of_le h.lc hle.1, Xr hle h.lb (by intro e; cases e) h.hb, Nat.lt_of_lt_of_le h.lb hle.1, Xr hle h.ls (by intro e; cases e) h.hs, Nat.lt_of_lt_of_le h.ls hle.1, h.i1, h.i2, h.o1, h.o2, h.v1, h.v2⟩
theorem bel_deep {T : TreeT} (hT : GoodT T) {d i : Nat} (h : T.vars.length ≤ d + i + 1) (b : Int) : belT T d i b = belT T (d + 1) i b :=
 foldl_same fun n k hk => by
  obtain ⟨h3, h4⟩ := kids_lt hT hk
  rw [sumT_deep hT d k b h4 (by omega)]
theorem sum_is {T : TreeT} (hT : GoodT T) {i : Nat} (hi : i < T.vars.length) (a : Int) : sumT T T.vars.length i a = (T.group i a).foldl (fun s x => addI s (Zi x.n (belT T T.vars.length i x.b))) 0 := by
 obtain ⟨n, hn⟩ : ∃ n, T.vars.length = n + 1 := ⟨T.vars.length - 1, by omega⟩
 rw [hn, sumT_succ]
 exact foldl_same fun s x _ => by rw [bel_deep hT (by omega)]
theorem FillS.put2 {T : TreeT} {K : Hp} {tb cb mb ms i : Nat} {es10 es20 es1 es2 : List (Value × Value)} {H : Hp} (h : FillS T K tb cb mb ms i es10 es20 H es1 es2) (zs : K.size ≤ ms) (hne : mb ≠ ms) (a n : Int) (hn : 0 ≤ n) (hv : n = sumT T T.vars.length i a) : FillS T K tb cb mb ms i es10 es20 (H.put ms (.map (V7 es2 (Zq i a) (.int .u64 n)))) es1 (V7 es2 (Zq i a) (.int .u64 n)) := by
 have hcm : cb ≠ ms := fun e => by have := h.hc; rw [e, h.hs] at this; cases this
 refine ⟨Hp.le_put_new h.le zs _, by rw [Hp.put_other _ _ hcm]; exact h.hc, by simpa using h.lc, by rw [Hp.put_other _ _ hne]; exact h.hb, by simpa using h.lb, Hp.put_same _ _ _, by simpa using h.ls, h.i1, h.i2.put _ _ _ hn, h.o1, fun k c hk => ?_, h.v1, fun c => ?_⟩
 ·rw [Vn (fun e => hk (spotV_inj e).1)]; exact h.o2 k c hk
 ·by_cases hc : c = a
  ·subst hc hv; exact .inr mapGet_put
  ·rw [Vn (fun e => hc (spotV_inj e).2)]; exact h.v2 c


def capI (n : Nat) : Int := min (n : Int) Zh
theorem most_pos : (0 : Int) < Zh := by decide
theorem timesI_cap (a b : Nat) : Zi (capI a) (capI b) = capI (a * b) := by
 have hM := most_pos
 unfold Zi capI
 rw [show min (min (a : Int) Zh) Zh = min (a : Int) Zh by omega, show min (min (b : Int) Zh) Zh = min (b : Int) Zh by omega, Int.natCast_mul]
 rcases Nat.eq_zero_or_pos a with rfl | ha
 ·rw [show min ((0 : Nat) : Int) Zh = 0 by omega]; simp
 rcases Nat.eq_zero_or_pos b with rfl | hb
 ·rw [show min ((0 : Nat) : Int) Zh = 0 by omega]; simp
 by_cases h1 : (a : Int) ≤ Zh <;> by_cases h2 : (b : Int) ≤ Zh
 ·rw [Int.min_eq_left h1, Int.min_eq_left h2]
 ·rw [Int.min_eq_left h1, Int.min_eq_right (by omega : Zh ≤ (b : Int))]
  have h3 : 1 * Zh ≤ (a : Int) * Zh := Int.mul_le_mul_of_nonneg_right (by omega) (Int.le_of_lt hM)
  have h4 : (a : Int) * Zh ≤ (a : Int) * b := Int.mul_le_mul_of_nonneg_left (by omega) (by omega)
  rw [Int.min_eq_right (by omega), Int.min_eq_right (by omega)]
 ·rw [Int.min_eq_right (by omega : Zh ≤ (a : Int)), Int.min_eq_left h2]
  have h3 : Zh * 1 ≤ Zh * (b : Int) := Int.mul_le_mul_of_nonneg_left (by omega) (Int.le_of_lt hM)
  have h4 : Zh * (b : Int) ≤ (a : Int) * b := Int.mul_le_mul_of_nonneg_right (by omega) (by omega)
  rw [Int.min_eq_right (by omega), Int.min_eq_right (by omega)]
 ·rw [Int.min_eq_right (by omega : Zh ≤ (a : Int)), Int.min_eq_right (by omega : Zh ≤ (b : Int))]
  have h3 : Zh * 1 ≤ Zh * Zh := Int.mul_le_mul_of_nonneg_left (by omega) (Int.le_of_lt hM)
  have h4 : Zh * Zh ≤ Zh * (b : Int) := Int.mul_le_mul_of_nonneg_left (by omega) (Int.le_of_lt hM)
  have h5 : Zh * (b : Int) ≤ (a : Int) * b := Int.mul_le_mul_of_nonneg_right (by omega) (by omega)
  rw [Int.min_eq_right (by omega), Int.min_eq_right (by omega)]
theorem timesI_nat (a : Nat) (y : Int) : Zi (a : Int) y = Zi (capI a) y := by
 unfold Zi capI
 rw [show min (min (a : Int) Zh) Zh = min (a : Int) Zh by omega]
theorem cap_zero {n : Nat} : capI n = 0 ↔ n = 0 := by
 have hM := most_pos
 unfold capI
 omega
theorem cap_one : (1 : Int) = capI 1 := by decide
theorem mem_ext {T : TreeT} : ∀ (d : Nat) (q r : List Int), r ∈ Vc T d q → r.length = q.length + d ∧ r.take q.length = q
 | 0, q, r, h => by rw [Vc, List.mem_singleton] at h; subst h; exact ⟨rfl, List.take_length⟩
 | d + 1, q, r, h => by
  rw [Vc] at h
  obtain ⟨l, _, h1⟩ := List.mem_flatMap.1 h
  obtain ⟨h2, h3⟩ := mem_ext d _ r h1
  rw [List.length_append, List.length_singleton] at h2 h3
  refine ⟨by omega, ?_⟩
  have h4 := congrArg (List.take q.length) h3
  rw [List.take_take, Nat.min_eq_left (by omega), List.take_append_of_le_length (Nat.le_refl _), List.take_length] at h4
  exact h4
theorem again1_raw (xs : List Link) (A : Option Addr) (c i : Nat) (m : Int) (b1 b2 : Nat) (H : Hp) (h1 : H.cell? b1 0 = some (.slice A xs.length c)) (h2 : H.cell? b2 0 = some (.int .i64 m)) (hs : Sl kLink H (.slice A xs.length c) xs) (hi : i < xs.length) (hb1 : b1 < H.size) (hb2 : b2 < H.size) :
  ACalls Tryz.prog 152 #[.int .i64 i, .pointer (some ⟨b1, 0, none⟩), .pointer (some ⟨b2, 0, none⟩)] H (fun r _ => r = .bool (decide (m < xs[i].b))) := by
 obtain ⟨b, o, rfl, hb, hcell⟩ := hs.link_at hi
 have hcellb := hcell 1 _ rfl
 refine Xv Tryz.func152 rfl rfl rfl (by simp) ?_
 refine Xe ?_
 refine Xu ?_
 refine Xa (Xn rfl) ?_
 refine Xe ?_
 refine Yy (by kernel_rfl) (Y4 (B := [0, 0, 3, 7, 15, 0, 63, 127]) (π := [0, 1, 2, 3, 4, 5, 6, 7]) (by kernel_rfl)) ?_
 refine Xd rfl rfl (Xk rfl Tryz.underlying83 rfl Xp) Xq ?_
 refine Xd rfl rfl (Xb rfl) Xq ?_
 refine Xd rfl rfl (Xt rfl rfl Tryz.underlying83 inf96.size X6 X6) Xq ?_
 refine Xd rfl rfl (Xf (off := 1) rfl Tryz.underlying96 rfl inf3.size (by decide) rfl) Xq ?_
 refine Xd rfl rfl (Xk rfl Tryz.underlying3 rfl Xp) Xq ?_
 refine Xd rfl rfl (Xk rfl Tryz.underlying3 rfl Xp) Xq ?_
 refine Xd rfl rfl (Vu rfl rfl) Xq ?_
 refine Xd rfl rfl (Xn rfl) Xq ?_
 refine X2 ?_
 exact ⟨_, Xx (Xs rfl), rfl⟩
theorem nextB_at {g : List Link} {m : Int} {i : Nat} (hi : i < g.length) (h : m < g[i].b) (hno : ∀ j, j < i → ∀ h : j < g.length, ¬ m < g[j].b) : U0 g m = some g[i] := by
 unfold U0
 rw [List.find?_eq_some_iff_getElem]
 exact ⟨decide_eq_true h, i, hi, rfl, fun j hj => by simp only [decide_eq_false (hno j hj (by omega)), Bool.not_false]⟩
theorem nextB_no {g : List Link} {m : Int} (h : ∀ l ∈ g, ¬ m < l.b) : U0 g m = none := by
 unfold U0
 rw [List.find?_eq_none]
 intro l hl
 simp [h l hl]
set_option maxHeartbeats 2000000 in
theorem again_walk {T : TreeT} (hT : GoodT T) {tv : Value} {S : Z6} {wb : Nat} {G H : Hp} (hW : Ub G H wb tv S) (ht : TreeR G tv T) (hl : S.nodes.length ≤ T.vars.length) :
  ACalls Tryz.prog 147 #[.pointer (some ⟨wb, 0, none⟩)] H (fun r H' => ∃ G', Away wb G G' ∧ Ub G' H' wb tv (againS T S).1 ∧ RowO G' r (againS T S).2) := by
 have hfew := hT.few
 have hW1 : Ub (G.push (.own 0 [.slice none 0 0, .int .i64 0, .int .u64 0])) (H.push (.own 0 [.slice none 0 0, .int .i64 0, .int .u64 0])) wb tv S := by
  obtain ⟨B, c, hwb, gw, hown⟩ := hW
  exact ⟨B, c, by simp; omega, (Hp.push_old _ _ hwb).trans gw, hown.push _⟩
 have aw1 : Away wb G (G.push (.own 0 [.slice none 0 0, .int .i64 0, .int .u64 0])) := .of_le (G.le_push _)
 have ht1 := ht.mono (G.le_push (.own 0 [.slice none 0 0, .int .i64 0, .int .u64 0]))
 have gz1 : (G.push (.own 0 [.slice none 0 0, .int .i64 0, .int .u64 0])).get G.size = .own 0 [.slice none 0 0, .int .i64 0, .int .u64 0] := Hp.push_new _ _
 have zz0 : H.size = G.size := by obtain ⟨_, _, _, _, hown⟩ := hW; exact hown.size
 have zs1 : (G.push (.own 0 [.slice none 0 0, .int .i64 0, .int .u64 0])).size = G.size + 1 := by simp
 have hwb0 : wb < G.size := by obtain ⟨_, _, h, _, _⟩ := hW; exact h
 obtain ⟨tb, _, _, _, _, _, etv, _⟩ := id ht
 subst etv
 obtain ⟨G1, hG1⟩ : ∃ G1, G1 = G.push (.own 0 [.slice none 0 0, .int .i64 0, .int .u64 0]) := ⟨_, rfl⟩
 obtain ⟨H1, hH1⟩ : ∃ H1, H1 = H.push (.own 0 [.slice none 0 0, .int .i64 0, .int .u64 0]) := ⟨_, rfl⟩
 rw [← hG1, ← hH1] at hW1
 rw [← hG1] at aw1 ht1 gz1 zs1
 obtain ⟨B, c, hwb1, gw1, hown1⟩ := id hW1
 have hw1 := Xr hown1.le hwb1 (by intro e; cases e) gw1
 have hz1 := Xr hown1.le (by omega) (by intro e; cases e) gz1
 have zz1 := hown1.size
 clear hW ht
 refine Xv Tryz.func147 rfl rfl rfl (by simp) ?_
 refine Xe ?_
 refine Xu ?_
 refine Xz (Yz (l := [.slice none 0 0, .int .i64 0, .int .u64 0]) inf46.zero rfl (by decide)) ?_
 refine Xa (Xn rfl) ?_
 refine Xe ?_
 refine Xe ?_
 change ACode true _ _ _ _ _ (H.push (.own 0 [.slice none 0 0, .int .i64 0, .int .u64 0]))
 rw [← hH1, zz0]
 refine Xu ?_
 refine Xa (X0 rfl) ?_
 refine Xa (Yi rfl) ?_
 refine Xa (Xf (off := 1) rfl Tryz.underlying167 rfl inf23.size (by decide) rfl) ?_
 refine Xa (Xk rfl Tryz.underlying23 rfl Xp) ?_
 refine Xa (Ys rfl Tryz.underlying23) ?_
 refine Xa (Zx rfl rfl) ?_
 refine X5 rfl rfl ?_ ?_
 intro hc1
 have h0 : S.nodes.length = 0 := by have := of_decide_eq_true hc1; omega
 have hag : againS T S = (⟨S.nodes, S.back, true, S.steps⟩, none) := by unfold againS; rw [if_pos h0]
 refine Xe ?_
 refine Xu ?_
 refine Xa (X0 rfl) ?_
 refine Xa (Yi rfl) ?_
 refine Xa (Xf (off := 3) rfl Tryz.underlying167 rfl inf4.size (by decide) rfl) ?_
 first | refine Xw (Y3 rfl rfl rfl inf4.size Yd Yg rfl ?_)
 refine Xe ?_
 refine Xu ?_
 refine Xa (Y6 (pl := [(0, 1), (1, 1), (2, 1)]) (r := [.slice _ _ _, .int .i64 _, .int .u64 _]) Tryz.underlying46 inf46.zero (by decide) rfl rfl) ?_
 refine Xw (Yf (vs := [.slice _ _ _, .int .i64 _, .int .u64 _]) rfl rfl inf46.size Yd Yg rfl rfl ?_)
 refine Xa (Xn rfl) ?_
 refine X2 ?_
 rw [hag]
 exact ⟨_, Y8 (Yq Xm (Yo (cs := [_, _, _]) Tryz.underlying46 rfl inf46.size X8)) (Xs rfl), (G1.put wb _).put G.size _, (aw1.put _).put_new (Nat.le_refl _) (by omega) _, ⟨B, c, by simp; omega, by rw [Hp.put_other _ _ (by omega)]; exact Hp.put_same _ _ _, (hown1.put (by rw [gw1]; intro e; cases e) _ (Hp.sees_box _ gw1)).put (by rw [Hp.put_other _ _ (by omega), gz1]; intro e; cases e) _ (Hp.sees_box (cs := [.slice none 0 0, .int .i64 0, .int .u64 0]) _ (by rw [Hp.put_other _ _ (by omega)]; exact gz1))⟩, Ui _⟩
 intro hc1
 have h0 : ¬ S.nodes.length = 0 := by have := of_decide_eq_false hc1; omega
 obtain ⟨i, hi⟩ : ∃ i, S.nodes.length = i + 1 := ⟨S.nodes.length - 1, by omega⟩
 have hin : i < T.vars.length := by omega
 refine X9 ?_
 refine Xe ?_
 refine Xu ?_
 refine Xa (X0 rfl) ?_
 refine Xa (Yi rfl) ?_
 refine Xa (Xf (off := 1) rfl Tryz.underlying167 rfl inf23.size (by decide) rfl) ?_
 refine Xa (Xk rfl Tryz.underlying23 rfl Xp) ?_
 refine Xa (Ys rfl Tryz.underlying23) ?_
 refine Xa (av_sub_is (r := (i : Int)) rfl rfl (by omega) (by omega)) ?_
 refine Xa (Xi rfl) ?_
 refine Xe ?_
 obtain ⟨b0, cs0, eB, _, hb0, hd0, eH1, _, _⟩ := hown1.place (by omega)
 subst eB
 have gb0 : H1.get b0 = .own 1 cs0 := by rw [eH1]; exact Hp.put_same _ _ _
 obtain ⟨b9, o9, e9, hb9, hcell9⟩ := hown1.sl.int_at (i := (i : Int)) (by omega) (by omega)
 simp only [Option.some.injEq, Addr.mk.injEq, and_true] at e9
 obtain ⟨rfl, rfl⟩ := e9
 rw [Int.toNat_natCast] at hcell9
 obtain ⟨x, hx⟩ : ∃ x, x = S.nodes.getD i 0 := ⟨_, rfl⟩
 rw [← hx] at hcell9
 have hcut := (hown1.push (.own 0 [.int .i64 x])).cut (m := i) (by omega)
 refine Xu ?_
 refine Xa (X0 rfl) ?_
 refine Xa (Yi rfl) ?_
 refine Xa (Xf (off := 1) rfl Tryz.underlying167 rfl inf23.size (by decide) rfl) ?_
 refine Xa (Xk rfl Tryz.underlying23 rfl Xp) ?_
 refine Xa (Xb rfl) ?_
 refine Xa (Xt rfl rfl Tryz.underlying23 inf3.size X6 X6) ?_
 refine Xa (Xk rfl Tryz.underlying3 rfl Xp) ?_
 refine Xz (Yz (l := [.int .i64 0]) inf3.zero rfl (by decide)) ?_
 first | refine Xw (Y3 rfl rfl rfl inf3.size Yd Yg rfl ?_)
 refine Xe ?_
 refine Xu ?_
 refine Xa (X0 rfl) ?_
 refine Xa (X0 rfl) ?_
 refine Xa (Yi rfl) ?_
 refine Xa (Xf (off := 1) rfl Tryz.underlying167 rfl inf23.size (by decide) rfl) ?_
 refine Xa (Xk rfl Tryz.underlying23 rfl Xp) ?_
 refine Xa (Xb rfl) ?_
 refine Xa (av_take (m := i) Xm Tryz.underlying23 inf3.size Xm (by omega) (by omega) (.inr ⟨_, Yd⟩)) ?_
 refine Xa (Yi rfl) ?_
 refine Xa (Xf (off := 1) rfl Tryz.underlying167 rfl inf23.size (by decide) rfl) ?_
 first | refine Xw (Y3 rfl rfl rfl inf23.size Yd Yg rfl ?_)
 refine Xe ?_
 obtain ⟨H3, hH3⟩ : ∃ H3, H3 = ((H1.push (.own 0 [.int .i64 0])).put H1.size (.own 0 [.int .i64 x])).put wb (.own 0 [.pointer (some ⟨tb, 0, none⟩), .slice (some ⟨b0, 0, none⟩) i c, .bool S.back, .bool S.over, .int .i64 S.steps]) := ⟨_, rfl⟩
 obtain ⟨G3, hG3⟩ : ∃ G3, G3 = ((G1.push (.own 0 [.int .i64 0])).put H1.size (.own 0 [.int .i64 x])).put wb (.own 0 [.pointer (some ⟨tb, 0, none⟩), .slice (some ⟨b0, 0, none⟩) i c, .bool S.back, .bool S.over, .int .i64 S.steps]) := ⟨_, rfl⟩
 have hlp : (S.nodes.take i).length = i := by rw [List.length_take]; omega
 have gw2 : ((G1.push (.own 0 [.int .i64 0])).put H1.size (.own 0 [.int .i64 x])).get wb = .own 0 [.pointer (some ⟨tb, 0, none⟩), .slice (some ⟨b0, 0, none⟩) S.nodes.length c, .bool S.back, .bool S.over, .int .i64 S.steps] := by rw [Hp.put_other _ _ (by omega), Hp.push_old _ _ hwb1]; exact gw1
 have hown3 : OwnP (Y1 .i64) G3 H3 (.slice (some ⟨b0, 0, none⟩) i c) (S.nodes.take i) := by
  rw [hG3, hH3]
  refine OwnP.put ?_ (by rw [gw2]; intro e; cases e) _ (Hp.sees_box _ gw2)
  exact (hown1.boxed [.int .i64 0] [.int .i64 x]).cut (m := i) (by omega)
 have aw13 : Away wb G1 G3 := by rw [hG3]; exact ((Away.refl wb G1).push hwb1 _ |>.put_new (by omega) (by omega) _).put _
 have aw3 := aw1.trans aw13
 have gw3 : G3.get wb = .own 0 [.pointer (some ⟨tb, 0, none⟩), .slice (some ⟨b0, 0, none⟩) i c, .bool S.back, .bool S.over, .int .i64 S.steps] := by rw [hG3]; exact Hp.put_same _ _ _
 have gl3 : G3.get H1.size = .own 0 [.int .i64 x] := by rw [hG3, Hp.put_other _ _ (by omega)]; exact Hp.put_same _ _ _
 have gz3 : G3.get G.size = .own 0 [.slice none 0 0, .int .i64 0, .int .u64 0] := aw13.keep (by omega) (by omega) (by intro e; cases e) gz1
 have z3 : G3.size = G1.size + 1 := by rw [hG3]; simp
 have zz3 := hown3.size
 have ht3 := aw13.tree gw1 ht1
 have hw3 := Xr hown3.le (by omega) (by intro e; cases e) gw3
 have hl3 := Xr hown3.le (by omega) (by intro e; cases e) gl3
 have hz3 := Xr hown3.le (by omega) (by intro e; cases e) gz3
 have hWp : ∀ y, Ub (G3.push y) (H3.push y) wb (.pointer (some ⟨tb, 0, none⟩)) ⟨S.nodes.take i, S.back, S.over, S.steps⟩ := fun y => ⟨some ⟨b0, 0, none⟩, c, by simp; omega, by rw [Hp.push_old _ _ (by omega)]; simp only [hlp]; exact gw3, by simp only [hlp]; exact hown3.push _⟩
 change ACode true _ _ _ _ _ (((H1.push (.own 0 [.int .i64 0])).put H1.size (.own 0 [.int .i64 x])).put wb (.own 0 [.pointer (some ⟨tb, 0, none⟩), .slice (some ⟨b0, 0, none⟩) i c, .bool S.back, .bool S.over, .int .i64 S.steps]))
 rw [← hH3]
 clear hH3 hG3 hcut gw2
 have habv : Yp T S.nodes i = Yp T (S.nodes.take i) i := Z9 hT hin (fun j hj => (Vs hj).symm)
 refine Yy (by kernel_rfl) (Y4 (B := [0, 1, 3, 7, 0, 0, 0, 96, 255, 0, 1023]) (π := [0, 1, 2, 3, 4, 5, 6, 9, 7, 8, 10]) (by kernel_rfl)) ?_
 refine Xd rfl rfl (X0 rfl) Xq ?_
 refine Xd rfl rfl (Yi rfl) Xq ?_
 refine Xd rfl rfl (Xf (off := 0) rfl Tryz.underlying167 rfl inf37.size (by decide) rfl) Xq ?_
 refine Xd rfl rfl (Xk rfl Tryz.underlying37 rfl Xp) Xq ?_
 refine Xd rfl rfl (Xb rfl) Xq ?_
 refine Xd rfl rfl (X0 rfl) Xq ?_
 refine Xd rfl rfl (Xb rfl) Xq ?_
 refine Zb rfl rfl (Yz (l := [.slice none 0 0]) inf83.zero rfl (by decide)) ?_
 refine Ym rfl rfl (Xy (above_walk hT (hWp _) (ht3.mono (G3.le_push _)) i hin (by rw [hlp]; exact Nat.le_refl _)) rfl Tryz.func118 rfl rfl rfl ?_)
 rintro v7 H4 ⟨rfl, rfl⟩
 refine ⟨Yk, ?_⟩
 refine Ym rfl rfl (Xy (Group_tree ((ht3.mono hown3.le).mono (H3.le_push _)) hT.l1 hT.l2 hT.lens (i : Int) _) rfl Tryz.func91 rfl rfl rfl ?_)
 rintro v8 H5 ⟨GL, leL, hownL⟩; obtain ⟨L, hL⟩ : ∃ L, L = T.group i (Yp T S.nodes i) := ⟨_, rfl⟩; simp only [] at hownL; rw [← habv, ← hL] at hownL; have slL := hownL.sl; obtain ⟨AL, cL, rfl⟩ := slL.shape; have le35 := Hp.le_trans leL hownL.le; obtain ⟨G5, le5, hown5⟩ := (hown3.push (.own 0 [.slice none 0 0])).later le35; have slG := hown5.below (Zn _) (by decide) slL; have z5 := le5.1; simp only [Hp.push_size] at z5; have zz5 := hown5.size; have gq5 : G5.get H3.size = .own 0 [.slice none 0 0] := Xr le5 (by simp; omega) (by intro e; cases e) (by rw [zz3]; exact Hp.push_new _ _); have hq5 := Xr hown5.le (by omega) (by intro e; cases e) gq5; have gw5 := Xr le5 (by simp; omega) (by intro e; cases e) ((Hp.push_old _ _ (by omega)).trans gw3); have gl5 := Xr le5 (by simp; omega) (by intro e; cases e) ((Hp.push_old _ _ (by omega)).trans gl3); have gz5 := Xr le5 (by simp; omega) (by intro e; cases e) ((Hp.push_old _ _ (by omega)).trans gz3); have ht5 := (ht3.mono (G3.le_push (.own 0 [.slice none 0 0]))).mono le5; have aw5 := (aw3.push (by omega) (.own 0 [.slice none 0 0])).trans (.of_le le5)
 refine ⟨Yk, ?_⟩
 first | refine Ym rfl rfl (Y3 rfl rfl rfl inf83.size Yd Yg rfl ?_)
 refine ⟨Yk, ?_⟩
 refine Xe ?_
 obtain ⟨H6, hH6⟩ : ∃ H6, H6 = H5.put H3.size (.own 0 [.slice AL L.length cL]) := ⟨_, rfl⟩
 obtain ⟨G6, hG6⟩ : ∃ G6, G6 = G5.put H3.size (.own 0 [.slice AL L.length cL]) := ⟨_, rfl⟩
 have hown6 : OwnP (Y1 .i64) G6 H6 (.slice (some ⟨b0, 0, none⟩) i c) (S.nodes.take i) := by rw [hG6, hH6]; exact hown5.put (by rw [gq5]; intro e; cases e) _ (Hp.sees_box _ gq5)
 have se56 : G5.sees G6 := by rw [hG6]; exact Hp.sees_box _ gq5
 have slG6 := slG.mono se56
 have gq6 : G6.get H3.size = .own 0 [.slice AL L.length cL] := by rw [hG6]; exact Hp.put_same _ _ _
 have gw6 : G6.get wb = .own 0 [.pointer (some ⟨tb, 0, none⟩), .slice (some ⟨b0, 0, none⟩) i c, .bool S.back, .bool S.over, .int .i64 S.steps] := by rw [hG6, Hp.put_other _ _ (by omega)]; exact gw5
 have gl6 : G6.get H1.size = .own 0 [.int .i64 x] := by rw [hG6, Hp.put_other _ _ (by omega)]; exact gl5
 have gz6 : G6.get G.size = .own 0 [.slice none 0 0, .int .i64 0, .int .u64 0] := by rw [hG6, Hp.put_other _ _ (by omega)]; exact gz5
 have aw6 : Away wb G G6 := by rw [hG6]; exact aw5.put_new (by omega) (by omega) _
 have ht6 : TreeR G6 (.pointer (some ⟨tb, 0, none⟩)) T := by
  rw [hG6]
  obtain ⟨tb', mb, s0, s1, s2, es, e1, q1, q2, q3, q4, q5, q6, q7, q8⟩ := ht5
  have n1 : tb' ≠ H3.size := fun e => by rw [e, gq5] at q3; simp at q3
  have n2 : mb ≠ H3.size := fun e => by rw [e, gq5] at q7; cases q7
  have se := Hp.sees_box (cs' := [.slice AL L.length cL]) _ gq5
  exact ⟨tb', mb, s0, s1, s2, es, e1, q1, q2, by rw [Hp.put_other _ _ n1]; exact q3, q4.mono se, q5.mono se, q6.mono se, by rw [Hp.put_other _ _ n2]; exact q7, q8⟩
 have z6 : G6.size = G5.size := by rw [hG6]; simp
 have zz6 := hown6.size
 have hw6 := Xr hown6.le (by omega) (by intro e; cases e) gw6
 have hl6 := Xr hown6.le (by omega) (by intro e; cases e) gl6
 have hz6 := Xr hown6.le (by omega) (by intro e; cases e) gz6
 have hq6 := Xr hown6.le (by omega) (by intro e; cases e) gq6
 have slH6 := slG6.mono hown6.le.sees
 change ACode true _ _ _ _ _ (H5.put H3.size (.own 0 [.slice AL L.length cL]))
 rw [← hH6]
 clear hH6 hG6
 have hLl : L.length ≤ 1000000 := by rw [hL]; exact group_len hT.lens _ _
 have hLs : L.Pairwise fun x y => x.b < y.b := by rw [hL]; exact hT.sort _ _
 have hmono : ∀ (a b : Nat) (ha : a < L.length) (hb : b < L.length), a < b → L[a].b < L[b].b := fun a b ha hb h => List.pairwise_iff_getElem.1 hLs a b ha hb h
 have c1' : H6.cell? H3.size 0 = some (.slice AL L.length cL) := Z7 (cs := [.slice AL L.length cL]) hq6
 have c2' : H6.cell? H1.size 0 = some (.int .i64 x) := Z7 (cs := [.int .i64 x]) hl6
 have call1 : ∀ k, k < L.length → ACalls Tryz.prog 152 (#[.int .i64 (k : Nat)] ++ #[.pointer (some ⟨H3.size, 0, none⟩), .pointer (some ⟨H1.size, 0, none⟩)]) H6 (fun r H' => r = .bool (if h : k < L.length then decide (x < L[k].b) else true) ∧ H' = H6) := fun k hk =>
  ACalls.pure (R := fun r => r = .bool (if h : k < L.length then decide (x < L[k].b) else true)) (fun v h => by rw [h]; rfl) ((again1_raw L AL cL k x H3.size H1.size H6.ro (cell_ro c1') (cell_ro c2') (slH6.mono H6.sees_ro) hk (by show H3.size < H6.size; omega) (by show H1.size < H6.size; omega)).mono fun r _ h => by rw [h, dif_pos hk])
 have mono1 : ∀ a b, a ≤ b → b < L.length → (if h : a < L.length then decide (x < L[a].b) else true) = true → (if h : b < L.length then decide (x < L[b].b) else true) = true := fun a b hab hb h => by
  rw [dif_pos (by omega)] at h ⊢
  rcases Nat.lt_or_eq_of_le hab with h1 | h1
  ·have := hmono a b (by omega) hb h1
   have := of_decide_eq_true h
   exact decide_eq_true (by omega)
  ·subst h1; exact h
 have hag : againS T S = match U0 L x with
  | none => (⟨S.nodes.take i, S.back, S.over, S.steps⟩, none)
  | some l => if i + 1 < T.vars.length then (⟨S.nodes.take i ++ [l.b], false, S.over, S.steps⟩, none) else (⟨S.nodes.take i ++ [l.b], S.back, S.over, S.steps⟩, Vm T (S.nodes.take i ++ [l.b])) := by
  unfold againS
  rw [if_neg h0]
  simp only [hi, Nat.add_sub_cancel, ← hx, ← hL]
  try (cases U0 L x <;> rfl)
 refine Xu ?_
 refine Xa (Xk rfl Tryz.underlying83 rfl Xp) ?_
 refine Xa (Ys rfl Tryz.underlying83) ?_
 refine Xa (av_makeFunc) ?_
 refine Xw (Xy (Search_gen L.length 152 _ #[.pointer (some ⟨H3.size, 0, none⟩), .pointer (some ⟨H1.size, 0, none⟩)] (fun k => if h : k < L.length then decide (x < L[k].b) else true) H6 Tryz.func152 rfl rfl call1 mono1 (by omega)) rfl Tryz.func82 rfl rfl rfl ?_)
 rintro v9 H6 ⟨⟨lo, rfl, hlo, hlo1, hlo2⟩, rfl⟩
 refine Xa (Xi rfl) ?_
 refine Xe ?_
 refine Xe ?_
 refine Xu ?_
 refine Xa (Xb rfl) ?_
 refine Xa (Xk rfl Tryz.underlying83 rfl Xp) ?_
 refine Xa (Ys rfl Tryz.underlying83) ?_
 refine Xa (Zx rfl rfl) ?_
 refine X5 rfl rfl ?_ ?_
 intro hc2
 have heq : lo = L.length := by have := of_decide_eq_true hc2; omega
 have hnb : U0 L x = none := nextB_no fun l hl => by
  obtain ⟨j, hj, rfl⟩ := List.getElem_of_mem hl
  have := hlo1 j (by omega)
  rw [dif_pos hj] at this
  exact of_decide_eq_false this
 rw [hnb] at hag
 refine Xe ?_
 refine Xu ?_
 refine Xa (Y6 (pl := [(0, 1), (1, 1), (2, 1)]) (r := [.slice _ _ _, .int .i64 _, .int .u64 _]) Tryz.underlying46 inf46.zero (by decide) rfl rfl) ?_
 refine Xw (Yf (vs := [.slice _ _ _, .int .i64 _, .int .u64 _]) rfl rfl inf46.size Yd Yg rfl rfl ?_)
 refine Xa (Xn rfl) ?_
 refine X2 ?_
 rw [hag]
 exact ⟨_, Y8 (Yq Xm (Yo (cs := [_, _, _]) Tryz.underlying46 rfl inf46.size X8)) (Xs rfl), G6.put G.size (.own 0 [.slice none 0 0, .int .i64 0, .int .u64 0]), aw6.put_new (Nat.le_refl _) (by omega) _, ⟨some ⟨b0, 0, none⟩, c, by simp; omega, by rw [Hp.put_other _ _ (by omega)]; simp only [hlp]; exact gw6, by simp only [hlp]; exact hown6.put (by rw [gz6]; intro e; cases e) _ (Hp.sees_box _ gz6)⟩, Ui _⟩
 intro hc2
 have hlt : lo < L.length := by have := of_decide_eq_false hc2; omega
 obtain ⟨bl, ol, el, hbl, hcl⟩ := slH6.link_at hlt
 subst el
 obtain ⟨l, hl'⟩ : ∃ l, l = L[lo] := ⟨_, rfl⟩
 rw [← hl'] at hcl
 have hclb := hcl 1 _ rfl
 have hnb : U0 L x = some l := by
  rw [hl']
  exact nextB_at hlt (by have := hlo2 lo (Nat.le_refl _) hlt; rw [dif_pos hlt] at this; exact of_decide_eq_true this) fun j hj h => by
   have := hlo1 j hj
   rw [dif_pos h] at this
   exact of_decide_eq_false this
 rw [hnb] at hag
 simp only at hag
 refine X9 ?_
 refine Xe ?_
 refine Yy (by kernel_rfl) (Y4 (B := [0, 0, 2, 6, 14, 0, 0, 96, 224, 480, 992, 2046, 4095, 8191, 16383]) (π := [0, 1, 2, 3, 4, 5, 6, 7, 8, 9, 10, 11, 12, 13, 14]) (by kernel_rfl)) ?_
 refine Xd rfl rfl (X0 rfl) Xq ?_
 refine Xd rfl rfl (X0 rfl) Xq ?_
 refine Xd rfl rfl (Yi rfl) Xq ?_
 refine Xd rfl rfl (Xf (off := 1) rfl Tryz.underlying167 rfl inf23.size (by decide) rfl) Xq ?_
 refine Xd rfl rfl (Xk rfl Tryz.underlying23 rfl Xp) Xq ?_
 refine Xd rfl rfl (Xk rfl Tryz.underlying83 rfl Xp) Xq ?_
 refine Xd rfl rfl (Xb rfl) Xq ?_
 refine Xd rfl rfl (Xt rfl rfl Tryz.underlying83 inf96.size X6 X6) Xq ?_
 refine Xd rfl rfl (Xf (off := 1) rfl Tryz.underlying96 rfl inf3.size (by decide) rfl) Xq ?_
 refine Xd rfl rfl (Xk rfl Tryz.underlying3 rfl Xp) Xq ?_
 first | refine Zb rfl rfl (Yh (r := [.int .i64 _]) Tryz.underlying23 inf3.size inf3.zero rfl (by decide) (by decide) (by decide) rfl) ?_
 refine Ym rfl rfl (OwnP.append (ys := [l.b]) (hown6.push _) Tryz.underlying23 inf3 rfl rfl rfl (Zo (k := Y1 .i64) rfl rfl hown6.size rfl) (by simp only [List.length_singleton, hlp]; omega) (by simp only [List.length_singleton, hlp]; omega) ?_)
 rintro v9 G7 H7 hle7 hown7
 have hsameO := OwnP.sameO (hown6.push _) hle7 hown7
 obtain ⟨B7, c7, rfl⟩ := hown7.shape
 have le67 := Hp.le_trans (Hp.le_push _ _) hle7
 have z7 := le67.1
 have zz7 := hown7.size
 have gw7 := Xr le67 (by omega) (by intro e; cases e) gw6
 have gz7 := Xr le67 (by omega) (by intro e; cases e) gz6
 have hw7 := Xr hown7.le (by omega) (by intro e; cases e) gw7
 have hz7 := Xr hown7.le (by omega) (by intro e; cases e) gz7
 have aw7 := aw6.trans (.of_le le67)
 have ht7 := ht6.mono le67
 refine ⟨Yk, ?_⟩
 refine Xd rfl rfl (Yi rfl) Xq ?_
 refine Xd rfl rfl (Xf (off := 1) rfl Tryz.underlying167 rfl inf23.size (by decide) rfl) Xq ?_
 first | refine Ym rfl rfl (Y3 rfl rfl rfl inf23.size Yd Yg rfl ?_)
 refine ⟨Yk, ?_⟩
 refine Xe ?_
 refine Xe ?_
 obtain ⟨H8, hH8⟩ : ∃ H8, H8 = H7.put wb (.own 0 [.pointer (some ⟨tb, 0, none⟩), .slice B7 (S.nodes.take i ++ [l.b]).length c7, .bool S.back, .bool S.over, .int .i64 S.steps]) := ⟨_, rfl⟩
 obtain ⟨G8, hG8⟩ : ∃ G8, G8 = G7.put wb (.own 0 [.pointer (some ⟨tb, 0, none⟩), .slice B7 (S.nodes.take i ++ [l.b]).length c7, .bool S.back, .bool S.over, .int .i64 S.steps]) := ⟨_, rfl⟩
 have hown8 : OwnP (Y1 .i64) G8 H8 (.slice B7 (S.nodes.take i ++ [l.b]).length c7) (S.nodes.take i ++ [l.b]) := by rw [hG8, hH8]; exact hown7.put (by rw [gw7]; intro e; cases e) _ (Hp.sees_box _ gw7)
 have gw8 : G8.get wb = .own 0 [.pointer (some ⟨tb, 0, none⟩), .slice B7 (S.nodes.take i ++ [l.b]).length c7, .bool S.back, .bool S.over, .int .i64 S.steps] := by rw [hG8]; exact Hp.put_same _ _ _
 have gz8 : G8.get G.size = .own 0 [.slice none 0 0, .int .i64 0, .int .u64 0] := by rw [hG8, Hp.put_other _ _ (by omega)]; exact gz7
 have aw78 : Away wb G7 G8 := by rw [hG8]; exact Away.put (.refl _ _) _
 have aw8 := aw7.trans aw78
 have z8 := aw78.size
 have zz8 := hown8.size
 have hw8 := Xr hown8.le (by omega) (by intro e; cases e) gw8
 have hz8 := Xr hown8.le (by omega) (by intro e; cases e) gz8
 have ht8 := aw78.tree gw7 ht7
 change ACode true _ _ _ _ _ (H7.put wb (.own 0 [.pointer (some ⟨tb, 0, none⟩), .slice B7 (S.nodes.take i ++ [l.b]).length c7, .bool S.back, .bool S.over, .int .i64 S.steps]))
 rw [← hH8]
 clear hH8 hG8 hsameO
 have hlen : (S.nodes.take i ++ [l.b]).length = i + 1 := by rw [List.length_append, hlp, List.length_singleton]
 refine Yy (by kernel_rfl) (Y4 (B := [0, 1, 3, 7, 15, 0, 32, 96, 224, 480, 1023]) (π := [0, 1, 2, 3, 4, 5, 6, 7, 8, 9, 10]) (by kernel_rfl)) ?_
 refine Xd rfl rfl (X0 rfl) Xq ?_
 refine Xd rfl rfl (Yi rfl) Xq ?_
 refine Xd rfl rfl (Xf (off := 1) rfl Tryz.underlying167 rfl inf23.size (by decide) rfl) Xq ?_
 refine Xd rfl rfl (Xk rfl Tryz.underlying23 rfl Xp) Xq ?_
 refine Xd rfl rfl (Ys rfl Tryz.underlying23) Xq ?_
 refine Xd rfl rfl (X0 rfl) Xq ?_
 refine Xd rfl rfl (Yi rfl) Xq ?_
 refine Xd rfl rfl (Xf (off := 0) rfl Tryz.underlying167 rfl inf37.size (by decide) rfl) Xq ?_
 refine Xd rfl rfl (Xk rfl Tryz.underlying37 rfl Xp) Xq ?_
 refine Ym rfl rfl (Xy (Len_tree (ht8.mono hown8.le)) rfl Tryz.func62 rfl rfl rfl ?_)
 rintro v10 H8 ⟨rfl, rfl⟩
 refine ⟨Yk, ?_⟩
 refine Xd rfl rfl (Za rfl rfl) Xq ?_
 refine X5 rfl rfl ?_ ?_
 intro hc3
 have hmore : i + 1 < T.vars.length := by have := of_decide_eq_true hc3; omega
 rw [if_pos hmore] at hag
 refine Xe ?_
 refine Xu ?_
 refine Xa (X0 rfl) ?_
 refine Xa (Yi rfl) ?_
 refine Xa (Xf (off := 2) rfl Tryz.underlying167 rfl inf4.size (by decide) rfl) ?_
 first | refine Xw (Y3 rfl rfl rfl inf4.size Yd Yg rfl ?_)
 refine Xe ?_
 refine Xu ?_
 refine Xa (Y6 (pl := [(0, 1), (1, 1), (2, 1)]) (r := [.slice _ _ _, .int .i64 _, .int .u64 _]) Tryz.underlying46 inf46.zero (by decide) rfl rfl) ?_
 refine Xw (Yf (vs := [.slice _ _ _, .int .i64 _, .int .u64 _]) rfl rfl inf46.size Yd Yg rfl rfl ?_)
 refine Xa (Xn rfl) ?_
 refine X2 ?_
 rw [hag]
 exact ⟨_, Y8 (Yq Xm (Yo (cs := [_, _, _]) Tryz.underlying46 rfl inf46.size X8)) (Xs rfl), (G8.put wb _).put G.size _, (aw8.put _).put_new (Nat.le_refl _) (by omega) _, ⟨B7, c7, by simp; omega, by rw [Hp.put_other _ _ (by omega)]; exact Hp.put_same _ _ _, (hown8.put (by rw [gw8]; intro e; cases e) _ (Hp.sees_box _ gw8)).put (by rw [Hp.put_other _ _ (by omega), gz8]; intro e; cases e) _ (Hp.sees_box (cs := [.slice none 0 0, .int .i64 0, .int .u64 0]) _ (by rw [Hp.put_other _ _ (by omega)]; exact gz8))⟩, Ui _⟩
 intro hc3
 have hmore : ¬ i + 1 < T.vars.length := by have := of_decide_eq_false hc3; omega
 rw [if_neg hmore] at hag
 refine X9 ?_
 refine Xe ?_
 have hW9 : Ub G8 H8 wb (.pointer (some ⟨tb, 0, none⟩)) ⟨S.nodes.take i ++ [l.b], S.back, S.over, S.steps⟩ := ⟨B7, c7, by omega, gw8, hown8⟩
 refine Xu ?_
 refine Xa (X0 rfl) ?_
 refine Xw (Xy (row_walk hT hW9 ht8 (by show (S.nodes.take i ++ [l.b]).length ≤ _; omega)) rfl Tryz.func138 rfl rfl rfl ?_)
 rintro v11 H9 ⟨G9, le9, ⟨B9, c9, hwb9, gw9, hown9⟩, A9, k9, rfl, sl9⟩; have z9 := le9.1; have gz9 := Xr le9 (by omega) (by intro e; cases e) gz8; have hz9 := Xr hown9.le (by omega) (by intro e; cases e) gz9; have zz9 := hown9.size
 refine Xa (Yj rfl rfl) ?_
 refine Xa (Yj rfl rfl) ?_
 refine Xw (Yf (vs := [.slice _ _ _, .int .i64 _, .int .u64 _]) rfl rfl inf46.size Yd Yg rfl rfl ?_)
 refine Xa (Xn rfl) ?_
 refine X2 ?_
 rw [hag]
 exact ⟨_, Y8 (Yq Xm (Yo (cs := [_, _, _]) Tryz.underlying46 rfl inf46.size X8)) (Xs rfl), G9.put G.size _, (aw8.trans (.of_le le9)).put_new (Nat.le_refl _) (by omega) _, ⟨B9, c9, by simpa using hwb9, by rw [Hp.put_other _ _ (by omega)]; exact gw9, hown9.put (by rw [gz9]; intro e; cases e) _ (Hp.sees_box _ gz9)⟩, A9, k9, rfl, sl9.mono (Hp.sees_box _ gz9)⟩
theorem step_over {T : TreeT} {S : Z6} (h : S.over = true) : Ue T S = (S, none) := if_pos h
set_option maxHeartbeats 1000000 in
theorem step_walk {T : TreeT} (hT : GoodT T) {tv : Value} {S : Z6} {wb : Nat} {G H : Hp} (hW : Ub G H wb tv S) (ht : S.over = false → TreeR G tv T) (hl : S.nodes.length ≤ T.vars.length) (hs0 : 0 ≤ S.steps) (hs1 : S.steps ≤ 1000000000000) (htv : ∃ v, tv = .pointer v) :
  ACalls Tryz.prog 137 #[.pointer (some ⟨wb, 0, none⟩)] H (fun r H' => ∃ G', Away wb G G' ∧ Ub G' H' wb tv (Ue T S).1 ∧ RowO G' r (Ue T S).2) := by
 obtain ⟨v0, rfl⟩ := htv
 obtain ⟨B, c, hwb, gw, hown⟩ := hW
 have zz := hown.size
 have hownP := hown.push (.own 0 [.slice none 0 0, .int .i64 0, .int .u64 0])
 have gwP : (G.push (.own 0 [.slice none 0 0, .int .i64 0, .int .u64 0])).get wb = .own 0 [.pointer v0, .slice B S.nodes.length c, .bool S.back, .bool S.over, .int .i64 S.steps] := (Hp.push_old _ _ hwb).trans gw
 have gzP : (G.push (.own 0 [.slice none 0 0, .int .i64 0, .int .u64 0])).get H.size = .own 0 [.slice none 0 0, .int .i64 0, .int .u64 0] := by rw [zz]; exact Hp.push_new _ _
 have hw := Xr hownP.le (by simp; omega) (by intro e; cases e) gwP
 have hz := Xr hownP.le (by simp; omega) (by intro e; cases e) gzP
 have awP : Away wb G (G.push (.own 0 [.slice none 0 0, .int .i64 0, .int .u64 0])) := .of_le (G.le_push _)
 refine Xv Tryz.func137 rfl rfl rfl (by simp) ?_
 refine Xe ?_
 refine Xu ?_
 refine Xz (Yz (l := [.slice none 0 0, .int .i64 0, .int .u64 0]) inf46.zero rfl (by decide)) ?_
 refine Xa (Xn rfl) ?_
 refine Xe ?_
 refine Xe ?_
 refine Xu ?_
 refine Xa (X0 rfl) ?_
 refine Xa (Un rfl t_spot rfl Tryz.underlying162) ?_
 refine Xa (Xo rfl) ?_
 refine Ya rfl rfl rfl ?_ ?_
 intro hg1
 cases hg1
 intro hg1
 have hp1 := hg1; try simp only [Yt] at hp1
 refine Xj (Xh rfl rfl rfl hg1) (X0 rfl) ?_
 refine Xj (Xh rfl rfl rfl hg1) (Yi rfl) ?_
 refine Xj (Xh rfl rfl rfl hg1) (Xf (off := 3) rfl Tryz.underlying167 rfl inf4.size (by decide) rfl) ?_
 refine Xj (Xh rfl rfl rfl hg1) (Xk rfl Tryz.underlying4 rfl Xp) ?_
 refine Xa (Xl (Yv hg1) rfl) ?_
 refine X5 rfl rfl ?_ ?_
 intro hc2
 have ho : S.over = true := hc2
 refine Xe ?_
 refine Xu ?_
 refine Xa (Y6 (pl := [(0, 1), (1, 1), (2, 1)]) (r := [.slice _ _ _, .int .i64 _, .int .u64 _]) Tryz.underlying46 inf46.zero (by decide) rfl rfl) ?_
 refine Xw (Yf (vs := [.slice _ _ _, .int .i64 _, .int .u64 _]) rfl rfl inf46.size Yd Yg rfl rfl ?_)
 refine Xa (Xn rfl) ?_
 refine X2 ?_
 rw [step_over ho]
 exact ⟨_, Y8 (Yq Xm (Yo (cs := [_, _, _]) Tryz.underlying46 rfl inf46.size X8)) (Xs rfl), (G.push (.own 0 [.slice none 0 0, .int .i64 0, .int .u64 0])).put H.size (.own 0 [.slice none 0 0, .int .i64 0, .int .u64 0]), awP.put_new (by omega) (by omega) _, ⟨B, c, by simp; omega, by rw [Hp.put_other _ _ (by omega)]; exact gwP, hownP.put (by rw [gzP]; intro e; cases e) _ (Hp.sees_box _ gzP)⟩, Ui _⟩
 intro hc2
 have ho : S.over = false := hc2
 have ho' : ¬ S.over = true := by rw [ho]; decide
 have ht1 := (ht ho).mono (G.le_push (.own 0 [.slice none 0 0, .int .i64 0, .int .u64 0]))
 refine X9 ?_
 refine Xe ?_
 refine Xu ?_
 refine Xa (X0 rfl) ?_
 refine Xa (Yi rfl) ?_
 refine Xa (Xf (off := 4) rfl Tryz.underlying167 rfl inf3.size (by decide) rfl) ?_
 refine Xa (Xk rfl Tryz.underlying3 rfl Xp) ?_
 refine Xa (Yn rfl rfl Y0) ?_
 refine Xa (Yi rfl) ?_
 refine Xa (Xf (off := 4) rfl Tryz.underlying167 rfl inf3.size (by decide) rfl) ?_
 first | refine Xw (Y3 rfl rfl rfl inf3.size Yd Yg rfl ?_)
 refine Xe ?_
 refine Xe ?_
 obtain ⟨H2, hH2⟩ : ∃ H2, H2 = (H.push (.own 0 [.slice none 0 0, .int .i64 0, .int .u64 0])).put wb (.own 0 [.pointer v0, .slice B S.nodes.length c, .bool S.back, .bool S.over, .int .i64 (S.steps + 1)]) := ⟨_, rfl⟩
 obtain ⟨G2, hG2⟩ : ∃ G2, G2 = (G.push (.own 0 [.slice none 0 0, .int .i64 0, .int .u64 0])).put wb (.own 0 [.pointer v0, .slice B S.nodes.length c, .bool S.back, .bool S.over, .int .i64 (S.steps + 1)]) := ⟨_, rfl⟩
 have hown2 : OwnP (Y1 .i64) G2 H2 (.slice B S.nodes.length c) S.nodes := by rw [hG2, hH2]; exact hownP.put (by rw [gwP]; intro e; cases e) _ (Hp.sees_box _ gwP)
 have gw2 : G2.get wb = .own 0 [.pointer v0, .slice B S.nodes.length c, .bool S.back, .bool S.over, .int .i64 (S.steps + 1)] := by rw [hG2]; exact Hp.put_same _ _ _
 have gz2 : G2.get H.size = .own 0 [.slice none 0 0, .int .i64 0, .int .u64 0] := by rw [hG2, Hp.put_other _ _ (by omega)]; exact gzP
 have awP2 : Away wb (G.push (.own 0 [.slice none 0 0, .int .i64 0, .int .u64 0])) G2 := by rw [hG2]; exact Away.put (.refl _ _) _
 have aw2 := awP.trans awP2
 have ht2 := awP2.tree gwP ht1
 have z2 : G2.size = G.size + 1 := by rw [hG2]; simp
 have hw2 := Xr hown2.le (by omega) (by intro e; cases e) gw2
 have hz2 := Xr hown2.le (by omega) (by intro e; cases e) gz2
 have hW2 : Ub G2 H2 wb (.pointer v0) ⟨S.nodes, S.back, S.over, S.steps + 1⟩ := ⟨B, c, by omega, gw2, hown2⟩
 change ACode true _ _ _ _ _ ((H.push (.own 0 [.slice none 0 0, .int .i64 0, .int .u64 0])).put wb (.own 0 [.pointer v0, .slice B S.nodes.length c, .bool S.back, .bool S.over, .int .i64 (S.steps + 1)]))
 rw [← hH2]
 clear hH2 hG2
 refine Xu ?_
 refine Xa (X0 rfl) ?_
 refine Xa (Yi rfl) ?_
 refine Xa (Xf (off := 2) rfl Tryz.underlying167 rfl inf4.size (by decide) rfl) ?_
 refine Xa (Xk rfl Tryz.underlying4 rfl Xp) ?_
 refine X5 rfl rfl ?_ ?_
 intro hc3
 have hb : S.back = true := hc3
 have hst : Ue T S = againS T ⟨S.nodes, S.back, S.over, S.steps + 1⟩ := by unfold Ue; rw [if_neg ho', if_pos hb]
 refine Xe ?_
 refine Xu ?_
 refine Xa (X0 rfl) ?_
 refine Xw (Xy (again_walk hT hW2 ht2 hl) rfl Tryz.func147 rfl rfl rfl ?_)
 rintro v11 H9 ⟨G9, aw9, ⟨B9, c9, hwb9, gw9, hown9⟩, A9, k9, rfl, sl9⟩; have z9 := aw9.size; have gz9 := aw9.keep (by omega) (by omega) (by intro e; cases e) gz2; have hz9 := Xr hown9.le (by omega) (by intro e; cases e) gz9; have zz9 := hown9.size
 refine Xa (Yj rfl rfl) ?_
 refine Xa (Yj rfl rfl) ?_
 refine Xw (Yf (vs := [.slice _ _ _, .int .i64 _, .int .u64 _]) rfl rfl inf46.size Yd Yg rfl rfl ?_)
 refine Xa (Xn rfl) ?_
 refine X2 ?_
 rw [hst]
 exact ⟨_, Y8 (Yq Xm (Yo (cs := [_, _, _]) Tryz.underlying46 rfl inf46.size X8)) (Xs rfl), G9.put H.size _, (aw2.trans aw9).put_new (by omega) (by omega) _, ⟨B9, c9, by simpa using hwb9, by rw [Hp.put_other _ _ (by omega)]; exact gw9, hown9.put (by rw [gz9]; intro e; cases e) _ (Hp.sees_box _ gz9)⟩, A9, k9, rfl, sl9.mono (Hp.sees_box _ gz9)⟩
 intro hc3
 have hb : S.back = false := hc3
 have hst : Ue T S = onS T ⟨S.nodes, S.back, S.over, S.steps + 1⟩ := by unfold Ue; rw [if_neg ho', if_neg (by rw [hb]; decide)]
 refine X9 ?_
 refine Xe ?_
 refine Xu ?_
 refine Xa (X0 rfl) ?_
 refine Xw (Xy (on_walk hT hW2 ht2 hl) rfl Tryz.func148 rfl rfl rfl ?_)
 rintro v11 H9 ⟨G9, aw9, ⟨B9, c9, hwb9, gw9, hown9⟩, A9, k9, rfl, sl9⟩; have z9 := aw9.size; have gz9 := aw9.keep (by omega) (by omega) (by intro e; cases e) gz2; have hz9 := Xr hown9.le (by omega) (by intro e; cases e) gz9; have zz9 := hown9.size
 refine Xa (Yj rfl rfl) ?_
 refine Xa (Yj rfl rfl) ?_
 refine Xw (Yf (vs := [.slice _ _ _, .int .i64 _, .int .u64 _]) rfl rfl inf46.size Yd Yg rfl rfl ?_)
 refine Xa (Xn rfl) ?_
 refine X2 ?_
 rw [hst]
 exact ⟨_, Y8 (Yq Xm (Yo (cs := [_, _, _]) Tryz.underlying46 rfl inf46.size X8)) (Xs rfl), G9.put H.size _, (aw2.trans aw9).put_new (by omega) (by omega) _, ⟨B9, c9, by simpa using hwb9, by rw [Hp.put_other _ _ (by omega)]; exact gw9, hown9.put (by rw [gz9]; intro e; cases e) _ (Hp.sees_box _ gz9)⟩, A9, k9, rfl, sl9.mono (Hp.sees_box _ gz9)⟩
set_option maxHeartbeats 1000000 in
theorem next_walk {T : TreeT} (hT : GoodT T) (hA : U3 T) {tv : Value} {S : Z6} {wb : Nat} {G H : Hp} (hW : Ub G H wb tv S) (ht : S.over = false → TreeR G tv T) (hv : ValS T S) (hs0 : 0 ≤ S.steps) (hs1 : S.steps ≤ 100000000000) (htv : ∃ v, tv = .pointer v) :
  ACalls Tryz.prog 116 #[.pointer (some ⟨wb, 0, none⟩)] H (fun r H' => ∃ G', Away wb G G' ∧ Ub G' H' wb tv (V4 T S).1 ∧ RowO G' r (V4 T S).2) := by
 have hph := phi_le hv.len
 have hfew := hT.few
 have zz : H.size = G.size := by obtain ⟨_, _, _, _, hown⟩ := hW; exact hown.size
 have hwb0 : wb < G.size := by obtain ⟨_, _, h, _, _⟩ := hW; exact h
 have gwS : ∃ cs, G.get wb = .own 0 cs := by obtain ⟨_, _, _, h, _⟩ := hW; exact ⟨_, h⟩
 refine Xv Tryz.func116 rfl rfl rfl (by simp) ?_
 refine Xe ?_
 refine Xu ?_
 refine Xz (Yz (l := [.slice none 0 0, .int .i64 0, .int .u64 0]) inf46.zero rfl (by decide)) ?_
 refine Xa (Xn rfl) ?_
 refine Xe ?_
 refine Ye ?_
 refine Y5 (fun n t H' => ∃ (S1 : Z6) (G1 : Hp), n = phi T S1 ∧ Away wb G G1 ∧ Ub G1 H' wb tv S1 ∧ V4 T S1 = V4 T S ∧ ValS T S1 ∧ (S1.over = false → TreeR G1 tv T) ∧ 0 ≤ S1.steps ∧ S1.steps + phi T S1 ≤ S.steps + phi T S ∧ G.size + 1 ≤ G1.size ∧ G1.get G.size = .own 0 [.slice none 0 0, .int .i64 0, .int .u64 0] ∧ t 0 = .pointer (some ⟨wb, 0, none⟩) ∧ t 2 = .pointer (some ⟨G.size, 0, none⟩)) (phi T S) (⟨S, G.push (.own 0 [.slice none 0 0, .int .i64 0, .int .u64 0]), rfl, .of_le (G.le_push _), (by obtain ⟨B, c, h1, h2, h3⟩ := hW; exact ⟨B, c, by simp; omega, (Hp.push_old _ _ h1).trans h2, h3.push _⟩), rfl, hv, fun h => (ht h).mono (G.le_push _), hs0, Int.le_refl _, by simp, Hp.push_new _ _, rfl, by show Value.pointer (some ⟨H.size, 0, none⟩) = _; rw [zz]⟩) ?_
 rintro n t H1 ⟨S1, G1, rfl, aw1, hW1, hnx, hv1, ht1, hst0, hst1, zG1, gz1, e0, e2⟩
 obtain ⟨B, c, hwb1, gw1, hown1⟩ := id hW1
 have hw1 := Xr hown1.le hwb1 (by intro e; cases e) gw1
 have hz1 := Xr hown1.le (by omega) (by intro e; cases e) gz1
 have zz1 := hown1.size
 refine Xe ?_
 refine Xe ?_
 refine Xu ?_
 refine Xa (X0 Xm) ?_
 refine Xa (av_ptr_ne_nil rfl rfl Tryz.underlying162) ?_
 refine Xa (Xo rfl) ?_
 refine Ya rfl rfl rfl ?_ ?_
 intro hg1
 have hp1 := hg1; try simp only [Yt] at hp1
 refine Xj (Xh rfl rfl rfl hg1) (X0 Xm) ?_
 refine Xj (Xh rfl rfl rfl hg1) (Yi rfl) ?_
 refine Xj (Xh rfl rfl rfl hg1) (Xf (off := 3) rfl Tryz.underlying167 rfl inf4.size (by decide) rfl) ?_
 refine Xj (Xh rfl rfl rfl hg1) (Xk rfl Tryz.underlying4 rfl Xp) ?_
 refine Xj (Xh rfl rfl rfl hg1) (Zz rfl) ?_
 refine Xa (Xl (Yv hg1) rfl) ?_
 refine X5 rfl rfl ?_ ?_
 intro hc2
 have ho : S1.over = false := by have h := hc2; simpa using h
 refine X9 ?_
 refine Ye ?_
 refine Xe ?_
 refine Xu ?_
 refine Xa (X0 Xm) ?_
 refine Xw (Xy (step_walk hT hW1 ht1 hv1.len hst0 (by omega) htv) rfl Tryz.func137 rfl rfl rfl ?_)
 rintro v3 H3 ⟨G3, aw3, hW3, A3, k3, rfl, sl3⟩
 refine Xa (Zm rfl) ?_
 refine Xa (Yj rfl rfl) ?_
 refine Xa (Yj rfl rfl) ?_
 refine Xz (Yz (l := [.slice none 0 0, .int .i64 0, .int .u64 0]) inf46.zero rfl (by decide)) ?_
 refine Xw (Yf (vs := [.slice _ _ _, .int .i64 _, .int .u64 _]) rfl rfl inf46.size Yd Yg rfl rfl ?_)
 refine Xa (Xn rfl) ?_
 refine Xe ?_
 obtain ⟨o, ho3⟩ : ∃ o, o = (Ue T S1).2 := ⟨_, rfl⟩
 obtain ⟨S3, hS3⟩ : ∃ S3, S3 = (Ue T S1).1 := ⟨_, rfl⟩
 have hpair : Ue T S1 = (S3, o) := by rw [ho3, hS3]
 have htell := step_tells hT hv1
 have hstp := step_steps (T := T) ho
 have hnext := next_step hT hA hv1 ho
 have hphn := step_phi hA hv1 ho hT
 rw [hpair] at hnext
 rw [← hS3] at hW3 hstp htell hphn
 rw [← ho3] at sl3 htell hphn
 rw [← ho3]
 obtain ⟨B3, c3, hwb3, gw3, hown3⟩ := id hW3
 have zz3 := hown3.size
 have z3 := aw3.size
 have aw03 := aw1.trans aw3
 have gz3 := aw3.keep (by omega) (by omega) (by intro e; cases e) gz1
 have hz3 := Xr hown3.le (by omega) (by intro e; cases e) gz3
 have ht3 := aw3.tree gw1 (ht1 ho)
 have hp1 := phi_pos (T := T) ho
 refine Xu ?_
 refine Xa (Xo rfl) ?_
 refine X5 rfl rfl ?_ ?_
 intro hc3
 obtain ⟨r3, rfl⟩ : ∃ r3, o = some r3 := by have h := hc3; cases o with | none => cases h | some r => exact ⟨r, rfl⟩
 have hfin : V4 T S = (S3, some r3) := hnx.symm.trans hnext
 refine Xe ?_
 refine Xu ?_
 refine Xa (Yl (cs := [.slice _ _ _, .int .i64 _, .int .u64 _]) rfl Tryz.underlying46 rfl inf46.size X8) ?_
 refine Xw (Yf (vs := [.slice _ _ _, .int .i64 _, .int .u64 _]) Xm Xm inf46.size Yd Yg Xm Xm ?_)
 refine Xa (Xn rfl) ?_
 refine X2 ?_
 rw [hfin]
 have hownB := hown3.boxed [.slice none 0 0, .int .i64 0, .int .u64 0] [.slice A3 (Uy (some r3)).length k3, .int .i64 (rowC (some r3)), .int .u64 (rowM (some r3))]
 have gzB : ((G3.push (.own 0 [.slice none 0 0, .int .i64 0, .int .u64 0])).put H3.size (.own 0 [.slice A3 (Uy (some r3)).length k3, .int .i64 (rowC (some r3)), .int .u64 (rowM (some r3))])).get G.size = .own 0 [.slice none 0 0, .int .i64 0, .int .u64 0] := by rw [Hp.put_other _ _ (by omega), Hp.push_old _ _ (by omega)]; exact gz3
 have gwB : ((G3.push (.own 0 [.slice none 0 0, .int .i64 0, .int .u64 0])).put H3.size (.own 0 [.slice A3 (Uy (some r3)).length k3, .int .i64 (rowC (some r3)), .int .u64 (rowM (some r3))])).get wb = .own 0 [tv, .slice B3 S3.nodes.length c3, .bool S3.back, .bool S3.over, .int .i64 S3.steps] := by rw [Hp.put_other _ _ (by omega), Hp.push_old _ _ (by omega)]; exact gw3
 have slB : Sl (Y1 .i64) ((G3.push (.own 0 [.slice none 0 0, .int .i64 0, .int .u64 0])).put H3.size (.own 0 [.slice A3 (Uy (some r3)).length k3, .int .i64 (rowC (some r3)), .int .u64 (rowM (some r3))])) (.slice A3 (Uy (some r3)).length k3) (Uy (some r3)) := sl3.mono (Hp.sees_put_new (Hp.le_push _ _).sees (by omega) _)
 exact ⟨_, Y8 (Yq Xm (Yo (cs := [_, _, _]) Tryz.underlying46 rfl inf46.size X8)) (Xs rfl), (((G3.push (.own 0 [.slice none 0 0, .int .i64 0, .int .u64 0])).put H3.size (.own 0 [.slice A3 (Uy (some r3)).length k3, .int .i64 (rowC (some r3)), .int .u64 (rowM (some r3))]))).put G.size _, ((aw03.push (by omega) _).put_new (by omega) (by omega) _).put_new (Nat.le_refl _) (by omega) _, ⟨B3, c3, by simp; omega, by rw [Hp.put_other _ _ (by omega)]; exact gwB, hownB.put (by rw [gzB]; intro e; cases e) _ (Hp.sees_box _ gzB)⟩, A3, k3, rfl, slB.mono (Hp.sees_box _ gzB)⟩
 intro hc3
 obtain rfl : o = none := by have h := hc3; cases o with | none => rfl | some r => cases h
 have hfin : V4 T S3 = V4 T S := hnext.symm.trans hnx
 have hphn := hphn rfl
 refine X9 ?_
 refine ⟨phi T S3, hphn, S3, (G3.push (.own 0 [.slice none 0 0, .int .i64 0, .int .u64 0])).put H3.size (.own 0 [.slice A3 (Uy (none : Option RowT)).length k3, .int .i64 (rowC none), .int .u64 (rowM none)]), rfl, (aw03.push (by omega) _).put_new (by omega) (by omega) _, ⟨B3, c3, by simp; omega, by rw [Hp.put_other _ _ (by omega), Hp.push_old _ _ (by omega)]; exact gw3, hown3.boxed _ _⟩, hfin, htell.1, fun _ => ht3.mono (Hp.le_put_new (G3.le_push _) (by omega) _), by omega, by omega, by simp; omega, by rw [Hp.put_other _ _ (by omega), Hp.push_old _ _ (by omega)]; exact gz3, e0, e2⟩
 intro hc2
 have ho : S1.over = true := by have h := hc2; simpa using h
 refine Yx ?_
 refine Xe ?_
 refine Xu ?_
 refine Xa (Y6 (pl := [(0, 1), (1, 1), (2, 1)]) (r := [.slice _ _ _, .int .i64 _, .int .u64 _]) Tryz.underlying46 inf46.zero (by decide) rfl rfl) ?_
 refine Xw (Yf (vs := [.slice _ _ _, .int .i64 _, .int .u64 _]) Xm Xm inf46.size Yd Yg Xm Xm ?_)
 refine Xa (Xn rfl) ?_
 refine X2 ?_
 rw [next_over ho] at hnx
 rw [← hnx]
 exact ⟨_, Y8 (Yq Xm (Yo (cs := [_, _, _]) Tryz.underlying46 rfl inf46.size X8)) (Xs rfl), G1.put G.size (.own 0 [.slice none 0 0, .int .i64 0, .int .u64 0]), aw1.put_new (Nat.le_refl _) (by omega) _, ⟨B, c, by simp; omega, by rw [Hp.put_other _ _ (by omega)]; exact gw1, hown1.put (by rw [gz1]; intro e; cases e) _ (Hp.sees_box _ gz1)⟩, Ui _⟩
 intro hg1
 cases hg1
def w0 : Z6 := ⟨[], false, false, 0⟩
def w1 : Z6 := ⟨[], false, true, 0⟩
theorem val_w0 (T : TreeT) : ValS T w0 := ⟨Nat.zero_le _, fun i h => absurd h (Nat.not_lt_zero _)⟩
theorem val_w1 (T : TreeT) : ValS T w1 := ⟨Nat.zero_le _, fun i h => absurd h (Nat.not_lt_zero _)⟩
theorem First_gen {T : TreeT} (hT : GoodT T) (hA : U3 T) (v : Option Addr) (S : Z6) (hS : S = w0 ∨ S = w1) (hf : ∀ H, ACalls Tryz.prog 115 #[.pointer v] H (fun r H' => r = .pointer (some ⟨H.size, 0, none⟩) ∧ H.le H' ∧ Ub H' H' H.size (.pointer v) S)) (H : Hp) (ht : S.over = false → TreeR H (.pointer v) T) :
  ACalls Tryz.prog 88 #[.pointer v] H (fun r H' => H.le H' ∧ RowO H' r (V4 T S).2) := by
 have hv : ValS T S := by rcases hS with rfl | rfl; exact val_w0 T; exact val_w1 T
 have hs : S.steps = 0 := by rcases hS with rfl | rfl <;> rfl
 refine Xv Tryz.func88 rfl rfl rfl (by simp) ?_
 refine Xe ?_
 refine Xu ?_
 refine Xz (Yz (l := [.slice none 0 0, .int .i64 0, .int .u64 0]) inf46.zero rfl (by decide)) ?_
 refine Xa (Xn rfl) ?_
 refine Xe ?_
 refine Xu ?_
 refine Xa (X0 rfl) ?_
 refine Xw (Xy (hf _) rfl Tryz.func115 rfl rfl rfl ?_)
 rintro v3 H3 ⟨rfl, hle3, hW3⟩; have z3 := hle3.1; simp only [Hp.push_size] at z3; have hz3 : H3.get H.size = .own 0 [.slice none 0 0, .int .i64 0, .int .u64 0] := Xr hle3 (by simp) (by intro e; cases e) Yd
 refine Xw (Xy (next_walk hT hA hW3 (fun h => ((ht h).mono (H.le_push _)).mono hle3) hv (by omega) (by omega) ⟨_, rfl⟩) rfl Tryz.func116 rfl rfl rfl ?_)
 rintro v11 H9 ⟨G9, aw9, ⟨B9, c9, hwb9, gw9, hown9⟩, A9, k9, rfl, sl9⟩; have z9 := aw9.size; have gz9 := aw9.keep (by omega) (by simp) (by intro e; cases e) hz3; have hz9 := Xr hown9.le (by omega) (by intro e; cases e) gz9; have leG9 := aw9.base (K := H) (Hp.le_trans (H.le_push _) hle3) (by simp)
 refine Xa (Yj rfl rfl) ?_
 refine Xa (Yj rfl rfl) ?_
 refine Xw (Yf (vs := [.slice _ _ _, .int .i64 _, .int .u64 _]) rfl rfl inf46.size Yd Yg rfl rfl ?_)
 refine Xa (Xn rfl) ?_
 refine X2 ?_
 exact ⟨_, Y8 (Yq Xm (Yo (cs := [_, _, _]) Tryz.underlying46 rfl inf46.size X8)) (Xs rfl), Hp.le_put_new (Hp.le_trans leG9 hown9.le) (Nat.le_refl _) _, A9, k9, rfl, (sl9.mono hown9.le.sees).mono (Hp.sees_box _ hz9)⟩
def kRaw : Kd (Value × Int × Int) where
 sz := 3
 pos := by decide
 rep _ x cs := cs = [x.1, .int .i64 x.2.1, .int .u64 x.2.2] ∧ x.1.oneCell' = true
 len h := by rw [h.1]; rfl
 mono _ h := h
 one h v hv := by rw [h.1] at hv; simp at hv; rcases hv with rfl | rfl | rfl; exact h.2; rfl; rfl
structure Raws (G : Hp) (raws : List (Value × Int × Int)) (rows : List RowT) : Prop where
 len : raws.length = rows.length
 at_ : ∀ (i : Nat) (h : i < raws.length) (h' : i < rows.length), raws[i].2.1 = rows[i].cost ∧ raws[i].2.2 = rows[i].n ∧ Sl (Y1 .i64) G raws[i].1 rows[i].nodes
theorem Raws.mono {G G' : Hp} (h : G.sees G') {raws : List (Value × Int × Int)} {rows : List RowT} (hr : Raws G raws rows) : Raws G' raws rows :=
 ⟨hr.len, fun i a b => ⟨(hr.at_ i a b).1, (hr.at_ i a b).2.1, (hr.at_ i a b).2.2.mono h⟩⟩
theorem Raws.snoc {G : Hp} {raws : List (Value × Int × Int)} {rows : List RowT} (hr : Raws G raws rows) {v : Value} {r : RowT} (hs : Sl (Y1 .i64) G v r.nodes) : Raws G (raws ++ [(v, r.cost, r.n)]) (rows ++ [r]) := by
 have hl := hr.len
 refine ⟨by simp [hl], fun i a b => ?_⟩
 rw [List.length_append, List.length_singleton] at a b
 by_cases h : i < raws.length
 ·have h' : i < rows.length := by omega
  rw [List.getElem_append_left h, List.getElem_append_left h']
  exact hr.at_ i h h'
 ·obtain rfl : i = raws.length := by omega
  rw [List.getElem_append_right (Nat.le_refl _), List.getElem_append_right (by omega)]
  simp only [Nat.sub_self, List.getElem_cons_zero, hl]
  exact ⟨trivial, trivial, hs⟩
theorem Raws.sl {G H : Hp} {raws : List (Value × Int × Int)} {rows : List RowT} (hr : Raws G raws rows) (hle : G.sees H) {v : Value} (hs : Sl kRaw H v raws) : Sl kRow H v rows := by
 rcases hs with ⟨rfl, rfl⟩ | ⟨b, o, c, rfl, hb, hk, hx⟩
 ·have := hr.len
  exact .inl ⟨rfl, List.eq_nil_of_length_eq_zero (by simpa using this.symm)⟩
 ·refine .inr ⟨b, o, c, by rw [hr.len], hb, hk, fun i x hi => ?_⟩
  obtain ⟨hi', rfl⟩ := List.getElem?_eq_some_iff.1 hi
  have hi2 : i < raws.length := by rw [hr.len]; exact hi'
  obtain ⟨cs, h1, h2⟩ := hx i raws[i] (List.getElem?_eq_getElem hi2)
  obtain ⟨e1, e2, e3⟩ := hr.at_ i hi2 hi'
  refine ⟨cs, ⟨raws[i].1, ?_, e3.mono hle⟩, h2⟩
  rw [h1.1, e1, e2]
def apartL (ways : Int) (m : Nat) : List Link := (List.range m).map fun (k : Nat) => ⟨k, k, k, ways⟩
def apartF (k : Nat) : Forest := ⟨List.replicate k ⟨#[120]⟩, (List.range k).map fun (i : Nat) => (i : Int), List.replicate k (-1), List.replicate k [], List.replicate k []⟩
def apartP (ways : Int) (sizes : List Int) : Parts := ⟨sizes.map fun m => apartL ways m.toNat, sizes.map fun _ => []⟩
theorem apartL_next (ways : Int) (m : Nat) : apartL ways (m + 1) = apartL ways m ++ [⟨m, m, m, ways⟩] := by
 unfold apartL
 rw [List.range_succ, List.map_append]; rfl
theorem apartL_len (ways : Int) (m : Nat) : (apartL ways m).length = m := by unfold apartL; simp
structure ApartR (G : Hp) (ways : Int) (sizes : List Int) (i : Nat) (nds : List (List Value)) : Prop where
 len : nds.length = i
 at_ : ∀ (j : Nat) (h : j < nds.length) (h' : j < sizes.length), ∃ w, nds[j] = [w] ∧ Sl kLink G w (apartL ways sizes[j].toNat)
theorem ApartR.mono {G G' : Hp} (h : G.sees G') {ways : Int} {sizes : List Int} {i : Nat} {nds : List (List Value)} (hr : ApartR G ways sizes i nds) : ApartR G' ways sizes i nds :=
 ⟨hr.len, fun j a b => let ⟨w, h1, h2⟩ := hr.at_ j a b; ⟨w, h1, h2.mono h⟩⟩
theorem ApartR.snoc {G : Hp} {ways : Int} {sizes : List Int} {i : Nat} {nds : List (List Value)} (hr : ApartR G ways sizes i nds) (hi : i < sizes.length) {w : Value} (hs : Sl kLink G w (apartL ways sizes[i].toNat)) : ApartR G ways sizes (i + 1) (nds ++ [[w]]) := by
 have hl := hr.len
 refine ⟨by simp [hl], fun j a b => ?_⟩
 rw [List.length_append, List.length_singleton] at a
 by_cases h : j < nds.length
 ·rw [List.getElem_append_left h]; exact hr.at_ j h b
 ·obtain rfl : j = nds.length := by omega
  rw [List.getElem_append_right (Nat.le_refl _)]
  simp only [Nat.sub_self, List.getElem_cons_zero]
  subst hl
  exact ⟨w, rfl, hs⟩
theorem rep_next {α : Type} (n : Nat) (x : α) : List.replicate n x ++ [x] = List.replicate (n + 1) x := by rw [List.replicate_succ']
def eStr (v : Value) (i : Nat) : Ent := ⟨1, by decide, v, List.replicate i [.string ⟨#[120]⟩]⟩
def eInt (v : Value) (i : Nat) : Ent := ⟨1, by decide, v, (List.range i).map fun (k : Nat) => [.int .i64 k]⟩
def eNeg (v : Value) (i : Nat) : Ent := ⟨1, by decide, v, List.replicate i [.int .i64 (-1)]⟩
def U5 (v : Value) (i : Nat) : Ent := ⟨1, by decide, v, List.replicate i [.slice none 0 0]⟩
def eNds (v : Value) (nds : List (List Value)) : Ent := ⟨1, by decide, v, nds⟩
theorem range_cells (i : Nat) : ((List.range i).map fun (k : Nat) => [Value.int .i64 k]) ++ [[.int .i64 i]] = (List.range (i + 1)).map fun (k : Nat) => [Value.int .i64 k] := by rw [List.range_succ, List.map_append]; rfl
theorem eStr_next (v w : Value) (i : Nat) : (⟨(eStr v i).sz, (eStr v i).pos, w, (eStr v i).raws ++ [[.string ⟨#[120]⟩]]⟩ : Ent) = eStr w (i + 1) := by unfold eStr; simp only [rep_next]
theorem eInt_next (v w : Value) (i : Nat) : (⟨(eInt v i).sz, (eInt v i).pos, w, (eInt v i).raws ++ [[.int .i64 i]]⟩ : Ent) = eInt w (i + 1) := by unfold eInt; simp only [range_cells]
theorem eNeg_next (v w : Value) (i : Nat) : (⟨(eNeg v i).sz, (eNeg v i).pos, w, (eNeg v i).raws ++ [[.int .i64 (-1)]]⟩ : Ent) = eNeg w (i + 1) := by unfold eNeg; simp only [rep_next]
theorem eNil_next (v w : Value) (i : Nat) : (⟨(U5 v i).sz, (U5 v i).pos, w, (U5 v i).raws ++ [[.slice none 0 0]]⟩ : Ent) = U5 w (i + 1) := by unfold U5; simp only [rep_next]
theorem eNds_next (v w : Value) (nds : List (List Value)) (x : List Value) : (⟨(eNds v nds).sz, (eNds v nds).pos, w, (eNds v nds).raws ++ [x]⟩ : Ent) = eNds w (nds ++ [x]) := rfl
def BxP (H G : Hp) (b2 b3 : List Value) : Prop := H.le G ∧ H.size + 4 ≤ G.size ∧ G.get H.size = .own 0 [.slice none 0 0, .slice none 0 0, .slice none 0 0, .slice none 0 0, .slice none 0 0] ∧ G.get (H.size + 1) = .own 0 [.slice none 0 0, .slice none 0 0] ∧ G.get (H.size + 2) = .own 0 b2 ∧ G.get (H.size + 3) = .own 0 b3
theorem BxP.le {H G G' : Hp} {b2 b3 : List Value} (h : BxP H G b2 b3) (hle : G.le G') : BxP H G' b2 b3 :=
 ⟨Hp.le_trans h.1 hle, Nat.le_trans h.2.1 hle.1, Xr hle (by have := h.2.1; omega) (by intro e; cases e) h.2.2.1, Xr hle (by have := h.2.1; omega) (by intro e; cases e) h.2.2.2.1, Xr hle (by have := h.2.1; omega) (by intro e; cases e) h.2.2.2.2.1, Xr hle (by have := h.2.1; omega) (by intro e; cases e) h.2.2.2.2.2⟩
theorem BxP.put2 {H G : Hp} {b2 b3 : List Value} (h : BxP H G b2 b3) (b2' : List Value) : BxP H (G.put (H.size + 2) (.own 0 b2')) b2' b3 :=
 ⟨Hp.le_put_new h.1 (by omega) _, h.2.1, by rw [Hp.put_other _ _ (by omega)]; exact h.2.2.1, by rw [Hp.put_other _ _ (by omega)]; exact h.2.2.2.1, Hp.put_same _ _ _, by rw [Hp.put_other _ _ (by omega)]; exact h.2.2.2.2.2⟩
theorem BxP.put3 {H G : Hp} {b2 b3 : List Value} (h : BxP H G b2 b3) (b3' : List Value) : BxP H (G.put (H.size + 3) (.own 0 b3')) b2 b3' :=
 ⟨Hp.le_put_new h.1 (by omega) _, h.2.1, by rw [Hp.put_other _ _ (by omega)]; exact h.2.2.1, by rw [Hp.put_other _ _ (by omega)]; exact h.2.2.2.1, by rw [Hp.put_other _ _ (by omega)]; exact h.2.2.2.2.1, Hp.put_same _ _ _⟩
theorem Z8 {H : Hp} {h : 1 ≠ 0} {v : Value} {raws : List (List Value)} {i : Nat} (hs : Sl (kCel 1 h) H v raws) (hl : raws.length = i) : ∃ A c, v = .slice A i c := by
 obtain ⟨A, c, e⟩ := hs.shape
 exact ⟨A, c, by rw [e, hl]⟩
set_option maxHeartbeats 4000000 in
theorem Apart_ok (ways : Int) (sizes : List Int) (u : Value) (H : Hp) (hs : Sl (Y1 .i64) H u sizes) (hl : sizes.length ≤ 1000) (hm : ∀ m ∈ sizes, m ≤ 100000) :
    ACalls Tryz.prog 54 #[.int .u64 ways, u] H (fun r H' => ∃ cs ds, r = .tuple #[.agg cs.toArray, .agg ds.toArray] ∧ kForest.rep H' (apartF sizes.length) cs ∧ kParts.rep H' (apartP ways sizes) ds ∧ H.le H') := by
  obtain ⟨Au, cu, rfl⟩ := hs.shape
  refine Xv Tryz.func54 rfl rfl rfl (by simp) ?_
  refine Xe ?_
  refine Xu ?_
  refine Xz (Yz (l := [.slice none 0 0, .slice none 0 0, .slice none 0 0, .slice none 0 0, .slice none 0 0]) inf26.zero rfl (by decide)) ?_
  refine Xz (Yz (l := [.slice none 0 0, .slice none 0 0]) inf29.zero rfl (by decide)) ?_
  refine Xe ?_
  refine Xu ?_
  refine Xa (Y6 (pl := [(0, 1), (1, 1), (2, 1), (3, 1), (4, 1)]) (r := [.slice _ _ _, .slice _ _ _, .slice _ _ _, .slice _ _ _, .slice _ _ _]) Tryz.underlying26 inf26.zero (by decide) rfl rfl) ?_
  refine Xa (Y6 (pl := [(0, 1), (1, 1)]) (r := [.slice _ _ _, .slice _ _ _]) Tryz.underlying29 inf29.zero (by decide) rfl rfl) ?_
  refine Xz (Yz (l := [.slice none 0 0, .slice none 0 0, .slice none 0 0, .slice none 0 0, .slice none 0 0]) inf26.zero rfl (by decide)) ?_
  refine Xz (Yz (l := [.slice none 0 0, .slice none 0 0]) inf29.zero rfl (by decide)) ?_
  refine Xw (Yf (vs := [.slice _ _ _, .slice _ _ _, .slice _ _ _, .slice _ _ _, .slice _ _ _]) rfl rfl inf26.size Yd Yg rfl rfl ?_)
  refine Xw (Yf (vs := [.slice _ _ _, .slice _ _ _]) rfl rfl inf29.size Yd Yg rfl rfl ?_)
  refine Xe ?_
  refine Xe ?_
  refine Xu ?_
  refine Xa (Xi rfl) ?_
  refine Ye ?_
  refine Y5 (fun n t H' => ∃ (i : Nat) (G : Hp) (v0 v1 v2 v3 v4 v5 v6 : Value) (nds : List (List Value)), i ≤ sizes.length ∧ n = sizes.length - i ∧ BxP H G [v0, v1, v2, v3, v4] [v5, v6] ∧ OwnL G [eStr v0 i, eInt v1 i, eNeg v2 i, U5 v3 i, U5 v4 i, eNds v5 nds, U5 v6 i] H' ∧ ApartR G ways sizes i nds ∧ t 0 = .int .u64 ways ∧ t 1 = .slice Au sizes.length cu ∧ t 4 = .pointer (some ⟨H.size, 0, none⟩) ∧ t 5 = .pointer (some ⟨H.size + 1, 0, none⟩) ∧ t 6 = .pointer (some ⟨H.size + 2, 0, none⟩) ∧ t 7 = .pointer (some ⟨H.size + 3, 0, none⟩) ∧ t 8 = .int .i64 i) (sizes.length) (⟨0, _, .slice none 0 0, .slice none 0 0, .slice none 0 0, .slice none 0 0, .slice none 0 0, .slice none 0 0, .slice none 0 0, [], by omega, rfl, ⟨t_le, by simp, Yd, Yd, Yd, Yd⟩, ⟨_, OwnP.nil _ _, _, OwnP.nil _ _, _, OwnP.nil _ _, _, OwnP.nil _ _, _, OwnP.nil _ _, _, OwnP.nil _ _, _, OwnP.nil _ _, rfl⟩, ⟨rfl, fun j h _ => absurd h (Nat.not_lt_zero _)⟩, rfl, rfl, rfl, rfl, rfl, rfl, rfl⟩) ?_
  rintro n t H1 ⟨i, G, v0, v1, v2, v3, v4, v5, v6, nds, hi, rfl, hb, hown, hr, e0, e1, e4, e5, e6, e7, e8⟩
  obtain ⟨A0, k0, rfl⟩ := Z8 (hown.sl (eStr v0 i) (by simp)) (List.length_replicate)
  obtain ⟨A1, k1, rfl⟩ := Z8 (hown.sl (eInt v1 i) (by simp)) (show ((List.range i).map fun (k : Nat) => [Value.int .i64 k]).length = i by simp)
  obtain ⟨A2, k2, rfl⟩ := Z8 (hown.sl (eNeg v2 i) (by simp)) (List.length_replicate)
  obtain ⟨A3, k3, rfl⟩ := Z8 (hown.sl (U5 v3 i) (by simp)) (List.length_replicate)
  obtain ⟨A4, k4, rfl⟩ := Z8 (hown.sl (U5 v4 i) (by simp)) (List.length_replicate)
  obtain ⟨A5, k5, rfl⟩ := Z8 (hown.sl (eNds v5 nds) (by simp)) hr.len
  obtain ⟨A6, k6, rfl⟩ := Z8 (hown.sl (U5 v6 i) (by simp)) (List.length_replicate)
  have bH := hb.le hown.le
  obtain ⟨leH1, zH1, q0, q1, q2, q3⟩ := id bH
  have zz := hown.size
  refine Xe ?_
  refine Xe ?_
  refine Xu ?_
  refine Xa (Xb Xm) ?_
  refine Xa (X1 Xm) ?_
  refine Xa (Ys rfl Tryz.underlying23) ?_
  refine Xa (Za rfl rfl) ?_
  refine X5 rfl rfl ?_ ?_
  intro hc1
  (try simp only [Yt] at hc1)
  refine X9 ?_
  refine Xe ?_
  refine Ye ?_
  refine Xe ?_
  have hix : i < sizes.length := by omega
  have zz5 := hown.size
  have hL := (((hown.push (.own 1 [.string ⟨#[120]⟩])).push (.own 1 [.int .i64 i])).push (.own 1 [.int .i64 (-1)]))
  have leP : G.le (((G.push (.own 1 [.string ⟨#[120]⟩])).push (.own 1 [.int .i64 i])).push (.own 1 [.int .i64 (-1)])) := Hp.le_trans (Hp.le_trans (Hp.le_push (G) (.own 1 [.string ⟨#[120]⟩])) (Hp.le_push ((G.push (.own 1 [.string ⟨#[120]⟩]))) (.own 1 [.int .i64 i]))) (Hp.le_push (((G.push (.own 1 [.string ⟨#[120]⟩])).push (.own 1 [.int .i64 i]))) (.own 1 [.int .i64 (-1)]))
  have bL := hb.le leP
  have rL := hr.mono leP.sees
  have l0 : (((G.push (.own 1 [.string ⟨#[120]⟩])).push (.own 1 [.int .i64 i])).push (.own 1 [.int .i64 (-1)])).get (H1.size) = .own 1 [.string ⟨#[120]⟩] := by rw [zz5]; exact Yd
  have l1 : (((G.push (.own 1 [.string ⟨#[120]⟩])).push (.own 1 [.int .i64 i])).push (.own 1 [.int .i64 (-1)])).get (H1.size + 1) = .own 1 [.int .i64 i] := by rw [zz5]; exact Yd
  have l2 : (((G.push (.own 1 [.string ⟨#[120]⟩])).push (.own 1 [.int .i64 i])).push (.own 1 [.int .i64 (-1)])).get (H1.size + 2) = .own 1 [.int .i64 (-1)] := by rw [zz5]; exact Yd
  have zL : H1.size + 3 ≤ (((G.push (.own 1 [.string ⟨#[120]⟩])).push (.own 1 [.int .i64 i])).push (.own 1 [.int .i64 (-1)])).size := by simp; omega
  obtain ⟨GP, hGP⟩ : ∃ GP, GP = (((G.push (.own 1 [.string ⟨#[120]⟩])).push (.own 1 [.int .i64 i])).push (.own 1 [.int .i64 (-1)])) := ⟨_, rfl⟩
  rw [← hGP] at hL bL rL zL l0 l1 l2
  clear hGP leP
  refine Yy (by kernel_rfl) (Y4 (B := [0, 1, 0, 7, 0, 16, 0, 64, 255, 0, 512, 0, 4095, 1599, 16383, 32767, 65535, 131071, 262143]) (π := [0, 1, 2, 4, 5, 6, 7, 9, 10, 11, 3, 13, 8, 12, 14, 15, 16, 17, 18]) (by kernel_rfl)) ?_
  refine Xd rfl rfl (Xf (off := 0) Xm Tryz.underlying26 Xm inf22.size (by decide) Xm) Xq ?_
  refine Xd rfl rfl (Xk rfl Tryz.underlying22 rfl Xp) Xq ?_
  first | refine Zb rfl rfl (Yh (r := [.string _]) Tryz.underlying22 inf9.size inf9.zero rfl (by decide) (by decide) (by decide) rfl) ?_
  refine Xd rfl rfl (Xf (off := 1) Xm Tryz.underlying26 Xm inf23.size (by decide) Xm) Xq ?_
  refine Xd rfl rfl (Xk rfl Tryz.underlying23 rfl Xp) Xq ?_
  refine Xd rfl rfl (Xb Xm) Xq ?_
  first | refine Zb rfl rfl (Yh (r := [.int .i64 _]) Tryz.underlying23 inf3.size inf3.zero rfl (by decide) (by decide) (by decide) rfl) ?_
  refine Xd rfl rfl (Xf (off := 2) Xm Tryz.underlying26 Xm inf23.size (by decide) Xm) Xq ?_
  refine Xd rfl rfl (Xk rfl Tryz.underlying23 rfl Xp) Xq ?_
  first | refine Zb rfl rfl (Yh (r := [.int .i64 _]) Tryz.underlying23 inf3.size inf3.zero rfl (by decide) (by decide) (by decide) rfl) ?_
  obtain ⟨Ga0, leGa0, ha0, back0⟩ := hL.rot.last
  have zGa := leGa0.1
  obtain ⟨_, zA, qa, qb, qc, qd⟩ := bL.le leGa0
  have m0 := Xr leGa0 (by omega) (by intro e; cases e) l0
  have m1 := Xr leGa0 (by omega) (by intro e; cases e) l1
  have m2 := Xr leGa0 (by omega) (by intro e; cases e) l2
  refine Ym rfl rfl (Ent.append ha0 Tryz.underlying22 inf9 Xm Xm rfl (lb := H1.size) (by omega) m0 rfl (by intro v hv; simp at hv; subst hv; rfl) (by simp only [eStr, List.length_replicate]; omega) (by decide) ?_)
  rintro w0 Gb0 Hb0 leb0 hb0
  have hsameO := Ent.sameO ha0 leb0 hb0
  obtain ⟨Gc0, lec0, hc0⟩ := back0 Gb0 Hb0 _ leb0 hb0
  rw [eStr_next] at hc0 hb0
  obtain ⟨W0, cw0, rfl⟩ : ∃ A c, w0 = Value.slice A (i + 1) c := Z8 (i := i + 1) (OwnP.sl hb0) (by simp [eStr])
  have bb0 := (bL.le lec0).le hc0.le
  obtain ⟨_, zb, qa0, qb0, qc0, qd0⟩ := id bb0
  have l1b := Xr hc0.le (by have := lec0.1; omega) (by intro e; cases e) (Xr lec0 (by omega) (by intro e; cases e) l1)
  have l2b := Xr hc0.le (by have := lec0.1; omega) (by intro e; cases e) (Xr lec0 (by omega) (by intro e; cases e) l2)
  refine ⟨Yk, ?_⟩
  clear hsameO qa qb qc qd m0 m1 m2
  clear l1b
  have l1 := Xr lec0 (by omega) (by intro e; cases e) l1
  clear l2b
  have l2 := Xr lec0 (by omega) (by intro e; cases e) l2
  replace bL := bL.le lec0
  replace rL := rL.mono lec0.sees
  replace zL := Nat.le_trans zL lec0.1
  clear hL
  have hL := hc0
  have zH0 := hL.size
  refine Xd rfl rfl (Xf (off := 0) Xm Tryz.underlying26 Xm inf22.size (by decide) Xm) Xq ?_
  obtain ⟨Ga1, leGa1, ha1, back1⟩ := hL.rot.last
  have zGa := leGa1.1
  obtain ⟨_, zA, qa, qb, qc, qd⟩ := bL.le leGa1
  have m0 := Xr leGa1 (by omega) (by intro e; cases e) l1
  have m1 := Xr leGa1 (by omega) (by intro e; cases e) l2
  refine Ym rfl rfl (Ent.append ha1 Tryz.underlying23 inf3 Xm Xm rfl (lb := H1.size + 1) (by omega) m0 rfl (by intro v hv; simp at hv; subst hv; rfl) (by simp only [eInt, List.length_map, List.length_range]; omega) (by decide) ?_)
  rintro w1 Gb1 Hb1 leb1 hb1
  have hsameO := Ent.sameO ha1 leb1 hb1
  obtain ⟨Gc1, lec1, hc1⟩ := back1 Gb1 Hb1 _ leb1 hb1
  rw [eInt_next] at hc1 hb1
  obtain ⟨W1, cw1, rfl⟩ : ∃ A c, w1 = Value.slice A (i + 1) c := Z8 (i := i + 1) (OwnP.sl hb1) (by simp [eInt])
  have bb1 := (bL.le lec1).le hc1.le
  obtain ⟨_, zb, qa1, qb1, qc1, qd1⟩ := id bb1
  have l2b := Xr hc1.le (by have := lec1.1; omega) (by intro e; cases e) (Xr lec1 (by omega) (by intro e; cases e) l2)
  refine ⟨Yk, ?_⟩
  clear hsameO qa qb qc qd m0 m1
  clear l2b
  have l2 := Xr lec1 (by omega) (by intro e; cases e) l2
  replace bL := bL.le lec1
  replace rL := rL.mono lec1.sees
  replace zL := Nat.le_trans zL lec1.1
  clear hL
  have hL := hc1
  have zH1 := hL.size
  obtain ⟨Ga2, leGa2, ha2, back2⟩ := hL.rot.last
  have zGa := leGa2.1
  obtain ⟨_, zA, qa, qb, qc, qd⟩ := bL.le leGa2
  have m0 := Xr leGa2 (by omega) (by intro e; cases e) l2
  refine Ym rfl rfl (Ent.append ha2 Tryz.underlying23 inf3 Xm Xm rfl (lb := H1.size + 2) (by omega) m0 rfl (by intro v hv; simp at hv; subst hv; rfl) (by simp only [eNeg, List.length_replicate]; omega) (by decide) ?_)
  rintro w2 Gb2 Hb2 leb2 hb2
  have hsameO := Ent.sameO ha2 leb2 hb2
  obtain ⟨Gc2, lec2, hc2⟩ := back2 Gb2 Hb2 _ leb2 hb2
  rw [eNeg_next] at hc2 hb2
  obtain ⟨W2, cw2, rfl⟩ : ∃ A c, w2 = Value.slice A (i + 1) c := Z8 (i := i + 1) (OwnP.sl hb2) (by simp [eNeg])
  have bb2 := (bL.le lec2).le hc2.le
  obtain ⟨_, zb, qa2, qb2, qc2, qd2⟩ := id bb2
  refine ⟨Yk, ?_⟩
  clear hsameO qa qb qc qd m0
  replace bL := bL.le lec2
  replace rL := rL.mono lec2.sees
  replace zL := Nat.le_trans zL lec2.1
  clear hL
  have hL := hc2
  have zH2 := hL.size
  first | refine Ym rfl rfl (Y3 rfl rfl rfl inf22.size Yd Yg rfl ?_)
  refine ⟨Yk, ?_⟩
  refine Xd rfl rfl (Xf (off := 1) Xm Tryz.underlying26 Xm inf23.size (by decide) Xm) Xq ?_
  first | refine Ym rfl rfl (Y3 rfl rfl rfl inf23.size Yd Yg rfl ?_)
  refine ⟨Yk, ?_⟩
  refine Xd rfl rfl (Xf (off := 2) Xm Tryz.underlying26 Xm inf23.size (by decide) Xm) Xq ?_
  first | refine Ym rfl rfl (Y3 rfl rfl rfl inf23.size Yd Yg rfl ?_)
  refine ⟨Yk, ?_⟩
  refine Xe ?_
  obtain ⟨H6, hH6⟩ : ∃ H6, H6 = Hb2.put (H.size + 2) (.own 0 [.slice W0 (i + 1) cw0, .slice W1 (i + 1) cw1, .slice W2 (i + 1) cw2, .slice A3 i k3, .slice A4 i k4]) := ⟨_, rfl⟩
  obtain ⟨G6, hG6⟩ : ∃ G6, G6 = Gc2.put (H.size + 2) (.own 0 [.slice W0 (i + 1) cw0, .slice W1 (i + 1) cw1, .slice W2 (i + 1) cw2, .slice A3 i k3, .slice A4 i k4]) := ⟨_, rfl⟩
  have ownG6 := hL.put_box (by have := bL.2.1; omega) bL.2.2.2.2.1 [.slice W0 (i + 1) cw0, .slice W1 (i + 1) cw1, .slice W2 (i + 1) cw2, .slice A3 i k3, .slice A4 i k4]
  have bG6 := bL.put2 [.slice W0 (i + 1) cw0, .slice W1 (i + 1) cw1, .slice W2 (i + 1) cw2, .slice A3 i k3, .slice A4 i k4]
  have rG6 := rL.mono (Hp.sees_box (cs' := [.slice W0 (i + 1) cw0, .slice W1 (i + 1) cw1, .slice W2 (i + 1) cw2, .slice A3 i k3, .slice A4 i k4]) _ bL.2.2.2.2.1)
  rw [← hG6] at ownG6 bG6 rG6
  rw [← hH6] at ownG6
  change ACode true _ _ _ _ _ (((Hb2.put (H.size + 2) (.own 0 [.slice W0 (i + 1) cw0, .slice A1 i k1, .slice A2 i k2, .slice A3 i k3, .slice A4 i k4])).put (H.size + 2) (.own 0 [.slice W0 (i + 1) cw0, .slice W1 (i + 1) cw1, .slice A2 i k2, .slice A3 i k3, .slice A4 i k4])).put (H.size + 2) (.own 0 [.slice W0 (i + 1) cw0, .slice W1 (i + 1) cw1, .slice W2 (i + 1) cw2, .slice A3 i k3, .slice A4 i k4]))
  rw [Hp.put_put]
  rw [Hp.put_put]
  rw [← hH6]
  clear hH6 hG6 hL bL rL zL
  have bbH6 := bG6.le ownG6.le
  obtain ⟨_, zzH6, s0H6, s1H6, s2H6, s3H6⟩ := id bbH6
  have zz6 := ownG6.size
  have hL := ((ownG6.push (.own 1 [.slice none 0 0])).push (.own 1 [.slice none 0 0]))
  have leP : G6.le ((G6.push (.own 1 [.slice none 0 0])).push (.own 1 [.slice none 0 0])) := Hp.le_trans (Hp.le_push (G6) (.own 1 [.slice none 0 0])) (Hp.le_push ((G6.push (.own 1 [.slice none 0 0]))) (.own 1 [.slice none 0 0]))
  have bL := bG6.le leP
  have rL := rG6.mono leP.sees
  have l0 : ((G6.push (.own 1 [.slice none 0 0])).push (.own 1 [.slice none 0 0])).get (H6.size) = .own 1 [.slice none 0 0] := by rw [zz6]; exact Yd
  have l1 : ((G6.push (.own 1 [.slice none 0 0])).push (.own 1 [.slice none 0 0])).get (H6.size + 1) = .own 1 [.slice none 0 0] := by rw [zz6]; exact Yd
  have zL : H6.size + 2 ≤ ((G6.push (.own 1 [.slice none 0 0])).push (.own 1 [.slice none 0 0])).size := by simp; omega
  obtain ⟨GP, hGP⟩ : ∃ GP, GP = ((G6.push (.own 1 [.slice none 0 0])).push (.own 1 [.slice none 0 0])) := ⟨_, rfl⟩
  rw [← hGP] at hL bL rL zL l0 l1
  clear hGP leP
  refine Yy (by kernel_rfl) (Y4 (B := [0, 1, 0, 7, 0, 16, 0, 127, 63, 511, 1023, 2047]) (π := [0, 1, 2, 4, 5, 6, 3, 8, 7, 9, 10, 11]) (by kernel_rfl)) ?_
  refine Xd rfl rfl (Xf (off := 3) Xm Tryz.underlying26 Xm inf24.size (by decide) Xm) Xq ?_
  refine Xd rfl rfl (Xk rfl Tryz.underlying24 rfl Xp) Xq ?_
  refine Zb rfl rfl (Yh (r := [.slice _ _ _]) Tryz.underlying24 inf23.size inf23.zero rfl (by decide) (by decide) (by decide) rfl) ?_
  refine Xd rfl rfl (Xf (off := 4) Xm Tryz.underlying26 Xm inf24.size (by decide) Xm) Xq ?_
  refine Xd rfl rfl (Xk rfl Tryz.underlying24 rfl Xp) Xq ?_
  refine Zb rfl rfl (Yh (r := [.slice _ _ _]) Tryz.underlying24 inf23.size inf23.zero rfl (by decide) (by decide) (by decide) rfl) ?_
  obtain ⟨Ga3, leGa3, ha3, back3⟩ := hL.rot.last
  have zGa := leGa3.1
  obtain ⟨_, zA, qa, qb, qc, qd⟩ := bL.le leGa3
  have m0 := Xr leGa3 (by omega) (by intro e; cases e) l0
  have m1 := Xr leGa3 (by omega) (by intro e; cases e) l1
  refine Ym rfl rfl (Ent.append ha3 Tryz.underlying24 inf23 Xm Xm rfl (lb := H6.size) (by omega) m0 rfl (by intro v hv; simp at hv; subst hv; rfl) (by simp only [U5, List.length_replicate]; omega) (by decide) ?_)
  rintro w3 Gb3 Hb3 leb3 hb3
  have hsameO := Ent.sameO ha3 leb3 hb3
  obtain ⟨Gc3, lec3, hc3⟩ := back3 Gb3 Hb3 _ leb3 hb3
  rw [eNil_next] at hc3 hb3
  obtain ⟨W3, cw3, rfl⟩ : ∃ A c, w3 = Value.slice A (i + 1) c := Z8 (i := i + 1) (OwnP.sl hb3) (by simp [U5])
  have bb3 := (bL.le lec3).le hc3.le
  obtain ⟨_, zb, qa3, qb3, qc3, qd3⟩ := id bb3
  have l1b := Xr hc3.le (by have := lec3.1; omega) (by intro e; cases e) (Xr lec3 (by omega) (by intro e; cases e) l1)
  refine ⟨Yk, ?_⟩
  clear hsameO qa qb qc qd m0 m1
  clear l1b
  have l1 := Xr lec3 (by omega) (by intro e; cases e) l1
  replace bL := bL.le lec3
  replace rL := rL.mono lec3.sees
  replace zL := Nat.le_trans zL lec3.1
  clear hL
  have hL := hc3
  have zH3 := hL.size
  refine Xd rfl rfl (Xf (off := 3) Xm Tryz.underlying26 Xm inf24.size (by decide) Xm) Xq ?_
  obtain ⟨Ga4, leGa4, ha4, back4⟩ := hL.rot.last
  have zGa := leGa4.1
  obtain ⟨_, zA, qa, qb, qc, qd⟩ := bL.le leGa4
  have m0 := Xr leGa4 (by omega) (by intro e; cases e) l1
  refine Ym rfl rfl (Ent.append ha4 Tryz.underlying24 inf23 Xm Xm rfl (lb := H6.size + 1) (by omega) m0 rfl (by intro v hv; simp at hv; subst hv; rfl) (by simp only [U5, List.length_replicate]; omega) (by decide) ?_)
  rintro w4 Gb4 Hb4 leb4 hb4
  have hsameO := Ent.sameO ha4 leb4 hb4
  obtain ⟨Gc4, lec4, hc4⟩ := back4 Gb4 Hb4 _ leb4 hb4
  rw [eNil_next] at hc4 hb4
  obtain ⟨W4, cw4, rfl⟩ : ∃ A c, w4 = Value.slice A (i + 1) c := Z8 (i := i + 1) (OwnP.sl hb4) (by simp [U5])
  have bb4 := (bL.le lec4).le hc4.le
  obtain ⟨_, zb, qa4, qb4, qc4, qd4⟩ := id bb4
  refine ⟨Yk, ?_⟩
  clear hsameO qa qb qc qd m0
  replace bL := bL.le lec4
  replace rL := rL.mono lec4.sees
  replace zL := Nat.le_trans zL lec4.1
  clear hL
  have hL := hc4
  have zH4 := hL.size
  first | refine Ym rfl rfl (Y3 rfl rfl rfl inf24.size Yd Yg rfl ?_)
  refine ⟨Yk, ?_⟩
  refine Xd rfl rfl (Xf (off := 4) Xm Tryz.underlying26 Xm inf24.size (by decide) Xm) Xq ?_
  first | refine Ym rfl rfl (Y3 rfl rfl rfl inf24.size Yd Yg rfl ?_)
  refine ⟨Yk, ?_⟩
  refine Xe ?_
  obtain ⟨H7, hH7⟩ : ∃ H7, H7 = Hb4.put (H.size + 2) (.own 0 [.slice W0 (i + 1) cw0, .slice W1 (i + 1) cw1, .slice W2 (i + 1) cw2, .slice W3 (i + 1) cw3, .slice W4 (i + 1) cw4]) := ⟨_, rfl⟩
  obtain ⟨G7, hG7⟩ : ∃ G7, G7 = Gc4.put (H.size + 2) (.own 0 [.slice W0 (i + 1) cw0, .slice W1 (i + 1) cw1, .slice W2 (i + 1) cw2, .slice W3 (i + 1) cw3, .slice W4 (i + 1) cw4]) := ⟨_, rfl⟩
  have ownG7 := hL.put_box (by have := bL.2.1; omega) bL.2.2.2.2.1 [.slice W0 (i + 1) cw0, .slice W1 (i + 1) cw1, .slice W2 (i + 1) cw2, .slice W3 (i + 1) cw3, .slice W4 (i + 1) cw4]
  have bG7 := bL.put2 [.slice W0 (i + 1) cw0, .slice W1 (i + 1) cw1, .slice W2 (i + 1) cw2, .slice W3 (i + 1) cw3, .slice W4 (i + 1) cw4]
  have rG7 := rL.mono (Hp.sees_box (cs' := [.slice W0 (i + 1) cw0, .slice W1 (i + 1) cw1, .slice W2 (i + 1) cw2, .slice W3 (i + 1) cw3, .slice W4 (i + 1) cw4]) _ bL.2.2.2.2.1)
  rw [← hG7] at ownG7 bG7 rG7
  rw [← hH7] at ownG7
  change ACode true _ _ _ _ _ ((Hb4.put (H.size + 2) (.own 0 [.slice W0 (i + 1) cw0, .slice W1 (i + 1) cw1, .slice W2 (i + 1) cw2, .slice W3 (i + 1) cw3, .slice A4 i k4])).put (H.size + 2) (.own 0 [.slice W0 (i + 1) cw0, .slice W1 (i + 1) cw1, .slice W2 (i + 1) cw2, .slice W3 (i + 1) cw3, .slice W4 (i + 1) cw4]))
  rw [Hp.put_put]
  rw [← hH7]
  clear hH7 hG7 hL bL rL zL
  have bbH7 := bG7.le ownG7.le
  obtain ⟨_, zzH7, s0H7, s1H7, s2H7, s3H7⟩ := id bbH7
  have lit7 := OwnP.lit kLink H7 (cs := [])
  have own7 := ownG7.push .dead
  have b7 := bG7.le (G7.le_push .dead)
  have r7 := rG7.mono (G7.le_push .dead).sees
  obtain ⟨bs, os, es, hbs, hcs⟩ := (hs.mono leH1.sees).int_at (i := (i : Int)) (by omega) (by omega)
  subst es
  rw [Int.toNat_natCast, Zf hix] at hcs
  have hmi := hm _ (List.getElem_mem hix)
  have hcs0 : H.cell? bs (os + i * 1) = some (.int .i64 sizes[i]) := by
    obtain ⟨b9, o9, e9, hb9, hc9⟩ := hs.int_at (i := (i : Int)) (by omega) (by omega)
    simp only [Option.some.injEq, Addr.mk.injEq, and_true] at e9
    obtain ⟨rfl, rfl⟩ := e9
    rwa [Int.toNat_natCast, Zf hix] at hc9
  have hbs0 : bs < H.size := by
    obtain ⟨b9, o9, e9, hb9, hc9⟩ := hs.int_at (i := (i : Int)) (by omega) (by omega)
    simp only [Option.some.injEq, Addr.mk.injEq, and_true] at e9
    obtain ⟨rfl, rfl⟩ := e9
    exact hb9
  have hlen7 : nds.length = i := hr.len
  refine Xu ?_
  first | refine Xz (Yh (r := []) Tryz.underlying83 inf96.size inf96.zero rfl (by decide) (by decide) (by decide) rfl) ?_
  refine Xa (Yc rfl) ?_
  refine Xe ?_
  refine Xe ?_
  refine Xu ?_
  refine Xa (Xi rfl) ?_
  refine Ye ?_
  refine Y5 (fun n t H' => ∃ (k : Nat) (Gx Gm : Hp) (C : Option Addr) (c9 : Nat), k ≤ sizes[i].toNat ∧ n = sizes[i].toNat - k ∧ BxP H Gx [.slice W0 (i + 1) cw0, .slice W1 (i + 1) cw1, .slice W2 (i + 1) cw2, .slice W3 (i + 1) cw3, .slice W4 (i + 1) cw4] [.slice A5 i k5, .slice A6 i k6] ∧ OwnL Gx [eNds (.slice A5 i k5) nds, U5 (.slice A6 i k6) i, eStr (.slice W0 (i + 1) cw0) (i + 1), eInt (.slice W1 (i + 1) cw1) (i + 1), eNeg (.slice W2 (i + 1) cw2) (i + 1), U5 (.slice W3 (i + 1) cw3) (i + 1), U5 (.slice W4 (i + 1) cw4) (i + 1)] Gm ∧ ApartR Gx ways sizes i nds ∧ OwnP kLink Gm H' (.slice C k c9) (apartL ways k) ∧ t 0 = .int .u64 ways ∧ t 1 = .slice (some ⟨bs, os, none⟩) sizes.length cu ∧ t 4 = .pointer (some ⟨H.size, 0, none⟩) ∧ t 5 = .pointer (some ⟨H.size + 1, 0, none⟩) ∧ t 6 = .pointer (some ⟨H.size + 2, 0, none⟩) ∧ t 7 = .pointer (some ⟨H.size + 3, 0, none⟩) ∧ t 8 = .int .i64 i ∧ t 9 = .slice C k c9 ∧ t 10 = .int .i64 k) (sizes[i].toNat) (⟨0, _, _, _, _, by omega, rfl, b7, own7, r7, lit7, e0, e1, e4, e5, e6, e7, e8, rfl, rfl⟩) ?_
  rintro n t H8 ⟨k, Gx, Gm, C, c9, hk, rfl, bx, ownx, rx, ownl, e0, e1, e4, e5, e6, e7, e8, e9, e10⟩
  have leH8 := (bx.le (Hp.le_trans ownx.le ownl.le)).1
  have hcs8 := leH8.cell1 hbs0 hcs0
  have hll := apartL_len ways k
  have zl := ownl.size
  refine Xe ?_
  refine Xe ?_
  refine Xu ?_
  refine Xa (Xb Xm) ?_
  refine Xa (X1 Xm) ?_
  refine Xa (Xb Xm) ?_
  refine Xa (Xt rfl rfl Tryz.underlying23 inf3.size X6 X6) ?_
  refine Xa (Xk rfl Tryz.underlying3 rfl Xp) ?_
  refine Xa (Za rfl rfl) ?_
  refine X5 rfl rfl ?_ ?_
  intro hc2
  (try simp only [Yt] at hc2)
  refine X9 ?_
  refine Xe ?_
  refine Ye ?_
  refine Xu ?_
  refine Xa (X1 Xm) ?_
  refine Xa (Xb Xm) ?_
  refine Xa (Xb Xm) ?_
  refine Xa (Xb Xm) ?_
  refine Xa (Xb Xm) ?_
  refine Xa (Y6 (pl := [(0, 1), (1, 1), (2, 1), (3, 1)]) (r := [.int .i64 _, .int .i64 _, .int .i64 _, .int .u64 _]) Tryz.underlying96 inf96.zero (by decide) rfl rfl) ?_
  first | refine Xz (Yh (r := [.int .i64 _, .int .i64 _, .int .i64 _, .int .u64 _]) Tryz.underlying83 inf96.size inf96.zero rfl (by decide) (by decide) (by decide) rfl) ?_
  refine Xw (OwnP.append (ys := [⟨k, k, k, ways⟩]) (ownl.push _) Tryz.underlying83 inf96 Xm Xm rfl (Zo (k := kLink) rfl rfl ownl.size rfl) (by rw [hll]; simp only [List.length_singleton]; omega) (by rw [hll]; simp only [List.length_singleton]; omega) ?_)
  rintro w9 G9 H9 le9 own9
  obtain ⟨C9, c99, e99⟩ := own9.shape
  rw [← apartL_next] at own9
  rw [List.length_append, hll, List.length_singleton] at e99
  subst e99
  obtain ⟨Gy, ley, owny⟩ := ownx.later (Hp.le_trans (Gm.le_push _) le9)
  refine Xa (Yc rfl) ?_
  refine Xu ?_
  refine Xa (Xb Xm) ?_
  refine Xa (Yn rfl rfl Y0) ?_
  refine Xa (Xi rfl) ?_
  exact ⟨sizes[i].toNat - (k + 1), by omega, k + 1, Gy, G9, C9, c99, by omega, rfl, bx.le ley, owny, rx.mono ley.sees, own9, e0, e1, e4, e5, e6, e7, e8, rfl, rfl⟩
  intro hc2
  (try simp only [Yt] at hc2)
  refine Yx ?_
  obtain rfl : k = sizes[i].toNat := by omega
  obtain ⟨Gy, ley, owny⟩ := ownx.later ownl.le
  have by' := bx.le ley
  have slN := owny.below (k' := kLink) (fun st => Zn st) (by intro e he; simp at he; rcases he with rfl | rfl | rfl | rfl | rfl | rfl | rfl <;> exact (show (1 : Nat) ≠ 4 by decide)) ownl.sl
  have ry := rx.mono ley.sees
  obtain ⟨_, zz8, s08, s18, s28, s38⟩ := by'.le owny.le
  have zz12 := owny.size
  have hL := ((owny.push (.own 1 [.slice C sizes[i].toNat c9])).push (.own 1 [.slice none 0 0]))
  have leP : Gy.le ((Gy.push (.own 1 [.slice C sizes[i].toNat c9])).push (.own 1 [.slice none 0 0])) := Hp.le_trans (Hp.le_push (Gy) (.own 1 [.slice C sizes[i].toNat c9])) (Hp.le_push ((Gy.push (.own 1 [.slice C sizes[i].toNat c9]))) (.own 1 [.slice none 0 0]))
  have bL := by'.le leP
  have rL := ry.mono leP.sees
  have sN := slN.mono leP.sees
  have l0 : ((Gy.push (.own 1 [.slice C sizes[i].toNat c9])).push (.own 1 [.slice none 0 0])).get (H8.size) = .own 1 [.slice C sizes[i].toNat c9] := by rw [zz12]; exact Yd
  have l1 : ((Gy.push (.own 1 [.slice C sizes[i].toNat c9])).push (.own 1 [.slice none 0 0])).get (H8.size + 1) = .own 1 [.slice none 0 0] := by rw [zz12]; exact Yd
  have zL : H8.size + 2 ≤ ((Gy.push (.own 1 [.slice C sizes[i].toNat c9])).push (.own 1 [.slice none 0 0])).size := by simp; omega
  obtain ⟨GP, hGP⟩ : ∃ GP, GP = ((Gy.push (.own 1 [.slice C sizes[i].toNat c9])).push (.own 1 [.slice none 0 0])) := ⟨_, rfl⟩
  rw [← hGP] at hL bL rL zL sN l0 l1
  clear hGP leP
  refine Yy (by kernel_rfl) (Y4 (B := [0, 1, 0, 4, 15, 0, 32, 0, 255, 127, 1023, 2047, 4095]) (π := [0, 1, 2, 3, 5, 6, 7, 4, 9, 8, 10, 11, 12]) (by kernel_rfl)) ?_
  refine Xd rfl rfl (Xf (off := 0) Xm Tryz.underlying29 Xm inf27.size (by decide) Xm) Xq ?_
  refine Xd rfl rfl (Xk rfl Tryz.underlying27 rfl Xp) Xq ?_
  refine Xd rfl rfl (X1 Xm) Xq ?_
  refine Zb rfl rfl (Yh (r := [.slice _ _ _]) Tryz.underlying27 inf83.size inf83.zero rfl (by decide) (by decide) (by decide) rfl) ?_
  refine Xd rfl rfl (Xf (off := 1) Xm Tryz.underlying29 Xm inf27.size (by decide) Xm) Xq ?_
  refine Xd rfl rfl (Xk rfl Tryz.underlying27 rfl Xp) Xq ?_
  refine Zb rfl rfl (Yh (r := [.slice _ _ _]) Tryz.underlying27 inf83.size inf83.zero rfl (by decide) (by decide) (by decide) rfl) ?_
  obtain ⟨Ga5, leGa5, ha5, back5⟩ := hL.rot.last
  have zGa := leGa5.1
  obtain ⟨_, zA, qa, qb, qc, qd⟩ := bL.le leGa5
  have m0 := Xr leGa5 (by omega) (by intro e; cases e) l0
  have m1 := Xr leGa5 (by omega) (by intro e; cases e) l1
  refine Ym rfl rfl (Ent.append ha5 Tryz.underlying27 inf83 Xm Xm rfl (lb := H8.size) (by omega) m0 rfl (by intro v hv; simp at hv; subst hv; rfl) (by simp only [eNds, rL.len]; omega) (by decide) ?_)
  rintro w5 Gb5 Hb5 leb5 hb5
  have hsameO := Ent.sameO ha5 leb5 hb5
  obtain ⟨Gc5, lec5, hc5⟩ := back5 Gb5 Hb5 _ leb5 hb5
  rw [eNds_next] at hc5 hb5
  obtain ⟨W5, cw5, rfl⟩ : ∃ A c, w5 = Value.slice A (i + 1) c := Z8 (i := i + 1) (OwnP.sl hb5) (by simp [eNds, rL.len])
  have bb5 := (bL.le lec5).le hc5.le
  obtain ⟨_, zb, qa5, qb5, qc5, qd5⟩ := id bb5
  have l1b := Xr hc5.le (by have := lec5.1; omega) (by intro e; cases e) (Xr lec5 (by omega) (by intro e; cases e) l1)
  refine ⟨Yk, ?_⟩
  clear hsameO qa qb qc qd m0 m1
  clear l1b
  have l1 := Xr lec5 (by omega) (by intro e; cases e) l1
  replace bL := bL.le lec5
  replace sN := sN.mono lec5.sees
  replace rL := rL.mono lec5.sees
  replace zL := Nat.le_trans zL lec5.1
  clear hL
  have hL := hc5
  have zH5 := hL.size
  refine Xd rfl rfl (Xf (off := 0) Xm Tryz.underlying29 Xm inf27.size (by decide) Xm) Xq ?_
  obtain ⟨Ga6, leGa6, ha6, back6⟩ := hL.rot.last
  have zGa := leGa6.1
  obtain ⟨_, zA, qa, qb, qc, qd⟩ := bL.le leGa6
  have m0 := Xr leGa6 (by omega) (by intro e; cases e) l1
  refine Ym rfl rfl (Ent.append ha6 Tryz.underlying27 inf83 Xm Xm rfl (lb := H8.size + 1) (by omega) m0 rfl (by intro v hv; simp at hv; subst hv; rfl) (by simp only [U5, List.length_replicate]; omega) (by decide) ?_)
  rintro w6 Gb6 Hb6 leb6 hb6
  have hsameO := Ent.sameO ha6 leb6 hb6
  obtain ⟨Gc6, lec6, hc6⟩ := back6 Gb6 Hb6 _ leb6 hb6
  rw [eNil_next] at hc6 hb6
  obtain ⟨W6, cw6, rfl⟩ : ∃ A c, w6 = Value.slice A (i + 1) c := Z8 (i := i + 1) (OwnP.sl hb6) (by simp [U5])
  have bb6 := (bL.le lec6).le hc6.le
  obtain ⟨_, zb, qa6, qb6, qc6, qd6⟩ := id bb6
  refine ⟨Yk, ?_⟩
  clear hsameO qa qb qc qd m0
  replace bL := bL.le lec6
  replace sN := sN.mono lec6.sees
  replace rL := rL.mono lec6.sees
  replace zL := Nat.le_trans zL lec6.1
  clear hL
  have hL := hc6
  have zH6 := hL.size
  first | refine Ym rfl rfl (Y3 rfl rfl rfl inf27.size Yd Yg rfl ?_)
  refine ⟨Yk, ?_⟩
  refine Xd rfl rfl (Xf (off := 1) Xm Tryz.underlying29 Xm inf27.size (by decide) Xm) Xq ?_
  first | refine Ym rfl rfl (Y3 rfl rfl rfl inf27.size Yd Yg rfl ?_)
  refine ⟨Yk, ?_⟩
  obtain ⟨H4, hH4⟩ : ∃ H4, H4 = Hb6.put (H.size + 3) (.own 0 [.slice W5 (i + 1) cw5, .slice W6 (i + 1) cw6]) := ⟨_, rfl⟩
  obtain ⟨G4, hG4⟩ : ∃ G4, G4 = Gc6.put (H.size + 3) (.own 0 [.slice W5 (i + 1) cw5, .slice W6 (i + 1) cw6]) := ⟨_, rfl⟩
  have ownG4 := hL.put_box (by have := bL.2.1; omega) bL.2.2.2.2.2 [.slice W5 (i + 1) cw5, .slice W6 (i + 1) cw6]
  have bG4 := bL.put3 [.slice W5 (i + 1) cw5, .slice W6 (i + 1) cw6]
  have rG4 := rL.mono (Hp.sees_box (cs' := [.slice W5 (i + 1) cw5, .slice W6 (i + 1) cw6]) _ bL.2.2.2.2.2)
  rw [← hG4] at ownG4 bG4 rG4
  rw [← hH4] at ownG4
  change ACode true _ _ _ _ _ ((Hb6.put (H.size + 3) (.own 0 [.slice W5 (i + 1) cw5, .slice A6 i k6])).put (H.size + 3) (.own 0 [.slice W5 (i + 1) cw5, .slice W6 (i + 1) cw6]))
  rw [Hp.put_put]
  rw [← hH4]
  have sN4 := sN.mono (Hp.sees_box (cs' := [.slice W5 (i + 1) cw5, .slice W6 (i + 1) cw6]) _ bL.2.2.2.2.2)
  rw [← hG4] at sN4
  clear hH4 hG4 hL bL rL zL
  have bbH4 := bG4.le ownG4.le
  obtain ⟨_, zzH4, s0H4, s1H4, s2H4, s3H4⟩ := id bbH4
  refine Xu ?_
  refine Xa (Xb Xm) ?_
  refine Xa (Yn rfl rfl Y0) ?_
  refine Xa (Xi rfl) ?_
  exact ⟨sizes.length - (i + 1), by omega, i + 1, G4, _, _, _, _, _, _, _, (nds ++ [[Value.slice C sizes[i].toNat c9]] : List (List Value)), by omega, rfl, bG4, ownG4, rG4.snoc hix sN4, e0, e1, e4, e5, e6, e7, rfl⟩
  intro hc1
  (try simp only [Yt] at hc1)
  refine Yx ?_
  refine Xe ?_
  refine Yy (by kernel_rfl) (Y4 (B := [0, 0, 1, 7]) (π := [0, 1, 2, 3]) (by kernel_rfl)) ?_
  refine Xd rfl rfl (Yl (cs := [.slice _ _ _, .slice _ _ _, .slice _ _ _, .slice _ _ _, .slice _ _ _]) Xm Tryz.underlying26 Xm inf26.size X8) Xq ?_
  refine Xd rfl rfl (Yl (cs := [.slice _ _ _, .slice _ _ _]) Xm Tryz.underlying29 Xm inf29.size X8) Xq ?_
  refine Ym rfl rfl (Yf (vs := [.slice _ _ _, .slice _ _ _, .slice _ _ _, .slice _ _ _, .slice _ _ _]) Xm Xm inf26.size Yd Yg Xm Xm ?_)
  refine ⟨Yk, ?_⟩
  refine Ym rfl rfl (Yf (vs := [.slice _ _ _, .slice _ _ _]) Xm Xm inf29.size Yd Yg Xm Xm ?_)
  refine ⟨Yk, ?_⟩
  refine X2 ?_
  obtain rfl : i = sizes.length := by omega
  have se := hown.le.sees
  have p0 := hown.sl (eStr (.slice A0 sizes.length k0) sizes.length) (by simp)
  have p1 := hown.sl (eInt (.slice A1 sizes.length k1) sizes.length) (by simp)
  have p2 := hown.sl (eNeg (.slice A2 sizes.length k2) sizes.length) (by simp)
  have p3 := hown.sl (U5 (.slice A3 sizes.length k3) sizes.length) (by simp)
  have p4 := hown.sl (U5 (.slice A4 sizes.length k4) sizes.length) (by simp)
  have p5 := hown.sl (eNds (.slice A5 sizes.length k5) nds) (by simp)
  have p6 := hown.sl (U5 (.slice A6 sizes.length k6) sizes.length) (by simp)
  have hrl := hr.len
  have hz1 : H1.sees (H1.put H.size (.own 0 [.slice A0 sizes.length k0, .slice A1 sizes.length k1, .slice A2 sizes.length k2, .slice A3 sizes.length k3, .slice A4 sizes.length k4])) := Hp.sees_box _ q0
  have hz2 : (H1.put H.size (.own 0 [.slice A0 sizes.length k0, .slice A1 sizes.length k1, .slice A2 sizes.length k2, .slice A3 sizes.length k3, .slice A4 sizes.length k4])).sees ((H1.put H.size (.own 0 [.slice A0 sizes.length k0, .slice A1 sizes.length k1, .slice A2 sizes.length k2, .slice A3 sizes.length k3, .slice A4 sizes.length k4])).put (H.size + 1) (.own 0 [.slice A5 sizes.length k5, .slice A6 sizes.length k6])) := Hp.sees_box (cs := [.slice none 0 0, .slice none 0 0]) _ (by rw [Hp.put_other _ _ (by omega)]; exact q1)
  have hz := hz1.trans hz2
  refine ⟨_, Y8 (Yq Xm (Yo (cs := [.slice A0 sizes.length k0, .slice A1 sizes.length k1, .slice A2 sizes.length k2, .slice A3 sizes.length k3, .slice A4 sizes.length k4]) Tryz.underlying26 rfl inf26.size X8)) (Yq Xm (Yo (cs := [.slice A5 sizes.length k5, .slice A6 sizes.length k6]) Tryz.underlying29 rfl inf29.size X8)), [_, _, _, _, _], [_, _], rfl, ⟨_, _, _, _, _, rfl, ?_, ?_, ?_, ?_, ?_⟩, ⟨_, _, rfl, ?_, ?_⟩, Hp.le_put_new (Hp.le_put_new leH1 (Nat.le_refl _) _) (by omega) _⟩
  · exact Sl.conv (k := kStr) (p0.mono hz) (by simp [eStr, apartF]) (fun j a b => by simp [eStr, apartF, kStr])
  · exact Sl.conv (k := Y1 .i64) (p1.mono hz) (by simp [eInt, apartF]) (fun j a b => by simp [eInt, apartF, Y1])
  · exact Sl.conv (k := Y1 .i64) (p2.mono hz) (by simp [eNeg, apartF]) (fun j a b => by simp [eNeg, apartF, Y1])
  · exact Sl.conv (k := V1 (Y1 .i64)) (p3.mono hz) (by simp [U5, apartF]) (fun j a b => by simp only [U5, apartF, List.getElem_replicate]; exact ⟨_, rfl, Sl.nil _ _⟩)
  · exact Sl.conv (k := V1 (Y1 .i64)) (p4.mono hz) (by simp [U5, apartF]) (fun j a b => by simp only [U5, apartF, List.getElem_replicate]; exact ⟨_, rfl, Sl.nil _ _⟩)
  · exact Sl.conv (k := V1 kLink) (p5.mono hz) (by simp [eNds, apartP, hrl]) (fun j a b => by
      obtain ⟨w, h1, h2⟩ := hr.at_ j a (by simpa [apartP] using b)
      simp only [apartP, List.getElem_map]
      exact ⟨w, h1, (h2.mono se).mono hz⟩)
  · exact Sl.conv (k := V1 kLink) (p6.mono hz) (by simp [U5, apartP]) (fun j a b => by simp only [U5, apartP, List.getElem_replicate, List.getElem_map]; exact ⟨_, rfl, Sl.nil _ _⟩)

end Go.Proofs.YtmakkmcjocjgmaaGreat.Am
