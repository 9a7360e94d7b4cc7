/- Texts that the proof rests on, part 4: lemmas for every heap that is related to a world, no condition beyond each lemma's own. -/
import Derived.Test.YtmakkmcjocjgmaaGreatCa3
import Derived.Test.YtmakkmcjocjgmaaGreatCaMaps2
namespace Go.Proofs.YtmakkmcjocjgmaaGreat.Am
open Go Go.RowKit
set_option linter.unusedVariables false
set_option linter.unusedSimpArgs false
set_option maxRecDepth 100000
structure Noted (ls : List Link) (i : Nat) (k : Nat) (es0 es : List (Value × Value)) : Prop where
 keys : ∀ e ∈ es, IsSpot e.1
 yes : ∀ above : Int, (∃ (j : Nat) (h : j < ls.length), j < k ∧ ls[j].a = above) → ∃ fr to : Nat, Zj es (Zq i above) = some (spanV fr to) ∧ fr ≤ to ∧ to ≤ ls.length ∧ (ls.take to).drop fr = ls.filter fun l => decide (l.a = above)
 no : ∀ above : Int, (¬ ∃ (j : Nat) (h : j < ls.length), j < k ∧ ls[j].a = above) → Zj es (Zq i above) = none
 other : ∀ (i' : Nat) above, i' ≠ i → Zj es (Zq i' above) = Zj es0 (Zq i' above)
theorem Noted.step {ls : List Link} {i k to : Nat} {es0 es : List (Value × Value)} (h : Noted ls i k es0 es) (hr : RiseA ls) (hk : k < ls.length) (hkt : k < to) (ht : to ≤ ls.length) (hbnd : ∀ j (hj : j < ls.length), j < k → ls[j].a < ls[k].a)
  (hsame : ∀ j (hj : j < ls.length), k ≤ j → j < to → ls[j].a = ls[k].a) (hend : ∀ h : to < ls.length, ls[to].a ≠ ls[k].a) : Noted ls i to es0 (V7 es (Zq i ls[k].a) (spanV k to)) := by
 have hge : ∀ j (hj : j < ls.length), to ≤ j → ls[k].a < ls[j].a := fun j hj h1 => by
  have h2 := hend (by omega)
  have h3 := hr k to hk (by omega) (by omega)
  have h4 := hr to j (by omega) hj h1
  omega
 obtain ⟨_, hfil⟩ := filter_mid (xs := ls) (a := ls[k].a) (lo := k) (hi := to) (by omega) ht (fun j hj h1 => by have := hbnd j hj h1; omega) (fun j hj h1 => hr k j hk hj h1) (fun j hj h1 => by
  rcases Nat.lt_or_ge j k with h2 | h2
  ·have := hbnd j hj h2; omega
  ·have := hsame j hj h2 h1; omega) (fun j hj h1 => hge j hj h1)
 refine ⟨mapPut_keys h.keys ⟨_, _, rfl⟩, fun above hab => ?_, fun above hab => ?_, fun i' above hi => ?_⟩
 ·by_cases he : above = ls[k].a
  ·subst he
   exact ⟨k, to, mapGet_put, by omega, ht, hfil⟩
  ·rw [Vn (fun e => he (spotV_inj e).2)]
   refine h.yes above ?_
   obtain ⟨j, hj, h1, h2⟩ := hab
   refine ⟨j, hj, ?_, h2⟩
   rcases Nat.lt_or_ge j k with h3 | h3
   ·exact h3
   ·exact absurd (h2.symm.trans (hsame j hj h3 h1)) he
 ·have he : above ≠ ls[k].a := fun e => hab ⟨k, hk, hkt, e.symm⟩
  rw [Vn (fun e => he (spotV_inj e).2)]
  exact h.no above fun ⟨j, hj, h1, h2⟩ => hab ⟨j, hj, by omega, h2⟩
 ·rw [Vn (fun e => hi (by have := (spotV_inj e).1; omega))]
  exact h.other i' above hi
set_option maxHeartbeats 1000000 in
theorem group_tree {b mb : Nat} {s0 s1 s2 : Value} {ps : List Int} {lss : List (List Link)} {es : List (Value × Value)} {H : Hp} (hb : b < H.size) (hmb : mb < H.size) (hg : H.get b = .own 0 [s0, s1, s2, .map (some mb)]) (hs1 : Sl (Y1 .i64) H s1 ps) (hs2 : Sl (V1 kLink) H s2 lss) (hm : H.get mb = .map es)
  (i : Nat) (hi : i < lss.length) (hpi : i < ps.length) (hlen : lss[i].length ≤ 1000000) (hr : ps.getD i 0 ≠ -1 → RiseA lss[i]) (hk : ∀ e ∈ es, IsSpot e.1) (hno : ∀ above, Zj es (Zq i above) = none) :
  ACalls Tryz.prog 52 #[.pointer (some ⟨b, 0, none⟩), .int .i64 i] H (fun r H' => ∃ es', H' = H.put mb (.map es') ∧ (if ps.getD i 0 = -1 then es' = V7 es (Zq i (-1)) (spanV 0 lss[i].length) else Noted lss[i] i lss[i].length es es')) := by
 obtain ⟨A1, c1, rfl⟩ := hs1.shape
 obtain ⟨A2, c2, rfl⟩ := hs2.shape
 obtain ⟨b1, o1, rfl, hb1, hcell1⟩ := hs1.int_at (i := (i : Int)) (by omega) (by omega)
 rw [Int.toNat_natCast] at hcell1
 obtain ⟨b2, o2, ks, eB, hb2, ⟨w0, rfl, hw0⟩, hcell2⟩ := hs2.elem_at hi
 subst eB
 have hcell2' := hcell2.one
 obtain ⟨A6, c6, rfl⟩ := hw0.shape
 have hbm : b ≠ mb := fun e => by subst e; rw [hg] at hm; cases hm
 refine Xv Tryz.func52 rfl rfl rfl (by simp) ?_
 refine Xe ?_
 refine Xu ?_
 refine Xa (X0 rfl) ?_
 refine Xa (Yi rfl) ?_
 refine Xa (Xf (off := 2) rfl Tryz.underlying91 rfl inf27.size (by decide) rfl) ?_
 refine Xa (Xk rfl Tryz.underlying27 rfl Xp) ?_
 refine Xa (Xb rfl) ?_
 refine Xa (Xt rfl rfl Tryz.underlying27 inf83.size X6 X6) ?_
 refine Xa (Xk rfl Tryz.underlying83 rfl Xp) ?_
 refine Xa (Yc rfl) ?_
 refine Xe ?_
 refine Xe ?_
 refine Xu ?_
 refine Xa (X0 rfl) ?_
 refine Xa (Yi rfl) ?_
 refine Xa (Xf (off := 1) rfl Tryz.underlying91 rfl inf23.size (by decide) rfl) ?_
 refine Xa (Xk rfl Tryz.underlying23 rfl Xp) ?_
 refine Xa (Xb rfl) ?_
 refine Xa (Xt rfl rfl Tryz.underlying23 inf3.size X6 X6) ?_
 refine Xa (Xk rfl Tryz.underlying3 rfl Xp) ?_
 refine Xa (Zx rfl rfl) ?_
 refine X5 rfl rfl ?_ ?_
 intro hc1
 have hroot : ps.getD i 0 = -1 := of_decide_eq_true hc1
 refine Xe ?_
 refine Xu ?_
 refine Xa (X0 rfl) ?_
 refine Xa (Yi rfl) ?_
 refine Xa (Xf (off := 3) rfl Tryz.underlying91 rfl inf89.size (by decide) rfl) ?_
 refine Xa (Xk rfl Tryz.underlying89 rfl Xp) ?_
 refine Xa (Xb rfl) ?_
 refine Xa (Y6 (pl := [(0, 1), (1, 1)]) (r := [.int .i64 _, .int .i64 _]) Tryz.underlying133 inf133.zero (by decide) rfl rfl) ?_
 refine Xa (X1 rfl) ?_
 refine Xa (Ys rfl Tryz.underlying83) ?_
 refine Xa (Y6 (pl := [(0, 1), (1, 1)]) (r := [.int .i64 _, .int .i64 _]) Tryz.underlying131 inf131.zero (by decide) rfl rfl) ?_
 refine Xw (aop_mapUpdate Tryz.underlying89 keyTy_spot rfl rfl rfl ⟨_, _, rfl⟩ hm hk ?_)
 refine X2 ?_
 exact ⟨_, aresult0, _, rfl, by rw [if_pos hroot]; rfl⟩
 intro hc1
 have hroot : ps.getD i 0 ≠ -1 := of_decide_eq_false hc1
 refine X9 ?_
 refine Xe ?_
 refine Xu ?_
 refine Xa (Xi rfl) ?_
 refine Ye ?_
 refine Y5 (fun n t H' => ∃ (k : Nat) (es' : List (Value × Value)), k ≤ lss[i].length ∧ n = lss[i].length - k ∧ H' = H.put mb (.map es') ∧ Noted lss[i] i k es es' ∧ (∀ (hk : k < lss[i].length) j (hj : j < lss[i].length), j < k → lss[i][j].a < lss[i][k].a) ∧ t 0 = .pointer (some ⟨b, 0, none⟩) ∧ t 1 = .int .i64 i ∧ t 4 = .slice A6 lss[i].length c6 ∧ t 5 = .int .i64 k) (lss[i].length) (⟨0, es, by omega, rfl, (Hp.put_self _ hm).symm, ⟨hk, fun above ⟨j, hj, h, _⟩ => by omega, fun above _ => hno above, fun _ _ _ => rfl⟩, fun _ j _ h => by omega, rfl, rfl, rfl, rfl⟩) ?_
 rintro n t H1 ⟨k, es', hkl, rfl, hH1, hnoted, hbnd, e0, e1, e4, e5⟩
 have hse : H.sees H1 := by rw [hH1]; exact Hp.sees_map H hm _
 have hm1 : H1.get mb = .map es' := by rw [hH1]; exact Hp.put_same _ _ _
 have hg1 : H1.get b = .own 0 [s0, .slice (some ⟨b1, o1, none⟩) ps.length c1, .slice (some ⟨b2, o2, none⟩) lss.length c2, .map (some mb)] := by rw [hH1, Hp.put_other _ _ hbm]; exact hg
 have hz1 : H1.size = H.size := by rw [hH1]; rfl
 have hw1 := hw0.mono hse
 refine Xe ?_
 refine Xe ?_
 refine Xu ?_
 refine Xa (Xb Xm) ?_
 refine Xa (X1 Xm) ?_
 refine Xa (Ys rfl Tryz.underlying83) ?_
 refine Xa (Za rfl rfl) ?_
 refine X5 rfl rfl ?_ ?_
 intro hc2
 (try simp only [Yt] at hc2)
 refine X9 ?_
 refine Ye ?_
 refine Xe ?_
 have hkx : k < lss[i].length := by omega
 obtain ⟨bk, ok, eA, hbk, hck⟩ := hw1.link_at hkx
 subst eA
 have hck0 := hck 0 _ rfl
 refine Xu ?_
 refine Xa (Xb Xm) ?_
 refine Xa (Xi rfl) ?_
 refine Xe ?_
 refine Ye ?_
 refine Y5 (fun n t H' => ∃ (m : Nat), k ≤ m ∧ m ≤ lss[i].length ∧ n = lss[i].length - m ∧ H' = H1 ∧ (∀ j (hj : j < lss[i].length), k ≤ j → j < m → lss[i][j].a = lss[i][k].a) ∧ t 0 = .pointer (some ⟨b, 0, none⟩) ∧ t 1 = .int .i64 i ∧ t 4 = .slice (some ⟨bk, ok, none⟩) lss[i].length c6 ∧ t 5 = .int .i64 k ∧ t 6 = .int .i64 m) (lss[i].length - k) (⟨k, by omega, by omega, by omega, rfl, fun j _ h1 h2 => by omega, e0, e1, e4, e5, rfl⟩) ?_
 rintro n t H1 ⟨m, hkm, hml, rfl, rfl, hsame, e0, e1, e4, e5, e6⟩
 refine Xe ?_
 refine Xe ?_
 refine Yy (by kernel_rfl) (Y4 (B := [0, 0, 2, 7, 15, 31, 31, 127, 255, 511, 31, 31, 3103, 7199, 15391, 32767, 65535]) (π := [0, 1, 2, 3, 4, 5, 6, 7, 8, 9, 10, 11, 12, 13, 14, 15, 16]) (by kernel_rfl)) ?_
 refine Xd rfl rfl (Xb Xm) Xq ?_
 refine Xd rfl rfl (X1 Xm) Xq ?_
 refine Xd rfl rfl (Ys rfl Tryz.underlying83) Xq ?_
 refine Xd rfl rfl (Za rfl rfl) Xq ?_
 refine Xd rfl rfl (Xo rfl) Xq ?_
 refine Va rfl rfl rfl rfl ?_ ?_
 intro hg3
 have hmx : m < lss[i].length := by have := of_decide_eq_true hg3; omega
 obtain ⟨bm, om, eM, hbm2, hcm⟩ := hw1.link_at hmx
 simp only [Option.some.injEq, Addr.mk.injEq, and_true] at eM
 obtain ⟨rfl, rfl⟩ := eM
 have hcm0 := hcm 0 _ rfl
 refine Yr rfl (Xh rfl rfl rfl hg3) rfl (X1 Xm) Xq ?_
 refine Yr rfl (Xh rfl rfl rfl hg3) rfl (Xb Xm) Xq ?_
 refine Yr rfl (Xh rfl rfl rfl hg3) rfl (Xt rfl rfl Tryz.underlying83 inf96.size X6 X6) Xq ?_
 refine Yr rfl (Xh rfl rfl rfl hg3) rfl (Xf (off := 0) rfl Tryz.underlying96 rfl inf3.size (by decide) rfl) Xq ?_
 refine Yr rfl (Xh rfl rfl rfl hg3) rfl (Xk rfl Tryz.underlying3 rfl Xp) Xq ?_
 refine Yr rfl (Xh rfl rfl rfl hg3) rfl (X1 Xm) Xq ?_
 refine Yr rfl (Xh rfl rfl rfl hg3) rfl (Xb Xm) Xq ?_
 refine Yr rfl (Xh rfl rfl rfl hg3) rfl (Xt rfl rfl Tryz.underlying83 inf96.size X6 X6) Xq ?_
 refine Yr rfl (Xh rfl rfl rfl hg3) rfl (Xf (off := 0) rfl Tryz.underlying96 rfl inf3.size (by decide) rfl) Xq ?_
 refine Yr rfl (Xh rfl rfl rfl hg3) rfl (Xk rfl Tryz.underlying3 rfl Xp) Xq ?_
 refine Yr rfl (Xh rfl rfl rfl hg3) rfl (Zx rfl rfl) Xq ?_
 refine Xd rfl rfl (Xl (Yv hg3) rfl) Xq ?_
 refine X5 rfl rfl ?_ ?_
 intro hc4
 have heq : lss[i][m].a = lss[i][k].a := of_decide_eq_true hc4
 refine X9 ?_
 refine Ye ?_
 refine Xu ?_
 refine Xa (Xb Xm) ?_
 refine Xa (Yn rfl rfl Y0) ?_
 refine Xa (Xi rfl) ?_
 refine ⟨lss[i].length - (m + 1), by omega, m + 1, by omega, by omega, rfl, rfl, fun j hj h1 h2 => ?_, e0, e1, e4, e5, rfl⟩
 rcases Nat.lt_or_ge j m with h | h
 ·exact hsame j hj h1 h
 ·obtain rfl : j = m := by omega
  exact heq
 intro hc4
 have hneq : lss[i][m].a ≠ lss[i][k].a := of_decide_eq_false hc4
 refine Yx ?_
 refine Xe ?_
 have hend : ∀ h : m < lss[i].length, lss[i][m].a ≠ lss[i][k].a := fun h => by first | exact absurd h hmx | exact hneq
 have hkm' : k < m := by
  rcases Nat.lt_or_ge k m with h | h
  ·exact h
  ·exfalso
   have : m = k := by omega
   subst this
   exact hend hkx rfl
 have hst := hnoted.step (hr hroot) hkx hkm' hml (hbnd hkx) hsame hend
 refine Yy (by kernel_rfl) (Y4 (B := [0, 1, 3, 7, 0, 0, 0, 96, 224, 480, 1008, 0, 0, 6144, 16383]) (π := [0, 1, 2, 3, 4, 5, 6, 7, 8, 9, 10, 11, 12, 13, 14]) (by kernel_rfl)) ?_
 refine Xd rfl rfl (X0 Xm) Xq ?_
 refine Xd rfl rfl (Yi rfl) Xq ?_
 refine Xd rfl rfl (Xf (off := 3) rfl Tryz.underlying91 rfl inf89.size (by decide) rfl) Xq ?_
 refine Xd rfl rfl (Xk rfl Tryz.underlying89 rfl Xp) Xq ?_
 refine Xd rfl rfl (Xb Xm) Xq ?_
 refine Xd rfl rfl (X1 Xm) Xq ?_
 refine Xd rfl rfl (Xb Xm) Xq ?_
 refine Xd rfl rfl (Xt rfl rfl Tryz.underlying83 inf96.size X6 X6) Xq ?_
 refine Xd rfl rfl (Xf (off := 0) rfl Tryz.underlying96 rfl inf3.size (by decide) rfl) Xq ?_
 refine Xd rfl rfl (Xk rfl Tryz.underlying3 rfl Xp) Xq ?_
 refine Xd rfl rfl (Y6 (pl := [(0, 1), (1, 1)]) (r := [.int .i64 _, .int .i64 _]) Tryz.underlying133 inf133.zero (by decide) rfl rfl) Xq ?_
 refine Xd rfl rfl (Xb Xm) Xq ?_
 refine Xd rfl rfl (Xb Xm) Xq ?_
 refine Xd rfl rfl (Y6 (pl := [(0, 1), (1, 1)]) (r := [.int .i64 _, .int .i64 _]) Tryz.underlying131 inf131.zero (by decide) rfl rfl) Xq ?_
 refine Ym rfl rfl (aop_mapUpdate Tryz.underlying89 keyTy_spot rfl rfl rfl ⟨_, _, rfl⟩ hm1 hnoted.keys ?_)
 refine ⟨Yk, ?_⟩
 refine Xu ?_
 refine Xa (Xb Xm) ?_
 refine Xa (Xi rfl) ?_
 refine ⟨lss[i].length - m, by omega, m, _, by omega, rfl, by rw [hH1, Hp.put_put]; rfl, hst, fun hk j hj h => ?_, e0, e1, e4, rfl⟩
 rcases Nat.lt_or_ge j k with h1 | h1
 ·have h2 := hbnd hkx j hj h1
  have h3 := hr hroot k m hkx hk (by omega)
  omega
 ·have h2 := hsame j hj h1 h
  have h3 := hr hroot k m hkx hk (by omega)
  have h4 := hend hk
  omega
 intro hg3
 have hmx : ¬ m < lss[i].length := by have := of_decide_eq_false hg3; omega
 refine X7 rfl (Xg rfl rfl rfl hg3 rfl) ?_
 refine X7 rfl (Xg rfl rfl rfl hg3 rfl) ?_
 refine X7 rfl (Xg rfl rfl rfl hg3 rfl) ?_
 refine X7 rfl (Xg rfl rfl rfl hg3 rfl) ?_
 refine X7 rfl (Xg rfl rfl rfl hg3 rfl) ?_
 refine X7 rfl (Xg rfl rfl rfl hg3 rfl) ?_
 refine X7 rfl (Xg rfl rfl rfl hg3 rfl) ?_
 refine X7 rfl (Xg rfl rfl rfl hg3 rfl) ?_
 refine X7 rfl (Xg rfl rfl rfl hg3 rfl) ?_
 refine X7 rfl (Xg rfl rfl rfl hg3 rfl) ?_
 refine X7 rfl (Xg rfl rfl rfl hg3 rfl) ?_
 refine Xd rfl rfl (Xl (Yv hg3) Xm) Xq ?_
 refine Y2 rfl rfl ?_
 refine Yx ?_
 refine Xe ?_
 have hend : ∀ h : m < lss[i].length, lss[i][m].a ≠ lss[i][k].a := fun h => by first | exact absurd h hmx | exact hneq
 have hkm' : k < m := by
  rcases Nat.lt_or_ge k m with h | h
  ·exact h
  ·exfalso
   have : m = k := by omega
   subst this
   exact hend hkx rfl
 have hst := hnoted.step (hr hroot) hkx hkm' hml (hbnd hkx) hsame hend
 refine Yy (by kernel_rfl) (Y4 (B := [0, 1, 3, 7, 0, 0, 0, 96, 224, 480, 1008, 0, 0, 6144, 16383]) (π := [0, 1, 2, 3, 4, 5, 6, 7, 8, 9, 10, 11, 12, 13, 14]) (by kernel_rfl)) ?_
 refine Xd rfl rfl (X0 Xm) Xq ?_
 refine Xd rfl rfl (Yi rfl) Xq ?_
 refine Xd rfl rfl (Xf (off := 3) rfl Tryz.underlying91 rfl inf89.size (by decide) rfl) Xq ?_
 refine Xd rfl rfl (Xk rfl Tryz.underlying89 rfl Xp) Xq ?_
 refine Xd rfl rfl (Xb Xm) Xq ?_
 refine Xd rfl rfl (X1 Xm) Xq ?_
 refine Xd rfl rfl (Xb Xm) Xq ?_
 refine Xd rfl rfl (Xt rfl rfl Tryz.underlying83 inf96.size X6 X6) Xq ?_
 refine Xd rfl rfl (Xf (off := 0) rfl Tryz.underlying96 rfl inf3.size (by decide) rfl) Xq ?_
 refine Xd rfl rfl (Xk rfl Tryz.underlying3 rfl Xp) Xq ?_
 refine Xd rfl rfl (Y6 (pl := [(0, 1), (1, 1)]) (r := [.int .i64 _, .int .i64 _]) Tryz.underlying133 inf133.zero (by decide) rfl rfl) Xq ?_
 refine Xd rfl rfl (Xb Xm) Xq ?_
 refine Xd rfl rfl (Xb Xm) Xq ?_
 refine Xd rfl rfl (Y6 (pl := [(0, 1), (1, 1)]) (r := [.int .i64 _, .int .i64 _]) Tryz.underlying131 inf131.zero (by decide) rfl rfl) Xq ?_
 refine Ym rfl rfl (aop_mapUpdate Tryz.underlying89 keyTy_spot rfl rfl rfl ⟨_, _, rfl⟩ hm1 hnoted.keys ?_)
 refine ⟨Yk, ?_⟩
 refine Xu ?_
 refine Xa (Xb Xm) ?_
 refine Xa (Xi rfl) ?_
 refine ⟨lss[i].length - m, by omega, m, _, by omega, rfl, by rw [hH1, Hp.put_put]; rfl, hst, fun hk j hj h => ?_, e0, e1, e4, rfl⟩
 rcases Nat.lt_or_ge j k with h1 | h1
 ·have h2 := hbnd hkx j hj h1
  have h3 := hr hroot k m hkx hk (by omega)
  omega
 ·have h2 := hsame j hj h1 h
  have h3 := hr hroot k m hkx hk (by omega)
  have h4 := hend hk
  omega
 intro hc2
 (try simp only [Yt] at hc2)
 refine Yx ?_
 have hkl2 : k = lss[i].length := by omega
 subst hkl2
 exact ⟨_, aresult0, es', hH1, by rw [if_neg hroot]; exact hnoted⟩
theorem Index_ints (xs : List Int) (v : Value) (m : Int) (H : Hp) (hs : Sl (Y1 .i64) H v xs) (hl : xs.length ≤ 9223372036854775807) :
  ACalls Tryz.prog 50 #[v, .int .i64 m] H (fun r H' => r = .int .i64 (atI xs m) ∧ H' = H) := by
 refine ACalls.pure (R := fun r => r = .int .i64 (atI xs m)) (fun v h => by rw [h]; rfl) ?_
 have hs := hs.mono H.sees_ro
 obtain ⟨A, c, rfl⟩ := hs.shape
 refine Xv Tryz.func50 rfl rfl rfl (by simp) ?_
 refine Xe ?_
 refine Xu ?_
 refine Xa (Xi rfl) ?_
 refine Xe ?_
 refine Xe ?_
 refine Xu ?_
 refine Xa (X1 rfl) ?_
 refine Xa (Ys rfl Tryz.underlying23) ?_
 refine Xa (Xb rfl) ?_
 refine Ye ?_
 refine Y5 (fun n t H' => ∃ i : Nat, i ≤ xs.length ∧ n = xs.length - i ∧ H' = H.ro ∧ m ∉ xs.take i ∧ t 0 = .slice A xs.length c ∧ t 1 = .int .i64 m ∧ t 7 = .int .i64 xs.length ∧ t 8 = .int .i64 i) (xs.length) (⟨0, by omega, rfl, rfl, by simp, rfl, rfl, rfl, rfl⟩) ?_
 rintro n t _ ⟨i, hi, rfl, rfl, hno, e0, e1, e7, e8⟩
 refine Xe ?_
 refine Xu ?_
 refine Xa (Za Xm Xm) ?_
 refine Xe ?_
 refine X5 rfl rfl ?_ ?_
 intro hc1
 (try simp only [Yt] at hc1)
 refine X9 ?_
 refine Xe ?_
 refine Ye ?_
 refine Xe ?_
 refine Xu ?_
 refine Xa (Xb Xm) ?_
 refine Xa (Xi rfl) ?_
 refine Xe ?_
 refine Xu ?_
 refine Xa (Xb Xm) ?_
 refine Xa (X1 Xm) ?_
 refine Xa (Xb rfl) ?_
 have hix : i < xs.length := by omega
 obtain ⟨b, o, rfl, hb, hcell1⟩ := hs.int_at (i := (i : Int)) (by omega) (by omega)
 have hgi : xs.getD (i : Int).toNat 0 = xs[i] := by rw [Int.toNat_natCast]; exact Zf hix
 rw [hgi] at hcell1
 refine Xa (Xt rfl rfl Tryz.underlying23 inf3.size X6 X6) ?_
 refine Xa (Xk rfl Tryz.underlying3 rfl Xp) ?_
 refine Xa (Zx rfl rfl) ?_
 refine X5 rfl rfl ?_ ?_
 intro hc2
 have he : m = xs[i] := of_decide_eq_true hc2
 refine Xe ?_
 refine Xu ?_
 refine Xa (Xb rfl) ?_
 refine Xa (Xi rfl) ?_
 refine X2 ?_
 exact ⟨.int .i64 i, Xx (Xs rfl), by rw [atI_some hix he.symm hno]⟩
 intro hc2
 have hne : m ≠ xs[i] := of_decide_eq_false hc2
 refine X9 ?_
 refine Xu ?_
 refine Xa (Yn Xm Xm Y0) ?_
 refine Xa (Xb rfl) ?_
 exact ⟨xs.length - (i + 1), by omega, i + 1, by omega, rfl, rfl, by rw [← Y9 hix]; simp only [List.mem_append, List.mem_singleton, not_or]; exact ⟨hno, hne⟩, e0, e1, e7, rfl⟩
 intro hc1
 (try simp only [Yt] at hc1)
 refine Yx ?_
 refine Xe ?_
 refine Xu ?_
 refine Xa (Xi rfl) ?_
 refine X2 ?_
 rw [List.take_of_length_le (by omega)] at hno
 exact ⟨.int .i64 (-1), Xx (Xs rfl), by rw [atI_none hno]⟩
def Yp (T : TreeT) (ns : List Int) (i : Nat) : Int := if T.parent.getD i 0 = -1 then -1 else ns.getD (T.parent.getD i 0).toNat 0
def Z4 (T : TreeT) (ns : List Int) : Nat → Option (Int × Int)
 | 0 => some (0, 1)
 | i + 1 => (Z4 T ns i).bind fun cn => (Z0 (T.group i (Yp T ns i)) (ns.getD i 0)).map fun y => (cn.1 + y.cost, Zi cn.2 y.n)
theorem rowAcc_none {T : TreeT} {ns : List Int} {i : Nat} (h : Z4 T ns i = none) : ∀ j, i ≤ j → Z4 T ns j = none
  | 0, hj => by have : i = 0 := by omega
                subst this; exact h
  | j + 1, hj => by
    rcases Nat.lt_or_ge i (j + 1) with h1 | h1
    · show (Z4 T ns j).bind _ = none
      rw [rowAcc_none h j (by omega)]; rfl
    · have : i = j + 1 := by omega
      subst this; exact h
structure GoodT (T : TreeT) : Prop where
 l1 : T.parent.length = T.vars.length
 l2 : T.links.length = T.vars.length
 few : T.vars.length ≤ 1000
 lens : ∀ l ∈ T.links, l.length ≤ 1000000
 par : ∀ i, i < T.vars.length → T.parent.getD i 0 = -1 ∨ (0 ≤ T.parent.getD i 0 ∧ T.parent.getD i 0 < i)
 sort : ∀ i above, (T.group i above).Pairwise fun x y => x.b < y.b
 cost : ∀ l ∈ T.links, ∀ x ∈ l, 0 ≤ x.cost ∧ x.cost ≤ 2000000000 ∧ 0 ≤ x.n
theorem GoodT.group_mem {T : TreeT} (h : GoodT T) {i above : Int} {x : Link} (hx : x ∈ T.group i above) : 0 ≤ x.cost ∧ x.cost ≤ 2000000000 ∧ 0 ≤ x.n := by
 unfold TreeT.group at hx
 split at hx
 ·rename_i hi
  have hl : i.toNat < T.links.length := by rw [h.l2]; omega
  have hx2 : x ∈ T.links[i.toNat] := by
   unfold TreeT.row at hx
   rw [Ze hl] at hx
   split at hx
   ·exact hx
   ·exact (List.mem_filter.1 hx).1
  exact h.cost _ (List.getElem_mem hl) x hx2
 ·simp at hx
set_option maxHeartbeats 2000000 in
theorem Row_tree {T : TreeT} {v u : Value} {ns : List Int} {H : Hp} (ht : TreeR H v T) (hT : GoodT T) (hs : Sl (Y1 .i64) H u ns) (hl : ns.length ≤ 1000000) :
  ACalls Tryz.prog 72 #[v, u] H (fun r H' => H.le H' ∧ ∃ w,
   (if ns.length = T.vars.length then (match Z4 T ns T.vars.length with
    | some cn => r = .tuple #[.agg #[w, .int .i64 cn.1, .int .u64 cn.2], .bool true] ∧ ∃ G', H.le G' ∧ OwnP (Y1 .i64) G' H' w ns
    | none => r = .tuple #[.agg #[.slice none 0 0, .int .i64 0, .int .u64 0], .bool false])
   else r = .tuple #[.agg #[.slice none 0 0, .int .i64 0, .int .u64 0], .bool false])) := by
 have ht0 := ht
 obtain ⟨b, mb, s0, s1, s2, es, rfl, hb, hmb, hg, hs0, hs1, hs2, hm, hsp⟩ := ht
 obtain ⟨A0, c0, rfl⟩ := hs0.shape
 obtain ⟨A1, c1, rfl⟩ := hs1.shape
 obtain ⟨A2, c2, rfl⟩ := hs2.shape
 obtain ⟨Au, cu, rfl⟩ := hs.shape
 have hp1 := hT.l1
 have hfew := hT.few
 refine Xv Tryz.func72 rfl rfl rfl (by simp) ?_
 refine Xe ?_
 refine Xu ?_
 refine Xz (Yz (l := [.slice none 0 0, .int .i64 0, .int .u64 0]) inf46.zero rfl (by decide)) ?_
 refine Xa (Xn rfl) ?_
 refine Xe ?_
 refine Xe ?_
 refine Xu ?_
 refine Xa (X0 rfl) ?_
 refine Xa (Un rfl t_spot rfl Tryz.underlying37) ?_
 refine Xa (Xo rfl) ?_
 refine Ya rfl rfl rfl ?_ ?_
 intro hg1
 cases hg1
 intro hg1
 have hp1 := hg1; try simp only [Yt] at hp1
 refine Xj (Xh rfl rfl rfl hg1) (X1 rfl) ?_
 refine Xj (Xh rfl rfl rfl hg1) (Ys rfl Tryz.underlying23) ?_
 refine Xj (Xh rfl rfl rfl hg1) (X0 rfl) ?_
 refine Xj (Xh rfl rfl rfl hg1) (Yi rfl) ?_
 refine Xj (Xh rfl rfl rfl hg1) (Xf (off := 0) rfl Tryz.underlying91 rfl inf22.size (by decide) rfl) ?_
 refine Xj (Xh rfl rfl rfl hg1) (Xk rfl Tryz.underlying22 rfl Xp) ?_
 refine Xj (Xh rfl rfl rfl hg1) (Ys rfl Tryz.underlying22) ?_
 refine Xj (Xh rfl rfl rfl hg1) (Zw rfl rfl) ?_
 refine Xa (Xl (Yv hg1) rfl) ?_
 refine X5 rfl rfl ?_ ?_
 intro hc2
 have hne : ns.length ≠ T.vars.length := by have := of_decide_eq_true hc2; omega
 refine Xe ?_
 refine Xu ?_
 refine Xa (Y6 (pl := [(0, 1), (1, 1), (2, 1)]) (r := [.slice _ _ _, .int .i64 _, .int .u64 _]) Tryz.underlying46 inf46.zero (by decide) rfl rfl) ?_
 refine Xw (Yf (vs := [.slice _ _ _, .int .i64 _, .int .u64 _]) rfl rfl inf46.size Yd Yg rfl rfl ?_)
 refine Xa (Xn rfl) ?_
 refine X2 ?_
 exact ⟨_, Y8 (Yq Xm (Yo (cs := [_, _, _]) Tryz.underlying46 rfl inf46.size X8)) (Xs rfl), Hp.le_put_new (H.le_push _) (Nat.le_refl _) _, .slice none 0 0, by rw [if_neg hne]; rfl⟩
 intro hc2
 have hlen : ns.length = T.vars.length := by have := of_decide_eq_false hc2; omega
 refine X9 ?_
 refine Xe ?_
 refine Xu ?_
 refine Xa (X1 rfl) ?_
 refine Xw (Xy (Clone_own ns _ _ (hs.mono (H.le_push _).sees) (by omega)) rfl Tryz.func60 rfl rfl rfl ?_)
 rintro v5 H5 ⟨G5, hleG5, hown5⟩; have hle5 := Hp.le_trans hleG5 hown5.le; have hs5 := hown5.sl; obtain ⟨A5, c5, rfl⟩ := hs5.shape; have hz5 := hle5.1; simp only [Hp.push_size] at hz5; have g4 : H5.get H.size = .own 0 [.slice none 0 0, .int .i64 0, .int .u64 0] := Xr hle5 (by simp) (by intro e; cases e) Yd
 refine Xa (Y6 (pl := [(0, 1), (1, 1), (2, 1)]) (r := [.slice _ _ _, .int .i64 _, .int .u64 _]) Tryz.underlying46 inf46.zero (by decide) rfl rfl) ?_
 refine Xz (Yz (l := [.slice none 0 0, .int .i64 0, .int .u64 0]) inf46.zero rfl (by decide)) ?_
 refine Xw (Yf (vs := [.slice _ _ _, .int .i64 _, .int .u64 _]) rfl rfl inf46.size Yd Yg rfl rfl ?_)
 refine Xe ?_
 refine Xe ?_
 refine Xu ?_
 refine Xa (X1 rfl) ?_
 refine Xa (Ys rfl Tryz.underlying23) ?_
 refine Xa (Xb rfl) ?_
 refine Ye ?_
 refine Y5 (fun n t H' => ∃ (i : Nat) (c m : Int), i ≤ ns.length ∧ n = ns.length - i ∧ H5.le H' ∧ H5.size < H'.size ∧ H'.get H5.size = .own 0 [.slice A5 ns.length c5, .int .i64 c, .int .u64 m] ∧ Z4 T ns i = some (c, m) ∧ 0 ≤ c ∧ c ≤ 2000000000 * i ∧ 0 ≤ m ∧ t 0 = .pointer (some ⟨b, 0, none⟩) ∧ t 1 = .slice Au ns.length cu ∧ t 4 = .pointer (some ⟨H.size, 0, none⟩) ∧ t 6 = .pointer (some ⟨H5.size, 0, none⟩) ∧ t 28 = .slice Au ns.length cu ∧ t 29 = .int .i64 ns.length ∧ t 30 = .int .i64 i) (ns.length) (⟨0, 0, 1, by omega, rfl, Hp.le_put_new (H5.le_push _) (Nat.le_refl _) _, by simp, Hp.put_same _ _ _, rfl, by omega, by omega, by omega, rfl, rfl, rfl, rfl, rfl, rfl, rfl⟩) ?_
 rintro n t H6 ⟨i, cc, m, hi, rfl, hle6, hz6, g6, hacc, hc0, hc1, hm0, e0, e1, e4, e6, e28, e29, e30⟩
 have g46 := Xr hle6 (by omega) (by intro e; cases e) g4
 have leH6 : H.le H6 := Hp.le_trans (H.le_push _) (Hp.le_trans hle5 hle6)
 have hg6 := Xr leH6 hb (by intro e; cases e) hg
 refine Xe ?_
 refine Xu ?_
 refine Xa (Za Xm Xm) ?_
 refine Xe ?_
 refine X5 rfl rfl ?_ ?_
 intro hc3
 (try simp only [Yt] at hc3)
 refine X9 ?_
 refine Xe ?_
 refine Ye ?_
 refine Xe ?_
 refine Xu ?_
 have hix : i < ns.length := by omega
 obtain ⟨b1, o1, rfl, hb1, hcell1⟩ := (hs.mono leH6.sees).int_at (i := (i : Int)) (by omega) (by omega)
 rw [Int.toNat_natCast] at hcell1
 obtain ⟨b2, o2, rfl, hb2, hcell2⟩ := (hs1.mono leH6.sees).int_at (i := (i : Int)) (by omega) (by omega)
 rw [Int.toNat_natCast] at hcell2
 refine Xa (Xb Xm) ?_
 refine Xa (Xt Xm Xm Tryz.underlying23 inf3.size X6 X6) ?_
 refine Xa (Xk rfl Tryz.underlying3 rfl Xp) ?_
 refine Xa (Xi rfl) ?_
 refine Xa (Xi rfl) ?_
 refine Xe ?_
 refine Xu ?_
 refine Xa (Xi rfl) ?_
 refine Xe ?_
 refine Xe ?_
 refine Xu ?_
 refine Xa (X0 Xm) ?_
 refine Xa (Yi rfl) ?_
 refine Xa (Xf (off := 1) rfl Tryz.underlying91 rfl inf23.size (by decide) rfl) ?_
 refine Xa (Xk rfl Tryz.underlying23 rfl Xp) ?_
 refine Xa (Xb rfl) ?_
 refine Xa (Xt rfl rfl Tryz.underlying23 inf3.size X6 X6) ?_
 refine Xa (Xk rfl Tryz.underlying3 rfl Xp) ?_
 refine Xa (Zw rfl rfl) ?_
 refine X5 rfl rfl ?_ ?_
 intro hc4
 have hpar : T.parent.getD i 0 ≠ -1 := of_decide_eq_true hc4
 have hpi := (hT.par i (by omega)).resolve_left hpar
 have hab : Yp T ns i = ns.getD (T.parent.getD i 0).toNat 0 := by unfold Yp; rw [if_neg hpar]
 obtain ⟨b3, o3, e3, hb3, hcell3⟩ := (hs.mono leH6.sees).int_at (i := T.parent.getD i 0) hpi.1 (by omega)
 simp only [Option.some.injEq, Addr.mk.injEq, and_true] at e3
 obtain ⟨rfl, rfl⟩ := e3
 refine Xu ?_
 refine Xa (X1 Xm) ?_
 refine Xa (X0 Xm) ?_
 refine Xa (Yi rfl) ?_
 refine Xa (Xf (off := 1) rfl Tryz.underlying91 rfl inf23.size (by decide) rfl) ?_
 refine Xa (Xk rfl Tryz.underlying23 rfl Xp) ?_
 refine Xa (Xb rfl) ?_
 refine Xa (Xt rfl rfl Tryz.underlying23 inf3.size X6 X6) ?_
 refine Xa (Xk rfl Tryz.underlying3 rfl Xp) ?_
 refine Xa (Xt rfl rfl Tryz.underlying23 inf3.size X6 X6) ?_
 refine Xa (Xk rfl Tryz.underlying3 rfl Xp) ?_
 refine Xa (Xi rfl) ?_
 refine Xe ?_
 refine Xu ?_
 refine Xa (X0 Xm) ?_
 refine Xa (Xb rfl) ?_
 refine Xa (Xb rfl) ?_
 refine Xa (Xb rfl) ?_
 refine Xw (Xy (find_tree (ht0.mono leH6) hT.l1 hT.l2 hT.lens i _ (ns.getD i 0) (hT.sort _ _)) rfl Tryz.func100 rfl rfl rfl ?_)
 rintro v7 H7 ⟨hle7, rfl⟩; obtain ⟨fo, hfo⟩ : ∃ fo, fo = Z0 (T.group i (Yp T ns i)) (ns.getD i 0) := ⟨_, rfl⟩; have hfo2 := hfo; rw [hab] at hfo2; rw [← hfo2]; have z7 := hle7.1; have g47 := Xr hle7 (by omega) (by intro e; cases e) g46; have g67 := Xr hle7 hz6 (by intro e; cases e) g6; have leH57 := Hp.le_trans hle6 hle7
 refine Xa (Zm rfl) ?_
 refine Xa (Yj rfl rfl) ?_
 refine Xa (Yj rfl rfl) ?_
 refine Xz (Yz (l := [.int .i64 0, .int .i64 0, .int .i64 0, .int .u64 0]) inf96.zero rfl (by decide)) ?_
 first | refine Xw (Yf (vs := [.int .i64 _, .int .i64 _, .int .i64 _, .int .u64 _]) rfl rfl inf96.size Yd Yg rfl rfl ?_)
 refine Xa (Xn rfl) ?_
 refine Xe ?_
 refine Xe ?_
 have hfb : 0 ≤ (fo.getD Zy).cost ∧ (fo.getD Zy).cost ≤ 2000000000 ∧ 0 ≤ (fo.getD Zy).n := by
  cases hc : fo with
  | none => decide
  | some y => exact hT.group_mem (i := i) (above := Yp T ns i) (by rw [hfo] at hc; exact List.mem_of_find?_eq_some hc)
 have hnx : Z4 T ns (i + 1) = fo.map fun y => (cc + y.cost, Zi m y.n) := by
  show (Z4 T ns i).bind _ = _
  rw [hacc, hfo]; rfl
 refine Xu ?_
 refine Xa (Xo rfl) ?_
 refine Xa (Zz rfl) ?_
 refine X5 rfl rfl ?_ ?_
 intro hc5
 have hnone : fo = none := by have h := hc5; cases hf : fo with | none => rfl | some y => rw [hf] at h; cases h
 have hlast : Z4 T ns T.vars.length = none := rowAcc_none (i := i + 1) (by rw [hnx, hnone]; rfl) _ (by omega)
 refine Xe ?_
 refine Xu ?_
 refine Xa (Y6 (pl := [(0, 1), (1, 1), (2, 1)]) (r := [.slice _ _ _, .int .i64 _, .int .u64 _]) Tryz.underlying46 inf46.zero (by decide) rfl rfl) ?_
 refine Xw (Yf (vs := [.slice _ _ _, .int .i64 _, .int .u64 _]) Xm Xm inf46.size Yd Yg Xm Xm ?_)
 refine Xa (Xn rfl) ?_
 refine X2 ?_
 ·exact ⟨_, Y8 (Yq Xm (Yo (cs := [_, _, _]) Tryz.underlying46 rfl inf46.size X8)) (Xs rfl), Hp.le_put_new (Hp.le_put_new (Hp.le_push' (Hp.le_trans leH6 hle7) _) (by first | omega | (simp; done) | (simp; omega)) _) (Nat.le_refl _) _, .slice none 0 0, by rw [if_pos hlen, hlast]; rfl⟩
 intro hc5
 obtain ⟨y, rfl⟩ : ∃ y, fo = some y := by have h := hc5; cases hf : fo with | none => rw [hf] at h; cases h | some y => exact ⟨y, rfl⟩
 refine X9 ?_
 refine Xe ?_
 refine Xu ?_
 refine Xa (Xf (off := 1) Xm Tryz.underlying46 Xm inf3.size (by decide) Xm) ?_
 refine Xa (Xk rfl Tryz.underlying3 rfl Xp) ?_
 refine Xa (Xf (off := 2) rfl Tryz.underlying96 rfl inf3.size (by decide) rfl) ?_
 refine Xa (Xk rfl Tryz.underlying3 rfl Xp) ?_
 refine Xa (Yn rfl rfl Y0) ?_
 refine Xa (Xf (off := 1) Xm Tryz.underlying46 Xm inf3.size (by decide) Xm) ?_
 first | refine Xw (Y3 rfl rfl rfl inf3.size Yd Yg rfl ?_)
 refine Xu ?_
 refine Xa (Xf (off := 2) Xm Tryz.underlying46 Xm inf30.size (by decide) Xm) ?_
 refine Xa (Xk rfl Tryz.underlying30 rfl Xp) ?_
 refine Xa (Xf (off := 3) rfl Tryz.underlying96 rfl inf30.size (by decide) rfl) ?_
 refine Xa (Xk rfl Tryz.underlying30 rfl Xp) ?_
 refine Xw (Xy (Times_u64 m ((some y).getD Zy).n hm0 hfb.2.2 _) rfl Tryz.func84 rfl rfl rfl ?_)
 rintro v8 H8 ⟨rfl, rfl⟩
 refine Xa (Xf (off := 2) Xm Tryz.underlying46 Xm inf30.size (by decide) Xm) ?_
 first | refine Xw (Y3 rfl rfl rfl inf30.size Yd Yg rfl ?_)
 refine Xu ?_
 refine Xa (Yn Xm Xm Y0) ?_
 refine Xa (Xb rfl) ?_
 exact ⟨ns.length - (i + 1), by omega, i + 1, cc + y.cost, Zi m y.n, by omega, rfl, Hp.le_put_new (Hp.le_put_new (Hp.le_put_new (Hp.le_push' leH57 _) (by omega) _) (Nat.le_refl _) _) (Nat.le_refl _) _, by simp; omega, Hp.put_same _ _ _, hnx, by have := hfb.1; simp only [Option.getD_some] at this; omega, by have := hfb.2.1; simp only [Option.getD_some] at this; omega, (Uk hm0 hfb.2.2).1, e0, e1, e4, e6, e28, e29, rfl⟩
 intro hc4
 have hpar : T.parent.getD i 0 = -1 := by have := of_decide_eq_false hc4; exact Decidable.not_not.1 this
 have hab : Yp T ns i = -1 := by unfold Yp; rw [if_pos hpar]
 refine X9 ?_
 refine Xe ?_
 refine Xu ?_
 refine Xa (X0 Xm) ?_
 refine Xa (Xb rfl) ?_
 refine Xa (Xb rfl) ?_
 refine Xa (Xb rfl) ?_
 refine Xw (Xy (find_tree (ht0.mono leH6) hT.l1 hT.l2 hT.lens i _ (ns.getD i 0) (hT.sort _ _)) rfl Tryz.func100 rfl rfl rfl ?_)
 rintro v7 H7 ⟨hle7, rfl⟩; obtain ⟨fo, hfo⟩ : ∃ fo, fo = Z0 (T.group i (Yp T ns i)) (ns.getD i 0) := ⟨_, rfl⟩; have hfo2 := hfo; rw [hab] at hfo2; rw [← hfo2]; have z7 := hle7.1; have g47 := Xr hle7 (by omega) (by intro e; cases e) g46; have g67 := Xr hle7 hz6 (by intro e; cases e) g6; have leH57 := Hp.le_trans hle6 hle7
 refine Xa (Zm rfl) ?_
 refine Xa (Yj rfl rfl) ?_
 refine Xa (Yj rfl rfl) ?_
 refine Xz (Yz (l := [.int .i64 0, .int .i64 0, .int .i64 0, .int .u64 0]) inf96.zero rfl (by decide)) ?_
 first | refine Xw (Yf (vs := [.int .i64 _, .int .i64 _, .int .i64 _, .int .u64 _]) rfl rfl inf96.size Yd Yg rfl rfl ?_)
 refine Xa (Xn rfl) ?_
 refine Xe ?_
 refine Xe ?_
 have hfb : 0 ≤ (fo.getD Zy).cost ∧ (fo.getD Zy).cost ≤ 2000000000 ∧ 0 ≤ (fo.getD Zy).n := by
  cases hc : fo with
  | none => decide
  | some y => exact hT.group_mem (i := i) (above := Yp T ns i) (by rw [hfo] at hc; exact List.mem_of_find?_eq_some hc)
 have hnx : Z4 T ns (i + 1) = fo.map fun y => (cc + y.cost, Zi m y.n) := by
  show (Z4 T ns i).bind _ = _
  rw [hacc, hfo]; rfl
 refine Xu ?_
 refine Xa (Xo rfl) ?_
 refine Xa (Zz rfl) ?_
 refine X5 rfl rfl ?_ ?_
 intro hc6
 have hnone : fo = none := by have h := hc6; cases hf : fo with | none => rfl | some y => rw [hf] at h; cases h
 have hlast : Z4 T ns T.vars.length = none := rowAcc_none (i := i + 1) (by rw [hnx, hnone]; rfl) _ (by omega)
 refine Xe ?_
 refine Xu ?_
 refine Xa (Y6 (pl := [(0, 1), (1, 1), (2, 1)]) (r := [.slice _ _ _, .int .i64 _, .int .u64 _]) Tryz.underlying46 inf46.zero (by decide) rfl rfl) ?_
 refine Xw (Yf (vs := [.slice _ _ _, .int .i64 _, .int .u64 _]) Xm Xm inf46.size Yd Yg Xm Xm ?_)
 refine Xa (Xn rfl) ?_
 refine X2 ?_
 ·exact ⟨_, Y8 (Yq Xm (Yo (cs := [_, _, _]) Tryz.underlying46 rfl inf46.size X8)) (Xs rfl), Hp.le_put_new (Hp.le_put_new (Hp.le_push' (Hp.le_trans leH6 hle7) _) (by first | omega | (simp; done) | (simp; omega)) _) (Nat.le_refl _) _, .slice none 0 0, by rw [if_pos hlen, hlast]; rfl⟩
 intro hc6
 obtain ⟨y, rfl⟩ : ∃ y, fo = some y := by have h := hc6; cases hf : fo with | none => rw [hf] at h; cases h | some y => exact ⟨y, rfl⟩
 refine X9 ?_
 refine Xe ?_
 refine Xu ?_
 refine Xa (Xf (off := 1) Xm Tryz.underlying46 Xm inf3.size (by decide) Xm) ?_
 refine Xa (Xk rfl Tryz.underlying3 rfl Xp) ?_
 refine Xa (Xf (off := 2) rfl Tryz.underlying96 rfl inf3.size (by decide) rfl) ?_
 refine Xa (Xk rfl Tryz.underlying3 rfl Xp) ?_
 refine Xa (Yn rfl rfl Y0) ?_
 refine Xa (Xf (off := 1) Xm Tryz.underlying46 Xm inf3.size (by decide) Xm) ?_
 first | refine Xw (Y3 rfl rfl rfl inf3.size Yd Yg rfl ?_)
 refine Xu ?_
 refine Xa (Xf (off := 2) Xm Tryz.underlying46 Xm inf30.size (by decide) Xm) ?_
 refine Xa (Xk rfl Tryz.underlying30 rfl Xp) ?_
 refine Xa (Xf (off := 3) rfl Tryz.underlying96 rfl inf30.size (by decide) rfl) ?_
 refine Xa (Xk rfl Tryz.underlying30 rfl Xp) ?_
 refine Xw (Xy (Times_u64 m ((some y).getD Zy).n hm0 hfb.2.2 _) rfl Tryz.func84 rfl rfl rfl ?_)
 rintro v8 H8 ⟨rfl, rfl⟩
 refine Xa (Xf (off := 2) Xm Tryz.underlying46 Xm inf30.size (by decide) Xm) ?_
 first | refine Xw (Y3 rfl rfl rfl inf30.size Yd Yg rfl ?_)
 refine Xu ?_
 refine Xa (Yn Xm Xm Y0) ?_
 refine Xa (Xb rfl) ?_
 exact ⟨ns.length - (i + 1), by omega, i + 1, cc + y.cost, Zi m y.n, by omega, rfl, Hp.le_put_new (Hp.le_put_new (Hp.le_put_new (Hp.le_push' leH57 _) (by omega) _) (Nat.le_refl _) _) (Nat.le_refl _) _, by simp; omega, Hp.put_same _ _ _, hnx, by have := hfb.1; simp only [Option.getD_some] at this; omega, by have := hfb.2.1; simp only [Option.getD_some] at this; omega, (Uk hm0 hfb.2.2).1, e0, e1, e4, e6, e28, e29, rfl⟩
 intro hc3
 (try simp only [Yt] at hc3)
 refine Yx ?_
 refine Xe ?_
 refine Xu ?_
 refine Xa (Yl (cs := [.slice _ _ _, .int .i64 _, .int .u64 _]) Xm Tryz.underlying46 Xm inf46.size X8) ?_
 refine Xw (Yf (vs := [.slice _ _ _, .int .i64 _, .int .u64 _]) Xm Xm inf46.size Yd Yg Xm Xm ?_)
 refine Xa (Xn rfl) ?_
 refine X2 ?_
 have hk : i = T.vars.length := by omega
 subst hk
 obtain ⟨G1, l1, o1⟩ := hown5.later hle6
 have k4 : G5.get H.size = .own 0 [.slice none 0 0, .int .i64 0, .int .u64 0] := Xr hleG5 (by simp) (by intro e; cases e) Yd
 have k41 := Xr l1 (by have := hown5.size; omega) (by intro e; cases e) k4
 exact ⟨_, Y8 (Yq Xm (Yo (cs := [_, _, _]) Tryz.underlying46 rfl inf46.size X8)) (Xs rfl), Hp.le_put_new leH6 (Nat.le_refl _) _, .slice A5 ns.length c5, by rw [if_pos hlen, hacc]; exact ⟨rfl, _, Hp.le_put_new (Hp.le_trans (H.le_push _) (Hp.le_trans hleG5 l1)) (Nat.le_refl _) _, o1.put (by rw [k41]; intro e; cases e) _ (Hp.sees_box _ k41)⟩⟩
structure Cheap (p : Parts) : Prop where
 nodes : ∀ v, ∀ x ∈ nd p v, 0 ≤ x.cost ∧ x.cost ≤ 1000000000 ∧ 0 ≤ x.n
 links : ∀ v, ∀ x ∈ lk p v, 0 ≤ x.cost ∧ x.cost ≤ 1000000000 ∧ 0 ≤ x.n
theorem Cheap.sub {p q : Parts} (h : Cheap p) (hs : Sub q p) : Cheap q := ⟨fun v x hx => h.nodes v x ((hs v).1.subset hx), fun v x hx => h.links v x ((hs v).2.subset hx)⟩
theorem goodL_strict {xs : List Link} (h : GoodL xs) (hb : ∀ x ∈ xs, x.a = x.b) : xs.Pairwise fun x y => x.a < y.a := by
 refine List.Pairwise.imp_of_mem (R := fun x y => Vy x y = true) (fun {x y} hx hy hl => ?_) (V6.1 h).2
 have e1 := hb x hx
 have e2 := hb y hy
 simp only [Vy, Bool.or_eq_true, Bool.and_eq_true, decide_eq_true_eq] at hl
 omega
theorem rise_weigh {ns ls : List Link} (h : RiseA ls) : RiseA (ls.map (Ug ns)) := by
 intro i j hi hj hij
 rw [List.getElem_map, List.getElem_map]
 exact h i j (by simpa using hi) (by simpa using hj) hij
theorem Ut {f : Forest} (x : Parts) : (Zg f x).vars.length = f.order.length ∧ (Zg f x).parent.length = f.order.length ∧ (Zg f x).links.length = f.order.length := by simp [Zg]
theorem vAt_get {f : Forest} {i : Nat} (hi : i < f.order.length) : Vj f i = f.order[i].toNat := by unfold Vj; rw [Zf hi]
theorem treeOf_at {f : Forest} (x : Parts) {i : Nat} (hi : i < f.order.length) : (Zg f x).vars[i]? = some (f.vars.getD (Vj f i) ⟨#[]⟩) ∧ (Zg f x).parent[i]? = some (atI f.order (par f (Vj f i))) ∧ (Zg f x).links[i]? = some (Zc f x (Vj f i)) := by
 have e := vAt_get hi
 refine ⟨?_, ?_, ?_⟩ <;> simp [Zg, List.getElem?_eq_getElem hi, e]
theorem take_at {α : Type} {xs : List α} {i : Nat} {y : α} (h : xs[i]? = some y) : xs.take i ++ [y] = xs.take (i + 1) := by
 obtain ⟨hi, rfl⟩ := List.getElem?_eq_some_iff.1 h
 exact Y9 hi
theorem mapGet_nil (k : Value) : Zj [] k = none := mapGet_none fun e h => by cases h
theorem Spots.zero (T : TreeT) : Spots T 0 [] := ⟨fun e h => (by cases h), fun i h => (by omega), fun _ _ _ => mapGet_nil _⟩
theorem Spots.step {T : TreeT} {i : Nat} {es es' : List (Value × Value)} (h : Spots T i es)
  (hres : if T.parent.getD i 0 = -1 then es' = V7 es (Zq i (-1)) (spanV 0 (T.links.getD i []).length) else Noted (T.links.getD i []) i (T.links.getD i []).length es es') : Spots T (i + 1) es' := by
 have other : ∀ (j : Nat) above, j ≠ i → Zj es' (Zq j above) = Zj es (Zq j above) := fun j above hj => by
  split at hres
  ·subst hres
   exact Vn fun e => hj (by have := (spotV_inj e).1; omega)
  ·exact hres.other j above hj
 refine ⟨?_, fun j hj above hroot => ?_, fun j above hj => by rw [other j above (by omega)]; exact h.none j above (by omega)⟩
 ·split at hres
  ·subst hres; exact mapPut_keys h.keys ⟨_, _, rfl⟩
  ·exact hres.keys
 ·by_cases hji : j = i
  ·subst hji
   split at hres
   ·rename_i hr
    have := hroot hr
    subst this
    subst hres
    refine ⟨0, (T.links.getD j []).length, by rw [mapGet_put]; rfl, by omega, Nat.le_refl _, ?_⟩
    unfold TreeT.row
    rw [if_pos hr, List.drop_zero, List.take_length]
   ·rename_i hr
    have hrow : T.row j above = (T.links.getD j []).filter fun l => decide (l.a = above) := by unfold TreeT.row; rw [if_neg hr]
    by_cases hex : ∃ (k : Nat) (h : k < (T.links.getD j []).length), k < (T.links.getD j []).length ∧ (T.links.getD j [])[k].a = above
    ·obtain ⟨fr, to, h1, h2, h3, h4⟩ := hres.yes above hex
     exact ⟨fr, to, by rw [h1]; rfl, h2, h3, by rw [hrow]; exact h4⟩
    ·refine ⟨0, 0, by rw [hres.no above hex]; rfl, Nat.le_refl _, Nat.zero_le _, ?_⟩
     rw [hrow, List.filter_eq_nil_iff.2]
     ·rfl
     ·intro l hl e
      obtain ⟨k, hk, rfl⟩ := List.getElem_of_mem hl
      exact hex ⟨k, hk, hk, of_decide_eq_true e⟩
  ·rw [other j above hji]
   exact h.at_ j (by omega) above hroot
theorem stable_ints (st : Nat) : V8 (Y1 .i64) st := Plain.stable (plain_int .i64) st
theorem stable_strs (st : Nat) : V8 kStr st := Plain.stable (fun _ _ _ _ h => h) st
theorem Zn (st : Nat) : V8 kLink st := Plain.stable plain_link st
theorem stable_lists : V8 (V1 kLink) 1 := stable_sl (Zn 1) (by decide)
theorem findI_lt {xs : List Link} {a b : Int} (h : 0 ≤ Ua xs a b) : ∃ m : Nat, Ua xs a b = m ∧ ∃ hm : m < xs.length, xs[m].a = a ∧ xs[m].b = b := by
 unfold Ua at *
 cases hf : xs.findIdx? (isAt a b) with
 | none => rw [hf] at h; simp at h
 | some i =>
  obtain ⟨hi, h1, _⟩ := List.findIdx?_eq_some_iff_getElem.1 hf
  unfold isAt at h1
  rw [Bool.and_eq_true, decide_eq_true_eq, decide_eq_true_eq] at h1
  exact ⟨i, rfl, hi, h1⟩
theorem rowOne_flat {f : Forest} {p : Parts} {w : Nat} {r : RowT} {x : Link} (h : ¬ 0 ≤ par f w) : Z5 f p w r x = some ⟨r.nodes ++ [x.a], r.cost + x.cost, Zi r.n x.n⟩ := if_neg h
theorem rowOne_none {f : Forest} {p : Parts} {w : Nat} {r : RowT} {x : Link} (h : 0 ≤ par f w) (h2 : ¬ 0 ≤ Vv f p w r x) : Z5 f p w r x = none := by unfold Z5; rw [if_pos h, if_neg h2]
theorem rowOne_link {f : Forest} {p : Parts} {w m : Nat} {r : RowT} {x : Link} (h : 0 ≤ par f w) (h2 : Vv f p w r x = m) (hm : m < (lk p w).length) : Z5 f p w r x = some ⟨r.nodes ++ [x.a], r.cost + (x.cost + (lk p w)[m].cost), Zi r.n (Zi x.n (lk p w)[m].n)⟩ := by
 unfold Z5
 rw [if_pos h, if_pos (by omega), h2, Int.toNat_natCast, List.getD_eq_getElem?_getD, List.getElem?_eq_getElem hm]; rfl
set_option maxHeartbeats 4000000 in
theorem Rows_ref (f : Forest) (p : Parts) (cs ds : List Value) (H : Hp) (hp : kForest.rep H f cs) (hq : kParts.rep H p ds) (hG : GoodP f p) (hsm : Small f p) (ht : Tiny f p) :
    ACalls Tryz.prog 16 #[.agg cs.toArray, .agg ds.toArray] H (fun r H' => H.le H' ∧ Sl kRow H' r (Ux f p)) := by
  have hg := hG.gf
  have hp0 := hp
  have hq0 := hq
  obtain ⟨v0, v1, v2, v3, v4, rfl, hs0, hs1, hs2, hs3, hs4⟩ := hp
  obtain ⟨A0, c0, rfl⟩ := hs0.shape
  obtain ⟨A1, c1, rfl⟩ := hs1.shape
  obtain ⟨A2, c2, rfl⟩ := hs2.shape
  obtain ⟨A3, c3, rfl⟩ := hs3.shape
  obtain ⟨A4, c4, rfl⟩ := hs4.shape
  obtain ⟨u0, u1, rfl, hn0, hn1⟩ := hq
  obtain ⟨B0, d0, rfl⟩ := hn0.shape
  obtain ⟨B1, d1, rfl⟩ := hn1.shape
  have hgl := hg.l1
  have hgp := hg.l2
  have hvn := ht.vars
  refine Xv Tryz.func16 rfl rfl rfl (by simp) ?_
  refine Xe ?_
  refine Xu ?_
  refine Xz (Yw rfl) ?_
  refine Xz (Yw rfl) ?_
  refine Xa (Yc rfl) ?_
  refine Xe ?_
  refine Xu ?_
  refine Xa (Y6 (pl := [(0, 1), (1, 1), (2, 1)]) (r := [.slice _ _ _, .int .i64 _, .int .u64 _]) Tryz.underlying54 inf54.zero (by decide) rfl rfl) ?_
  refine Xz (Yh (r := [.slice _ _ _, .int .i64 _, .int .u64 _]) Tryz.underlying43 inf54.size inf54.zero rfl (by decide) (by decide) (by decide) rfl) ?_
  refine Xa (Yc rfl) ?_
  refine Xe ?_
  refine Xe ?_
  refine Xu ?_
  refine Xa (Xi rfl) ?_
  refine Ye ?_
  refine Y5 (fun n t H' => ∃ (i : Nat) (Ao : Option Addr) (co : Nat), i ≤ f.order.length ∧ n = f.order.length - i ∧ ((H.push (.own 0 [.slice A0 f.vars.length c0, .slice A1 f.order.length c1, .slice A2 f.parent.length c2, .slice A3 f.links.length c3, .slice A4 f.loops.length c4])).push (.own 0 [.slice B0 p.nodes.length d0, .slice B1 p.links.length d1])).le H' ∧ Sl kRow H' (.slice Ao (Zu f p i).length co) (Zu f p i) ∧ t 2 = .pointer (some ⟨H.size, 0, none⟩) ∧ t 3 = .pointer (some ⟨H.size + 1, 0, none⟩) ∧ t 5 = .slice Ao (Zu f p i).length co ∧ t 6 = .int .i64 i) (f.order.length) (⟨0, _, _, by omega, rfl, Hp.le_push _ _, Zo (k := kRow) (x := ⟨[], 0, 1⟩) ⟨_, rfl, Sl.nil _ _⟩ rfl rfl rfl, rfl, rfl, rfl, rfl⟩) ?_
  rintro n t H1 ⟨i, Ao, co, hi, rfl, hle1, hso, e2, e3, e5, e6⟩
  have hz1 := hle1.1
  simp only [Hp.push_size] at hz1
  have g0 : H1.get H.size = .own 0 [.slice A0 f.vars.length c0, .slice A1 f.order.length c1, .slice A2 f.parent.length c2, .slice A3 f.links.length c3, .slice A4 f.loops.length c4] := Xr hle1 (by simp <;> omega) (by intro e; cases e) Yd
  have g1 : H1.get (H.size + 1) = .own 0 [.slice B0 p.nodes.length d0, .slice B1 p.links.length d1] := Xr hle1 (by simp <;> omega) (by intro e; cases e) Yd
  have leH1 : H.le H1 := Hp.le_trans (Hp.le_push' (H.le_push _) _) hle1
  refine Xe ?_
  refine Xe ?_
  refine Xu ?_
  refine Xa (Xb Xm) ?_
  refine Xa (Xf (off := 1) Xm Tryz.underlying26 Xm inf23.size (by decide) Xm) ?_
  refine Xa (Xk rfl Tryz.underlying23 rfl Xp) ?_
  refine Xa (Ys rfl Tryz.underlying23) ?_
  refine Xa (Za rfl rfl) ?_
  refine X5 rfl rfl ?_ ?_
  intro hc1
  (try simp only [Yt] at hc1)
  refine X9 ?_
  refine Xe ?_
  refine Ye ?_
  refine Xe ?_
  have hi' : i < f.order.length := by omega
  have hwm : f.order.getD i 0 ∈ f.order := by rw [Zf hi']; exact List.getElem_mem hi'
  obtain ⟨b1, o1, rfl, hb1, hcell1⟩ := hs1.int_at (i := (i : Int)) (by omega) (by omega)
  rw [Int.toNat_natCast] at hcell1
  have hcell1' := leH1.cell1 hb1 hcell1
  obtain ⟨w, hw⟩ : ∃ w : Nat, f.order.getD i 0 = (w : Int) := ⟨(f.order.getD i 0).toNat, by have := hg.order_in hwm; omega⟩
  have hwn : w < f.vars.length := by have := hg.order_in hwm; omega
  have hvat : Vj f i = w := by unfold Vj; rw [hw]; rfl
  rw [hw] at hcell1'
  have hge := hg.parent_ge hwn
  obtain ⟨b2, o2, rfl, hb2, hcell2⟩ := hs2.int_at (i := (w : Int)) (by omega) (by omega)
  rw [Int.toNat_natCast] at hcell2
  have hcell2' := leH1.cell1 hb2 hcell2
  have hln := hG.n1
  have hll := hG.n2
  obtain ⟨b3, o3, ks3, eB0, hb3, ⟨wn, rfl, hsn⟩, hcell3⟩ := (hn0.mono leH1.sees).elem_at (i := w) (by omega)
  obtain ⟨b4, o4, ks4, eB1, hb4, ⟨wl, rfl, hsl⟩, hcell4⟩ := (hn1.mono leH1.sees).elem_at (i := w) (by omega)
  subst eB0 eB1
  have hcell3' := hcell3.one
  have hcell4' := hcell4.one
  have gn : p.nodes[w]'(by omega) = nd p w := (Ze (by omega)).symm
  have gl : p.links[w]'(by omega) = lk p w := (Ze (by omega)).symm
  rw [gn] at hsn
  rw [gl] at hsl
  obtain ⟨An, cn, rfl⟩ := hsn.shape
  obtain ⟨Al, cl, rfl⟩ := hsl.shape
  have hndl := ht.nodes w
  have hlkl : (lk p w).length ≤ 1000000 := V2 hsm.s6 w
  have hrl : (Zu f p i).length ≤ 1024 := Nat.le_trans (rowsK_len ht i) (Nat.pow_le_pow_right (by omega) (by omega : i ≤ 5))
  refine Yy (by kernel_rfl) (Y4 (B := [0, 0, 2, 0, 14, 30, 1, 127]) (π := [0, 1, 2, 3, 4, 5, 6, 7]) (by kernel_rfl)) ?_
  first | refine Zb rfl rfl (Yh (r := []) Tryz.underlying43 inf54.size inf54.zero rfl (by decide) (by decide) (by decide) rfl) ?_
  refine Xd rfl rfl (Xf (off := 1) Xm Tryz.underlying26 Xm inf23.size (by decide) Xm) Xq ?_
  refine Xd rfl rfl (Xk rfl Tryz.underlying23 rfl Xp) Xq ?_
  refine Xd rfl rfl (Xb Xm) Xq ?_
  refine Xd rfl rfl (Xt rfl rfl Tryz.underlying23 inf3.size X6 X6) Xq ?_
  refine Xd rfl rfl (Xk rfl Tryz.underlying3 rfl Xp) Xq ?_
  refine Xd rfl rfl (Yc rfl) Xq ?_
  refine Xd rfl rfl (Xi rfl) Xq ?_
  refine Xe ?_
  refine Xe ?_
  refine Xu ?_
  refine Xa (Xi rfl) ?_
  refine Ye ?_
  refine Y5 (fun n t H' => ∃ (k : Nat) (G : Hp) (rows : List RowT) (B : Option Addr) (c5 : Nat), k ≤ (Zu f p i).length ∧ n = (Zu f p i).length - k ∧ H1.le G ∧ rows = ((Zu f p i).take k).flatMap (fun r => (nd p w).filterMap (Z5 f p w r)) ∧ OwnP kRow G H' (.slice B rows.length c5) rows ∧ t 2 = .pointer (some ⟨H.size, 0, none⟩) ∧ t 3 = .pointer (some ⟨H.size + 1, 0, none⟩) ∧ t 5 = .slice Ao (Zu f p i).length co ∧ t 6 = .int .i64 i ∧ t 7 = .slice B rows.length c5 ∧ t 8 = .int .i64 w ∧ t 9 = .int .i64 k) ((Zu f p i).length) (⟨0, H1.push .dead, [], _, _, by omega, rfl, H1.le_push _, rfl, OwnP.lit kRow H1, e2, e3, e5, e6, rfl, rfl, rfl⟩) ?_
  rintro n t H2 ⟨k, G2, rows, B, c5, hk, rfl, hle2, hrows, hown2, e2, e3, e5, e6, e7, e8, e9⟩
  have hz2 := hown2.size
  have leH2 := Hp.le_trans hle2 hown2.le
  have g02 := Xr leH2 (by omega) (by intro e; cases e) g0
  have g12 := Xr leH2 (by omega) (by intro e; cases e) g1
  have hrows4 : rows.length ≤ 4 * k := by rw [hrows]; have := flat_len (g := (fun r => (nd p w).filterMap (Z5 f p w r))) (m := 4) (fun r => Nat.le_trans (List.length_filterMap_le _ _) hndl) ((Zu f p i).take k); rw [List.length_take] at this; omega
  refine Xe ?_
  refine Xe ?_
  refine Xu ?_
  refine Xa (Xb Xm) ?_
  refine Xa (X1 Xm) ?_
  refine Xa (Ys rfl Tryz.underlying43) ?_
  refine Xa (Za rfl rfl) ?_
  refine X5 rfl rfl ?_ ?_
  intro hc2
  (try simp only [Yt] at hc2)
  refine X9 ?_
  refine Xe ?_
  refine Ye ?_
  refine Xe ?_
  have hkx : k < (Zu f p i).length := by omega
  obtain ⟨bo, oo, wr, eAo, hbo, hcello, hwr⟩ := hso.row_at hkx
  obtain ⟨_, _, eA2, _, _, hcuto, _⟩ := hso.place (by omega)
  subst eAo
  simp only [Option.some.injEq, Addr.mk.injEq, and_true] at eA2
  obtain ⟨rfl, rfl⟩ := eA2
  have hdo : H1.get bo ≠ .dead := Blk.cut_ne hcuto
  obtain ⟨r, hr⟩ : ∃ r, r = (Zu f p i)[k] := ⟨_, rfl⟩
  rw [← hr] at hcello hwr
  have hrok : RowOk i r := rowsK_ok ht i r (by rw [hr]; exact List.getElem_mem hkx)
  obtain ⟨hrn, hr0, hr1, hr2, hr3⟩ := hrok
  obtain ⟨Ar, cr, rfl⟩ := hwr.shape
  refine Xu ?_
  refine Xa (Xi rfl) ?_
  refine Ye ?_
  refine Y5 (fun n t H' => ∃ (j : Nat) (G : Hp) (rows3 : List RowT) (B : Option Addr) (c5 : Nat), j ≤ (nd p w).length ∧ n = (nd p w).length - j ∧ H1.le G ∧ rows3 = rows ++ ((nd p w).take j).filterMap (Z5 f p w r) ∧ OwnP kRow G H' (.slice B rows3.length c5) rows3 ∧ t 2 = .pointer (some ⟨H.size, 0, none⟩) ∧ t 3 = .pointer (some ⟨H.size + 1, 0, none⟩) ∧ t 5 = .slice (some ⟨bo, oo, none⟩) (Zu f p i).length co ∧ t 6 = .int .i64 i ∧ t 7 = .slice B rows3.length c5 ∧ t 8 = .int .i64 w ∧ t 9 = .int .i64 k ∧ t 10 = .int .i64 j) ((nd p w).length) (⟨0, G2, rows, B, c5, by omega, rfl, hle2, by simp, hown2, e2, e3, e5, e6, e7, e8, e9, rfl⟩) ?_
  rintro n t H3 ⟨j, G3, rows3, B3, c53, hj, rfl, hle3, hrows3, hown3, e2, e3, e5, e6, e7, e8, e9, e10⟩
  have hz3 := hown3.size
  have leH3 := Hp.le_trans hle3 hown3.le
  have hs3' := leH3.1
  have g03 := Xr leH3 (by omega) (by intro e; cases e) g0
  have g13 := Xr leH3 (by omega) (by intro e; cases e) g1
  have hcell33 := leH3.cell1 hb3 hcell3'
  have hrows34 : rows3.length ≤ 4 * k + 4 := by rw [hrows3, List.length_append]; have := List.length_filterMap_le (Z5 f p w r) ((nd p w).take j); rw [List.length_take] at this; omega
  refine Xe ?_
  refine Xe ?_
  refine Xu ?_
  refine Xa (Xb Xm) ?_
  refine Xa (Xf (off := 0) Xm Tryz.underlying29 Xm inf27.size (by decide) Xm) ?_
  refine Xa (Xk rfl Tryz.underlying27 rfl Xp) ?_
  refine Xa (Xb Xm) ?_
  refine Xa (Xt rfl rfl Tryz.underlying27 inf83.size X6 X6) ?_
  refine Xa (Xk rfl Tryz.underlying83 rfl Xp) ?_
  refine Xa (Ys rfl Tryz.underlying83) ?_
  refine Xa (Za rfl rfl) ?_
  refine X5 rfl rfl ?_ ?_
  intro hc3
  (try simp only [Yt] at hc3)
  refine X9 ?_
  refine Xe ?_
  refine Ye ?_
  refine Xe ?_
  have hjx : j < (nd p w).length := by omega
  obtain ⟨bx, ox, eAn, hbx, hcellx⟩ := hsn.link_at hjx
  subst eAn
  have hcellx3 := leH3.cells hbx hcellx
  obtain ⟨x, hx⟩ : ∃ x, x = (nd p w)[j] := ⟨_, rfl⟩
  rw [← hx] at hcellx hcellx3
  obtain ⟨hx0, hx1, hx2, hx3⟩ := ht.costN w x (by rw [hx]; exact List.getElem_mem hjx)
  have hnext := filterMap_next (g := Z5 f p w r) hjx
  rw [← hx] at hnext
  refine Xu ?_
  refine Xa (Xf (off := 0) Xm Tryz.underlying29 Xm inf27.size (by decide) Xm) ?_
  refine Xa (Xk rfl Tryz.underlying27 rfl Xp) ?_
  refine Xa (Xb Xm) ?_
  refine Xa (Xt rfl rfl Tryz.underlying27 inf83.size X6 X6) ?_
  refine Xa (Xk rfl Tryz.underlying83 rfl Xp) ?_
  refine Xa (Xb Xm) ?_
  refine Xa (Xt rfl rfl Tryz.underlying83 inf96.size X6 X6) ?_
  refine Xa (Yl (cs := [.int .i64 _, .int .i64 _, .int .i64 _, .int .u64 _]) rfl Tryz.underlying96 rfl inf96.size X8) ?_
  refine Xz (Yz (l := [.int .i64 0, .int .i64 0, .int .i64 0, .int .u64 0]) inf96.zero rfl (by decide)) ?_
  first | refine Xw (Yf (vs := [.int .i64 _, .int .i64 _, .int .i64 _, .int .u64 _]) rfl rfl inf96.size Yd Yg rfl rfl ?_)
  refine Xe ?_
  obtain ⟨H4, hH4⟩ : ∃ H4, H4 = (H3.push (.own 0 [.int .i64 0, .int .i64 0, .int .i64 0, .int .u64 0])).put H3.size (.own 0 [.int .i64 x.a, .int .i64 x.b, .int .i64 x.cost, .int .u64 x.n]) := ⟨_, rfl⟩
  obtain ⟨G4, hG4⟩ : ∃ G4, G4 = (G3.push (.own 0 [.int .i64 0, .int .i64 0, .int .i64 0, .int .u64 0])).put H3.size (.own 0 [.int .i64 x.a, .int .i64 x.b, .int .i64 x.cost, .int .u64 x.n]) := ⟨_, rfl⟩
  have hown4 : OwnP kRow G4 H4 (.slice B3 rows3.length c53) rows3 := by rw [hH4, hG4]; exact hown3.boxed _ _
  have hle4 : H1.le G4 := by rw [hG4]; exact Hp.le_put_new (Hp.le_push' hle3 _) (by omega) _
  have g24 : H4.get H3.size = .own 0 [.int .i64 x.a, .int .i64 x.b, .int .i64 x.cost, .int .u64 x.n] := by rw [hH4]; exact Hp.put_same _ _ _
  have hz4 : H4.size = H3.size + 1 := by rw [hH4]; simp
  change ACode true _ _ _ _ _ ((H3.push (.own 0 [.int .i64 0, .int .i64 0, .int .i64 0, .int .u64 0])).put H3.size (.own 0 [.int .i64 x.a, .int .i64 x.b, .int .i64 x.cost, .int .u64 x.n]))
  rw [← hH4]
  have hzz4 := hown4.size
  have leH4 := Hp.le_trans hle4 hown4.le
  have g04 := Xr leH4 (by omega) (by intro e; cases e) g0
  have g14 := Xr leH4 (by omega) (by intro e; cases e) g1
  have hcell24 := leH4.cell1 (Nat.lt_of_lt_of_le hb2 leH1.1) hcell2'
  have hcello4 := leH4.cells hbo hcello
  have hcello0 := hcello4 0 _ rfl
  have hcello1 := hcello4 1 _ rfl
  have hcello2 := hcello4 2 _ rfl
  refine Yy (by kernel_rfl) (Y4 (B := [0, 1, 0, 4, 3, 31]) (π := [0, 1, 2, 3, 4, 5]) (by kernel_rfl)) ?_
  refine Xd rfl rfl (Xf (off := 2) rfl Tryz.underlying96 rfl inf3.size (by decide) rfl) Xq ?_
  refine Xd rfl rfl (Xk rfl Tryz.underlying3 rfl Xp) Xq ?_
  refine Xd rfl rfl (Xf (off := 3) rfl Tryz.underlying96 rfl inf30.size (by decide) rfl) Xq ?_
  refine Xd rfl rfl (Xk rfl Tryz.underlying30 rfl Xp) Xq ?_
  refine Xd rfl rfl (Xi rfl) Xq ?_
  refine Xd rfl rfl (Xi rfl) Xq ?_
  refine Xe ?_
  refine Xe ?_
  refine Xu ?_
  refine Xa (Xf (off := 2) Xm Tryz.underlying26 Xm inf23.size (by decide) Xm) ?_
  refine Xa (Xk rfl Tryz.underlying23 rfl Xp) ?_
  refine Xa (Xb Xm) ?_
  refine Xa (Xt rfl rfl Tryz.underlying23 inf3.size X6 X6) ?_
  refine Xa (Xk rfl Tryz.underlying3 rfl Xp) ?_
  refine Xa (av_ge rfl rfl) ?_
  refine X5 rfl rfl ?_ ?_
  intro hc4
  have hpar : 0 ≤ par f w := of_decide_eq_true hc4
  have hokf := (hg.ok i (by omega)).2.2.2
  rw [hw, Int.toNat_natCast] at hokf
  obtain ⟨q, hq1, hq2, hq3, hq4⟩ := atI_take (xs := f.order) (v := par f w) (i := i) (hokf.resolve_left (by unfold par at hpar; omega))
  have hlo : Vv f p w r x = Ua (lk p w) (r.nodes.getD q 0) x.a := by unfold Vv; rw [hq1]; rfl
  obtain ⟨bq, oq, eAr, hbq, hcellq⟩ := hwr.int_at (i := (q : Int)) (by omega) (by omega)
  rw [Int.toNat_natCast] at hcellq
  subst eAr
  have hcellq4 := leH4.cell1 hbq hcellq
  have hcell44 := leH4.cell1 hb4 hcell4'
  refine Xe ?_
  refine Yy (by kernel_rfl) (Y4 (B := [0, 1, 0, 7, 15, 0, 0, 96, 224, 480, 0, 0, 2048, 0, 14336, 30720, 64512, 131040, 262112, 0, 524288, 2097151, 4194303]) (π := [0, 1, 2, 3, 4, 5, 6, 7, 8, 9, 10, 11, 12, 13, 14, 15, 19, 20, 16, 17, 18, 21, 22]) (by kernel_rfl)) ?_
  refine Xd rfl rfl (Xf (off := 1) Xm Tryz.underlying29 Xm inf27.size (by decide) Xm) Xq ?_
  refine Xd rfl rfl (Xk rfl Tryz.underlying27 rfl Xp) Xq ?_
  refine Xd rfl rfl (Xb Xm) Xq ?_
  refine Xd rfl rfl (Xt rfl rfl Tryz.underlying27 inf83.size X6 X6) Xq ?_
  refine Xd rfl rfl (Xk rfl Tryz.underlying83 rfl Xp) Xq ?_
  refine Xd rfl rfl (X1 Xm) Xq ?_
  refine Xd rfl rfl (Xb Xm) Xq ?_
  refine Xd rfl rfl (Xt rfl rfl Tryz.underlying43 inf54.size X6 X6) Xq ?_
  refine Xd rfl rfl (Xf (off := 0) rfl Tryz.underlying54 rfl inf23.size (by decide) rfl) Xq ?_
  refine Xd rfl rfl (Xk rfl Tryz.underlying23 rfl Xp) Xq ?_
  refine Xd rfl rfl (Yl (cs := [.slice _ _ _, .slice _ _ _, .slice _ _ _, .slice _ _ _, .slice _ _ _]) Xm Tryz.underlying26 Xm inf26.size X8) Xq ?_
  refine Xd rfl rfl (Xf (off := 2) Xm Tryz.underlying26 Xm inf23.size (by decide) Xm) Xq ?_
  refine Xd rfl rfl (Xk rfl Tryz.underlying23 rfl Xp) Xq ?_
  refine Xd rfl rfl (Xb Xm) Xq ?_
  refine Xd rfl rfl (Xt rfl rfl Tryz.underlying23 inf3.size X6 X6) Xq ?_
  refine Xd rfl rfl (Xk rfl Tryz.underlying3 rfl Xp) Xq ?_
  refine Xd rfl rfl (Xf (off := 0) rfl Tryz.underlying96 rfl inf3.size (by decide) rfl) Xq ?_
  refine Xd rfl rfl (Xk rfl Tryz.underlying3 rfl Xp) Xq ?_
  refine Ym rfl rfl (Xy (at_forest f _ _ _ (kForest.mono (Hp.le_trans leH1 leH4).sees hp0) (by omega)) rfl Tryz.func56 rfl rfl rfl ?_)
  rintro v5 H4 ⟨rfl, rfl⟩; rw [show atI f.order (f.parent.getD w 0) = (q : Int) from hq1]
  refine ⟨Yk, ?_⟩
  refine Xd rfl rfl (Xt rfl rfl Tryz.underlying23 inf3.size X6 X6) Xq ?_
  refine Xd rfl rfl (Xk rfl Tryz.underlying3 rfl Xp) Xq ?_
  refine Ym rfl rfl (Xy (Find_links (lk p w) _ _ _ _ (hsl.mono leH4.sees) (by omega)) rfl Tryz.func55 rfl rfl rfl ?_)
  rintro v6 H4 ⟨rfl, rfl⟩
  refine ⟨Yk, ?_⟩
  refine Xd rfl rfl (Xi rfl) Xq ?_
  refine Xe ?_
  refine Xe ?_
  refine Xu ?_
  refine Xa (Xb rfl) ?_
  refine Xa (Za rfl rfl) ?_
  refine X5 rfl rfl ?_ ?_
  intro hc5
  have hneg : ¬ 0 ≤ Vv f p w r x := by have := of_decide_eq_true hc5; rw [hlo]; omega
  have hone := rowOne_none hpar hneg
  refine Yx ?_
  refine Xu ?_
  refine Xa (Xb Xm) ?_
  refine Xa (Yn rfl rfl Y0) ?_
  refine Xa (Xi rfl) ?_
  first
    | (rw [hone] at hnext
       exact ⟨(nd p w).length - (j + 1), by omega, j + 1, G10, _, A10, c10, by omega, rfl, Hp.le_trans (Hp.le_push' (Hp.le_trans hle4 hle9) _) hle10, by rw [hnext, hrows3]; simp, hown10, e2, e3, e5, e6, rfl, e8, e9, rfl⟩)
    | (rw [hone] at hnext
       exact ⟨(nd p w).length - (j + 1), by omega, j + 1, G4, rows3, B3, c53, by omega, rfl, hle4, by rw [hnext, hrows3]; simp, hown4, e2, e3, e5, e6, e7, e8, e9, rfl⟩)
  intro hc5
  have hpos : 0 ≤ Ua (lk p w) (r.nodes.getD q 0) x.a := by have := of_decide_eq_false hc5; omega
  obtain ⟨m, hm1, hm2, hm3, hm4⟩ := findI_lt hpos
  rw [hm1] at hlo
  rw [hm1]
  have hone := rowOne_link (r := r) (x := x) hpar hlo hm2
  obtain ⟨bl, ol, eAl, hbl, hcelll⟩ := hsl.link_at hm2
  subst eAl
  have hcelll4 := leH4.cells hbl hcelll
  have hcelll2 := hcelll4 2 _ rfl
  have hcelll3 := hcelll4 3 _ rfl
  obtain ⟨hl0, hl1, hl2, hl3⟩ := ht.costL w (lk p w)[m] (List.getElem_mem hm2)
  refine X9 ?_
  refine Yy (by kernel_rfl) (Y4 (B := [0, 0, 2, 0, 14, 30, 0, 126, 254, 510, 1023, 0, 0, 4096, 0, 28672, 61440, 0, 258048, 520192, 1044480, 2095104, 4194303, 8388607]) (π := [0, 1, 2, 3, 4, 5, 6, 7, 8, 9, 10, 11, 12, 13, 14, 15, 16, 17, 18, 19, 20, 21, 22, 23]) (by kernel_rfl)) ?_
  refine Xd rfl rfl (Xb rfl) Xq ?_
  refine Xd rfl rfl (Xf (off := 1) Xm Tryz.underlying29 Xm inf27.size (by decide) Xm) Xq ?_
  refine Xd rfl rfl (Xk rfl Tryz.underlying27 rfl Xp) Xq ?_
  refine Xd rfl rfl (Xb Xm) Xq ?_
  refine Xd rfl rfl (Xt rfl rfl Tryz.underlying27 inf83.size X6 X6) Xq ?_
  refine Xd rfl rfl (Xk rfl Tryz.underlying83 rfl Xp) Xq ?_
  refine Xd rfl rfl (Xb rfl) Xq ?_
  refine Xd rfl rfl (Xt rfl rfl Tryz.underlying83 inf96.size X6 X6) Xq ?_
  refine Xd rfl rfl (Xf (off := 2) rfl Tryz.underlying96 rfl inf3.size (by decide) rfl) Xq ?_
  refine Xd rfl rfl (Xk rfl Tryz.underlying3 rfl Xp) Xq ?_
  refine Xd rfl rfl (Yn rfl rfl Y0) Xq ?_
  refine Xd rfl rfl (Xb rfl) Xq ?_
  refine Xd rfl rfl (Xf (off := 1) Xm Tryz.underlying29 Xm inf27.size (by decide) Xm) Xq ?_
  refine Xd rfl rfl (Xk rfl Tryz.underlying27 rfl Xp) Xq ?_
  refine Xd rfl rfl (Xb Xm) Xq ?_
  refine Xd rfl rfl (Xt rfl rfl Tryz.underlying27 inf83.size X6 X6) Xq ?_
  refine Xd rfl rfl (Xk rfl Tryz.underlying83 rfl Xp) Xq ?_
  refine Xd rfl rfl (Xb rfl) Xq ?_
  refine Xd rfl rfl (Xt rfl rfl Tryz.underlying83 inf96.size X6 X6) Xq ?_
  refine Xd rfl rfl (Xf (off := 3) rfl Tryz.underlying96 rfl inf30.size (by decide) rfl) Xq ?_
  refine Xd rfl rfl (Xk rfl Tryz.underlying30 rfl Xp) Xq ?_
  refine Ym rfl rfl (Xy (timesR_u64 x.n (lk p w)[m].n hx2 hl2 _) rfl Tryz.func57 rfl rfl rfl ?_)
  rintro v7 H4 ⟨rfl, rfl⟩
  refine ⟨Yk, ?_⟩
  refine Xd rfl rfl (Xi rfl) Xq ?_
  refine Xd rfl rfl (Xi rfl) Xq ?_
  first
    | (obtain ⟨C, hC⟩ : ∃ C, C = x.cost + (lk p w)[m].cost := ⟨_, rfl⟩
       obtain ⟨N, hN⟩ : ∃ N, N = Zi x.n (lk p w)[m].n := ⟨_, rfl⟩
       have hC01 : 0 ≤ C ∧ C ≤ 2000000000 := by omega
       have hN0 : 0 ≤ N := by rw [hN]; exact (Uk hx2 hl2).1
       rw [← hC, ← hN] at hone
       rw [← hC, ← hN])
    | (obtain ⟨C, hC⟩ : ∃ C, C = x.cost := ⟨_, rfl⟩
       obtain ⟨N, hN⟩ : ∃ N, N = x.n := ⟨_, rfl⟩
       have hC01 : 0 ≤ C ∧ C ≤ 2000000000 := by omega
       have hN0 : 0 ≤ N := by omega
       have hone := rowOne_flat (p := p) (r := r) (x := x) hpar
       rw [← hC, ← hN] at hone
       rw [← hC, ← hN])
  have hsr : r.cost + C ≤ 9223372036854775807 := by omega
  refine Yy (by kernel_rfl) (Y4 (B := [0, 0, 0, 0, 12, 28, 60, 126, 0, 256, 768, 2046, 0, 0, 12288, 28672, 61440, 0, 258048, 0, 0, 1572864, 3670016, 7864320, 0, 33034238, 67108862, 134217726, 268435455, 536870911]) (π := [0, 1, 2, 3, 4, 5, 6, 8, 9, 10, 12, 13, 14, 15, 16, 17, 18, 19, 20, 21, 22, 23, 24, 7, 11, 25, 26, 27, 28, 29]) (by kernel_rfl)) ?_
  refine Xd rfl rfl (X1 Xm) Xq ?_
  first | refine Zb rfl rfl (Yh (r := []) Tryz.underlying23 inf3.size inf3.zero rfl (by decide) (by decide) (by decide) rfl) ?_
  refine Xd rfl rfl (X1 Xm) Xq ?_
  refine Xd rfl rfl (Xb Xm) Xq ?_
  refine Xd rfl rfl (Xt rfl rfl Tryz.underlying43 inf54.size X6 X6) Xq ?_
  refine Xd rfl rfl (Xf (off := 0) rfl Tryz.underlying54 rfl inf23.size (by decide) rfl) Xq ?_
  refine Xd rfl rfl (Xk rfl Tryz.underlying23 rfl Xp) Xq ?_
  refine Xd rfl rfl (Xf (off := 0) rfl Tryz.underlying96 rfl inf3.size (by decide) rfl) Xq ?_
  refine Xd rfl rfl (Xk rfl Tryz.underlying3 rfl Xp) Xq ?_
  first | refine Zb rfl rfl (Yh (r := [.int .i64 _]) Tryz.underlying23 inf3.size inf3.zero rfl (by decide) (by decide) (by decide) rfl) ?_
  refine Xd rfl rfl (X1 Xm) Xq ?_
  refine Xd rfl rfl (Xb Xm) Xq ?_
  refine Xd rfl rfl (Xt rfl rfl Tryz.underlying43 inf54.size X6 X6) Xq ?_
  refine Xd rfl rfl (Xf (off := 1) rfl Tryz.underlying54 rfl inf3.size (by decide) rfl) Xq ?_
  refine Xd rfl rfl (Xk rfl Tryz.underlying3 rfl Xp) Xq ?_
  refine Xd rfl rfl (Xb rfl) Xq ?_
  refine Xd rfl rfl (Yn rfl rfl Y0) Xq ?_
  refine Xd rfl rfl (X1 Xm) Xq ?_
  refine Xd rfl rfl (Xb Xm) Xq ?_
  refine Xd rfl rfl (Xt rfl rfl Tryz.underlying43 inf54.size X6 X6) Xq ?_
  refine Xd rfl rfl (Xf (off := 2) rfl Tryz.underlying54 rfl inf30.size (by decide) rfl) Xq ?_
  refine Xd rfl rfl (Xk rfl Tryz.underlying30 rfl Xp) Xq ?_
  refine Xd rfl rfl (Xb rfl) Xq ?_
  have o1 := own_lit (Y1 .i64) (H := (H4.push (.own 1 [])).push (.own 1 [.int .i64 x.a])) (b := H4.size) (c := 0) (cs := []) (by simp <;> omega) Yd
  have leA : H4.le (((H4.push (.own 1 [])).push (.own 1 [.int .i64 x.a])).put H4.size .dead) := Hp.le_put_new (Hp.le_push' (H4.le_push _) _) (Nat.le_refl _) _
  have hdo4 : H4.get bo ≠ .dead := by rw [leH4.2 bo hbo hdo]; exact hdo
  have hbo4 : bo < H4.size := Nat.lt_of_lt_of_le hbo leH4.1
  refine Ym rfl rfl (OwnP.append (ys := r.nodes) o1 Tryz.underlying23 inf3 rfl rfl rfl (hwr.mono (Hp.le_trans leH4 leA).sees) (by simp only [List.length_nil]; omega) (by simp only [List.length_nil]; omega) ?_)
  rintro v7 G7 H7 hle7 hown7
  have hsameO := OwnP.sameO o1 hle7 hown7
  rw [List.nil_append] at hown7
  obtain ⟨A7, c7, rfl⟩ := hown7.shape
  have z7 := hle7.1
  simp only [Hp.put_size, Hp.push_size] at z7
  have z77 := hown7.size
  have g71 : G7.get (H4.size + 1) = .own 1 [.int .i64 x.a] := Xr hle7 (by simp) (by intro e; cases e) Yd
  have le47 : H4.le G7 := Hp.le_trans leA hle7
  have hsame : ∀ b ∈ [bo], H7.get b = ((H4.push (.own 1 [])).push (.own 1 [.int .i64 x.a])).get b := fun b hb => by
    rw [List.mem_singleton] at hb; subst hb
    rw [(Hp.le_trans le47 hown7.le).2 _ hbo4 hdo4, Hp.push_old _ _ (by simp; omega), Hp.push_old _ _ hbo4]
  refine ⟨Yk, ?_⟩
  clear hsameO hsame
  refine Ym rfl rfl (OwnP.append (ys := [x.a]) hown7 Tryz.underlying23 inf3 rfl rfl rfl (sl_lit1 (k := Y1 .i64) g71 (show H4.size + 1 < G7.size by omega) rfl rfl) (by simp only [List.length_singleton]; omega) (by simp only [List.length_singleton]; omega) ?_)
  rintro v8 G8 H8 hle8 hown8
  have hsameO := OwnP.sameO hown7 hle8 hown8
  obtain ⟨A8, c8, rfl⟩ := hown8.shape
  have z8 := hle8.1
  have z88 := hown8.size
  have le48 : H4.le H8 := Hp.le_trans le47 (Hp.le_trans hle8 hown8.le)
  have hsame : ∀ b ∈ [bo], H8.get b = H7.get b := fun b hb => by
    rw [List.mem_singleton] at hb; subst hb
    rw [le48.2 _ hbo4 hdo4, (Hp.le_trans le47 hown7.le).2 _ hbo4 hdo4]
  refine ⟨Yk, ?_⟩
  clear hsameO hsame
  refine Ym rfl rfl (Xy (timesR_u64 r.n N hr2 hN0 _) rfl Tryz.func57 rfl rfl rfl ?_)
  rintro v9 H8 ⟨rfl, rfl⟩
  refine ⟨Yk, ?_⟩
  refine Xd rfl rfl (Y6 (pl := [(0, 1), (1, 1), (2, 1)]) (r := [.slice _ _ _, .int .i64 _, .int .u64 _]) Tryz.underlying54 inf54.zero (by decide) rfl rfl) Xq ?_
  refine Zb rfl rfl (Yh (r := [.slice _ _ _, .int .i64 _, .int .u64 _]) Tryz.underlying43 inf54.size inf54.zero rfl (by decide) (by decide) (by decide) rfl) ?_
  obtain ⟨G9, hle9, hown9, htr⟩ := hown4.stays le48
  have hnodes := htr (Y1 .i64) _ _ (plain_int _) (by decide) hown8.sl
  have z99 := hown9.size
  refine Ym rfl rfl (OwnP.append (ys := [⟨r.nodes ++ [x.a], r.cost + C, Zi r.n N⟩]) (hown9.push _) Tryz.underlying43 inf54 rfl rfl rfl (Zo (k := kRow) ⟨_, rfl, hnodes⟩ rfl hown9.size rfl) (by simp only [List.length_singleton]; omega) (by simp only [List.length_singleton]; omega) ?_)
  rintro v10 G10 H10 hle10 hown10
  obtain ⟨A10, c10, e10⟩ := hown10.shape
  subst e10
  refine ⟨Yk, ?_⟩
  refine Xd rfl rfl (Yc rfl) Xq ?_
  refine Xu ?_
  refine Xa (Xb Xm) ?_
  refine Xa (Yn rfl rfl Y0) ?_
  refine Xa (Xi rfl) ?_
  first
    | (rw [hone] at hnext
       exact ⟨(nd p w).length - (j + 1), by omega, j + 1, G10, _, A10, c10, by omega, rfl, Hp.le_trans (Hp.le_push' (Hp.le_trans hle4 hle9) _) hle10, by rw [hnext, hrows3]; simp, hown10, e2, e3, e5, e6, rfl, e8, e9, rfl⟩)
    | (rw [hone] at hnext
       exact ⟨(nd p w).length - (j + 1), by omega, j + 1, G4, rows3, B3, c53, by omega, rfl, hle4, by rw [hnext, hrows3]; simp, hown4, e2, e3, e5, e6, e7, e8, e9, rfl⟩)
  intro hc4
  have hpar : ¬ 0 ≤ par f w := of_decide_eq_false hc4
  refine X9 ?_
  first
    | (obtain ⟨C, hC⟩ : ∃ C, C = x.cost + (lk p w)[m].cost := ⟨_, rfl⟩
       obtain ⟨N, hN⟩ : ∃ N, N = Zi x.n (lk p w)[m].n := ⟨_, rfl⟩
       have hC01 : 0 ≤ C ∧ C ≤ 2000000000 := by omega
       have hN0 : 0 ≤ N := by rw [hN]; exact (Uk hx2 hl2).1
       rw [← hC, ← hN] at hone
       rw [← hC, ← hN])
    | (obtain ⟨C, hC⟩ : ∃ C, C = x.cost := ⟨_, rfl⟩
       obtain ⟨N, hN⟩ : ∃ N, N = x.n := ⟨_, rfl⟩
       have hC01 : 0 ≤ C ∧ C ≤ 2000000000 := by omega
       have hN0 : 0 ≤ N := by omega
       have hone := rowOne_flat (p := p) (r := r) (x := x) hpar
       rw [← hC, ← hN] at hone
       rw [← hC, ← hN])
  have hsr : r.cost + C ≤ 9223372036854775807 := by omega
  refine Yy (by kernel_rfl) (Y4 (B := [0, 0, 0, 0, 12, 28, 60, 126, 0, 256, 768, 2046, 0, 0, 12288, 28672, 61440, 0, 258048, 0, 0, 1572864, 3670016, 7864320, 0, 33034238, 67108862, 134217726, 268435455, 536870911]) (π := [0, 1, 2, 3, 4, 5, 6, 8, 9, 10, 12, 13, 14, 15, 16, 17, 18, 19, 20, 21, 22, 23, 24, 7, 11, 25, 26, 27, 28, 29]) (by kernel_rfl)) ?_
  refine Xd rfl rfl (X1 Xm) Xq ?_
  first | refine Zb rfl rfl (Yh (r := []) Tryz.underlying23 inf3.size inf3.zero rfl (by decide) (by decide) (by decide) rfl) ?_
  refine Xd rfl rfl (X1 Xm) Xq ?_
  refine Xd rfl rfl (Xb Xm) Xq ?_
  refine Xd rfl rfl (Xt rfl rfl Tryz.underlying43 inf54.size X6 X6) Xq ?_
  refine Xd rfl rfl (Xf (off := 0) rfl Tryz.underlying54 rfl inf23.size (by decide) rfl) Xq ?_
  refine Xd rfl rfl (Xk rfl Tryz.underlying23 rfl Xp) Xq ?_
  refine Xd rfl rfl (Xf (off := 0) rfl Tryz.underlying96 rfl inf3.size (by decide) rfl) Xq ?_
  refine Xd rfl rfl (Xk rfl Tryz.underlying3 rfl Xp) Xq ?_
  first | refine Zb rfl rfl (Yh (r := [.int .i64 _]) Tryz.underlying23 inf3.size inf3.zero rfl (by decide) (by decide) (by decide) rfl) ?_
  refine Xd rfl rfl (X1 Xm) Xq ?_
  refine Xd rfl rfl (Xb Xm) Xq ?_
  refine Xd rfl rfl (Xt rfl rfl Tryz.underlying43 inf54.size X6 X6) Xq ?_
  refine Xd rfl rfl (Xf (off := 1) rfl Tryz.underlying54 rfl inf3.size (by decide) rfl) Xq ?_
  refine Xd rfl rfl (Xk rfl Tryz.underlying3 rfl Xp) Xq ?_
  refine Xd rfl rfl (Xb rfl) Xq ?_
  refine Xd rfl rfl (Yn rfl rfl Y0) Xq ?_
  refine Xd rfl rfl (X1 Xm) Xq ?_
  refine Xd rfl rfl (Xb Xm) Xq ?_
  refine Xd rfl rfl (Xt rfl rfl Tryz.underlying43 inf54.size X6 X6) Xq ?_
  refine Xd rfl rfl (Xf (off := 2) rfl Tryz.underlying54 rfl inf30.size (by decide) rfl) Xq ?_
  refine Xd rfl rfl (Xk rfl Tryz.underlying30 rfl Xp) Xq ?_
  refine Xd rfl rfl (Xb rfl) Xq ?_
  have o1 := own_lit (Y1 .i64) (H := (H4.push (.own 1 [])).push (.own 1 [.int .i64 x.a])) (b := H4.size) (c := 0) (cs := []) (by simp <;> omega) Yd
  have leA : H4.le (((H4.push (.own 1 [])).push (.own 1 [.int .i64 x.a])).put H4.size .dead) := Hp.le_put_new (Hp.le_push' (H4.le_push _) _) (Nat.le_refl _) _
  have hdo4 : H4.get bo ≠ .dead := by rw [leH4.2 bo hbo hdo]; exact hdo
  have hbo4 : bo < H4.size := Nat.lt_of_lt_of_le hbo leH4.1
  refine Ym rfl rfl (OwnP.append (ys := r.nodes) o1 Tryz.underlying23 inf3 rfl rfl rfl (hwr.mono (Hp.le_trans leH4 leA).sees) (by simp only [List.length_nil]; omega) (by simp only [List.length_nil]; omega) ?_)
  rintro v7 G7 H7 hle7 hown7
  have hsameO := OwnP.sameO o1 hle7 hown7
  rw [List.nil_append] at hown7
  obtain ⟨A7, c7, rfl⟩ := hown7.shape
  have z7 := hle7.1
  simp only [Hp.put_size, Hp.push_size] at z7
  have z77 := hown7.size
  have g71 : G7.get (H4.size + 1) = .own 1 [.int .i64 x.a] := Xr hle7 (by simp) (by intro e; cases e) Yd
  have le47 : H4.le G7 := Hp.le_trans leA hle7
  have hsame : ∀ b ∈ [bo], H7.get b = ((H4.push (.own 1 [])).push (.own 1 [.int .i64 x.a])).get b := fun b hb => by
    rw [List.mem_singleton] at hb; subst hb
    rw [(Hp.le_trans le47 hown7.le).2 _ hbo4 hdo4, Hp.push_old _ _ (by simp; omega), Hp.push_old _ _ hbo4]
  refine ⟨Yk, ?_⟩
  clear hsameO hsame
  refine Ym rfl rfl (OwnP.append (ys := [x.a]) hown7 Tryz.underlying23 inf3 rfl rfl rfl (sl_lit1 (k := Y1 .i64) g71 (show H4.size + 1 < G7.size by omega) rfl rfl) (by simp only [List.length_singleton]; omega) (by simp only [List.length_singleton]; omega) ?_)
  rintro v8 G8 H8 hle8 hown8
  have hsameO := OwnP.sameO hown7 hle8 hown8
  obtain ⟨A8, c8, rfl⟩ := hown8.shape
  have z8 := hle8.1
  have z88 := hown8.size
  have le48 : H4.le H8 := Hp.le_trans le47 (Hp.le_trans hle8 hown8.le)
  have hsame : ∀ b ∈ [bo], H8.get b = H7.get b := fun b hb => by
    rw [List.mem_singleton] at hb; subst hb
    rw [le48.2 _ hbo4 hdo4, (Hp.le_trans le47 hown7.le).2 _ hbo4 hdo4]
  refine ⟨Yk, ?_⟩
  clear hsameO hsame
  refine Ym rfl rfl (Xy (timesR_u64 r.n N hr2 hN0 _) rfl Tryz.func57 rfl rfl rfl ?_)
  rintro v9 H8 ⟨rfl, rfl⟩
  refine ⟨Yk, ?_⟩
  refine Xd rfl rfl (Y6 (pl := [(0, 1), (1, 1), (2, 1)]) (r := [.slice _ _ _, .int .i64 _, .int .u64 _]) Tryz.underlying54 inf54.zero (by decide) rfl rfl) Xq ?_
  refine Zb rfl rfl (Yh (r := [.slice _ _ _, .int .i64 _, .int .u64 _]) Tryz.underlying43 inf54.size inf54.zero rfl (by decide) (by decide) (by decide) rfl) ?_
  obtain ⟨G9, hle9, hown9, htr⟩ := hown4.stays le48
  have hnodes := htr (Y1 .i64) _ _ (plain_int _) (by decide) hown8.sl
  have z99 := hown9.size
  refine Ym rfl rfl (OwnP.append (ys := [⟨r.nodes ++ [x.a], r.cost + C, Zi r.n N⟩]) (hown9.push _) Tryz.underlying43 inf54 rfl rfl rfl (Zo (k := kRow) ⟨_, rfl, hnodes⟩ rfl hown9.size rfl) (by simp only [List.length_singleton]; omega) (by simp only [List.length_singleton]; omega) ?_)
  rintro v10 G10 H10 hle10 hown10
  obtain ⟨A10, c10, e10⟩ := hown10.shape
  subst e10
  refine ⟨Yk, ?_⟩
  refine Xd rfl rfl (Yc rfl) Xq ?_
  refine Xu ?_
  refine Xa (Xb Xm) ?_
  refine Xa (Yn rfl rfl Y0) ?_
  refine Xa (Xi rfl) ?_
  first
    | (rw [hone] at hnext
       exact ⟨(nd p w).length - (j + 1), by omega, j + 1, G10, _, A10, c10, by omega, rfl, Hp.le_trans (Hp.le_push' (Hp.le_trans hle4 hle9) _) hle10, by rw [hnext, hrows3]; simp, hown10, e2, e3, e5, e6, rfl, e8, e9, rfl⟩)
    | (rw [hone] at hnext
       exact ⟨(nd p w).length - (j + 1), by omega, j + 1, G4, rows3, B3, c53, by omega, rfl, hle4, by rw [hnext, hrows3]; simp, hown4, e2, e3, e5, e6, e7, e8, e9, rfl⟩)
  intro hc3
  (try simp only [Yt] at hc3)
  refine Yx ?_
  refine Xu ?_
  refine Xa (Xb Xm) ?_
  refine Xa (Yn rfl rfl Y0) ?_
  refine Xa (Xi rfl) ?_
  have hj2 : (nd p w).take j = nd p w := List.take_of_length_le (by omega)
  rw [hj2] at hrows3
  exact ⟨(Zu f p i).length - (k + 1), by omega, k + 1, G3, rows3, B3, c53, by omega, rfl, hle3, by rw [flatMap_next hkx, ← hrows, ← hr]; exact hrows3, hown3, e2, e3, e5, e6, e7, e8, rfl⟩
  intro hc2
  (try simp only [Yt] at hc2)
  refine Yx ?_
  refine Xu ?_
  refine Xa (X1 Xm) ?_
  refine Xa (Yc rfl) ?_
  refine Xu ?_
  refine Xa (Xb Xm) ?_
  refine Xa (Yn rfl rfl Y0) ?_
  refine Xa (Xi rfl) ?_
  have hk2 : (Zu f p i).take k = Zu f p i := List.take_of_length_le (by omega)
  rw [hk2] at hrows
  have hnew : rows = Zu f p (i + 1) := by rw [hrows]; show _ = (Zu f p i).flatMap _; rw [hvat]
  subst hnew
  exact ⟨f.order.length - (i + 1), by omega, i + 1, B, c5, by omega, rfl, Hp.le_trans hle1 leH2, hown2.sl, e2, e3, rfl, rfl⟩
  intro hc1
  (try simp only [Yt] at hc1)
  refine Yx ?_
  refine Xe ?_
  refine Xu ?_
  refine Xa (X1 Xm) ?_
  refine Xa (Yc rfl) ?_
  refine X2 ?_
  have hk : i = f.order.length := by omega
  subst hk
  exact ⟨_, Xx (Xs rfl), leH1, hso⟩
theorem OwnP.get_new {α : Type} {k : Kd α} {G H G' H' : Hp} {v : Value} {xs ys : List α} (h0 : OwnP k G H v xs) (h : OwnP k G' H' v ys) {c : Nat} (hc : G.size ≤ c) : G'.get c = H'.get c := by
 rcases h with ⟨rfl, rfl, rfl⟩ | ⟨b, cs, d, rfl, hb, hd, rfl, _⟩
 ·rfl
 ·rcases h0 with ⟨h, _⟩ | ⟨b', cs', d', e, hb', _⟩
  ·cases h
  ·simp only [Value.slice.injEq, Option.some.injEq, Addr.mk.injEq, and_true] at e
   obtain ⟨rfl, _⟩ := e
   rw [Hp.put_other _ _ (by omega)]
def Uc (f : Forest) (v : Int) : Nat := (atI f.order v).toNat
theorem GoodF.vAt_lt {f : Forest} (h : GoodF f) {s : Nat} (hs : s < f.vars.length) : Vj f s < f.vars.length ∧ ((Vj f s : Nat) : Int) = f.order.getD s 0 := by
 have h1 := h.ok s hs
 have h2 := h1.1
 have h3 := h1.2.1
 unfold Vj
 omega
theorem GoodF.pos_vAt {f : Forest} (h : GoodF f) {s : Nat} (hs : s < f.vars.length) : Uc f (Vj f s) = s := by
 have hl := h.l1
 rw [(h.vAt_lt hs).2]
 unfold Uc
 have h1 := (h.ok s hs).2.2.1
 rw [atI_some (i := s) (by omega) (by rw [Zf (by omega)]) h1]; rfl
theorem GoodF.pos_par {f : Forest} (h : GoodF f) {s : Nat} (hs : s < f.vars.length) (hp : 0 ≤ par f (Vj f s)) : Uc f (par f (Vj f s)) < s ∧ ((Vj f (Uc f (par f (Vj f s))) : Nat) : Int) = par f (Vj f s) := by
 have h1 := (h.ok s hs).2.2.2
 have h2 : (f.order.getD s 0).toNat = Vj f s := rfl
 rw [h2] at h1
 obtain ⟨q, hq1, hq2, hq3, hq4⟩ := atI_take (xs := f.order) (v := par f (Vj f s)) (i := s) (h1.resolve_left (by unfold par at hp; omega))
 have hq : Uc f (par f (Vj f s)) = q := by unfold Uc; rw [hq1]; rfl
 rw [hq]
 refine ⟨hq2, ?_⟩
 rw [(h.vAt_lt (by omega)).2, Zf hq3, hq4]
theorem GoodF.vAt_pos {f : Forest} (h : GoodF f) {v : Nat} (hv : v < f.vars.length) : Uc f v < f.vars.length ∧ Vj f (Uc f v) = v := by
 have hl := h.l1
 obtain ⟨q, h1, _, h3, h4⟩ := atI_take (xs := f.order) (v := (v : Int)) (i := f.order.length) (by rw [List.take_length]; exact h.in_order hv)
 have hq : Uc f v = q := by unfold Uc; rw [h1]; rfl
 rw [hq]
 refine ⟨by omega, ?_⟩
 unfold Vj
 rw [Zf h3, h4]; rfl
def SatAt (f : Forest) (p : Parts) (ns : List Int) (s : Nat) : Prop :=
 ns.getD s 0 ∈ V9 (nd p (Vj f s)) ∧ (0 ≤ par f (Vj f s) → ∃ l ∈ lk p (Vj f s), l.a = ns.getD (Uc f (par f (Vj f s))) 0 ∧ l.b = ns.getD s 0)
def Sat (f : Forest) (p : Parts) (i : Nat) (ns : List Int) : Prop := ns.length = i ∧ ∀ s, s < i → SatAt f p ns s
theorem getD_app {ns : List Int} {a : Int} {s : Nat} (h : s < ns.length) : (ns ++ [a]).getD s 0 = ns.getD s 0 := by
 rw [List.getD_eq_getElem?_getD, List.getD_eq_getElem?_getD, List.getElem?_append_left h]
theorem Uq {ns : List Int} {a : Int} : (ns ++ [a]).getD ns.length 0 = a := by
 rw [List.getD_eq_getElem?_getD, List.getElem?_append_right (Nat.le_refl _)]; simp
theorem SatAt.app {f : Forest} {p : Parts} {ns : List Int} {a : Int} {s : Nat} (hg : GoodF f) (hs : s < ns.length) (hn : ns.length < f.vars.length) : SatAt f p (ns ++ [a]) s ↔ SatAt f p ns s := by
 unfold SatAt
 rw [getD_app hs]
 constructor
 ·intro ⟨h1, h2⟩
  refine ⟨h1, fun hp => ?_⟩
  obtain ⟨l, hl, e1, e2⟩ := h2 hp
  rw [getD_app (by have := (hg.pos_par (by omega) hp).1; omega)] at e1
  exact ⟨l, hl, e1, e2⟩
 ·intro ⟨h1, h2⟩
  refine ⟨h1, fun hp => ?_⟩
  obtain ⟨l, hl, e1, e2⟩ := h2 hp
  exact ⟨l, hl, by rw [getD_app (by have := (hg.pos_par (by omega) hp).1; omega)]; exact e1, e2⟩
theorem sat_succ {f : Forest} {p : Parts} {ns : List Int} {a : Int} {i : Nat} (hg : GoodF f) (hl : ns.length = i) (hi : i < f.vars.length) : Sat f p (i + 1) (ns ++ [a]) ↔ Sat f p i ns ∧ SatAt f p (ns ++ [a]) i := by
 subst hl
 constructor
 ·intro ⟨h1, h2⟩
  exact ⟨⟨rfl, fun s hs => (SatAt.app hg hs hi).1 (h2 s (by omega))⟩, h2 _ (by omega)⟩
 ·intro ⟨⟨_, h1⟩, h2⟩
  refine ⟨by simp, fun s hs => ?_⟩
  rcases Nat.lt_or_ge s ns.length with h | h
  ·exact (SatAt.app hg h hi).2 (h1 s h)
  ·obtain rfl : s = ns.length := by omega
   exact h2
theorem rowOne_sat {f : Forest} {p : Parts} {r r' : RowT} {x : Link} {i : Nat} (hg : GoodF f) (hi : i < f.vars.length) (hr : r.nodes.length = i) (hx : x ∈ nd p (Vj f i)) (h : Z5 f p (Vj f i) r x = some r') : r'.nodes = r.nodes ++ [x.a] ∧ SatAt f p r'.nodes i := by
 subst hr
 have hfirst : x.a ∈ V9 (nd p (Vj f r.nodes.length)) := List.mem_map.2 ⟨x, hx, rfl⟩
 unfold Z5 at h
 split at h
 ·rename_i hp
  split at h
  ·rename_i hlo
   injection h with h
   subst h
   refine ⟨rfl, by rw [Uq]; exact hfirst, fun _ => ?_⟩
   obtain ⟨l, hl, e1, e2⟩ := findI_ge.1 hlo
   have := (hg.pos_par hi hp).1
   exact ⟨l, hl, by rw [getD_app this]; exact e1, by rw [Uq]; exact e2⟩
  ·cases h
 ·rename_i hp
  injection h with h
  subst h
  exact ⟨rfl, by rw [Uq]; exact hfirst, fun h => absurd h hp⟩
theorem rowOne_some {f : Forest} {p : Parts} {r : RowT} {x : Link} {i : Nat} (hg : GoodF f) (hi : i < f.vars.length) (hr : r.nodes.length = i) (hs : SatAt f p (r.nodes ++ [x.a]) i) : ∃ r', Z5 f p (Vj f i) r x = some r' ∧ r'.nodes = r.nodes ++ [x.a] := by
 subst hr
 unfold Z5
 by_cases hp : 0 ≤ par f (Vj f r.nodes.length)
 ·obtain ⟨l, hl, e1, e2⟩ := hs.2 hp
  rw [getD_app (hg.pos_par hi hp).1] at e1
  rw [Uq] at e2
  have hlo : 0 ≤ Vv f p (Vj f r.nodes.length) r x := findI_ge.2 ⟨l, hl, e1, e2⟩
  rw [if_pos hp, if_pos hlo]
  exact ⟨_, rfl, rfl⟩
 ·rw [if_neg hp]; exact ⟨_, rfl, rfl⟩
theorem rows_len {f : Forest} {p : Parts} : ∀ (i : Nat), ∀ r ∈ Zu f p i, r.nodes.length = i
 | 0, r, h => by simp [Zu] at h; subst h; rfl
 | i + 1, r, h => by
  obtain ⟨r0, h0, h1⟩ := List.mem_flatMap.1 h
  obtain ⟨x, hx, h2⟩ := List.mem_filterMap.1 h1
  have h3 := rows_len i r0 h0
  unfold Z5 at h2
  split at h2
  ·split at h2
   ·injection h2 with h2; subst h2; simp [h3]
   ·cases h2
  ·injection h2 with h2; subst h2; simp [h3]
theorem rows_sat {f : Forest} {p : Parts} (hg : GoodF f) : ∀ (i : Nat), i ≤ f.vars.length → ∀ r ∈ Zu f p i, Sat f p i r.nodes
 | 0, _, r, h => by simp [Zu] at h; subst h; exact ⟨rfl, fun s hs => by omega⟩
 | i + 1, hi, r, h => by
  obtain ⟨r0, h0, h1⟩ := List.mem_flatMap.1 h
  obtain ⟨x, hx, h2⟩ := List.mem_filterMap.1 h1
  have h3 := rows_len i r0 h0
  obtain ⟨e, hs⟩ := rowOne_sat hg (by omega) h3 hx h2
  rw [e] at hs ⊢
  exact (sat_succ hg h3 (by omega)).2 ⟨rows_sat hg i (by omega) r0 h0, hs⟩
theorem sat_rows {f : Forest} {p : Parts} (hg : GoodF f) : ∀ (i : Nat), i ≤ f.vars.length → ∀ ns, Sat f p i ns → ∃ r ∈ Zu f p i, r.nodes = ns
 | 0, _, ns, ⟨h, _⟩ => ⟨⟨[], 0, 1⟩, by simp [Zu], by rw [List.eq_nil_of_length_eq_zero h]⟩
 | i + 1, hi, ns, h => by
  obtain ⟨ns0, a, rfl⟩ : ∃ ns0 a, ns = ns0 ++ [a] := ⟨ns.dropLast, ns.getLast (by intro e; rw [e] at h; have := h.1; simp at this), (List.dropLast_concat_getLast _).symm⟩
  have hl : ns0.length = i := by have := h.1; simp at this; exact this
  obtain ⟨h1, h2⟩ := (sat_succ hg hl (by omega)).1 h
  obtain ⟨r0, h3, h4⟩ := sat_rows hg i (by omega) ns0 h1
  have h5 := h2.1
  rw [← hl, Uq, hl] at h5
  obtain ⟨x, hx, e⟩ := List.mem_map.1 h5
  subst e
  rw [← h4] at h2 hl
  obtain ⟨r', h6, h7⟩ := rowOne_some hg (by omega) hl h2
  exact ⟨r', List.mem_flatMap.2 ⟨r0, h3, List.mem_filterMap.2 ⟨x, hx, h6⟩⟩, by rw [h7, h4]⟩
theorem Sat.sub {f : Forest} {p q : Parts} {i : Nat} {ns : List Int} (h : Sat f q i ns) (hs : Sub q p) : Sat f p i ns :=
 ⟨h.1, fun s hi => by
  obtain ⟨h1, h2⟩ := h.2 s hi
  refine ⟨?_, fun hp => ?_⟩
  ·obtain ⟨x, hx, e⟩ := List.mem_map.1 h1
   exact List.mem_map.2 ⟨x, (hs _).1.subset hx, e⟩
  ·obtain ⟨l, hl, e⟩ := h2 hp
   exact ⟨l, (hs _).2.subset hl, e⟩⟩
theorem sat_up {f : Forest} {p : Parts} {w : Nat} {ns : List Int} (hg : GoodF f) (hl : Lens f.vars.length p) (hw : w < f.vars.length) (h : Sat f p f.vars.length ns) : Sat f (upC f p w) f.vars.length ns ∧ Sat f (Vk f p w) f.vars.length ns := by
 have hge : -1 ≤ par f w ∧ par f w < f.vars.length := hg.parent_ge hw
 have hu : (par f w).toNat < f.vars.length := by omega
 have hnn : par f w ≠ -1 → 0 ≤ par f w := fun h => by omega
 have hlink : par f w ≠ -1 → ∃ l ∈ left p w (par f w).toNat, l.a = ns.getD (Uc f (par f w)) 0 ∧ l.b = ns.getD (Uc f w) 0 := fun hp => by
  obtain ⟨k1, k2⟩ := hg.vAt_pos hw
  have hp0 : 0 ≤ par f w := hnn hp
  obtain ⟨h1, h2⟩ := h.2 (Uc f w) k1
  rw [k2] at h1 h2
  obtain ⟨l, hl1, e1, e2⟩ := h2 hp0
  have hpn : ((par f w).toNat : Int) = par f w := Int.toNat_of_nonneg hp0
  obtain ⟨k3, k4⟩ := hg.vAt_pos (v := (par f w).toNat) hu
  rw [hpn] at k3 k4
  have h3 := (h.2 _ k3).1
  rw [k4] at h3
  exact ⟨l, left_mem.2 ⟨hl1, by rw [e1]; exact h3, by rw [e2]; exact h1⟩, e1, e2⟩
 constructor
 ·refine ⟨h.1, fun s hs => ?_⟩
  obtain ⟨h1, h2⟩ := h.2 s hs
  refine ⟨?_, fun hp => ?_⟩
  ·rw [nd_up hl hu]
   split
   ·rename_i hc
    obtain ⟨l, hl1, e1, e2⟩ := hlink hc.1
    obtain ⟨x, hx, e⟩ := List.mem_map.1 h1
    refine List.mem_map.2 ⟨x, List.mem_filter.2 ⟨hx, ?_⟩, e⟩
    rw [decide_eq_true_eq, e]
    have hps : Uc f (par f w) = s := by
     have := hg.pos_vAt hs
     rw [hc.2, show ((par f w).toNat : Int) = par f w from Int.toNat_of_nonneg (hnn hc.1)] at this
     exact this
    rw [hps] at e1
    exact List.mem_map.2 ⟨l, hl1, e1⟩
   ·exact h1
  ·rw [lk_up hl hw]
   split
   ·rename_i hc
    obtain ⟨l, hl1, e1, e2⟩ := hlink hc.1
    have hps : Uc f w = s := by rw [← hc.2]; exact hg.pos_vAt hs
    rw [hps] at e2
    exact ⟨l, hl1, by rw [hc.2]; exact e1, e2⟩
   ·exact h2 hp
 ·refine ⟨h.1, fun s hs => ?_⟩
  obtain ⟨h1, h2⟩ := h.2 s hs
  refine ⟨?_, fun hp => ?_⟩
  ·rw [nd_down hl hw]
   split
   ·rename_i hc
    obtain ⟨l, hl1, e1, e2⟩ := hlink hc.1
    rw [hc.2] at h1
    obtain ⟨x, hx, e⟩ := List.mem_map.1 h1
    refine List.mem_map.2 ⟨x, List.mem_filter.2 ⟨hx, ?_⟩, e⟩
    rw [decide_eq_true_eq, e]
    have hps : Uc f w = s := by rw [← hc.2]; exact hg.pos_vAt hs
    rw [hps] at e2
    exact List.mem_map.2 ⟨l, hl1, e2⟩
   ·exact h1
  ·rw [lk_down hl hw]
   split
   ·rename_i hc
    obtain ⟨l, hl1, e1, e2⟩ := hlink hc.1
    have hps : Uc f w = s := by rw [← hc.2]; exact hg.pos_vAt hs
    rw [hps] at e2
    exact ⟨l, hl1, by rw [hc.2]; exact e1, e2⟩
   ·exact h2 hp
theorem sat_up_fold {f : Forest} {ns : List Int} (hg : GoodF f) : ∀ (vs : List Int) (p : Parts), (∀ v ∈ vs, v.toNat < f.vars.length) → Lens f.vars.length p → Sat f p f.vars.length ns → Sat f (vs.foldl (fun p v => upC f p v.toNat) p) f.vars.length ns
 | [], _, _, _, h => h
 | v :: vs, p, hv, hl, h => sat_up_fold hg vs _ (fun w hw => hv w (by simp [hw])) (hl.up _) (sat_up hg hl (hv v (by simp)) h).1
theorem sat_down_fold {f : Forest} {ns : List Int} (hg : GoodF f) : ∀ (vs : List Int) (p : Parts), (∀ v ∈ vs, v.toNat < f.vars.length) → Lens f.vars.length p → Sat f p f.vars.length ns → Sat f (vs.foldl (fun p v => Vk f p v.toNat) p) f.vars.length ns
 | [], _, _, _, h => h
 | v :: vs, p, hv, hl, h => sat_down_fold hg vs _ (fun w hw => hv w (by simp [hw])) (hl.down _) (sat_up hg hl (hv v (by simp)) h).2
theorem sat_ofP {f : Forest} {p : Parts} {ns : List Int} (h : GoodP f p) (hs : Sat f p f.vars.length ns) : Sat f (ofP f p) f.vars.length ns := by
 obtain ⟨k1, k2, k3, k4⟩ := up_all h.gf f.order.reverse [] p rfl h.lens h.nb (fun v hv => by simp at hv)
 have e1 : upP f p = f.order.reverse.foldl (fun p v => upC f p v.toNat) p := k4
 rw [← e1] at k1 k2
 have e2 : downP f (upP f p) = f.order.foldl (fun p v => Vk f p v.toNat) (upP f p) := down_fold _ _ (fun v hv => by have := h.gf.order_in hv; omega) k1 (h.nb.sub k2)
 have s1 : Sat f (upP f p) f.vars.length ns := by rw [e1]; exact sat_up_fold h.gf _ _ (fun v hv => by have := h.gf.order_in (List.mem_reverse.1 hv); omega) h.lens hs
 have s2 : Sat f (downP f (upP f p)) f.vars.length ns := by rw [e2]; exact sat_down_fold h.gf _ _ (fun v hv => by have := h.gf.order_in hv; omega) k1 s1
 unfold ofP
 split
 ·rename_i hr
  exfalso
  obtain ⟨v, hv, hr2⟩ := List.any_eq_true.1 hr
  have hvv := h.gf.order_in hv
  obtain ⟨m, rfl⟩ : ∃ m : Nat, v = m := ⟨v.toNat, by omega⟩
  obtain ⟨q1, q2⟩ := h.gf.vAt_pos (v := m) (by omega)
  have h3 := (s2.2 _ q1).1
  rw [q2] at h3
  unfold V5 at hr2
  rw [Bool.and_eq_true, decide_eq_true_eq, decide_eq_true_eq, Int.toNat_natCast] at hr2
  rw [show nd (downP f (upP f p)) m = [] from List.eq_nil_of_length_eq_zero hr2.2] at h3
  simp [V9] at h3
 ·exact s2
structure Fit (f : Forest) (x : Parts) : Prop where
 gf : GoodF f
 full : ∀ v : Nat, v < f.vars.length → par f v ≠ -1 → Full f x v
 root : ∀ v : Nat, v < f.vars.length → par f v = -1 → nd x v ≠ []
theorem findI_link {xs : List Link} {a b : Int} (h : 0 ≤ Ua xs a b) : ∃ m : Nat, Ua xs a b = m ∧ ∃ hm : m < xs.length, xs[m].a = a ∧ xs[m].b = b := by
 unfold Ua at *
 cases hf : xs.findIdx? (isAt a b) with
 | none => rw [hf] at h; simp at h
 | some i =>
  obtain ⟨hi, h1, _⟩ := List.findIdx?_eq_some_iff_getElem.1 hf
  unfold isAt at h1
  rw [Bool.and_eq_true, decide_eq_true_eq, decide_eq_true_eq] at h1
  exact ⟨i, rfl, hi, h1⟩
theorem goodL_ne {xs : List Link} (h : GoodL xs) : xs.Pairwise fun x y => x.a ≠ y.a ∨ x.b ≠ y.b :=
 (V6.1 h).2.imp fun {x y} h => by
  simp only [Vy, Bool.or_eq_true, Bool.and_eq_true, decide_eq_true_eq] at h
  omega
theorem pairwise_uniq {α : Type} {R : α → α → Prop} (sy : ∀ x y, R x y → R y x) {xs : List α} (h : xs.Pairwise R) {x y : α} (hx : x ∈ xs) (hy : y ∈ xs) (hne : ¬ R x y) : x = y := by
 obtain ⟨i, hi, rfl⟩ := List.getElem_of_mem hx
 obtain ⟨j, hj, rfl⟩ := List.getElem_of_mem hy
 rw [List.pairwise_iff_getElem] at h
 rcases Nat.lt_trichotomy i j with h1 | h1 | h1
 ·exact absurd (h i j hi hj h1) hne
 ·subst h1; rfl
 ·exact absurd (sy _ _ (h j i hj hi h1)) hne
theorem goodL_uniq {xs : List Link} (h : GoodL xs) {x y : Link} (hx : x ∈ xs) (hy : y ∈ xs) (ha : x.a = y.a) (hb : x.b = y.b) : x = y :=
 pairwise_uniq (R := fun x y => x.a ≠ y.a ∨ x.b ≠ y.b) (fun x y h => h.elim (fun h => .inl (Ne.symm h)) (fun h => .inr (Ne.symm h))) (goodL_ne h) hx hy (by rw [ha, hb]; simp)
theorem sublist_filter {α : Type} {xs ys : List α} {q : α → Bool} (h : xs.Sublist ys) : ys.Nodup → (∀ y ∈ ys, q y = true ↔ y ∈ xs) → xs = ys.filter q := by
 induction h with
 | slnil => intro _ _; rfl
 | @cons xs ys a hs ih =>
  intro hn hq
  obtain ⟨h1, h2⟩ := List.nodup_cons.1 hn
  have hqa : ¬ q a = true := fun h => h1 (hs.subset ((hq a (by simp)).1 h))
  rw [List.filter_cons_of_neg hqa]
  exact ih h2 fun y hy => hq y (by simp [hy])
 | @cons_cons xs ys a hs ih =>
  intro hn hq
  obtain ⟨h1, h2⟩ := List.nodup_cons.1 hn
  rw [List.filter_cons_of_pos ((hq a (by simp)).2 (by simp)), ← ih h2 fun y hy => ?_]
  rw [hq y (by simp [hy])]
  constructor
  ·intro h
   rcases List.mem_cons.1 h with h | h
   ·exact absurd (h ▸ hy) h1
   ·exact h
  ·intro h; simp [h]
theorem nd_uniq {f : Forest} {p : Parts} (h : GoodP f p) {v : Nat} (hv : v < f.vars.length) {x y : Link} (hx : x ∈ nd p v) (hy : y ∈ nd p v) (ha : x.a = y.a) : x = y :=
 goodL_uniq (h.ok v hv).1 hx hy ha (by rw [← h.nb v x hx, ← h.nb v y hy, ha])
theorem lk_uniq {f : Forest} {p : Parts} (h : GoodP f p) {v : Nat} (hv : v < f.vars.length) {x y : Link} (hx : x ∈ lk p v) (hy : y ∈ lk p v) (ha : x.a = y.a) (hb : x.b = y.b) : x = y := goodL_uniq (h.ok v hv).2.1 hx hy ha hb
theorem rows_mem {f : Forest} {p : Parts} (hg : GoodF f) {ns : List Int} (h : Sat f p f.vars.length ns) : ∃ r ∈ Ux f p, r.nodes = ns := by
 unfold Ux
 rw [hg.l1]
 exact sat_rows hg _ (Nat.le_refl _) ns h
theorem mem_rows {f : Forest} {p : Parts} (hg : GoodF f) {r : RowT} (h : r ∈ Ux f p) : Sat f p f.vars.length r.nodes := by
 unfold Ux at h
 rw [hg.l1] at h
 exact rows_sat hg _ (Nat.le_refl _) r h
theorem flatMap_sub {α β : Type} {g k : α → List β} {xs ys : List α} (h : xs.Sublist ys) : (∀ a ∈ xs, (g a).Sublist (k a)) → (xs.flatMap g).Sublist (ys.flatMap k) := by
 induction h with
 | slnil => intro _; simp
 | @cons xs ys a hs ih =>
  intro hg
  rw [List.flatMap_cons]
  exact (ih hg).trans (List.sublist_append_right _ _)
 | @cons_cons xs ys a hs ih =>
  intro hg
  rw [List.flatMap_cons, List.flatMap_cons]
  exact (hg a (by simp)).append (ih fun b hb => hg b (by simp [hb]))
theorem filterMap_sub {α β : Type} {g k : α → Option β} {xs ys : List α} (h : xs.Sublist ys) : (∀ a ∈ xs, ∀ b, g a = some b → k a = some b) → (xs.filterMap g).Sublist (ys.filterMap k) := by
 induction h with
 | slnil => intro _; simp
 | @cons xs ys a hs ih =>
  intro hg
  rw [List.filterMap_cons]
  split
  ·exact ih hg
  ·exact (ih hg).trans (List.sublist_cons_self _ _)
 | @cons_cons xs ys a hs ih =>
  intro hg
  have ih' := ih fun b hb => hg b (by simp [hb])
  rw [List.filterMap_cons]
  split
  ·rw [List.filterMap_cons]
   split
   ·exact ih'
   ·exact ih'.trans (List.sublist_cons_self _ _)
  ·rename_i b hb
   rw [List.filterMap_cons, hg a (by simp) b hb]
   exact ih'.cons_cons _
theorem rowOne_sub {f : Forest} {p x : Parts} (h : GoodP f p) (hs : Sub x p) {v : Nat} (hv : v < f.vars.length) {r : RowT} {y : Link} {r' : RowT} (h1 : Z5 f x v r y = some r') : Z5 f p v r y = some r' := by
 unfold Z5 at *
 by_cases hp : 0 ≤ par f v
 ·rw [if_pos hp] at h1 ⊢
  by_cases hx : 0 ≤ Vv f x v r y
  ·rw [if_pos hx] at h1
   obtain ⟨m, e1, hm, e2, e3⟩ := findI_link hx
   have hpx : 0 ≤ Vv f p v r y := findI_ge.2 ⟨_, (hs v).2.subset (List.getElem_mem hm), e2, e3⟩
   obtain ⟨m', e1', hm', e2', e3'⟩ := findI_link hpx
   rw [if_pos hpx]
   have e : (lk x v)[m] = (lk p v)[m'] := lk_uniq h hv ((hs v).2.subset (List.getElem_mem hm)) (List.getElem_mem hm') (by rw [e2, e2']) (by rw [e3, e3'])
   have g1 : (lk x v).getD (Vv f x v r y).toNat Zy = (lk x v)[m] := by rw [show Vv f x v r y = (m : Int) from e1, Int.toNat_natCast, List.getD_eq_getElem?_getD, List.getElem?_eq_getElem hm]; rfl
   have g2 : (lk p v).getD (Vv f p v r y).toNat Zy = (lk p v)[m'] := by rw [show Vv f p v r y = (m' : Int) from e1', Int.toNat_natCast, List.getD_eq_getElem?_getD, List.getElem?_eq_getElem hm']; rfl
   rw [g1, e] at h1
   rw [g2]
   exact h1
  ·rw [if_neg hx] at h1; cases h1
 ·rw [if_neg hp] at h1 ⊢; exact h1
theorem rows_sub {f : Forest} {p x : Parts} (h : GoodP f p) (hs : Sub x p) : ∀ i, i ≤ f.vars.length → (Zu f x i).Sublist (Zu f p i)
 | 0, _ => List.Sublist.refl _
 | i + 1, hi => flatMap_sub (rows_sub h hs i (by omega)) fun r _ => filterMap_sub (hs _).1 fun y _ b hb => rowOne_sub h hs (h.gf.vAt_lt (by omega)).1 hb
theorem Uj {f : Forest} {p : Parts} {v : Nat} {r r' : RowT} {x : Link} (h : Z5 f p v r x = some r') : r'.nodes = r.nodes ++ [x.a] := by
 unfold Z5 at h
 split at h
 ·split at h
  ·injection h with h; subst h; rfl
  ·cases h
 ·injection h with h; subst h; rfl
theorem rows_ne {f : Forest} {p : Parts} (h : GoodP f p) : ∀ i, i ≤ f.vars.length → (Zu f p i).Pairwise fun r s => r.nodes ≠ s.nodes
 | 0, _ => by simp [Zu]
 | i + 1, hi => by
  show ((Zu f p i).flatMap _).Pairwise _
  rw [List.pairwise_flatMap]
  refine ⟨fun r hr => ?_, (rows_ne h i (by omega)).imp_of_mem fun {a b} ha hb hne x hx y hy e => ?_⟩
  ·rw [List.pairwise_filterMap]
   refine (goodL_ne (h.ok _ (h.gf.vAt_lt (s := i) (by omega)).1).1).imp_of_mem fun {x y} hx hy hne b hb b' hb' e => ?_
   rw [Uj hb, Uj hb'] at e
   have e2 : x.a = y.a := by have := (List.append_inj' e rfl).2; simpa using this
   have n1 := h.nb _ x hx
   have n2 := h.nb _ y hy
   rcases hne with hne | hne
   ·exact hne e2
   ·exact hne (by rw [← n1, ← n2]; exact e2)
  ·obtain ⟨_, _, h1⟩ := List.mem_filterMap.1 hx
   obtain ⟨_, _, h2⟩ := List.mem_filterMap.1 hy
   rw [Uj h1, Uj h2] at e
   exact hne (List.append_inj' e rfl).1
theorem rows_same {f : Forest} {p : Parts} (h : GoodP f p) : Ux f (ofP f p) = Ux f p := by
 obtain ⟨k1, k2, k3, k4⟩ := ofP_all h
 have hsub : (Ux f (ofP f p)).Sublist (Ux f p) := by unfold Ux; exact rows_sub h k2 _ (by rw [h.gf.l1]; exact Nat.le_refl _)
 have hne : (Ux f p).Pairwise fun r s => r.nodes ≠ s.nodes := by unfold Ux; exact rows_ne h _ (by rw [h.gf.l1]; exact Nat.le_refl _)
 have := sublist_filter (q := fun _ => true) hsub (hne.imp fun {a b} h e => h (by rw [e])) fun r hr => ⟨fun _ => ?_, fun _ => rfl⟩
 ·rw [this]; simp
 ·obtain ⟨r', hr', e⟩ := rows_mem h.gf (sat_ofP h (mem_rows h.gf hr))
  have : r = r' := pairwise_uniq (fun _ _ h => Ne.symm h) hne hr (hsub.subset hr') (by rw [e]; simp)
  rw [this]; exact hr'

def Vh (f : Forest) (x : Parts) (v : Nat) (above : Int) (y : Link) : Option Link :=
 if 0 ≤ par f v then
  if 0 ≤ Ua (lk x v) above y.a then some ⟨above, y.a, y.cost + ((lk x v).getD (Ua (lk x v) above y.a).toNat Zy).cost, Zi y.n ((lk x v).getD (Ua (lk x v) above y.a).toNat Zy).n⟩ else none
 else some y
def groupR (f : Forest) (x : Parts) (i above : Int) : List Link := if 0 ≤ i ∧ i < f.order.length then (nd x (Vj f i.toNat)).filterMap (Vh f x (Vj f i.toNat) above) else []
theorem timesI_comm (a b : Int) : Zi a b = Zi b a := by unfold Zi; rw [Int.mul_comm]
theorem nodeOf_or (ns : List Link) (b : Int) : nodeOf ns b ∈ ns ∨ nodeOf ns b = Zy := by
 unfold nodeOf
 cases h : ns.find? (fun y => decide (y.a = b)) with
 | none => exact .inr rfl
 | some y => exact .inl (List.mem_of_find?_eq_some h)
theorem nodeOf_mem {ns : List Link} {y : Link} (hy : y ∈ ns) (hu : ∀ x ∈ ns, ∀ z ∈ ns, x.a = z.a → x = z) : nodeOf ns y.a = y := by
 unfold nodeOf
 cases h : ns.find? (fun z => decide (z.a = y.a)) with
 | none =>
  rw [List.find?_eq_none] at h
  have := h y hy
  simp at this
 | some z =>
  have h1 := List.find?_some h
  have h2 := List.mem_of_find?_eq_some h
  exact hu z h2 y hy (of_decide_eq_true h1)
theorem rise_ext : ∀ {xs ys : List Link}, xs.Pairwise (fun x y => x.b < y.b) → ys.Pairwise (fun x y => x.b < y.b) → (∀ l, l ∈ xs ↔ l ∈ ys) → xs = ys
 | [], [], _, _, _ => rfl
 | [], y :: ys, _, _, h => by have := (h y).2 (by simp); simp at this
 | x :: xs, [], _, _, h => by have := (h x).1 (by simp); simp at this
 | x :: xs, y :: ys, h1, h2, h => by
  obtain ⟨a1, a2⟩ := List.pairwise_cons.1 h1
  obtain ⟨b1, b2⟩ := List.pairwise_cons.1 h2
  have e : x = y := by
   have hx := (h x).1 (by simp)
   have hy := (h y).2 (by simp)
   rcases List.mem_cons.1 hx with hx | hx
   ·exact hx
   ·rcases List.mem_cons.1 hy with hy | hy
    ·exact hy.symm
    ·have := a1 y hy
     have := b1 x hx
     omega
  subst e
  rw [rise_ext a2 b2 fun l => ?_]
  constructor
  ·intro hl
   rcases List.mem_cons.1 ((h l).1 (List.mem_cons_of_mem _ hl)) with e | e
   ·subst e; have := a1 l hl; omega
   ·exact e
  ·intro hl
   rcases List.mem_cons.1 ((h l).2 (List.mem_cons_of_mem _ hl)) with e | e
   ·subst e; have := b1 l hl; omega
   ·exact e
theorem nd_rise {f : Forest} {x : Parts} (h : GoodP f x) {v : Nat} (hv : v < f.vars.length) : (nd x v).Pairwise fun y z => y.b < z.b :=
 List.Pairwise.imp_of_mem (R := fun y z => y.a < z.a) (fun {y z} hy hz hl => by have := (h.ok v hv).2.2.1 y hy; have := (h.ok v hv).2.2.1 z hz; omega) (goodL_strict (h.ok v hv).1 (h.ok v hv).2.2.1)
theorem tree_par {f : Forest} (x : Parts) (hg : GoodF f) {i : Nat} (hi : i < f.vars.length) : (Zg f x).parent.getD i 0 = atI f.order (par f (Vj f i)) := by
 rw [List.getD_eq_getElem?_getD, (treeOf_at x (by rw [hg.l1]; exact hi)).2.1]; rfl
theorem tree_links {f : Forest} (x : Parts) (hg : GoodF f) {i : Nat} (hi : i < f.vars.length) : (Zg f x).links.getD i [] = Zc f x (Vj f i) := by
 rw [List.getD_eq_getElem?_getD, (treeOf_at x (by rw [hg.l1]; exact hi)).2.2]; rfl
theorem at_root {f : Forest} (hg : GoodF f) {i : Nat} (hi : i < f.vars.length) : (par f (Vj f i) = -1 ∧ atI f.order (par f (Vj f i)) = -1) ∨ (0 ≤ par f (Vj f i) ∧ 0 ≤ atI f.order (par f (Vj f i)) ∧ atI f.order (par f (Vj f i)) = Uc f (par f (Vj f i)) ∧ Uc f (par f (Vj f i)) < i) := by
 have hge := hg.parent_ge (hg.vAt_lt hi).1
 change -1 ≤ par f (Vj f i) ∧ par f (Vj f i) < _ at hge
 by_cases h : par f (Vj f i) = -1
 ·refine .inl ⟨h, ?_⟩
  rw [h]
  exact atI_none fun hm => by have := hg.order_in hm; omega
 ·have h0 : 0 ≤ par f (Vj f i) := by omega
  obtain ⟨p1, p2⟩ := hg.pos_par hi h0
  have hm : par f (Vj f i) ∈ f.order := by
   have := hg.in_order (v := (par f (Vj f i)).toNat) (by omega)
   rwa [Int.toNat_of_nonneg h0] at this
  obtain ⟨q, hq, _⟩ := atI_take (i := f.order.length) (by rw [List.take_length]; exact hm)
  exact .inr ⟨h0, by omega, by unfold Uc; omega, p1⟩
theorem place_row {f : Forest} {x : Parts} (hG : GoodP f x) {i : Nat} (hi : i < f.vars.length) (above : Int) : (Zg f x).row i above = if par f (Vj f i) = -1 then nd x (Vj f i) else ((lk x (Vj f i)).map (Ug (nd x (Vj f i)))).filter fun l => decide (l.a = above) := by
 unfold TreeT.row
 rw [tree_par x hG.gf hi, tree_links x hG.gf hi]
 unfold Zc
 rcases at_root hG.gf hi with ⟨h1, h2⟩ | ⟨h1, h2, _⟩
 ·rw [if_pos h2, if_pos h1, if_pos h1]
 ·rw [if_neg (by omega), if_neg (by omega), if_neg (by omega)]
theorem row_rise {f : Forest} {x : Parts} (hG : GoodP f x) {i : Nat} (hi : i < f.vars.length) (above : Int) : ((Zg f x).row i above).Pairwise fun y z => y.b < z.b := by
 have hv := (hG.gf.vAt_lt hi).1
 rw [place_row hG hi]
 split
 ·exact nd_rise hG hv
 ·have h1 := (V6.1 (hG.ok _ hv).2.1).2
  refine List.Pairwise.imp_of_mem (R := fun y z => Vy y z = true) (fun {y z} hy hz hl => ?_) ((List.Pairwise.map (R := fun y z => Vy y z = true) (Ug (nd x (Vj f i))) (fun a b h => h) h1).filter _)
  have e1 := of_decide_eq_true (List.mem_filter.1 hy).2
  have e2 := of_decide_eq_true (List.mem_filter.1 hz).2
  simp only [Vy, Bool.or_eq_true, Bool.and_eq_true, decide_eq_true_eq] at hl
  omega
theorem weigh_ok {f : Forest} {x : Parts} (hch : Cheap x) {v : Nat} {l : Link} (hl : l ∈ lk x v) : 0 ≤ (Ug (nd x v) l).cost ∧ (Ug (nd x v) l).cost ≤ 2000000000 ∧ 0 ≤ (Ug (nd x v) l).n := by
 obtain ⟨a1, a2, a3⟩ := hch.links v l hl
 have hb : 0 ≤ (nodeOf (nd x v) l.b).cost ∧ (nodeOf (nd x v) l.b).cost ≤ 1000000000 ∧ 0 ≤ (nodeOf (nd x v) l.b).n := by
  rcases nodeOf_or (nd x v) l.b with h | h
  ·exact hch.nodes v _ h
  ·rw [h]; decide
 exact ⟨by show 0 ≤ _ + _; omega, by show _ + _ ≤ _; omega, (Uk a3 hb.2.2).1⟩
theorem good_tree {f : Forest} {x : Parts} (hG : GoodP f x) (hs : Small f x) (hch : Cheap x) (hv : f.vars.length ≤ 1000) : GoodT (Zg f x) := by
 obtain ⟨t1, t2, t3⟩ := Ut (f := f) x
 have hol : f.order.length = f.vars.length := hG.gf.l1
 have mem : ∀ l ∈ (Zg f x).links, ∃ v, l = Zc f x v := fun l hl => by
  obtain ⟨v, _, rfl⟩ := List.mem_map.1 hl
  exact ⟨_, rfl⟩
 refine ⟨by omega, by omega, by omega, fun l hl => ?_, fun i hi => ?_, fun i above => ?_, fun l hl y hy => ?_⟩
 ·obtain ⟨v, rfl⟩ := mem l hl
  unfold Zc
  split
  ·exact V2 hs.s5 v
  ·rw [List.length_map]; exact V2 hs.s6 v
 ·rw [tree_par x hG.gf (by omega)]
  rcases at_root hG.gf (i := i) (by omega) with ⟨_, h2⟩ | ⟨_, h2, h3, h4⟩
  ·exact .inl h2
  ·exact .inr ⟨h2, by omega⟩
 ·unfold TreeT.group
  split
  ·exact row_rise hG (by omega) _
  ·exact List.Pairwise.nil
 ·obtain ⟨v, rfl⟩ := mem l hl
  unfold Zc at hy
  split at hy
  ·obtain ⟨a1, a2, a3⟩ := hch.nodes v y hy
   exact ⟨a1, by omega, a3⟩
  ·obtain ⟨l, hl, rfl⟩ := List.mem_map.1 hy
   exact weigh_ok (f := f) hch hl
theorem filterMap_id {α : Type} {g : α → Option α} : ∀ {xs : List α}, (∀ y ∈ xs, g y = some y) → xs.filterMap g = xs
 | [], _ => rfl
 | x :: xs, h => by rw [List.filterMap_cons, h x (by simp)]; simp only; rw [filterMap_id fun y hy => h y (by simp [hy])]
theorem group_same {f : Forest} {x : Parts} (hG : GoodP f x) (hF : ∀ v : Nat, v < f.vars.length → par f v ≠ -1 → Full f x v) (i above : Int) : (Zg f x).group i above = groupR f x i above := by
 have hol : f.order.length = f.vars.length := hG.gf.l1
 unfold TreeT.group groupR
 rw [(Ut x).1]
 split
 ·rename_i hi
  have hi' : i.toNat < f.vars.length := by omega
  have hv := (hG.gf.vAt_lt hi').1
  rw [place_row hG hi']
  obtain ⟨w, hw⟩ : ∃ w, w = Vj f i.toNat := ⟨_, rfl⟩
  rw [← hw] at hv
  rw [← hw]
  have hge := hG.gf.parent_ge hv
  change -1 ≤ par f w ∧ _ at hge
  by_cases hp : par f w = -1
  ·rw [if_pos hp]
   have : ∀ y ∈ nd x w, Vh f x w above y = some y := fun y _ => by unfold Vh; rw [if_neg (by omega)]
   exact (filterMap_id this).symm
  ·rw [if_neg hp]
   have hful := hF w hv hp
   have huq : ∀ y ∈ nd x w, ∀ z ∈ nd x w, y.a = z.a → y = z := fun y hy z hz e => nd_uniq hG hv hy hz e
   have hr := row_rise hG hi' above
   rw [place_row hG hi', ← hw, if_neg hp] at hr
   have hone : ∀ y ∈ nd x w, ∀ m ∈ lk x w, m.a = above → m.b = y.a → Vh f x w above y = some (Ug (nd x w) m) := fun y hy m hm ha hb => by
    unfold Vh
    have hpos : 0 ≤ Ua (lk x w) above y.a := findI_ge.2 ⟨m, hm, ha, hb⟩
    obtain ⟨j, hj, hjl, hja, hjb⟩ := findI_link hpos
    have em : (lk x w)[j] = m := lk_uniq hG hv (List.getElem_mem hjl) hm (by omega) (by omega)
    rw [if_pos (by omega), if_pos hpos, hj, Int.toNat_natCast, List.getD_eq_getElem?_getD, List.getElem?_eq_getElem hjl, em]
    unfold Ug
    rw [hb, nodeOf_mem hy huq]
    simp only [Option.getD_some, Option.some.injEq]
    refine Link.ext' ha.symm rfl ?_ (timesI_comm _ _)
    show _ + _ = _ + _
    omega
   refine rise_ext hr ?_ fun l => ?_
   ·have h1 := goodL_strict (hG.ok w hv).1 (hG.ok w hv).2.2.1
    refine List.Pairwise.filterMap _ (R := fun y z => y.a < z.a) (fun a a' h b hb b' hb' => ?_) h1
    have key : ∀ (y l : Link), Vh f x w above y = some l → l.b = y.a := fun y l h => by
     unfold Vh at h
     rw [if_pos (by omega)] at h
     split at h
     ·injection h with h; rw [← h]
     ·cases h
    rw [key _ _ hb, key _ _ hb']; exact h
   ·rw [List.mem_filter, List.mem_map, List.mem_filterMap]
    constructor
    ·rintro ⟨⟨m, hm, rfl⟩, ha⟩
     have ha : m.a = above := of_decide_eq_true ha
     obtain ⟨_, he⟩ := hful.ends m hm
     obtain ⟨y, hy, hya⟩ := List.mem_map.1 he
     exact ⟨y, hy, hone y hy m hm ha hya.symm⟩
    ·rintro ⟨y, hy, h⟩
     have hpos : 0 ≤ Ua (lk x w) above y.a := by
      unfold Vh at h
      rw [if_pos (by omega)] at h
      by_cases hh : 0 ≤ Ua (lk x w) above y.a
      ·exact hh
      ·rw [if_neg hh] at h; cases h
     obtain ⟨m, hm, ha, hb⟩ := findI_ge.1 hpos
     rw [hone y hy m hm ha hb] at h
     injection h with h
     exact ⟨⟨m, hm, h⟩, by rw [← h]; exact decide_eq_true ha⟩
 ·rfl
theorem findB_iff {g : List Link} (hr : g.Pairwise fun x y => x.b < y.b) {node : Int} {z : Link} : Z0 g node = some z ↔ z ∈ g ∧ z.b = node := by
 constructor
 ·intro h
  unfold Z0 at h
  exact ⟨List.mem_of_find?_eq_some h, of_decide_eq_true (List.find?_some (p := fun (l : Link) => decide (l.b = node)) h)⟩
 ·intro ⟨h1, h2⟩
  obtain ⟨i, hi, rfl⟩ := List.getElem_of_mem h1
  refine findB_some hi h2 fun j hj hl e => ?_
  have := List.pairwise_iff_getElem.1 hr j i hl hi hj
  omega
theorem row_group {f : Forest} {x : Parts} {v : Nat} {r : RowT} {y : Link} {above : Int} (h : 0 ≤ par f v → above = r.nodes.getD (atI f.order (par f v)).toNat 0) :
  Z5 f x v r y = (Vh f x v above y).map fun z => ⟨r.nodes ++ [y.a], r.cost + z.cost, Zi r.n z.n⟩ := by
 unfold Z5 Vh Vv
 by_cases h1 : 0 ≤ par f v
 ·rw [if_pos h1, if_pos h1, ← h h1]
  by_cases h2 : 0 ≤ Ua (lk x v) above y.a
  ·rw [if_pos h2, if_pos h2]; rfl
  ·rw [if_neg h2, if_neg h2]; rfl
 ·rw [if_neg h1, if_neg h1]; rfl
theorem groupOne_b {f : Forest} {x : Parts} (hG : GoodP f x) {v : Nat} (hv : v < f.vars.length) {above : Int} {y z : Link} (hy : y ∈ nd x v) (h : Vh f x v above y = some z) : z.b = y.a := by
 unfold Vh at h
 split at h
 ·split at h
  ·injection h with h; rw [← h]
  ·cases h
 ·injection h with h
  rw [← h]; exact ((hG.ok v hv).2.2.1 y hy).symm
theorem group_rise {f : Forest} {x : Parts} (hG : GoodP f x) (i above : Int) : ((Zg f x).group i above).Pairwise fun y z => y.b < z.b := by
 unfold TreeT.group
 split
 ·rename_i h
  have := (Ut (f := f) x).1
  have := hG.gf.l1
  exact row_rise hG (by omega) _
 ·exact List.Pairwise.nil
theorem above_of {f : Forest} {x : Parts} (hG : GoodP f x) {i : Nat} (hi : i < f.vars.length) {ns : List Int} : Yp (Zg f x) ns i = if par f (Vj f i) = -1 then -1 else ns.getD (Uc f (par f (Vj f i))) 0 := by
 unfold Yp
 rw [tree_par x hG.gf hi]
 rcases at_root hG.gf hi with ⟨h1, h2⟩ | ⟨h1, h2, h3, h4⟩
 ·rw [if_pos h2, if_pos h1]
 ·rw [if_neg (by omega), if_neg (by omega), h3, Int.toNat_natCast]
theorem acc_rows {f : Forest} {x : Parts} (hG : GoodP f x) (hF : ∀ v : Nat, v < f.vars.length → par f v ≠ -1 → Full f x v) {ns : List Int} (hl : ns.length = f.vars.length) : ∀ i, i ≤ f.vars.length → ∀ c m : Int, Z4 (Zg f x) ns i = some (c, m) ↔ (⟨ns.take i, c, m⟩ : RowT) ∈ Zu f x i
 | 0, _, c, m => by
  simp only [Z4, Zu, List.take_zero, List.mem_singleton, Option.some.injEq, Prod.mk.injEq, RowT.mk.injEq, true_and]
  constructor
  ·rintro ⟨rfl, rfl⟩; exact ⟨rfl, rfl⟩
  ·rintro ⟨rfl, rfl⟩; exact ⟨rfl, rfl⟩
 | i + 1, hi, c, m => by
  have ih := acc_rows hG hF hl i (by omega)
  have hv := (hG.gf.vAt_lt (s := i) (by omega)).1
  have hin : (0 : Int) ≤ (i : Int) ∧ (i : Int) < f.order.length := ⟨by omega, by have := hG.gf.l1; omega⟩
  have hgrp : (Zg f x).group (i : Int) (Yp (Zg f x) ns i) = (nd x (Vj f i)).filterMap (Vh f x (Vj f i) (Yp (Zg f x) ns i)) := by
   rw [group_same hG hF]
   unfold groupR
   rw [if_pos hin, Int.toNat_natCast]
  have hri := group_rise hG (i : Int) (Yp (Zg f x) ns i)
  have habv : ∀ r : RowT, r.nodes = ns.take i → 0 ≤ par f (Vj f i) → Yp (Zg f x) ns i = r.nodes.getD (atI f.order (par f (Vj f i))).toNat 0 := fun r hr hp => by
   rw [above_of hG (by omega), if_neg (by omega)]
   rcases at_root hG.gf (i := i) (by omega) with ⟨h1, _⟩ | ⟨_, h2, h3, h4⟩
   ·omega
   ·rw [hr, h3, Int.toNat_natCast, List.getD_eq_getElem?_getD, List.getD_eq_getElem?_getD, List.getElem?_take, if_pos h4]
  have hns : ns.take (i + 1) = ns.take i ++ [ns.getD i 0] := by rw [Zf (by omega)]; exact (Y9 (by omega)).symm
  show ((Z4 (Zg f x) ns i).bind fun cn => (Z0 ((Zg f x).group i (Yp (Zg f x) ns i)) (ns.getD i 0)).map fun y => (cn.1 + y.cost, Zi cn.2 y.n)) = some (c, m) ↔ _ ∈ (Zu f x i).flatMap fun r => (nd x (Vj f i)).filterMap (Z5 f x (Vj f i) r)
  rw [List.mem_flatMap]
  constructor
  ·intro h
   obtain ⟨⟨c0, m0⟩, h1, h2⟩ := Option.bind_eq_some_iff.1 h
   obtain ⟨z, h3, h4⟩ := Option.map_eq_some_iff.1 h2
   obtain ⟨h5, h6⟩ := (findB_iff hri).1 h3
   rw [hgrp] at h5
   obtain ⟨y, hy, h7⟩ := List.mem_filterMap.1 h5
   have hya := groupOne_b hG hv hy h7
   refine ⟨_, (ih c0 m0).1 h1, List.mem_filterMap.2 ⟨y, hy, ?_⟩⟩
   rw [row_group (above := Yp (Zg f x) ns i) (habv _ rfl), h7, hns]
   simp only [Prod.mk.injEq] at h4
   simp only [Option.map_some, Option.some.injEq, RowT.mk.injEq]
   exact ⟨by rw [← hya, h6], h4.1, h4.2⟩
  ·rintro ⟨r, hr, hm⟩
   obtain ⟨y, hy, h7⟩ := List.mem_filterMap.1 hm
   have hnod := Uj h7
   have hnod : ns.take (i + 1) = r.nodes ++ [y.a] := hnod
   rw [hns] at hnod
   obtain ⟨e1, e2⟩ := List.append_inj' hnod rfl
   have e2 : ns.getD i 0 = y.a := by simpa using e2
   rw [row_group (above := Yp (Zg f x) ns i) (habv r e1.symm)] at h7
   obtain ⟨z, h8, h9⟩ := Option.map_eq_some_iff.1 h7
   simp only [RowT.mk.injEq] at h9
   have hmem : (⟨ns.take i, r.cost, r.n⟩ : RowT) ∈ Zu f x i := by rw [e1]; exact hr
   have h1 := (ih r.cost r.n).2 hmem
   have hz := groupOne_b hG hv hy h8
   have h3 : Z0 ((Zg f x).group i (Yp (Zg f x) ns i)) (ns.getD i 0) = some z := (findB_iff hri).2 ⟨by rw [hgrp]; exact List.mem_filterMap.2 ⟨y, hy, h8⟩, by rw [hz, e2]⟩
   rw [h1]
   simp only [Option.bind_some, h3, Option.map_some, Option.some.injEq, Prod.mk.injEq]
   exact ⟨h9.2.1, h9.2.2⟩
end Go.Proofs.YtmakkmcjocjgmaaGreat.Am
namespace Go.Proofs.YtmakkmcjocjgmaaGreat.Am
open Go Go.RowKit
set_option maxRecDepth 100000
set_option linter.unusedVariables false
set_option linter.unusedSimpArgs false

structure Z6 where
 nodes : List Int
 back : Bool
 over : Bool
 steps : Int
def Vm (T : TreeT) (ns : List Int) : Option RowT := if ns.length = T.vars.length then (Z4 T ns T.vars.length).map fun cn => ⟨ns, cn.1, cn.2⟩ else none
def onS (T : TreeT) (S : Z6) : Z6 × Option RowT :=
 if S.nodes.length = T.vars.length then (⟨S.nodes, true, S.over, S.steps⟩, Vm T S.nodes)
 else match T.group S.nodes.length (Yp T S.nodes S.nodes.length) with
  | [] => (⟨S.nodes, true, S.over, S.steps⟩, none)
  | l :: _ => if S.nodes.length + 1 < T.vars.length then (⟨S.nodes ++ [l.b], S.back, S.over, S.steps⟩, none) else (⟨S.nodes ++ [l.b], true, S.over, S.steps⟩, Vm T (S.nodes ++ [l.b]))
def U0 (g : List Link) (last : Int) : Option Link := g.find? fun l => decide (last < l.b)
def againS (T : TreeT) (S : Z6) : Z6 × Option RowT :=
 if S.nodes.length = 0 then (⟨S.nodes, S.back, true, S.steps⟩, none)
 else match U0 (T.group ((S.nodes.length - 1 : Nat) : Int) (Yp T S.nodes (S.nodes.length - 1))) (S.nodes.getD (S.nodes.length - 1) 0) with
  | none => (⟨S.nodes.take (S.nodes.length - 1), S.back, S.over, S.steps⟩, none)
  | some l => if S.nodes.length < T.vars.length then (⟨S.nodes.take (S.nodes.length - 1) ++ [l.b], false, S.over, S.steps⟩, none) else (⟨S.nodes.take (S.nodes.length - 1) ++ [l.b], S.back, S.over, S.steps⟩, Vm T (S.nodes.take (S.nodes.length - 1) ++ [l.b]))
def Ue (T : TreeT) (S : Z6) : Z6 × Option RowT :=
 if S.over = true then (S, none) else if S.back = true then againS T ⟨S.nodes, S.back, S.over, S.steps + 1⟩ else onS T ⟨S.nodes, S.back, S.over, S.steps + 1⟩
def Vc (T : TreeT) : Nat → List Int → List (List Int)
 | 0, ns => [ns]
 | d + 1, ns => (T.group ns.length (Yp T ns ns.length)).flatMap fun l => Vc T d (ns ++ [l.b])
def aftK (T : TreeT) (ns : List Int) : Nat → List (List Int)
 | 0 => []
 | i + 1 => ((T.group i (Yp T ns i)).filter fun l => decide (ns.getD i 0 < l.b)).flatMap (fun l => Vc T (T.vars.length - (i + 1)) (ns.take i ++ [l.b])) ++ aftK T ns i
def Vl (T : TreeT) (S : Z6) : List (List Int) := if S.over = true then [] else if S.back = true then aftK T S.nodes S.nodes.length else Vc T (T.vars.length - S.nodes.length) S.nodes ++ aftK T S.nodes S.nodes.length
def Path (T : TreeT) (ns : List Int) : Prop := ∀ i, i < ns.length → ∃ l ∈ T.group i (Yp T ns i), l.b = ns.getD i 0
theorem Vs {ns : List Int} {i k : Nat} (h : i < k) : (ns.take k).getD i 0 = ns.getD i 0 := by
 rw [List.getD_eq_getElem?_getD, List.getD_eq_getElem?_getD, List.getElem?_take, if_pos h]
theorem Uw {ns ms : List Int} {i : Nat} (h : i < ns.length) : (ns ++ ms).getD i 0 = ns.getD i 0 := by
 rw [List.getD_eq_getElem?_getD, List.getD_eq_getElem?_getD, List.getElem?_append_left h]
section
variable {T : TreeT} (hT : GoodT T)
include hT
theorem Z9 {ns ms : List Int} {i : Nat} (hi : i < T.vars.length) (h : ∀ j, j < i → ns.getD j 0 = ms.getD j 0) : Yp T ns i = Yp T ms i := by
 unfold Yp
 rcases hT.par i hi with h1 | h1
 ·rw [if_pos h1, if_pos h1]
 ·rw [if_neg (by omega), if_neg (by omega), h _ (by omega)]
theorem aft_ext {ns ms : List Int} : ∀ {i : Nat}, i ≤ T.vars.length → (∀ j, j < i → ns.getD j 0 = ms.getD j 0) → i ≤ ns.length → i ≤ ms.length → aftK T ns i = aftK T ms i
 | 0, _, _, _, _ => rfl
 | i + 1, hi, h, h1, h2 => by
  have e1 := Z9 hT (i := i) (by omega) (fun j hj => h j (by omega))
  have e2 : ns.take i = ms.take i := by
   apply List.ext_getElem (by rw [List.length_take, List.length_take]; omega)
   intro j ha hb
   rw [List.length_take] at ha
   have := h j (by omega)
   rw [List.getElem_take, List.getElem_take]
   rwa [Zf (by omega), Zf (by omega)] at this
  show _ ++ aftK T ns i = _ ++ aftK T ms i
  rw [aft_ext (by omega) (fun j hj => h j (by omega)) (by omega) (by omega), e1, e2, h i (by omega)]
theorem path_take {ns : List Int} {k : Nat} (h : Path T ns) (hl : ns.length ≤ T.vars.length) : Path T (ns.take k) := fun i hi => by
 rw [List.length_take] at hi
 obtain ⟨l, h1, h2⟩ := h i (by omega)
 rw [Z9 hT (ns := ns) (ms := ns.take k) (by omega) (fun j hj => (Vs (by omega)).symm)] at h1
 exact ⟨l, h1, by rw [h2, Vs (by omega)]⟩
theorem path_snoc {ns : List Int} (h : Path T ns) (hl : ns.length < T.vars.length) {l : Link} (hm : l ∈ T.group ns.length (Yp T ns ns.length)) : Path T (ns ++ [l.b]) := fun i hi => by
 rw [List.length_append, List.length_singleton] at hi
 have e : ∀ {i}, i ≤ ns.length → Yp T (ns ++ [l.b]) i = Yp T ns i := fun {i} hi => Z9 hT (by omega) (fun j hj => Uw (by omega))
 rw [e (by omega)]
 by_cases h1 : i < ns.length
 ·obtain ⟨l2, h3, h4⟩ := h i h1
  exact ⟨l2, h3, by rw [h4, Uw h1]⟩
 ·obtain rfl : i = ns.length := by omega
  exact ⟨l, hm, by rw [Uq]⟩
theorem aft_snoc {ns : List Int} (hl : ns.length < T.vars.length) (x : Int) : aftK T (ns ++ [x]) (ns.length + 1) = ((T.group ns.length (Yp T ns ns.length)).filter fun l => decide (x < l.b)).flatMap (fun l => Vc T (T.vars.length - (ns.length + 1)) (ns ++ [l.b])) ++ aftK T ns ns.length := by
 show _ ++ aftK T (ns ++ [x]) ns.length = _
 rw [aft_ext hT (ns := ns ++ [x]) (ms := ns) (by omega) (fun j hj => Uw hj) (by simp) (Nat.le_refl _), Z9 hT (ns := ns ++ [x]) (ms := ns) hl (fun j hj => Uw hj), Uq, List.take_left]
theorem ext_cons {ns : List Int} (hl : ns.length < T.vars.length) {l : Link} {ls : List Link} (hg : T.group ns.length (Yp T ns ns.length) = l :: ls) :
  Vc T (T.vars.length - ns.length) ns ++ aftK T ns ns.length = Vc T (T.vars.length - (ns.length + 1)) (ns ++ [l.b]) ++ aftK T (ns ++ [l.b]) (ns.length + 1) := by
 have hs := hT.sort ns.length (Yp T ns ns.length)
 rw [hg] at hs
 obtain ⟨h1, _⟩ := List.pairwise_cons.1 hs
 have e : T.vars.length - ns.length = (T.vars.length - (ns.length + 1)) + 1 := by omega
 rw [aft_snoc hT hl, e, Vc, hg, List.flatMap_cons, List.filter_cons]
 rw [if_neg (by simp), List.filter_eq_self.2 (fun x hx => decide_eq_true (h1 x hx)), List.append_assoc]
omit hT in
theorem next_filter {g : List Link} (hs : g.Pairwise fun x y => x.b < y.b) {x : Int} {l : Link} (h : U0 g x = some l) : g.filter (fun y => decide (x < y.b)) = l :: g.filter fun y => decide (l.b < y.b) := by
 induction g with
 | nil => cases h
 | cons y g ih =>
  obtain ⟨h1, h2⟩ := List.pairwise_cons.1 hs
  unfold U0 at h
  rw [List.find?_cons] at h
  rw [List.filter_cons, List.filter_cons]
  by_cases hy : x < y.b
  ·rw [decide_eq_true hy] at h
   injection h with h
   subst h
   rw [if_pos (decide_eq_true hy), if_neg (by simp)]
   congr 1
   refine List.filter_congr fun z hz => decide_eq_decide.2 ⟨fun _ => h1 z hz, fun _ => by have := h1 z hz; omega⟩
  ·rw [decide_eq_false hy] at h
   have hm := List.mem_of_find?_eq_some h
   have := h1 l hm
   rw [if_neg (by simpa using hy), if_neg (by simp; omega)]
   exact ih h2 h
omit hT in
theorem next_none {g : List Link} {x : Int} (h : U0 g x = none) : g.filter (fun y => decide (x < y.b)) = [] := by
 unfold U0 at h
 rw [List.find?_eq_none] at h
 exact List.filter_eq_nil_iff.2 h
structure ValS (T : TreeT) (S : Z6) : Prop where
 len : S.nodes.length ≤ T.vars.length
 path : Path T S.nodes
theorem row_path_le {ns : List Int} (hl : ns.length ≤ T.vars.length) (hp : Path T ns) : ∀ i, i ≤ ns.length → (Z4 T ns i).isSome = true
 | 0, _ => rfl
 | i + 1, hi => by
  have ih := row_path_le hl hp i (by omega)
  obtain ⟨cn, hcn⟩ := Option.isSome_iff_exists.1 ih
  obtain ⟨l, h1, h2⟩ := hp i (by omega)
  have hf := (findB_iff (hT.sort i (Yp T ns i))).2 ⟨h1, h2⟩
  show ((Z4 T ns i).bind _).isSome = true
  rw [hcn]
  simp only [Option.bind_some, hf, Option.map_some, Option.isSome_some]
theorem rowT_path {ns : List Int} (hl : ns.length = T.vars.length) (hp : Path T ns) : ∃ r, Vm T ns = some r ∧ r.nodes = ns := by
 obtain ⟨cn, hcn⟩ := Option.isSome_iff_exists.1 (row_path_le hT (by omega) hp T.vars.length (by omega))
 exact ⟨⟨ns, cn.1, cn.2⟩, by unfold Vm; rw [if_pos hl, hcn]; rfl, rfl⟩
def Tells (T : TreeT) (S S' : Z6) (o : Option RowT) : Prop := ValS T S' ∧ match o with
 | some r => Vl T S = r.nodes :: Vl T S' ∧ Vm T r.nodes = some r
 | none => Vl T S = Vl T S'
omit hT in
theorem tells_row {S S' : Z6} {ns : List Int} (hv : ValS T S') (hr : ∃ r, Vm T ns = some r ∧ r.nodes = ns) (h : Vl T S = ns :: Vl T S') : Tells T S S' (Vm T ns) := by
 obtain ⟨r, h1, h2⟩ := hr
 refine ⟨hv, ?_⟩
 rw [h1]
 subst h2
 exact ⟨h, h1⟩
theorem step_tells {S : Z6} (hv : ValS T S) : Tells T S (Ue T S).1 (Ue T S).2 := by
 obtain ⟨hl, hp⟩ := hv
 unfold Ue
 by_cases ho : S.over = true
 ·rw [if_pos ho]; exact ⟨⟨hl, hp⟩, rfl⟩
 have ho' : S.over = false := by simpa using ho
 rw [if_neg ho]
 by_cases hb : S.back = true
 ·rw [if_pos hb]
  unfold againS
  simp only
  have hrest : Vl T S = aftK T S.nodes S.nodes.length := by unfold Vl; rw [if_neg ho, if_pos hb]
  by_cases h0 : S.nodes.length = 0
  ·rw [if_pos h0]
   refine ⟨⟨hl, hp⟩, ?_⟩
   simp only
   rw [hrest, h0]; rfl
  rw [if_neg h0]
  obtain ⟨pre, x, hpx⟩ : ∃ pre x, S.nodes = pre ++ [x] := ⟨S.nodes.take (S.nodes.length - 1), S.nodes[S.nodes.length - 1]'(by omega), by
   have := Y9 (xs := S.nodes) (i := S.nodes.length - 1) (by omega)
   rw [show S.nodes.length - 1 + 1 = S.nodes.length by omega, List.take_length] at this
   exact this.symm⟩
  have hlen : S.nodes.length = pre.length + 1 := by rw [hpx]; simp
  have hsub : S.nodes.length - 1 = pre.length := by omega
  have hlt : pre.length < T.vars.length := by omega
  have htake : S.nodes.take pre.length = pre := by rw [hpx, List.take_left]
  have hget : S.nodes.getD pre.length 0 = x := by rw [hpx, Uq]
  have habv : Yp T S.nodes pre.length = Yp T pre pre.length := Z9 hT hlt (fun j hj => by rw [hpx, Uw hj])
  have hpre : Path T pre := by have := path_take hT (k := pre.length) hp hl; rwa [htake] at this
  have hrest2 : Vl T S = ((T.group pre.length (Yp T pre pre.length)).filter fun l => decide (x < l.b)).flatMap (fun l => Vc T (T.vars.length - (pre.length + 1)) (pre ++ [l.b])) ++ aftK T pre pre.length := by
   rw [hrest, hlen, hpx]; exact aft_snoc hT hlt x
  rw [hsub, htake, hget, habv, hlen]
  have hs := hT.sort pre.length (Yp T pre pre.length)
  cases hn : U0 (T.group (pre.length : Int) (Yp T pre pre.length)) x with
  | none =>
   refine ⟨⟨by simp only; omega, hpre⟩, ?_⟩
   simp only
   rw [hrest2, next_none hn]
   unfold Vl
   simp only
   rw [if_neg ho, if_pos hb]; rfl
  | some l =>
   have hm : l ∈ T.group (pre.length : Int) (Yp T pre pre.length) := List.mem_of_find?_eq_some hn
   have hpn := path_snoc hT hpre hlt hm
   have hrest3 : Vl T S = Vc T (T.vars.length - (pre.length + 1)) (pre ++ [l.b]) ++ aftK T (pre ++ [l.b]) (pre.length + 1) := by
    rw [hrest2, next_filter hs hn, List.flatMap_cons, aft_snoc hT hlt, List.append_assoc]
   simp only
   by_cases hlast : pre.length + 1 < T.vars.length
   ·rw [if_pos hlast]
    refine ⟨⟨by simp only [List.length_append, List.length_singleton]; omega, hpn⟩, ?_⟩
    simp only
    rw [hrest3]
    unfold Vl
    simp only [List.length_append, List.length_singleton]
    rw [if_neg ho, if_neg (by decide)]
   ·rw [if_neg hlast]
    refine tells_row ⟨by simp only [List.length_append, List.length_singleton]; omega, hpn⟩ (rowT_path hT (by simp only [List.length_append, List.length_singleton]; omega) hpn) ?_
    rw [hrest3, show T.vars.length - (pre.length + 1) = 0 by omega]
    unfold Vl
    simp only [List.length_append, List.length_singleton]
    rw [if_neg ho, if_pos hb]; rfl
 ·rw [if_neg hb]
  have hb' : S.back = false := by simpa using hb
  unfold onS
  simp only
  have hrest : Vl T S = Vc T (T.vars.length - S.nodes.length) S.nodes ++ aftK T S.nodes S.nodes.length := by unfold Vl; rw [if_neg ho, if_neg hb]
  by_cases h0 : S.nodes.length = T.vars.length
  ·rw [if_pos h0]
   refine tells_row ⟨hl, hp⟩ (rowT_path hT h0 hp) ?_
   rw [hrest, show T.vars.length - S.nodes.length = 0 by omega]
   unfold Vl
   simp only
   rw [if_neg ho, if_pos trivial]; rfl
  rw [if_neg h0]
  have hlt : S.nodes.length < T.vars.length := by omega
  cases hg : T.group S.nodes.length (Yp T S.nodes S.nodes.length) with
  | nil =>
   refine ⟨⟨hl, hp⟩, ?_⟩
   simp only
   rw [hrest, show T.vars.length - S.nodes.length = (T.vars.length - (S.nodes.length + 1)) + 1 by omega, Vc, hg]
   unfold Vl
   simp only
   rw [if_neg ho, if_pos trivial]; rfl
  | cons l ls =>
   have hpn := path_snoc hT hp hlt (l := l) (by rw [hg]; simp)
   have hrest3 := hrest.trans (ext_cons hT hlt hg)
   simp only
   by_cases hlast : S.nodes.length + 1 < T.vars.length
   ·rw [if_pos hlast]
    refine ⟨⟨by simp only [List.length_append, List.length_singleton]; omega, hpn⟩, ?_⟩
    simp only
    rw [hrest3]
    unfold Vl
    simp only [List.length_append, List.length_singleton]
    rw [if_neg ho, if_neg hb]
   ·rw [if_neg hlast]
    refine tells_row ⟨by simp only [List.length_append, List.length_singleton]; omega, hpn⟩ (rowT_path hT (by simp only [List.length_append, List.length_singleton]; omega) hpn) ?_
    rw [hrest3, show T.vars.length - (S.nodes.length + 1) = 0 by omega]
    unfold Vl
    simp only [List.length_append, List.length_singleton]
    rw [if_neg ho, if_pos trivial]; rfl
end
end Go.Proofs.YtmakkmcjocjgmaaGreat.Am
namespace Go.Proofs.YtmakkmcjocjgmaaGreat.Am
open Go Go.RowKit
set_option linter.unusedVariables false
set_option linter.unusedSimpArgs false
set_option maxRecDepth 100000
theorem flatMap_ext {α β : Type} {l : List α} {f g : α → List β} (h : ∀ e ∈ l, f e = g e) : l.flatMap f = l.flatMap g := by
 induction l with
 | nil => rfl
 | cons a l ih => rw [List.flatMap_cons, List.flatMap_cons, h a List.mem_cons_self, ih fun e he => h e (List.mem_cons_of_mem _ he)]
theorem goodL_rise {xs : List Link} (h : GoodL xs) : RiseA xs := by
 intro i j hi hj hij
 obtain ⟨d, rfl⟩ : ∃ d, j = i + d := ⟨j - i, by omega⟩
 clear hij
 induction d with
 | zero => exact Int.le_refl _
 | succ d ih =>
  have h1 := ih (by omega)
  have h2 := (h (i + (d + 1)) hj).2 (by omega)
  have e : i + (d + 1) - 1 = i + d := by omega
  simp only [e] at h2
  simp only [Vy, Bool.or_eq_true, Bool.and_eq_true, decide_eq_true_eq] at h2
  omega
theorem few_few (x : Link) : x.few.few = x.few := by
 unfold Link.few
 split
 ·simp
 ·first | rfl | (rename_i h; rw [if_neg h])
def U3 (T : TreeT) : Prop := ∀ ns : List Int, Path T ns → 0 < ns.length → ns.length < T.vars.length → T.group ns.length (Yp T ns ns.length) ≠ []
def phi (T : TreeT) (S : Z6) : Nat := if S.over = true then 0 else if S.back = true then (if S.nodes.length = 0 then 1 else S.nodes.length + T.vars.length) else T.vars.length - S.nodes.length + 1
theorem phi_le {T : TreeT} {S : Z6} (h : S.nodes.length ≤ T.vars.length) : phi T S ≤ 2 * T.vars.length + 1 := by
 unfold phi
 split
 ·omega
 ·split
  ·split <;> omega
  ·omega
theorem step_steps {T : TreeT} {S : Z6} (ho : S.over = false) : (Ue T S).1.steps = S.steps + 1 := by
 unfold Ue
 rw [if_neg (by rw [ho]; decide)]
 split
 ·unfold againS
  split
  ·rfl
  ·split
   ·rfl
   ·split <;> rfl
 ·unfold onS
  split
  ·rfl
  ·split
   ·rfl
   ·split <;> rfl
theorem step_phi {T : TreeT} {S : Z6} (hA : U3 T) (hv : ValS T S) (ho : S.over = false) (hT : GoodT T) (hno : (Ue T S).2 = none) : phi T (Ue T S).1 < phi T S := by
 obtain ⟨hl, hp⟩ := hv
 have ho' : ¬ S.over = true := by rw [ho]; decide
 unfold Ue at hno ⊢
 rw [if_neg ho'] at hno ⊢
 by_cases hb : S.back = true
 ·rw [if_pos hb] at hno ⊢
  have hphi : phi T S = if S.nodes.length = 0 then 1 else S.nodes.length + T.vars.length := by unfold phi; rw [if_neg ho', if_pos hb]
  rw [hphi]
  unfold againS at hno ⊢
  simp only at hno ⊢
  by_cases h0 : S.nodes.length = 0
  ·rw [if_pos h0, if_pos h0]; unfold phi; simp
  ·rw [if_neg h0] at hno ⊢
   rw [if_neg h0]
   cases hn : U0 (T.group ((S.nodes.length - 1 : Nat) : Int) (Yp T S.nodes (S.nodes.length - 1))) (S.nodes.getD (S.nodes.length - 1) 0) with
   | none =>
    simp only
    unfold phi
    simp only [List.length_take]
    rw [if_neg ho', if_pos hb]
    split <;> omega
   | some l =>
    rw [hn] at hno
    simp only at hno ⊢
    by_cases hlast : S.nodes.length < T.vars.length
    ·rw [if_pos hlast]
     unfold phi
     simp only [List.length_append, List.length_take, List.length_singleton]
     rw [if_neg ho', if_neg (by decide)]
     omega
    ·rw [if_neg hlast] at hno
     simp only at hno
     -- a row is told
     have hm : l ∈ T.group ((S.nodes.length - 1 : Nat) : Int) (Yp T S.nodes (S.nodes.length - 1)) := List.mem_of_find?_eq_some hn
     have hlt : (S.nodes.take (S.nodes.length - 1)).length = S.nodes.length - 1 := by rw [List.length_take]; omega
     have hpre := path_take hT (k := S.nodes.length - 1) hp hl
     have habv : Yp T S.nodes (S.nodes.length - 1) = Yp T (S.nodes.take (S.nodes.length - 1)) (S.nodes.length - 1) := Z9 hT (by omega) (fun j hj => (Vs hj).symm)
     rw [habv] at hm
     have hpn := path_snoc hT hpre (by omega) (l := l) (by rw [hlt]; exact hm)
     obtain ⟨r, hr, _⟩ := rowT_path hT (by rw [List.length_append, hlt, List.length_singleton]; omega) hpn
     rw [hr] at hno; cases hno
 ·rw [if_neg hb] at hno ⊢
  have hphi : phi T S = T.vars.length - S.nodes.length + 1 := by unfold phi; rw [if_neg ho', if_neg hb]
  rw [hphi]
  unfold onS at hno ⊢
  simp only at hno ⊢
  by_cases h0 : S.nodes.length = T.vars.length
  ·rw [if_pos h0] at hno
   simp only at hno
   obtain ⟨r, hr, _⟩ := rowT_path hT h0 hp
   rw [hr] at hno; cases hno
  ·rw [if_neg h0] at hno ⊢
   have hlt : S.nodes.length < T.vars.length := by omega
   cases hg : T.group S.nodes.length (Yp T S.nodes S.nodes.length) with
   | nil =>
    simp only
    have hz : S.nodes.length = 0 := by
     rcases Nat.eq_zero_or_pos S.nodes.length with h | h
     ·exact h
     ·exact absurd hg (hA S.nodes hp h hlt)
    unfold phi
    simp only
    rw [if_neg ho', if_pos trivial, if_pos hz]
    omega
   | cons l ls =>
    rw [hg] at hno
    simp only at hno ⊢
    by_cases hlast : S.nodes.length + 1 < T.vars.length
    ·rw [if_pos hlast]
     unfold phi
     simp only [List.length_append, List.length_singleton]
     rw [if_neg ho', if_neg hb]
     omega
    ·rw [if_neg hlast] at hno
     simp only at hno
     have hpn := path_snoc hT hp hlt (l := l) (by rw [hg]; simp)
     obtain ⟨r, hr, _⟩ := rowT_path hT (by rw [List.length_append, List.length_singleton]; omega) hpn
     rw [hr] at hno; cases hno
def nextN (T : TreeT) : Nat → Z6 → Z6 × Option RowT
 | 0, S => (S, none)
 | k + 1, S => if S.over = true then (S, none) else match Ue T S with
  | (S1, some r) => (S1, some r)
  | (S1, none) => nextN T k S1
def V4 (T : TreeT) (S : Z6) : Z6 × Option RowT := nextN T (phi T S) S
theorem phi_pos {T : TreeT} {S : Z6} (h : S.over = false) : 0 < phi T S := by
 unfold phi
 rw [if_neg (by rw [h]; decide)]
 split
 ·split <;> omega
 ·omega
theorem nextN_over {T : TreeT} {S : Z6} (h : S.over = true) : ∀ k, nextN T k S = (S, none)
 | 0 => rfl
 | k + 1 => by rw [nextN, if_pos h]
theorem nextN_fuel {T : TreeT} (hT : GoodT T) (hA : U3 T) : ∀ (m : Nat) (S : Z6), ValS T S → phi T S ≤ m → ∀ k, phi T S ≤ k → nextN T k S = nextN T (phi T S) S
 | m, S, hv, hm, k, hk => by
  by_cases ho : S.over = true
  ·rw [nextN_over ho, nextN_over ho]
  ·have ho' : S.over = false := by simpa using ho
   have hpos := phi_pos (T := T) ho'
   have htell := step_tells hT hv
   obtain ⟨k, rfl⟩ : ∃ j, k = j + 1 := ⟨k - 1, by omega⟩
   obtain ⟨q, hq⟩ : ∃ q, phi T S = q + 1 := ⟨phi T S - 1, by omega⟩
   rw [hq, nextN, nextN, if_neg ho]
   cases hs : Ue T S with
   | mk S1 o =>
    cases o with
    | some r => simp [if_neg ho]
    | none =>
     have hph := step_phi hA hv ho' hT (by rw [hs])
     rw [hs] at hph htell
     simp only at hph htell
     simp only [if_neg ho]
     match m, hm with
     | 0, hm => omega
     | m + 1, hm => rw [nextN_fuel hT hA m S1 htell.1 (by omega) k (by omega), nextN_fuel hT hA m S1 htell.1 (by omega) q (by omega)]
theorem next_over {T : TreeT} {S : Z6} (h : S.over = true) : V4 T S = (S, none) := nextN_over h _
theorem next_step {T : TreeT} (hT : GoodT T) (hA : U3 T) {S : Z6} (hv : ValS T S) (ho : S.over = false) : V4 T S = match Ue T S with
  | (S1, some r) => (S1, some r)
  | (S1, none) => V4 T S1 := by
 have hpos := phi_pos (T := T) ho
 have htell := step_tells hT hv
 obtain ⟨q, hq⟩ : ∃ q, phi T S = q + 1 := ⟨phi T S - 1, by omega⟩
 unfold V4
 rw [hq, nextN, if_neg (by rw [ho]; decide)]
 cases hs : Ue T S with
 | mk S1 o =>
  cases o with
  | some r => rfl
  | none =>
   have hph := step_phi hA hv ho hT (by rw [hs])
   rw [hs] at hph htell
   simp only at hph htell
   exact nextN_fuel hT hA (phi T S1) S1 htell.1 (Nat.le_refl _) q (by omega)
theorem next_tells {T : TreeT} (hT : GoodT T) (hA : U3 T) : ∀ (m : Nat) (S : Z6), ValS T S → phi T S ≤ m → ValS T (V4 T S).1 ∧ (match (V4 T S).2 with
  | some r => Vl T S = r.nodes :: Vl T (V4 T S).1 ∧ Vm T r.nodes = some r
  | none => Vl T S = [] ∧ (V4 T S).1.over = true) ∧ S.steps ≤ (V4 T S).1.steps ∧ (V4 T S).1.steps ≤ S.steps + phi T S
 | m, S, hv, hm => by
  by_cases ho : S.over = true
  ·rw [next_over ho]
   refine ⟨hv, ⟨by unfold Vl; rw [if_pos ho], ho⟩, by simp only; omega, by simp only; omega⟩
  ·have ho' : S.over = false := by simpa using ho
   have htell := step_tells hT hv
   have hst := step_steps (T := T) ho'
   have hpos := phi_pos (T := T) ho'
   rw [next_step hT hA hv ho']
   cases hs : Ue T S with
   | mk S1 o =>
    rw [hs] at htell hst
    cases o with
    | some r => exact ⟨htell.1, htell.2, by simp only at hst ⊢; omega, by simp only at hst ⊢; omega⟩
    | none =>
     have hph := step_phi hA hv ho' hT (by rw [hs])
     rw [hs] at hph
     simp only at hph hst htell ⊢
     match m, hm with
     | 0, hm => omega
     | m + 1, hm =>
      obtain ⟨h1, h2, h3, h4⟩ := next_tells hT hA m S1 htell.1 (by omega)
      have e : Vl T S = Vl T S1 := htell.2
      refine ⟨h1, ?_, by omega, by omega⟩
      rw [e]; exact h2
theorem alive_tree {f : Forest} {p : Parts} (hG : GoodP f p) : U3 (Zg f (ofP f p)) := by
 obtain ⟨k1, k2, k3, k4⟩ := ofP_all hG
 have hX := ofP_good hG
 have hlen : (Zg f (ofP f p)).vars.length = f.vars.length := (Ut _).1.trans hG.gf.l1
 intro ns hp h0 hn
 rw [hlen] at hn
 have grp : ∀ {i : Nat} (a : Int), i < f.vars.length → (Zg f (ofP f p)).group i a = if par f (Vj f i) = -1 then nd (ofP f p) (Vj f i) else ((lk (ofP f p) (Vj f i)).map (Ug (nd (ofP f p) (Vj f i)))).filter fun l => decide (l.a = a) := fun {i} a hi => by
  unfold TreeT.group
  rw [hlen, if_pos ⟨by omega, by omega⟩, Int.toNat_natCast, place_row hX hi]
 have first : ∀ i, i < ns.length → ns.getD i 0 ∈ V9 (nd (ofP f p) (Vj f i)) := fun i hi => by
  obtain ⟨l, h1, h2⟩ := hp i hi
  have hv := (hG.gf.vAt_lt (s := i) (by omega)).1
  rw [grp _ (by omega)] at h1
  split at h1
  ·exact List.mem_map.2 ⟨l, h1, by rw [← h2]; exact (hX.ok _ hv).2.2.1 l h1⟩
  ·rename_i hpar
   obtain ⟨m, hm, rfl⟩ := List.mem_map.1 (List.mem_filter.1 h1).1
   rw [← h2]
   exact ((k3 _ hv hpar).ends m hm).2
 have hv := (hG.gf.vAt_lt hn).1
 rw [grp _ hn]
 split
 ·rename_i hroot
  intro he
  have hany : f.order.any (V5 f (ofP f p)) = true := by
   rw [List.any_eq_true]
   refine ⟨(Vj f ns.length : Nat), by rw [(hG.gf.vAt_lt hn).2, hG.gf.order_at hn]; exact List.getElem_mem _, ?_⟩
   unfold V5
   unfold par at hroot
   unfold nd at he
   rw [Int.toNat_natCast, hroot, he]; rfl
  have hem := k4 hany
  have := first 0 h0
  rw [hem, nd_empties] at this
  simp [V9] at this
 ·rename_i hpar
  rcases at_root hG.gf hn with ⟨h1, _⟩ | ⟨h1, h2, h3, h4⟩
  ·exact absurd h1 hpar
  ·have hq := first (Uc f (par f (Vj f ns.length))) h4
   have hpp := (hG.gf.pos_par hn h1).2
   obtain ⟨y, hy, hya⟩ := List.mem_map.1 hq
   have hup := (k3 _ hv hpar).up y (by rw [show (par f (Vj f ns.length)).toNat = Vj f (Uc f (par f (Vj f ns.length))) by omega]; exact hy)
   obtain ⟨m, hm, hma⟩ := List.mem_map.1 hup
   intro he
   have : Ug (nd (ofP f p) (Vj f ns.length)) m ∈ ((lk (ofP f p) (Vj f ns.length)).map (Ug (nd (ofP f p) (Vj f ns.length)))).filter fun l => decide (l.a = Yp (Zg f (ofP f p)) ns ns.length) := by
    refine List.mem_filter.2 ⟨List.mem_map.2 ⟨m, hm, rfl⟩, decide_eq_true ?_⟩
    rw [above_of hX hn, if_neg hpar]
    show m.a = _
    rw [hma, hya]
   rw [he] at this
   cases this
theorem filterMap_ext {α β : Type} {g k : α → Option β} : ∀ {xs : List α}, (∀ y ∈ xs, g y = k y) → xs.filterMap g = xs.filterMap k
 | [], _ => rfl
 | x :: xs, h => by rw [List.filterMap_cons, List.filterMap_cons, h x (by simp), filterMap_ext fun y hy => h y (by simp [hy])]
theorem rows_ext {f : Forest} {p : Parts} (hG : GoodP f p) : (Ux f p).map RowT.nodes = Vc (Zg f (ofP f p)) f.vars.length [] ∧ ∀ r ∈ Ux f p, Vm (Zg f (ofP f p)) r.nodes = some r := by
  obtain ⟨k1, k2, k3, k4⟩ := ofP_all hG
  have hX := ofP_good hG
  have hol : f.order.length = f.vars.length := hG.gf.l1
  have hlen : (Zg f (ofP f p)).vars.length = f.vars.length := (Ut _).1.trans hol
  have hsame := rows_same hG
  constructor
  · have key : ∀ i, i ≤ f.vars.length → ((Zu f (ofP f p) i).map RowT.nodes).flatMap (Vc (Zg f (ofP f p)) (f.vars.length - i)) = Vc (Zg f (ofP f p)) f.vars.length [] := by
      intro i
      induction i with
      | zero => intro _; simp [Zu]
      | succ i ih =>
        intro hi
        rw [← ih (by omega)]
        show (((Zu f (ofP f p) i).flatMap _).map _).flatMap _ = _
        rw [List.map_flatMap, List.flatMap_assoc, List.flatMap_map]
        refine flatMap_ext fun r hr => ?_
        have hrl := rows_len i r hr
        have hv := (hG.gf.vAt_lt (s := i) (by omega)).1
        have habv : 0 ≤ par f (Vj f i) → Yp (Zg f (ofP f p)) r.nodes i = r.nodes.getD (atI f.order (par f (Vj f i))).toNat 0 := fun hp => by
          rw [above_of hX (by omega), if_neg (by omega)]
          rcases at_root hG.gf (i := i) (by omega) with ⟨h1, _⟩ | ⟨_, h2, h3, h4⟩
          · omega
          · rw [h3, Int.toNat_natCast]
        have e : ((nd (ofP f p) (Vj f i)).filterMap (Z5 f (ofP f p) (Vj f i) r)).map RowT.nodes = ((Zg f (ofP f p)).group i (Yp (Zg f (ofP f p)) r.nodes i)).map fun l => r.nodes ++ [l.b] := by
          rw [group_same hX k3]
          unfold groupR
          rw [if_pos ⟨by omega, by omega⟩, Int.toNat_natCast, List.map_filterMap, List.map_filterMap]
          refine filterMap_ext fun y hy => ?_
          rw [row_group (above := Yp (Zg f (ofP f p)) r.nodes i) habv]
          cases hg : Vh f (ofP f p) (Vj f i) (Yp (Zg f (ofP f p)) r.nodes i) y with
          | none => rfl
          | some z => simp [groupOne_b hX hv hy hg]
        rw [e, List.flatMap_map, show f.vars.length - i = (f.vars.length - (i + 1)) + 1 by omega, Vc, hrl]
    have h := key f.vars.length (Nat.le_refl _)
    rw [Nat.sub_self] at h
    rw [← h]
    have e0 : Vc (Zg f (ofP f p)) 0 = fun ns => [ns] := by funext ns; rfl
    rw [e0]
    unfold Ux at hsame ⊢
    rw [hol] at hsame ⊢
    rw [hsame]; simp
  · intro r hr
    unfold Ux at hr hsame
    rw [hol] at hr hsame
    have hrl := rows_len f.vars.length r hr
    unfold Vm
    rw [if_pos (by omega), hlen]
    have := (acc_rows hX k3 hrl _ (Nat.le_refl _) r.cost r.n).2 (by rw [hsame, List.take_of_length_le (by omega)]; exact hr)
    rw [this]; rfl
def kidsT (T : TreeT) (i : Nat) : List Nat := (List.range T.parent.length).filter fun k => decide (T.parent.getD k 0 = (i : Int))
def sumT (T : TreeT) : Nat → Nat → Int → Int
 | 0, _, _ => 0
 | d + 1, i, a => (T.group i a).foldl (fun s x => addI s (Zi x.n ((kidsT T i).foldl (fun n k => Zi n (sumT T d k x.b)) 1))) 0
def belT (T : TreeT) (d i : Nat) (b : Int) : Int := (kidsT T i).foldl (fun n k => Zi n (sumT T d k b)) 1
theorem sumT_succ (T : TreeT) (d i : Nat) (a : Int) : sumT T (d + 1) i a = (T.group i a).foldl (fun s x => addI s (Zi x.n (belT T d i x.b))) 0 := rfl
def onceT (out : List Int) (xs : List Int) : List Int := xs.foldl (fun out x => if x ∈ out then out else out ++ [x]) out
def aboveT (T : TreeT) : Nat → Nat → List Int
 | 0, _ => [-1]
 | d + 1, i => if T.parent.getD i 0 = -1 then [-1] else onceT [] ((aboveT T d (T.parent.getD i 0).toNat).flatMap fun a => (T.group (T.parent.getD i 0) a).map (·.b))
theorem kids_lt {T : TreeT} (hT : GoodT T) {i k : Nat} (h : k ∈ kidsT T i) : i < k ∧ k < T.vars.length := by
 unfold kidsT at h
 rw [List.mem_filter, List.mem_range, decide_eq_true_eq] at h
 obtain ⟨h1, h2⟩ := h
 rw [hT.l1] at h1
 rcases hT.par k h1 with h3 | h3
 ·rw [h2] at h3; omega
 ·rw [h2] at h3; exact ⟨by omega, h1⟩
theorem foldl_same {α β : Type} {f g : α → β → α} : ∀ {xs : List β} {a : α}, (∀ a x, x ∈ xs → f a x = g a x) → xs.foldl f a = xs.foldl g a
 | [], _, _ => rfl
 | x :: xs, a, h => by rw [List.foldl_cons, List.foldl_cons, h a x (by simp)]; exact foldl_same fun a y hy => h a y (by simp [hy])
theorem sumT_deep {T : TreeT} (hT : GoodT T) : ∀ (d i : Nat) (a : Int), i < T.vars.length → T.vars.length ≤ d + i → sumT T d i a = sumT T (d + 1) i a
 | 0, i, a, h, h2 => by omega
 | d + 1, i, a, h, h2 => by
  rw [sumT_succ, sumT_succ]
  refine foldl_same fun s x hx => ?_
  have : belT T d i x.b = belT T (d + 1) i x.b := foldl_same fun n k hk => by
   obtain ⟨h3, h4⟩ := kids_lt hT hk
   rw [sumT_deep hT d k x.b h4 (by omega)]
  rw [this]

theorem Small.fits {f : Forest} {p : Parts} (h : Small f p) (hg : GoodP f p) : Fits f.vars.length p := ⟨hg.n1, hg.n2, h.s5, h.s6⟩
def noParts : Parts := ⟨[], []⟩
theorem noParts_rep (H : Hp) : kParts.rep H noParts [.slice none 0 0, .slice none 0 0] := ⟨_, _, rfl, Sl.nil _ _, Sl.nil _ _⟩
theorem Of_parts (f : Forest) (p : Parts) (cs ds : List Value) (H : Hp) (hp : kForest.rep H f cs) (hq : kParts.rep H p ds) (hsm : Small f p) :
  ACalls Tryz.prog 48 #[.agg cs.toArray, .agg ds.toArray] H (fun r H' => ∃ (g : Bool) (es : List Value), (g = true ↔ GoodP f p) ∧ r = .tuple #[.agg es.toArray, .int .i64 (if g = true then 0 else 1)] ∧ kParts.rep H' (if g = true then ofP f p else noParts) es ∧ H.le H') := by
 have hp0 := hp
 have hq0 := hq
 obtain ⟨v0, v1, v2, v3, v4, rfl, hs0, hs1, hs2, hs3, hs4⟩ := hp
 obtain ⟨A0, c0, rfl⟩ := hs0.shape
 obtain ⟨A1, c1, rfl⟩ := hs1.shape
 obtain ⟨A2, c2, rfl⟩ := hs2.shape
 obtain ⟨A3, c3, rfl⟩ := hs3.shape
 obtain ⟨A4, c4, rfl⟩ := hs4.shape
 obtain ⟨u0, u1, rfl, hn0, hn1⟩ := hq
 obtain ⟨B0, d0, rfl⟩ := hn0.shape
 obtain ⟨B1, d1, rfl⟩ := hn1.shape
 refine Xv Tryz.func48 rfl rfl rfl (by simp) ?_
 refine Xe ?_
 refine Xu ?_
 refine Xz (Yw rfl) ?_
 refine Xz (Yw rfl) ?_
 refine Xz (Yz (l := [.slice none 0 0, .slice none 0 0]) inf29.zero rfl (by decide)) ?_
 refine Xa (Xi rfl) ?_
 refine Xe ?_
 refine Xe ?_
 refine Xu ?_
 refine Xa (Yl (cs := [.slice _ _ _, .slice _ _ _, .slice _ _ _, .slice _ _ _, .slice _ _ _]) rfl Tryz.underlying26 rfl inf26.size X8) ?_
 refine Xa (Yl (cs := [.slice _ _ _, .slice _ _ _]) rfl Tryz.underlying29 rfl inf29.size X8) ?_
 refine Xw (Xy (GoodP_dom f p _ _ _ (kForest.mono Zp hp0) (kParts.mono Zp hq0) hsm) rfl Tryz.func80 rfl rfl rfl ?_)
 rintro v5 H5 ⟨⟨g, rfl, hg⟩, rfl⟩
 refine Xa (Zz rfl) ?_
 refine X5 rfl rfl ?_ ?_
 intro hc1
 have hgf : g = false := by simpa using hc1
 refine Xe ?_
 refine Xu ?_
 refine Xa (Y6 (pl := [(0, 1), (1, 1)]) (r := [.slice _ _ _, .slice _ _ _]) Tryz.underlying29 inf29.zero (by decide) rfl rfl) ?_
 refine Xw (Yf (vs := [.slice _ _ _, .slice _ _ _]) rfl rfl inf29.size Yd Yg rfl rfl ?_)
 refine Xa (Xi rfl) ?_
 refine X2 ?_
 subst hgf
 exact ⟨_, Y8 (Yq Xm (Yo (cs := [_, _]) Tryz.underlying29 rfl inf29.size X8)) (Xs rfl), false, [_, _], hg, rfl, noParts_rep _, Hp.le_put_new (Hp.le_push' (Hp.le_push' (H.le_push _) _) _) (by simp <;> omega) _⟩
 intro hc1
 have hgt : g = true := by simpa using hc1
 refine X9 ?_
 refine Xe ?_
 refine Xu ?_
 refine Xa (Yl (cs := [.slice _ _ _, .slice _ _ _, .slice _ _ _, .slice _ _ _, .slice _ _ _]) rfl Tryz.underlying26 rfl inf26.size X8) ?_
 refine Xa (Yl (cs := [.slice _ _ _, .slice _ _ _]) rfl Tryz.underlying29 rfl inf29.size X8) ?_
 refine Xw (Xy (of_parts f p _ _ _ (kForest.mono Zp hp0) (kParts.mono Zp hq0) (hg.1 hgt).gf (hsm.fits (hg.1 hgt)) hsm.s0) rfl Tryz.func81 rfl rfl rfl ?_)
 rintro v6 H6 ⟨es, rfl, hes, hle6⟩; have hz6 := hle6.1; simp only [Hp.push_size] at hz6; obtain ⟨w0, w1, rfl, hm0, hm1⟩ := hes; obtain ⟨C0, k0, rfl⟩ := hm0.shape; obtain ⟨C1, k1, rfl⟩ := hm1.shape
 refine Xw (Yf (vs := [.slice _ _ _, .slice _ _ _]) rfl rfl inf29.size Yd Yg rfl rfl ?_)
 refine Xa (Xi rfl) ?_
 refine X2 ?_
 subst hgt
 have k2 : H6.get (H.size + 2) = .own 0 [.slice none 0 0, .slice none 0 0] := Xr hle6 (by simp) (by intro e; cases e) Yd
 exact ⟨_, Y8 (Yq Xm (Yo (cs := [_, _]) Tryz.underlying29 rfl inf29.size X8)) (Xs rfl), true, [_, _], hg, rfl, ⟨_, _, rfl, hm0.mono (Hp.sees_box _ k2), hm1.mono (Hp.sees_box _ k2)⟩, Hp.le_put_new (Hp.le_trans (Hp.le_push' (Hp.le_push' (H.le_push _) _) _) hle6) (by simp <;> omega) _⟩
end Go.Proofs.YtmakkmcjocjgmaaGreat.Am
