/- Texts that the proof rests on, part 4: lemmas for every heap that is related to a world, no condition beyond each lemma's own. -/
import Derived.Test.YtcaeoebphfjfiaaGreatCb3

/- Where the groups of a place stand. -/
namespace Go.Proofs.YtcaeoebphfjfiaaGreat.Am
open Go Go.RowKit
set_option maxRecDepth 100000
set_option linter.unusedVariables false
set_option linter.unusedSimpArgs false

structure Noted (ls : List Link) (i : Nat) (k : Nat) (es0 es : List (Value × Value)) : Prop where
  keys : ∀ e ∈ es, IsSpot e.1
  yes : ∀ above : Int, (∃ (j : Nat) (h : j < ls.length), j < k ∧ ls[j].a = above) → ∃ fr to : Nat, Y0 es (Y7 i above) = some (spanV fr to) ∧ fr ≤ to ∧ to ≤ ls.length ∧ (ls.take to).drop fr = ls.filter fun l => decide (l.a = above)
  no : ∀ above : Int, (¬ ∃ (j : Nat) (h : j < ls.length), j < k ∧ ls[j].a = above) → Y0 es (Y7 i above) = none
  other : ∀ (i' : Nat) above, i' ≠ i → Y0 es (Y7 i' above) = Y0 es0 (Y7 i' above)
theorem Noted.step {ls : List Link} {i k to : Nat} {es0 es : List (Value × Value)} (h : Noted ls i k es0 es) (hr : RiseA ls) (hk : k < ls.length) (hkt : k < to) (ht : to ≤ ls.length) (hbnd : ∀ j (hj : j < ls.length), j < k → ls[j].a < ls[k].a)
    (hsame : ∀ j (hj : j < ls.length), k ≤ j → j < to → ls[j].a = ls[k].a) (hend : ∀ h : to < ls.length, ls[to].a ≠ ls[k].a) : Noted ls i to es0 (Z8 es (Y7 i ls[k].a) (spanV k to)) := by
  have hge : ∀ j (hj : j < ls.length), to ≤ j → ls[k].a < ls[j].a := fun j hj h1 => by
    have h2 := hend (by omega)
    have h3 := hr k to hk (by omega) (by omega)
    have h4 := hr to j (by omega) hj h1
    omega
  obtain ⟨_, hfil⟩ := filter_mid (xs := ls) (a := ls[k].a) (lo := k) (hi := to) (by omega) ht (fun j hj h1 => by have := hbnd j hj h1; omega) (fun j hj h1 => hr k j hk hj h1) (fun j hj h1 => by
    rcases Nat.lt_or_ge j k with h2 | h2
    · have := hbnd j hj h2; omega
    · have := hsame j hj h2 h1; omega) (fun j hj h1 => hge j hj h1)
  refine ⟨mapPut_keys h.keys ⟨_, _, rfl⟩, fun above hab => ?_, fun above hab => ?_, fun i' above hi => ?_⟩
  · by_cases he : above = ls[k].a
    · subst he
      exact ⟨k, to, Vv, by omega, ht, hfil⟩
    · rw [Zp (fun e => he (Z7 e).2)]
      refine h.yes above ?_
      obtain ⟨j, hj, h1, h2⟩ := hab
      refine ⟨j, hj, ?_, h2⟩
      rcases Nat.lt_or_ge j k with h3 | h3
      · exact h3
      · exact absurd (h2.symm.trans (hsame j hj h3 h1)) he
  · have he : above ≠ ls[k].a := fun e => hab ⟨k, hk, hkt, e.symm⟩
    rw [Zp (fun e => he (Z7 e).2)]
    exact h.no above fun ⟨j, hj, h1, h2⟩ => hab ⟨j, hj, by omega, h2⟩
  · rw [Zp (fun e => hi (by have := (Z7 e).1; omega))]
    exact h.other i' above hi
set_option maxHeartbeats 1000000 in
theorem group_tree {b mb : Nat} {s0 s1 s2 : Value} {ps : List Int} {lss : List (List Link)} {es : List (Value × Value)} {H : Hp} (hb : b < H.size) (hmb : mb < H.size) (hg : H.get b = .own 0 [s0, s1, s2, .map (some mb)]) (hs1 : Sl (Y6 .i64) H s1 ps) (hs2 : Sl (Vs kLink) H s2 lss) (hm : H.get mb = .map es)
    (i : Nat) (hi : i < lss.length) (hpi : i < ps.length) (hlen : lss[i].length ≤ 1000000) (hr : ps.getD i 0 ≠ -1 → RiseA lss[i]) (hk : ∀ e ∈ es, IsSpot e.1) (hno : ∀ above, Y0 es (Y7 i above) = none) :
    ACalls Tryz.prog 44 #[.pointer (some ⟨b, 0, none⟩), .int .i64 i] H (fun r H' => ∃ es', H' = H.put mb (.map es') ∧ (if ps.getD i 0 = -1 then es' = Z8 es (Y7 i (-1)) (spanV 0 lss[i].length) else Noted lss[i] i lss[i].length es es')) := by
  obtain ⟨A1, c1, rfl⟩ := hs1.shape
  obtain ⟨A2, c2, rfl⟩ := hs2.shape
  obtain ⟨b1, o1, rfl, hb1, hcell1⟩ := hs1.int_at (i := (i : Int)) (by omega) (by omega)
  rw [Int.toNat_natCast] at hcell1
  obtain ⟨b2, o2, ks, eB, hb2, ⟨w0, rfl, hw0⟩, hcell2⟩ := hs2.elem_at hi
  subst eB
  have hcell2' := hcell2.one
  obtain ⟨A6, c6, rfl⟩ := hw0.shape
  have hbm : b ≠ mb := fun e => by subst e; rw [hg] at hm; cases hm
  refine Xu Tryz.func44 rfl rfl rfl (by simp) ?_
  refine Xf ?_
  refine Xc (by kernel_rfl) ?_
  refine Xa (X9 rfl) ?_
  refine Xa (Yo rfl) ?_
  refine Xa (Xh (off := 2) rfl Tryz.underlying73 rfl inf27.size (by decide) rfl) ?_
  refine Xa (Xl rfl Tryz.underlying27 rfl Xq) ?_
  refine Xa (Xb rfl) ?_
  refine Xa (Xo rfl rfl Tryz.underlying27 inf68.size Xy Xy) ?_
  refine Xa (Xl rfl Tryz.underlying68 rfl Xq) ?_
  refine Xa (X4 rfl) ?_
  refine Xf ?_
  refine Xf ?_
  refine Xc (by kernel_rfl) ?_
  refine Xa (X9 rfl) ?_
  refine Xa (Yo rfl) ?_
  refine Xa (Xh (off := 1) rfl Tryz.underlying73 rfl inf23.size (by decide) rfl) ?_
  refine Xa (Xl rfl Tryz.underlying23 rfl Xq) ?_
  refine Xa (Xb rfl) ?_
  refine Xa (Xo rfl rfl Tryz.underlying23 inf3.size Xy Xy) ?_
  refine Xa (Xl rfl Tryz.underlying3 rfl Xq) ?_
  refine Xa (Z0 rfl rfl) ?_
  refine X1 rfl rfl ?_ ?_
  intro hc1
  have hroot : ps.getD i 0 = -1 := of_decide_eq_true hc1
  refine Xf ?_
  refine Xc (by kernel_rfl) ?_
  refine Xa (X9 rfl) ?_
  refine Xa (Yo rfl) ?_
  refine Xa (Xh (off := 3) rfl Tryz.underlying73 rfl inf71.size (by decide) rfl) ?_
  refine Xa (Xl rfl Tryz.underlying71 rfl Xq) ?_
  refine Xa (Xb rfl) ?_
  refine Xa (Zb (pl := [(0, 1), (1, 1)]) (r := [.int .i64 _, .int .i64 _]) Tryz.underlying109 inf109.zero (by decide) rfl rfl) ?_
  refine Xa (Xw rfl) ?_
  refine Xa (Yl rfl Tryz.underlying68) ?_
  refine Xa (Zb (pl := [(0, 1), (1, 1)]) (r := [.int .i64 _, .int .i64 _]) Tryz.underlying107 inf107.zero (by decide) rfl rfl) ?_
  refine X5 (V3 Tryz.underlying71 keyTy_spot rfl rfl rfl ⟨_, _, rfl⟩ hm hk ?_)
  refine X8 ?_
  exact ⟨_, aresult0, _, rfl, by rw [if_pos hroot]; rfl⟩
  intro hc1
  have hroot : ps.getD i 0 ≠ -1 := of_decide_eq_false hc1
  refine X6 ?_
  refine Xf ?_
  refine Xc (by kernel_rfl) ?_
  refine Xa (Xg rfl) ?_
  refine X3 ?_
  refine Yt (fun n t H' => ∃ (k : Nat) (es' : List (Value × Value)), k ≤ lss[i].length ∧ n = lss[i].length - k ∧ H' = H.put mb (.map es') ∧ Noted lss[i] i k es es' ∧ (∀ (hk : k < lss[i].length) j (hj : j < lss[i].length), j < k → lss[i][j].a < lss[i][k].a) ∧ t 0 = .pointer (some ⟨b, 0, none⟩) ∧ t 1 = .int .i64 i ∧ t 4 = .slice A6 lss[i].length c6 ∧ t 5 = .int .i64 k) (lss[i].length) (⟨0, es, by omega, rfl, (Hp.put_self _ hm).symm, ⟨hk, fun above ⟨j, hj, h, _⟩ => by omega, fun above _ => hno above, fun _ _ _ => rfl⟩, fun _ j _ h => by omega, rfl, rfl, rfl, rfl⟩) ?_
  rintro n t H1 ⟨k, es', hkl, rfl, hH1, hnoted, hbnd, e0, e1, e4, e5⟩
  have hse : H.sees H1 := by rw [hH1]; exact Hp.sees_map H hm _
  have hm1 : H1.get mb = .map es' := by rw [hH1]; exact Hp.put_same _ _ _
  have hg1 : H1.get b = .own 0 [s0, .slice (some ⟨b1, o1, none⟩) ps.length c1, .slice (some ⟨b2, o2, none⟩) lss.length c2, .map (some mb)] := by rw [hH1, Hp.put_other _ _ hbm]; exact hg
  have hz1 : H1.size = H.size := by rw [hH1]; rfl
  have hw1 := hw0.mono hse
  refine Xf ?_
  refine Xf ?_
  refine Xc (by kernel_rfl) ?_
  refine Xa (Xb Xi) ?_
  refine Xa (Xw Xi) ?_
  refine Xa (Yl rfl Tryz.underlying68) ?_
  refine Xa (Yw rfl rfl) ?_
  refine X1 rfl rfl ?_ ?_
  intro hc2
  (try simp only [decide_eq_true_eq, decide_eq_false_iff_not, Bool.not_eq_true', Bool.not_eq_false'] at hc2)
  refine X6 ?_
  refine X3 ?_
  refine Xf ?_
  have hkx : k < lss[i].length := by omega
  obtain ⟨bk, ok, eA, hbk, hck⟩ := hw1.link_at hkx
  subst eA
  have hck0 := hck 0 _ rfl
  refine Xc (by kernel_rfl) ?_
  refine Xa (Xb Xi) ?_
  refine Xa (Xg rfl) ?_
  refine Xf ?_
  refine X3 ?_
  refine Yt (fun n t H' => ∃ (m : Nat), k ≤ m ∧ m ≤ lss[i].length ∧ n = lss[i].length - m ∧ H' = H1 ∧ (∀ j (hj : j < lss[i].length), k ≤ j → j < m → lss[i][j].a = lss[i][k].a) ∧ t 0 = .pointer (some ⟨b, 0, none⟩) ∧ t 1 = .int .i64 i ∧ t 4 = .slice (some ⟨bk, ok, none⟩) lss[i].length c6 ∧ t 5 = .int .i64 k ∧ t 6 = .int .i64 m) (lss[i].length - k) (⟨k, by omega, by omega, by omega, rfl, fun j _ h1 h2 => by omega, e0, e1, e4, e5, rfl⟩) ?_
  rintro n t H1 ⟨m, hkm, hml, rfl, rfl, hsame, e0, e1, e4, e5, e6⟩
  refine Xf ?_
  refine Xf ?_
  refine Ys (by kernel_rfl) (Y1 (B := [0, 0, 2, 7, 15, 31, 31, 127, 255, 511, 31, 31, 3103, 7199, 15391, 32767, 65535]) (π := [0, 1, 2, 3, 4, 5, 6, 7, 8, 9, 10, 11, 12, 13, 14, 15, 16]) (by kernel_rfl)) ?_
  refine Xd rfl rfl (Xb Xi) Xp ?_
  refine Xd rfl rfl (Xw Xi) Xp ?_
  refine Xd rfl rfl (Yl rfl Tryz.underlying68) Xp ?_
  refine Xd rfl rfl (Yw rfl rfl) Xp ?_
  refine Xd rfl rfl (Xs rfl) Xp ?_
  refine Vr rfl rfl rfl rfl ?_ ?_
  intro hg3
  have hmx : m < lss[i].length := by have := of_decide_eq_true hg3; omega
  obtain ⟨bm, om, eM, hbm2, hcm⟩ := hw1.link_at hmx
  simp only [Option.some.injEq, Addr.mk.injEq, and_true] at eM
  obtain ⟨rfl, rfl⟩ := eM
  have hcm0 := hcm 0 _ rfl
  refine Yi rfl (Xk rfl rfl rfl hg3) rfl (Xw Xi) Xp ?_
  refine Yi rfl (Xk rfl rfl rfl hg3) rfl (Xb Xi) Xp ?_
  refine Yi rfl (Xk rfl rfl rfl hg3) rfl (Xo rfl rfl Tryz.underlying68 inf78.size Xy Xy) Xp ?_
  refine Yi rfl (Xk rfl rfl rfl hg3) rfl (Xh (off := 0) rfl Tryz.underlying78 rfl inf3.size (by decide) rfl) Xp ?_
  refine Yi rfl (Xk rfl rfl rfl hg3) rfl (Xl rfl Tryz.underlying3 rfl Xq) Xp ?_
  refine Yi rfl (Xk rfl rfl rfl hg3) rfl (Xw Xi) Xp ?_
  refine Yi rfl (Xk rfl rfl rfl hg3) rfl (Xb Xi) Xp ?_
  refine Yi rfl (Xk rfl rfl rfl hg3) rfl (Xo rfl rfl Tryz.underlying68 inf78.size Xy Xy) Xp ?_
  refine Yi rfl (Xk rfl rfl rfl hg3) rfl (Xh (off := 0) rfl Tryz.underlying78 rfl inf3.size (by decide) rfl) Xp ?_
  refine Yi rfl (Xk rfl rfl rfl hg3) rfl (Xl rfl Tryz.underlying3 rfl Xq) Xp ?_
  refine Yi rfl (Xk rfl rfl rfl hg3) rfl (Z0 rfl rfl) Xp ?_
  refine Xd rfl rfl (Xn (congrArg Value.bool hg3) rfl) Xp ?_
  refine X1 rfl rfl ?_ ?_
  intro hc4
  have heq : lss[i][m].a = lss[i][k].a := of_decide_eq_true hc4
  refine X6 ?_
  refine X3 ?_
  refine Xc (by kernel_rfl) ?_
  refine Xa (Xb Xi) ?_
  refine Xa (Yd rfl rfl Yk) ?_
  refine Xa (Xg rfl) ?_
  refine ⟨lss[i].length - (m + 1), by omega, m + 1, by omega, by omega, rfl, rfl, fun j hj h1 h2 => ?_, e0, e1, e4, e5, rfl⟩
  rcases Nat.lt_or_ge j m with h | h
  · exact hsame j hj h1 h
  · obtain rfl : j = m := by omega
    exact heq
  intro hc4
  have hneq : lss[i][m].a ≠ lss[i][k].a := of_decide_eq_false hc4
  refine Yj ?_
  refine Xf ?_
  have hend : ∀ h : m < lss[i].length, lss[i][m].a ≠ lss[i][k].a := fun h => by first | exact absurd h hmx | exact hneq
  have hkm' : k < m := by
    rcases Nat.lt_or_ge k m with h | h
    · exact h
    · exfalso
      have : m = k := by omega
      subst this
      exact hend hkx rfl
  have hst := hnoted.step (hr hroot) hkx hkm' hml (hbnd hkx) hsame hend
  refine Ys (by kernel_rfl) (Y1 (B := [0, 1, 3, 7, 0, 0, 0, 96, 224, 480, 1008, 0, 0, 6144, 16383]) (π := [0, 1, 2, 3, 4, 5, 6, 7, 8, 9, 10, 11, 12, 13, 14]) (by kernel_rfl)) ?_
  refine Xd rfl rfl (X9 Xi) Xp ?_
  refine Xd rfl rfl (Yo rfl) Xp ?_
  refine Xd rfl rfl (Xh (off := 3) rfl Tryz.underlying73 rfl inf71.size (by decide) rfl) Xp ?_
  refine Xd rfl rfl (Xl rfl Tryz.underlying71 rfl Xq) Xp ?_
  refine Xd rfl rfl (Xb Xi) Xp ?_
  refine Xd rfl rfl (Xw Xi) Xp ?_
  refine Xd rfl rfl (Xb Xi) Xp ?_
  refine Xd rfl rfl (Xo rfl rfl Tryz.underlying68 inf78.size Xy Xy) Xp ?_
  refine Xd rfl rfl (Xh (off := 0) rfl Tryz.underlying78 rfl inf3.size (by decide) rfl) Xp ?_
  refine Xd rfl rfl (Xl rfl Tryz.underlying3 rfl Xq) Xp ?_
  refine Xd rfl rfl (Zb (pl := [(0, 1), (1, 1)]) (r := [.int .i64 _, .int .i64 _]) Tryz.underlying109 inf109.zero (by decide) rfl rfl) Xp ?_
  refine Xd rfl rfl (Xb Xi) Xp ?_
  refine Xd rfl rfl (Xb Xi) Xp ?_
  refine Xd rfl rfl (Zb (pl := [(0, 1), (1, 1)]) (r := [.int .i64 _, .int .i64 _]) Tryz.underlying107 inf107.zero (by decide) rfl rfl) Xp ?_
  refine Yg rfl rfl (V3 Tryz.underlying71 keyTy_spot rfl rfl rfl ⟨_, _, rfl⟩ hm1 hnoted.keys ?_)
  refine ⟨Yf, ?_⟩
  refine Xc (by kernel_rfl) ?_
  refine Xa (Xb Xi) ?_
  refine Xa (Xg rfl) ?_
  refine ⟨lss[i].length - m, by omega, m, _, by omega, rfl, by rw [hH1, Hp.put_put]; rfl, hst, fun hk j hj h => ?_, e0, e1, e4, rfl⟩
  rcases Nat.lt_or_ge j k with h1 | h1
  · have h2 := hbnd hkx j hj h1
    have h3 := hr hroot k m hkx hk (by omega)
    omega
  · have h2 := hsame j hj h1 h
    have h3 := hr hroot k m hkx hk (by omega)
    have h4 := hend hk
    omega
  intro hg3
  have hmx : ¬ m < lss[i].length := by have := of_decide_eq_false hg3; omega
  refine Xz rfl (Xj rfl rfl rfl hg3 rfl) ?_
  refine Xz rfl (Xj rfl rfl rfl hg3 rfl) ?_
  refine Xz rfl (Xj rfl rfl rfl hg3 rfl) ?_
  refine Xz rfl (Xj rfl rfl rfl hg3 rfl) ?_
  refine Xz rfl (Xj rfl rfl rfl hg3 rfl) ?_
  refine Xz rfl (Xj rfl rfl rfl hg3 rfl) ?_
  refine Xz rfl (Xj rfl rfl rfl hg3 rfl) ?_
  refine Xz rfl (Xj rfl rfl rfl hg3 rfl) ?_
  refine Xz rfl (Xj rfl rfl rfl hg3 rfl) ?_
  refine Xz rfl (Xj rfl rfl rfl hg3 rfl) ?_
  refine Xz rfl (Xj rfl rfl rfl hg3 rfl) ?_
  refine Xd rfl rfl (Xn (congrArg Value.bool hg3) Xi) Xp ?_
  refine Yx rfl rfl ?_
  refine Yj ?_
  refine Xf ?_
  have hend : ∀ h : m < lss[i].length, lss[i][m].a ≠ lss[i][k].a := fun h => by first | exact absurd h hmx | exact hneq
  have hkm' : k < m := by
    rcases Nat.lt_or_ge k m with h | h
    · exact h
    · exfalso
      have : m = k := by omega
      subst this
      exact hend hkx rfl
  have hst := hnoted.step (hr hroot) hkx hkm' hml (hbnd hkx) hsame hend
  refine Ys (by kernel_rfl) (Y1 (B := [0, 1, 3, 7, 0, 0, 0, 96, 224, 480, 1008, 0, 0, 6144, 16383]) (π := [0, 1, 2, 3, 4, 5, 6, 7, 8, 9, 10, 11, 12, 13, 14]) (by kernel_rfl)) ?_
  refine Xd rfl rfl (X9 Xi) Xp ?_
  refine Xd rfl rfl (Yo rfl) Xp ?_
  refine Xd rfl rfl (Xh (off := 3) rfl Tryz.underlying73 rfl inf71.size (by decide) rfl) Xp ?_
  refine Xd rfl rfl (Xl rfl Tryz.underlying71 rfl Xq) Xp ?_
  refine Xd rfl rfl (Xb Xi) Xp ?_
  refine Xd rfl rfl (Xw Xi) Xp ?_
  refine Xd rfl rfl (Xb Xi) Xp ?_
  refine Xd rfl rfl (Xo rfl rfl Tryz.underlying68 inf78.size Xy Xy) Xp ?_
  refine Xd rfl rfl (Xh (off := 0) rfl Tryz.underlying78 rfl inf3.size (by decide) rfl) Xp ?_
  refine Xd rfl rfl (Xl rfl Tryz.underlying3 rfl Xq) Xp ?_
  refine Xd rfl rfl (Zb (pl := [(0, 1), (1, 1)]) (r := [.int .i64 _, .int .i64 _]) Tryz.underlying109 inf109.zero (by decide) rfl rfl) Xp ?_
  refine Xd rfl rfl (Xb Xi) Xp ?_
  refine Xd rfl rfl (Xb Xi) Xp ?_
  refine Xd rfl rfl (Zb (pl := [(0, 1), (1, 1)]) (r := [.int .i64 _, .int .i64 _]) Tryz.underlying107 inf107.zero (by decide) rfl rfl) Xp ?_
  refine Yg rfl rfl (V3 Tryz.underlying71 keyTy_spot rfl rfl rfl ⟨_, _, rfl⟩ hm1 hnoted.keys ?_)
  refine ⟨Yf, ?_⟩
  refine Xc (by kernel_rfl) ?_
  refine Xa (Xb Xi) ?_
  refine Xa (Xg rfl) ?_
  refine ⟨lss[i].length - m, by omega, m, _, by omega, rfl, by rw [hH1, Hp.put_put]; rfl, hst, fun hk j hj h => ?_, e0, e1, e4, rfl⟩
  rcases Nat.lt_or_ge j k with h1 | h1
  · have h2 := hbnd hkx j hj h1
    have h3 := hr hroot k m hkx hk (by omega)
    omega
  · have h2 := hsame j hj h1 h
    have h3 := hr hroot k m hkx hk (by omega)
    have h4 := hend hk
    omega
  intro hc2
  (try simp only [decide_eq_true_eq, decide_eq_false_iff_not, Bool.not_eq_true', Bool.not_eq_false'] at hc2)
  refine Yj ?_
  have hkl2 : k = lss[i].length := by omega
  subst hkl2
  exact ⟨_, aresult0, es', hH1, by rw [if_neg hroot]; exact hnoted⟩
end Go.Proofs.YtcaeoebphfjfiaaGreat.Am


/- Places of parents; how large a tree is; who is below. -/
namespace Go.Proofs.YtcaeoebphfjfiaaGreat.Am
open Go Go.RowKit
set_option maxRecDepth 100000
set_option linter.unusedVariables false
set_option linter.unusedSimpArgs false

theorem Index_ints (xs : List Int) (v : Value) (m : Int) (H : Hp) (hs : Sl (Y6 .i64) H v xs) (hl : xs.length ≤ 9223372036854775807) :
    ACalls Tryz.prog 42 #[v, .int .i64 m] H (fun r H' => r = .int .i64 (atI xs m) ∧ H' = H) := by
  refine ACalls.pure (R := fun r => r = .int .i64 (atI xs m)) (fun v h => by rw [h]; rfl) ?_
  have hs := hs.mono H.sees_ro
  obtain ⟨A, c, rfl⟩ := hs.shape
  refine Xu Tryz.func42 rfl rfl rfl (by simp) ?_
  refine Xf ?_
  refine Xc (by kernel_rfl) ?_
  refine Xa (Xg rfl) ?_
  refine Xf ?_
  refine Xf ?_
  refine Xc (by kernel_rfl) ?_
  refine Xa (Xw rfl) ?_
  refine Xa (Yl rfl Tryz.underlying23) ?_
  refine Xa (Xb rfl) ?_
  refine X3 ?_
  refine Yt (fun n t H' => ∃ i : Nat, i ≤ xs.length ∧ n = xs.length - i ∧ H' = H.ro ∧ m ∉ xs.take i ∧ t 0 = .slice A xs.length c ∧ t 1 = .int .i64 m ∧ t 7 = .int .i64 xs.length ∧ t 8 = .int .i64 i) (xs.length) (⟨0, by omega, rfl, rfl, by simp, rfl, rfl, rfl, rfl⟩) ?_
  rintro n t _ ⟨i, hi, rfl, rfl, hno, e0, e1, e7, e8⟩
  refine Xf ?_
  refine Xc (by kernel_rfl) ?_
  refine Xa (Yw Xi Xi) ?_
  refine Xf ?_
  refine X1 rfl rfl ?_ ?_
  intro hc1
  (try simp only [decide_eq_true_eq, decide_eq_false_iff_not, Bool.not_eq_true', Bool.not_eq_false'] at hc1)
  refine X6 ?_
  refine Xf ?_
  refine X3 ?_
  refine Xf ?_
  refine Xc (by kernel_rfl) ?_
  refine Xa (Xb Xi) ?_
  refine Xa (Xg rfl) ?_
  refine Xf ?_
  refine Xc (by kernel_rfl) ?_
  refine Xa (Xb Xi) ?_
  refine Xa (Xw Xi) ?_
  refine Xa (Xb rfl) ?_
  have hix : i < xs.length := by omega
  obtain ⟨b, o, rfl, hb, hcell1⟩ := hs.int_at (i := (i : Int)) (by omega) (by omega)
  have hgi : xs.getD (i : Int).toNat 0 = xs[i] := by rw [Int.toNat_natCast]; exact Zf hix
  rw [hgi] at hcell1
  refine Xa (Xo rfl rfl Tryz.underlying23 inf3.size Xy Xy) ?_
  refine Xa (Xl rfl Tryz.underlying3 rfl Xq) ?_
  refine Xa (Z0 rfl rfl) ?_
  refine X1 rfl rfl ?_ ?_
  intro hc2
  have he : m = xs[i] := of_decide_eq_true hc2
  refine Xf ?_
  refine Xc (by kernel_rfl) ?_
  refine Xa (Xb rfl) ?_
  refine Xa (Xg rfl) ?_
  refine X8 ?_
  exact ⟨.int .i64 i, Xv (Xx rfl), by rw [atI_some hix he.symm hno]⟩
  intro hc2
  have hne : m ≠ xs[i] := of_decide_eq_false hc2
  refine X6 ?_
  refine Xc (by kernel_rfl) ?_
  refine Xa (Yd Xi Xi Yk) ?_
  refine Xa (Xb rfl) ?_
  exact ⟨xs.length - (i + 1), by omega, i + 1, by omega, rfl, rfl, by rw [← Yr hix]; simp only [List.mem_append, List.mem_singleton, not_or]; exact ⟨hno, hne⟩, e0, e1, e7, rfl⟩
  intro hc1
  (try simp only [decide_eq_true_eq, decide_eq_false_iff_not, Bool.not_eq_true', Bool.not_eq_false'] at hc1)
  refine Yj ?_
  refine Xf ?_
  refine Xc (by kernel_rfl) ?_
  refine Xa (Xg rfl) ?_
  refine X8 ?_
  rw [List.take_of_length_le (by omega)] at hno
  exact ⟨.int .i64 (-1), Xv (Xx rfl), by rw [atI_none hno]⟩
def belowL (ps : List Int) (i : Int) : List Int := if i < -1 then [] else ((List.range ps.length).filter fun k => decide (ps.getD k 0 = i)).map fun (k : Nat) => (k : Int)
theorem belowL_next (ps : List Int) (i : Int) (k : Nat) : ((List.range (k + 1)).filter fun k => decide (ps.getD k 0 = i)).map (fun (k : Nat) => (k : Int)) = ((List.range k).filter fun k => decide (ps.getD k 0 = i)).map (fun (k : Nat) => (k : Int)) ++ (if ps.getD k 0 = i then [(k : Int)] else []) := by
  rw [List.range_succ, List.filter_append, List.map_append, List.filter_cons, List.filter_nil]
  by_cases h : ps.getD k 0 = i
  · rw [if_pos (decide_eq_true h), if_pos h]; rfl
  · rw [if_neg (by rw [decide_eq_true_eq]; exact h), if_neg h]; rfl
theorem Below_tree {T : TreeT} {v : Value} {H : Hp} (ht : TreeR H v T) (hl : T.parent.length ≤ 1000000) (i : Int) :
    ACalls Tryz.prog 83 #[v, .int .i64 i] H (fun r H' => ∃ G', H.le G' ∧ OwnP (Y6 .i64) G' H' r (belowL T.parent i)) := by
  obtain ⟨b, mb, s0, s1, s2, es, rfl, hb, hmb, hg, hs0, hs1, hs2, hm, hsp⟩ := ht
  obtain ⟨A0, c0, rfl⟩ := hs0.shape
  obtain ⟨A1, c1, rfl⟩ := hs1.shape
  obtain ⟨A2, c2, rfl⟩ := hs2.shape
  have hbl : ∀ k, (((List.range k).filter fun k => decide (T.parent.getD k 0 = i)).map fun (k : Nat) => (k : Int)).length ≤ k := fun k => by rw [List.length_map]; exact Nat.le_trans (List.length_filter_le _ _) (by simp)
  refine Xu Tryz.func83 rfl rfl rfl (by simp) ?_
  refine Xf ?_
  refine Xc (by kernel_rfl) ?_
  refine Xa (X4 rfl) ?_
  refine Xf ?_
  refine Xc (by kernel_rfl) ?_
  refine Xa (X4 rfl) ?_
  refine Xf ?_
  refine Xf ?_
  refine Xc (by kernel_rfl) ?_
  refine Xa (X9 rfl) ?_
  refine Xa (Vh rfl t_spot rfl Tryz.underlying32) ?_
  refine Xa (Xs rfl) ?_
  refine Ye rfl rfl rfl ?_ ?_
  intro hg1
  cases hg1
  intro hg1
  have hp1 := hg1; try simp only [decide_eq_true_eq, decide_eq_false_iff_not, Bool.not_eq_true', Bool.not_eq_false'] at hp1
  refine Xm (Xk rfl rfl rfl hg1) (Xb rfl) ?_
  refine Xm (Xk rfl rfl rfl hg1) (Yw rfl rfl) ?_
  refine Xa (Xn (congrArg Value.bool hg1) rfl) ?_
  refine X1 rfl rfl ?_ ?_
  intro hc2
  have hlow : i < -1 := of_decide_eq_true hc2
  refine Xf ?_
  refine Xc (by kernel_rfl) ?_
  refine Xa (X4 rfl) ?_
  refine X8 ?_
  exact ⟨.slice none 0 0, Xv (Xx rfl), H, Hp.le_refl _, by unfold belowL; rw [if_pos hlow]; exact OwnP.nil _ _⟩
  intro hc2
  have hlow : ¬ i < -1 := of_decide_eq_false hc2
  refine X6 ?_
  refine Xf ?_
  refine Xf ?_
  refine Xc (by kernel_rfl) ?_
  refine Xa (X9 rfl) ?_
  refine Xa (Yo rfl) ?_
  refine Xa (Xh (off := 1) rfl Tryz.underlying73 rfl inf23.size (by decide) rfl) ?_
  refine Xa (Xl rfl Tryz.underlying23 rfl Xq) ?_
  refine Xa (Yl rfl Tryz.underlying23) ?_
  refine Xa (Xb rfl) ?_
  refine X3 ?_
  refine Yt (fun n t H' => ∃ (k : Nat) (G : Hp) (B : Option Addr) (c5 : Nat) (out : List Int), k ≤ T.parent.length ∧ n = T.parent.length - k ∧ H.le G ∧ out = ((List.range k).filter fun k => decide (T.parent.getD k 0 = i)).map (fun (k : Nat) => (k : Int)) ∧ OwnP (Y6 .i64) G H' (.slice B out.length c5) out ∧ t 1 = .int .i64 i ∧ t 5 = .slice B out.length c5 ∧ t 17 = .slice A1 T.parent.length c1 ∧ t 18 = .int .i64 T.parent.length ∧ t 19 = .int .i64 k) (T.parent.length) (⟨0, H, _, _, [], by omega, rfl, Hp.le_refl _, rfl, OwnP.nil _ _, rfl, rfl, rfl, rfl, rfl⟩) ?_
  rintro n t H1 ⟨k, G, B, c5, out, hk, rfl, hle, hout, hown, e1, e5, e17, e18, e19⟩
  have hz := hown.size
  have hlen : out.length ≤ k := by rw [hout]; exact hbl k
  refine Xf ?_
  refine Xc (by kernel_rfl) ?_
  refine Xa (Yw Xi Xi) ?_
  refine Xf ?_
  refine X1 rfl rfl ?_ ?_
  intro hc3
  (try simp only [decide_eq_true_eq, decide_eq_false_iff_not, Bool.not_eq_true', Bool.not_eq_false'] at hc3)
  refine X6 ?_
  refine Xf ?_
  refine X3 ?_
  refine Xf ?_
  refine Xc (by kernel_rfl) ?_
  refine Xa (Xb Xi) ?_
  have hkx : k < T.parent.length := by omega
  obtain ⟨b1, o1, rfl, hb1, hcell1⟩ := (hs1.mono hle.sees).int_at (i := (k : Int)) (by omega) (by omega)
  rw [Int.toNat_natCast] at hcell1
  have hcell1' := hown.le.cell1 hb1 hcell1
  have hnx := belowL_next T.parent i k
  refine Xa (Xo Xi Xi Tryz.underlying23 inf3.size Xy Xy) ?_
  refine Xa (Xl rfl Tryz.underlying3 rfl Xq) ?_
  refine Xa (Xg rfl) ?_
  refine Xa (Xg rfl) ?_
  refine Xf ?_
  refine Xc (by kernel_rfl) ?_
  refine Xa (Xb rfl) ?_
  refine Xa (Xb Xi) ?_
  refine Xa (Z0 rfl rfl) ?_
  refine X1 rfl rfl ?_ ?_
  intro hc4
  have he : T.parent.getD k 0 = i := of_decide_eq_true hc4
  rw [if_pos he, ← hout] at hnx
  refine Xc (by kernel_rfl) ?_
  refine Xa (Xw Xi) ?_
  refine Xa (Xb rfl) ?_
  first | refine X2 (Ya (r := [.int .i64 _]) Tryz.underlying23 inf3.size inf3.zero rfl (by decide) (by decide) (by decide) rfl) ?_
  refine X5 (OwnP.append (ys := [(k : Int)]) (hown.push _) Tryz.underlying23 inf3 rfl rfl rfl (Zl (k := Y6 .i64) rfl rfl hown.size rfl) (by simp only [List.length_singleton]; omega) (by simp only [List.length_singleton]; omega) ?_)
  rintro v6 G6 H6 hle6 hown6
  obtain ⟨B', c', e6⟩ := hown6.shape
  subst e6
  refine Xa (X4 rfl) ?_
  refine Xc (by kernel_rfl) ?_
  refine Xa (Yd Xi Xi Yk) ?_
  refine Xa (Xb rfl) ?_
  first
    | exact ⟨T.parent.length - (k + 1), by omega, k + 1, G6, B', c', _, by omega, rfl, Hp.le_trans (Hp.le_push' hle _) hle6, hnx.symm, hown6, e1, rfl, e17, e18, rfl⟩
    | exact ⟨T.parent.length - (k + 1), by omega, k + 1, G, B, c5, out, by omega, rfl, hle, hnx.symm, hown, e1, e5, e17, e18, rfl⟩
  intro hc4
  have he : T.parent.getD k 0 ≠ i := of_decide_eq_false hc4
  rw [if_neg he, ← hout, List.append_nil] at hnx
  refine X6 ?_
  refine Xc (by kernel_rfl) ?_
  refine Xa (Yd Xi Xi Yk) ?_
  refine Xa (Xb rfl) ?_
  first
    | exact ⟨T.parent.length - (k + 1), by omega, k + 1, G6, B', c', _, by omega, rfl, Hp.le_trans (Hp.le_push' hle _) hle6, hnx.symm, hown6, e1, rfl, e17, e18, rfl⟩
    | exact ⟨T.parent.length - (k + 1), by omega, k + 1, G, B, c5, out, by omega, rfl, hle, hnx.symm, hown, e1, e5, e17, e18, rfl⟩
  intro hc3
  (try simp only [decide_eq_true_eq, decide_eq_false_iff_not, Bool.not_eq_true', Bool.not_eq_false'] at hc3)
  refine Yj ?_
  refine Xf ?_
  refine Xc (by kernel_rfl) ?_
  refine Xa (Xw Xi) ?_
  refine Xa (X4 rfl) ?_
  refine X8 ?_
  have hk2 : k = T.parent.length := by omega
  subst hk2
  refine ⟨.slice B out.length c5, Xv (Xx rfl), G, hle, ?_⟩
  unfold belowL
  rw [if_neg hlow, ← hout]
  exact hown
end Go.Proofs.YtcaeoebphfjfiaaGreat.Am


/- A tree is asked whether nodes are a row. -/
namespace Go.Proofs.YtcaeoebphfjfiaaGreat.Am
open Go Go.RowKit
set_option maxRecDepth 100000
set_option linter.unusedVariables false
set_option linter.unusedSimpArgs false

def Y2 (T : TreeT) (ns : List Int) (i : Nat) : Int := if T.parent.getD i 0 = -1 then -1 else ns.getD (T.parent.getD i 0).toNat 0
def rowAcc (T : TreeT) (ns : List Int) : Nat → Option (Int × Int)
  | 0 => some (0, 1)
  | i + 1 => (rowAcc T ns i).bind fun cn => (Z4 (T.group i (Y2 T ns i)) (ns.getD i 0)).map fun y => (cn.1 + y.cost, Yv cn.2 y.n)
structure GoodT (T : TreeT) : Prop where
  l1 : T.parent.length = T.vars.length
  l2 : T.links.length = T.vars.length
  few : T.vars.length ≤ 1000
  lens : ∀ l ∈ T.links, l.length ≤ 1000000
  par : ∀ i, i < T.vars.length → T.parent.getD i 0 = -1 ∨ (0 ≤ T.parent.getD i 0 ∧ T.parent.getD i 0 < i)
  sort : ∀ i above, (T.group i above).Pairwise fun x y => x.b < y.b
  cost : ∀ l ∈ T.links, ∀ x ∈ l, 0 ≤ x.cost ∧ x.cost ≤ 2000000000 ∧ 0 ≤ x.n
theorem GoodT.group_mem {T : TreeT} (h : GoodT T) {i above : Int} {x : Link} (hx : x ∈ T.group i above) : 0 ≤ x.cost ∧ x.cost ≤ 2000000000 ∧ 0 ≤ x.n := by
  unfold TreeT.group at hx
  split at hx
  · rename_i hi
    have hl : i.toNat < T.links.length := by rw [h.l2]; omega
    have hx2 : x ∈ T.links[i.toNat] := by
      unfold TreeT.row at hx
      rw [Yz hl] at hx
      split at hx
      · exact hx
      · exact (List.mem_filter.1 hx).1
    exact h.cost _ (List.getElem_mem hl) x hx2
  · simp at hx
end Go.Proofs.YtcaeoebphfjfiaaGreat.Am


/- The tree that is made, place by place. -/
namespace Go.Proofs.YtcaeoebphfjfiaaGreat.Am
open Go Go.RowKit
set_option maxRecDepth 100000
set_option linter.unusedVariables false
set_option linter.unusedSimpArgs false

structure Cheap (p : Parts) : Prop where
  nodes : ∀ v, ∀ x ∈ nd p v, 0 ≤ x.cost ∧ x.cost ≤ 1000000000 ∧ 0 ≤ x.n
  links : ∀ v, ∀ x ∈ lk p v, 0 ≤ x.cost ∧ x.cost ≤ 1000000000 ∧ 0 ≤ x.n
theorem Cheap.sub {p q : Parts} (h : Cheap p) (hs : Sub q p) : Cheap q := ⟨fun v x hx => h.nodes v x ((hs v).1.subset hx), fun v x hx => h.links v x ((hs v).2.subset hx)⟩
theorem goodL_strict {xs : List Link} (h : GoodL xs) (hb : ∀ x ∈ xs, x.a = x.b) : xs.Pairwise fun x y => x.a < y.a := by
  refine List.Pairwise.imp_of_mem (R := fun x y => Vl x y = true) (fun {x y} hx hy hl => ?_) (Ui.1 h).2
  have e1 := hb x hx
  have e2 := hb y hy
  simp only [Vl, Bool.or_eq_true, Bool.and_eq_true, decide_eq_true_eq] at hl
  omega
theorem rise_weigh {ns ls : List Link} (h : RiseA ls) : RiseA (ls.map (Ul ns)) := by
  intro i j hi hj hij
  rw [List.getElem_map, List.getElem_map]
  exact h i j (by simpa using hi) (by simpa using hj) hij
theorem Vj {f : Forest} (x : Parts) : (Yy f x).vars.length = f.order.length ∧ (Yy f x).parent.length = f.order.length ∧ (Yy f x).links.length = f.order.length := by simp [Yy]
theorem vAt_get {f : Forest} {i : Nat} (hi : i < f.order.length) : Zr f i = f.order[i].toNat := by unfold Zr; rw [Zf hi]
theorem treeOf_at {f : Forest} (x : Parts) {i : Nat} (hi : i < f.order.length) : (Yy f x).vars[i]? = some (f.vars.getD (Zr f i) ⟨#[]⟩) ∧ (Yy f x).parent[i]? = some (atI f.order (par f (Zr f i))) ∧ (Yy f x).links[i]? = some (Y4 f x (Zr f i)) := by
  have e := vAt_get hi
  refine ⟨?_, ?_, ?_⟩ <;> simp [Yy, List.getElem?_eq_getElem hi, e]
theorem take_at {α : Type} {xs : List α} {i : Nat} {y : α} (h : xs[i]? = some y) : xs.take i ++ [y] = xs.take (i + 1) := by
  obtain ⟨hi, rfl⟩ := List.getElem?_eq_some_iff.1 h
  exact Yr hi
theorem mapGet_nil (k : Value) : Y0 [] k = none := mapGet_none fun e h => by cases h
theorem Spots.zero (T : TreeT) : Spots T 0 [] := ⟨fun e h => (by cases h), fun i h => (by omega), fun _ _ _ => mapGet_nil _⟩
theorem Spots.step {T : TreeT} {i : Nat} {es es' : List (Value × Value)} (h : Spots T i es)
    (hres : if T.parent.getD i 0 = -1 then es' = Z8 es (Y7 i (-1)) (spanV 0 (T.links.getD i []).length) else Noted (T.links.getD i []) i (T.links.getD i []).length es es') : Spots T (i + 1) es' := by
  have other : ∀ (j : Nat) above, j ≠ i → Y0 es' (Y7 j above) = Y0 es (Y7 j above) := fun j above hj => by
    split at hres
    · subst hres
      exact Zp fun e => hj (by have := (Z7 e).1; omega)
    · exact hres.other j above hj
  refine ⟨?_, fun j hj above hroot => ?_, fun j above hj => by rw [other j above (by omega)]; exact h.none j above (by omega)⟩
  · split at hres
    · subst hres; exact mapPut_keys h.keys ⟨_, _, rfl⟩
    · exact hres.keys
  · by_cases hji : j = i
    · subst hji
      split at hres
      · rename_i hr
        have := hroot hr
        subst this
        subst hres
        refine ⟨0, (T.links.getD j []).length, by rw [Vv]; rfl, by omega, Nat.le_refl _, ?_⟩
        unfold TreeT.row
        rw [if_pos hr, List.drop_zero, List.take_length]
      · rename_i hr
        have hrow : T.row j above = (T.links.getD j []).filter fun l => decide (l.a = above) := by unfold TreeT.row; rw [if_neg hr]
        by_cases hex : ∃ (k : Nat) (h : k < (T.links.getD j []).length), k < (T.links.getD j []).length ∧ (T.links.getD j [])[k].a = above
        · obtain ⟨fr, to, h1, h2, h3, h4⟩ := hres.yes above hex
          exact ⟨fr, to, by rw [h1]; rfl, h2, h3, by rw [hrow]; exact h4⟩
        · refine ⟨0, 0, by rw [hres.no above hex]; rfl, Nat.le_refl _, Nat.zero_le _, ?_⟩
          rw [hrow, List.filter_eq_nil_iff.2]
          · rfl
          · intro l hl e
            obtain ⟨k, hk, rfl⟩ := List.getElem_of_mem hl
            exact hex ⟨k, hk, hk, of_decide_eq_true e⟩
    · rw [other j above hji]
      exact h.at_ j (by omega) above hroot
theorem stable_ints (st : Nat) : V5 (Y6 .i64) st := Plain.stable (plain_int .i64) st
theorem stable_strs (st : Nat) : V5 kStr st := Plain.stable (fun _ _ _ _ h => h) st
theorem Zh (st : Nat) : V5 kLink st := Plain.stable plain_link st
theorem stable_lists : V5 (Vs kLink) 1 := stable_sl (Zh 1) (by decide)
end Go.Proofs.YtcaeoebphfjfiaaGreat.Am


/- All rows of good parts, by the document's words. -/
namespace Go.Proofs.YtcaeoebphfjfiaaGreat.Am
open Go Go.RowKit
set_option maxRecDepth 100000
set_option linter.unusedVariables false
set_option linter.unusedSimpArgs false

theorem findI_lt {xs : List Link} {a b : Int} (h : 0 ≤ Vf xs a b) : ∃ m : Nat, Vf xs a b = m ∧ ∃ hm : m < xs.length, xs[m].a = a ∧ xs[m].b = b := by
  unfold Vf at *
  cases hf : xs.findIdx? (isAt a b) with
  | none => rw [hf] at h; simp at h
  | some i =>
    obtain ⟨hi, h1, _⟩ := List.findIdx?_eq_some_iff_getElem.1 hf
    unfold isAt at h1
    rw [Bool.and_eq_true, decide_eq_true_eq, decide_eq_true_eq] at h1
    exact ⟨i, rfl, hi, h1⟩
theorem rowOne_flat {f : Forest} {p : Parts} {w : Nat} {r : RowT} {x : Link} (h : ¬ 0 ≤ par f w) : Zw f p w r x = some ⟨r.nodes ++ [x.a], r.cost + x.cost, Yv r.n x.n⟩ := if_neg h
theorem rowOne_none {f : Forest} {p : Parts} {w : Nat} {r : RowT} {x : Link} (h : 0 ≤ par f w) (h2 : ¬ 0 ≤ Vm f p w r x) : Zw f p w r x = none := by unfold Zw; rw [if_pos h, if_neg h2]
theorem rowOne_link {f : Forest} {p : Parts} {w m : Nat} {r : RowT} {x : Link} (h : 0 ≤ par f w) (h2 : Vm f p w r x = m) (hm : m < (lk p w).length) : Zw f p w r x = some ⟨r.nodes ++ [x.a], r.cost + (x.cost + (lk p w)[m].cost), Yv r.n (Yv x.n (lk p w)[m].n)⟩ := by
  unfold Zw
  rw [if_pos h, if_pos (by omega), h2, Int.toNat_natCast, List.getD_eq_getElem?_getD, List.getElem?_eq_getElem hm]; rfl
set_option maxHeartbeats 4000000 in
theorem Rows_ref (f : Forest) (p : Parts) (cs ds : List Value) (H : Hp) (hp : kForest.rep H f cs) (hq : kParts.rep H p ds) (hG : GoodP f p) (hsm : Small f p) (ht : Tiny f p) :
    ACalls Tryz.prog 12 #[.agg cs.toArray, .agg ds.toArray] H (fun r H' => H.le H' ∧ Sl kRow H' r (Yu f p)) := by
  have hg := hG.gf
  have hp0 := hp
  have hq0 := hq
  obtain ⟨v0, v1, v2, v3, v4, rfl, hs0, hs1, hs2, hs3, hs4⟩ := hp
  obtain ⟨A0, c0, rfl⟩ := hs0.shape
  obtain ⟨A1, c1, rfl⟩ := hs1.shape
  obtain ⟨A2, c2, rfl⟩ := hs2.shape
  obtain ⟨A3, c3, rfl⟩ := hs3.shape
  obtain ⟨A4, c4, rfl⟩ := hs4.shape
  obtain ⟨u0, u1, rfl, hn0, hn1⟩ := hq
  obtain ⟨B0, d0, rfl⟩ := hn0.shape
  obtain ⟨B1, d1, rfl⟩ := hn1.shape
  have hgl := hg.l1
  have hgp := hg.l2
  have hvn := ht.vars
  refine Xu Tryz.func12 rfl rfl rfl (by simp) ?_
  refine Xf ?_
  refine Xc (by kernel_rfl) ?_
  refine X2 (Ym rfl) ?_
  refine X2 (Ym rfl) ?_
  refine Xa (X4 rfl) ?_
  refine Xf ?_
  refine Xc (by kernel_rfl) ?_
  refine Xa (Zb (pl := [(0, 1), (1, 1), (2, 1)]) (r := [.slice _ _ _, .int .i64 _, .int .u64 _]) Tryz.underlying49 inf49.zero (by decide) rfl rfl) ?_
  refine X2 (Ya (r := [.slice _ _ _, .int .i64 _, .int .u64 _]) Tryz.underlying38 inf49.size inf49.zero rfl (by decide) (by decide) (by decide) rfl) ?_
  refine Xa (X4 rfl) ?_
  refine Xf ?_
  refine Xf ?_
  refine Xc (by kernel_rfl) ?_
  refine Xa (Xg rfl) ?_
  refine X3 ?_
  refine Yt (fun n t H' => ∃ (i : Nat) (Ao : Option Addr) (co : Nat), i ≤ f.order.length ∧ n = f.order.length - i ∧ ((H.push (.own 0 [.slice A0 f.vars.length c0, .slice A1 f.order.length c1, .slice A2 f.parent.length c2, .slice A3 f.links.length c3, .slice A4 f.loops.length c4])).push (.own 0 [.slice B0 p.nodes.length d0, .slice B1 p.links.length d1])).le H' ∧ Sl kRow H' (.slice Ao (Zq f p i).length co) (Zq f p i) ∧ t 2 = .pointer (some ⟨H.size, 0, none⟩) ∧ t 3 = .pointer (some ⟨H.size + 1, 0, none⟩) ∧ t 5 = .slice Ao (Zq f p i).length co ∧ t 6 = .int .i64 i) (f.order.length) (⟨0, _, _, by omega, rfl, Hp.le_push _ _, Zl (k := kRow) (x := ⟨[], 0, 1⟩) ⟨_, rfl, Sl.nil _ _⟩ rfl rfl rfl, rfl, rfl, rfl, rfl⟩) ?_
  rintro n t H1 ⟨i, Ao, co, hi, rfl, hle1, hso, e2, e3, e5, e6⟩
  have hz1 := hle1.1
  simp only [Hp.push_size] at hz1
  have g0 : H1.get H.size = .own 0 [.slice A0 f.vars.length c0, .slice A1 f.order.length c1, .slice A2 f.parent.length c2, .slice A3 f.links.length c3, .slice A4 f.loops.length c4] := Xt hle1 (by simp <;> omega) (by intro e; cases e) Yh
  have g1 : H1.get (H.size + 1) = .own 0 [.slice B0 p.nodes.length d0, .slice B1 p.links.length d1] := Xt hle1 (by simp <;> omega) (by intro e; cases e) Yh
  have leH1 : H.le H1 := Hp.le_trans (Hp.le_push' (H.le_push _) _) hle1
  refine Xf ?_
  refine Xf ?_
  refine Xc (by kernel_rfl) ?_
  refine Xa (Xb Xi) ?_
  refine Xa (Xh (off := 1) Xi Tryz.underlying26 Xi inf23.size (by decide) Xi) ?_
  refine Xa (Xl rfl Tryz.underlying23 rfl Xq) ?_
  refine Xa (Yl rfl Tryz.underlying23) ?_
  refine Xa (Yw rfl rfl) ?_
  refine X1 rfl rfl ?_ ?_
  intro hc1
  (try simp only [decide_eq_true_eq, decide_eq_false_iff_not, Bool.not_eq_true', Bool.not_eq_false'] at hc1)
  refine X6 ?_
  refine Xf ?_
  refine X3 ?_
  refine Xf ?_
  have hi' : i < f.order.length := by omega
  have hwm : f.order.getD i 0 ∈ f.order := by rw [Zf hi']; exact List.getElem_mem hi'
  obtain ⟨b1, o1, rfl, hb1, hcell1⟩ := hs1.int_at (i := (i : Int)) (by omega) (by omega)
  rw [Int.toNat_natCast] at hcell1
  have hcell1' := leH1.cell1 hb1 hcell1
  obtain ⟨w, hw⟩ : ∃ w : Nat, f.order.getD i 0 = (w : Int) := ⟨(f.order.getD i 0).toNat, by have := hg.order_in hwm; omega⟩
  have hwn : w < f.vars.length := by have := hg.order_in hwm; omega
  have hvat : Zr f i = w := by unfold Zr; rw [hw]; rfl
  rw [hw] at hcell1'
  have hge := hg.parent_ge hwn
  obtain ⟨b2, o2, rfl, hb2, hcell2⟩ := hs2.int_at (i := (w : Int)) (by omega) (by omega)
  rw [Int.toNat_natCast] at hcell2
  have hcell2' := leH1.cell1 hb2 hcell2
  have hln := hG.n1
  have hll := hG.n2
  obtain ⟨b3, o3, ks3, eB0, hb3, ⟨wn, rfl, hsn⟩, hcell3⟩ := (hn0.mono leH1.sees).elem_at (i := w) (by omega)
  obtain ⟨b4, o4, ks4, eB1, hb4, ⟨wl, rfl, hsl⟩, hcell4⟩ := (hn1.mono leH1.sees).elem_at (i := w) (by omega)
  subst eB0 eB1
  have hcell3' := hcell3.one
  have hcell4' := hcell4.one
  have gn : p.nodes[w]'(by omega) = nd p w := (Yz (by omega)).symm
  have gl : p.links[w]'(by omega) = lk p w := (Yz (by omega)).symm
  rw [gn] at hsn
  rw [gl] at hsl
  obtain ⟨An, cn, rfl⟩ := hsn.shape
  obtain ⟨Al, cl, rfl⟩ := hsl.shape
  have hndl := ht.nodes w
  have hlkl : (lk p w).length ≤ 1000000 := Zz hsm.s6 w
  have hrl : (Zq f p i).length ≤ 1024 := Nat.le_trans (rowsK_len ht i) (Nat.pow_le_pow_right (by omega) (by omega : i ≤ 5))
  refine Ys (by kernel_rfl) (Y1 (B := [0, 0, 2, 0, 14, 30, 1, 127]) (π := [0, 1, 2, 3, 4, 5, 6, 7]) (by kernel_rfl)) ?_
  first | refine Y5 rfl rfl (Ya (r := []) Tryz.underlying38 inf49.size inf49.zero rfl (by decide) (by decide) (by decide) rfl) ?_
  refine Xd rfl rfl (Xh (off := 1) Xi Tryz.underlying26 Xi inf23.size (by decide) Xi) Xp ?_
  refine Xd rfl rfl (Xl rfl Tryz.underlying23 rfl Xq) Xp ?_
  refine Xd rfl rfl (Xb Xi) Xp ?_
  refine Xd rfl rfl (Xo rfl rfl Tryz.underlying23 inf3.size Xy Xy) Xp ?_
  refine Xd rfl rfl (Xl rfl Tryz.underlying3 rfl Xq) Xp ?_
  refine Xd rfl rfl (X4 rfl) Xp ?_
  refine Xd rfl rfl (Xg rfl) Xp ?_
  refine Xf ?_
  refine Xf ?_
  refine Xc (by kernel_rfl) ?_
  refine Xa (Xg rfl) ?_
  refine X3 ?_
  refine Yt (fun n t H' => ∃ (k : Nat) (G : Hp) (rows : List RowT) (B : Option Addr) (c5 : Nat), k ≤ (Zq f p i).length ∧ n = (Zq f p i).length - k ∧ H1.le G ∧ rows = ((Zq f p i).take k).flatMap (fun r => (nd p w).filterMap (Zw f p w r)) ∧ OwnP kRow G H' (.slice B rows.length c5) rows ∧ t 2 = .pointer (some ⟨H.size, 0, none⟩) ∧ t 3 = .pointer (some ⟨H.size + 1, 0, none⟩) ∧ t 5 = .slice Ao (Zq f p i).length co ∧ t 6 = .int .i64 i ∧ t 7 = .slice B rows.length c5 ∧ t 8 = .int .i64 w ∧ t 9 = .int .i64 k) ((Zq f p i).length) (⟨0, H1.push .dead, [], _, _, by omega, rfl, H1.le_push _, rfl, OwnP.lit kRow H1, e2, e3, e5, e6, rfl, rfl, rfl⟩) ?_
  rintro n t H2 ⟨k, G2, rows, B, c5, hk, rfl, hle2, hrows, hown2, e2, e3, e5, e6, e7, e8, e9⟩
  have hz2 := hown2.size
  have leH2 := Hp.le_trans hle2 hown2.le
  have g02 := Xt leH2 (by omega) (by intro e; cases e) g0
  have g12 := Xt leH2 (by omega) (by intro e; cases e) g1
  have hrows4 : rows.length ≤ 4 * k := by rw [hrows]; have := flat_len (g := (fun r => (nd p w).filterMap (Zw f p w r))) (m := 4) (fun r => Nat.le_trans (List.length_filterMap_le _ _) hndl) ((Zq f p i).take k); rw [List.length_take] at this; omega
  refine Xf ?_
  refine Xf ?_
  refine Xc (by kernel_rfl) ?_
  refine Xa (Xb Xi) ?_
  refine Xa (Xw Xi) ?_
  refine Xa (Yl rfl Tryz.underlying38) ?_
  refine Xa (Yw rfl rfl) ?_
  refine X1 rfl rfl ?_ ?_
  intro hc2
  (try simp only [decide_eq_true_eq, decide_eq_false_iff_not, Bool.not_eq_true', Bool.not_eq_false'] at hc2)
  refine X6 ?_
  refine Xf ?_
  refine X3 ?_
  refine Xf ?_
  have hkx : k < (Zq f p i).length := by omega
  obtain ⟨bo, oo, wr, eAo, hbo, hcello, hwr⟩ := hso.row_at hkx
  obtain ⟨_, _, eA2, _, _, hcuto, _⟩ := hso.place (by omega)
  subst eAo
  simp only [Option.some.injEq, Addr.mk.injEq, and_true] at eA2
  obtain ⟨rfl, rfl⟩ := eA2
  have hdo : H1.get bo ≠ .dead := Blk.cut_ne hcuto
  obtain ⟨r, hr⟩ : ∃ r, r = (Zq f p i)[k] := ⟨_, rfl⟩
  rw [← hr] at hcello hwr
  have hrok : RowOk i r := rowsK_ok ht i r (by rw [hr]; exact List.getElem_mem hkx)
  obtain ⟨hrn, hr0, hr1, hr2, hr3⟩ := hrok
  obtain ⟨Ar, cr, rfl⟩ := hwr.shape
  refine Xc (by kernel_rfl) ?_
  refine Xa (Xg rfl) ?_
  refine X3 ?_
  refine Yt (fun n t H' => ∃ (j : Nat) (G : Hp) (rows3 : List RowT) (B : Option Addr) (c5 : Nat), j ≤ (nd p w).length ∧ n = (nd p w).length - j ∧ H1.le G ∧ rows3 = rows ++ ((nd p w).take j).filterMap (Zw f p w r) ∧ OwnP kRow G H' (.slice B rows3.length c5) rows3 ∧ t 2 = .pointer (some ⟨H.size, 0, none⟩) ∧ t 3 = .pointer (some ⟨H.size + 1, 0, none⟩) ∧ t 5 = .slice (some ⟨bo, oo, none⟩) (Zq f p i).length co ∧ t 6 = .int .i64 i ∧ t 7 = .slice B rows3.length c5 ∧ t 8 = .int .i64 w ∧ t 9 = .int .i64 k ∧ t 10 = .int .i64 j) ((nd p w).length) (⟨0, G2, rows, B, c5, by omega, rfl, hle2, by simp, hown2, e2, e3, e5, e6, e7, e8, e9, rfl⟩) ?_
  rintro n t H3 ⟨j, G3, rows3, B3, c53, hj, rfl, hle3, hrows3, hown3, e2, e3, e5, e6, e7, e8, e9, e10⟩
  have hz3 := hown3.size
  have leH3 := Hp.le_trans hle3 hown3.le
  have hs3' := leH3.1
  have g03 := Xt leH3 (by omega) (by intro e; cases e) g0
  have g13 := Xt leH3 (by omega) (by intro e; cases e) g1
  have hcell33 := leH3.cell1 hb3 hcell3'
  have hrows34 : rows3.length ≤ 4 * k + 4 := by rw [hrows3, List.length_append]; have := List.length_filterMap_le (Zw f p w r) ((nd p w).take j); rw [List.length_take] at this; omega
  refine Xf ?_
  refine Xf ?_
  refine Xc (by kernel_rfl) ?_
  refine Xa (Xb Xi) ?_
  refine Xa (Xh (off := 0) Xi Tryz.underlying29 Xi inf27.size (by decide) Xi) ?_
  refine Xa (Xl rfl Tryz.underlying27 rfl Xq) ?_
  refine Xa (Xb Xi) ?_
  refine Xa (Xo rfl rfl Tryz.underlying27 inf68.size Xy Xy) ?_
  refine Xa (Xl rfl Tryz.underlying68 rfl Xq) ?_
  refine Xa (Yl rfl Tryz.underlying68) ?_
  refine Xa (Yw rfl rfl) ?_
  refine X1 rfl rfl ?_ ?_
  intro hc3
  (try simp only [decide_eq_true_eq, decide_eq_false_iff_not, Bool.not_eq_true', Bool.not_eq_false'] at hc3)
  refine X6 ?_
  refine Xf ?_
  refine X3 ?_
  refine Xf ?_
  have hjx : j < (nd p w).length := by omega
  obtain ⟨bx, ox, eAn, hbx, hcellx⟩ := hsn.link_at hjx
  subst eAn
  have hcellx3 := leH3.cells hbx hcellx
  obtain ⟨x, hx⟩ : ∃ x, x = (nd p w)[j] := ⟨_, rfl⟩
  rw [← hx] at hcellx hcellx3
  obtain ⟨hx0, hx1, hx2, hx3⟩ := ht.costN w x (by rw [hx]; exact List.getElem_mem hjx)
  have hnext := filterMap_next (g := Zw f p w r) hjx
  rw [← hx] at hnext
  refine Xc (by kernel_rfl) ?_
  refine Xa (Xh (off := 0) Xi Tryz.underlying29 Xi inf27.size (by decide) Xi) ?_
  refine Xa (Xl rfl Tryz.underlying27 rfl Xq) ?_
  refine Xa (Xb Xi) ?_
  refine Xa (Xo rfl rfl Tryz.underlying27 inf68.size Xy Xy) ?_
  refine Xa (Xl rfl Tryz.underlying68 rfl Xq) ?_
  refine Xa (Xb Xi) ?_
  refine Xa (Xo rfl rfl Tryz.underlying68 inf78.size Xy Xy) ?_
  refine Xa (Yc (cs := [.int .i64 _, .int .i64 _, .int .i64 _, .int .u64 _]) rfl Tryz.underlying78 rfl inf78.size Yb) ?_
  refine X2 (Y9 (l := [.int .i64 0, .int .i64 0, .int .i64 0, .int .u64 0]) inf78.zero rfl (by decide)) ?_
  first | refine X5 (Yq (vs := [.int .i64 _, .int .i64 _, .int .i64 _, .int .u64 _]) rfl rfl inf78.size Yh Yp rfl rfl ?_)
  refine Xf ?_
  obtain ⟨H4, hH4⟩ : ∃ H4, H4 = (H3.push (.own 0 [.int .i64 0, .int .i64 0, .int .i64 0, .int .u64 0])).put H3.size (.own 0 [.int .i64 x.a, .int .i64 x.b, .int .i64 x.cost, .int .u64 x.n]) := ⟨_, rfl⟩
  obtain ⟨G4, hG4⟩ : ∃ G4, G4 = (G3.push (.own 0 [.int .i64 0, .int .i64 0, .int .i64 0, .int .u64 0])).put H3.size (.own 0 [.int .i64 x.a, .int .i64 x.b, .int .i64 x.cost, .int .u64 x.n]) := ⟨_, rfl⟩
  have hown4 : OwnP kRow G4 H4 (.slice B3 rows3.length c53) rows3 := by rw [hH4, hG4]; exact hown3.boxed _ _
  have hle4 : H1.le G4 := by rw [hG4]; exact Hp.le_put_new (Hp.le_push' hle3 _) (by omega) _
  have g24 : H4.get H3.size = .own 0 [.int .i64 x.a, .int .i64 x.b, .int .i64 x.cost, .int .u64 x.n] := by rw [hH4]; exact Hp.put_same _ _ _
  have hz4 : H4.size = H3.size + 1 := by rw [hH4]; simp
  change ACode true _ _ _ _ _ ((H3.push (.own 0 [.int .i64 0, .int .i64 0, .int .i64 0, .int .u64 0])).put H3.size (.own 0 [.int .i64 x.a, .int .i64 x.b, .int .i64 x.cost, .int .u64 x.n]))
  rw [← hH4]
  have hzz4 := hown4.size
  have leH4 := Hp.le_trans hle4 hown4.le
  have g04 := Xt leH4 (by omega) (by intro e; cases e) g0
  have g14 := Xt leH4 (by omega) (by intro e; cases e) g1
  have hcell24 := leH4.cell1 (Nat.lt_of_lt_of_le hb2 leH1.1) hcell2'
  have hcello4 := leH4.cells hbo hcello
  have hcello0 := hcello4 0 _ rfl
  have hcello1 := hcello4 1 _ rfl
  have hcello2 := hcello4 2 _ rfl
  refine Ys (by kernel_rfl) (Y1 (B := [0, 1, 0, 4, 3, 31]) (π := [0, 1, 2, 3, 4, 5]) (by kernel_rfl)) ?_
  refine Xd rfl rfl (Xh (off := 2) rfl Tryz.underlying78 rfl inf3.size (by decide) rfl) Xp ?_
  refine Xd rfl rfl (Xl rfl Tryz.underlying3 rfl Xq) Xp ?_
  refine Xd rfl rfl (Xh (off := 3) rfl Tryz.underlying78 rfl inf42.size (by decide) rfl) Xp ?_
  refine Xd rfl rfl (Xl rfl Tryz.underlying42 rfl Xq) Xp ?_
  refine Xd rfl rfl (Xg rfl) Xp ?_
  refine Xd rfl rfl (Xg rfl) Xp ?_
  refine Xf ?_
  refine Xf ?_
  refine Xc (by kernel_rfl) ?_
  refine Xa (Xh (off := 2) Xi Tryz.underlying26 Xi inf23.size (by decide) Xi) ?_
  refine Xa (Xl rfl Tryz.underlying23 rfl Xq) ?_
  refine Xa (Xb Xi) ?_
  refine Xa (Xo rfl rfl Tryz.underlying23 inf3.size Xy Xy) ?_
  refine Xa (Xl rfl Tryz.underlying3 rfl Xq) ?_
  refine Xa (av_ge rfl rfl) ?_
  refine X1 rfl rfl ?_ ?_
  intro hc4
  have hpar : 0 ≤ par f w := of_decide_eq_true hc4
  have hokf := (hg.ok i (by omega)).2.2.2
  rw [hw, Int.toNat_natCast] at hokf
  obtain ⟨q, hq1, hq2, hq3, hq4⟩ := atI_take (xs := f.order) (v := par f w) (i := i) (hokf.resolve_left (by unfold par at hpar; omega))
  have hlo : Vm f p w r x = Vf (lk p w) (r.nodes.getD q 0) x.a := by unfold Vm; rw [hq1]; rfl
  obtain ⟨bq, oq, eAr, hbq, hcellq⟩ := hwr.int_at (i := (q : Int)) (by omega) (by omega)
  rw [Int.toNat_natCast] at hcellq
  subst eAr
  have hcellq4 := leH4.cell1 hbq hcellq
  have hcell44 := leH4.cell1 hb4 hcell4'
  refine Xf ?_
  refine Ys (by kernel_rfl) (Y1 (B := [0, 1, 0, 7, 15, 0, 0, 96, 224, 480, 0, 0, 2048, 0, 14336, 30720, 64512, 131040, 262112, 0, 524288, 2097151, 4194303]) (π := [0, 1, 2, 3, 4, 5, 6, 7, 8, 9, 10, 11, 12, 13, 14, 15, 19, 20, 16, 17, 18, 21, 22]) (by kernel_rfl)) ?_
  refine Xd rfl rfl (Xh (off := 1) Xi Tryz.underlying29 Xi inf27.size (by decide) Xi) Xp ?_
  refine Xd rfl rfl (Xl rfl Tryz.underlying27 rfl Xq) Xp ?_
  refine Xd rfl rfl (Xb Xi) Xp ?_
  refine Xd rfl rfl (Xo rfl rfl Tryz.underlying27 inf68.size Xy Xy) Xp ?_
  refine Xd rfl rfl (Xl rfl Tryz.underlying68 rfl Xq) Xp ?_
  refine Xd rfl rfl (Xw Xi) Xp ?_
  refine Xd rfl rfl (Xb Xi) Xp ?_
  refine Xd rfl rfl (Xo rfl rfl Tryz.underlying38 inf49.size Xy Xy) Xp ?_
  refine Xd rfl rfl (Xh (off := 0) rfl Tryz.underlying49 rfl inf23.size (by decide) rfl) Xp ?_
  refine Xd rfl rfl (Xl rfl Tryz.underlying23 rfl Xq) Xp ?_
  refine Xd rfl rfl (Yc (cs := [.slice _ _ _, .slice _ _ _, .slice _ _ _, .slice _ _ _, .slice _ _ _]) Xi Tryz.underlying26 Xi inf26.size Yb) Xp ?_
  refine Xd rfl rfl (Xh (off := 2) Xi Tryz.underlying26 Xi inf23.size (by decide) Xi) Xp ?_
  refine Xd rfl rfl (Xl rfl Tryz.underlying23 rfl Xq) Xp ?_
  refine Xd rfl rfl (Xb Xi) Xp ?_
  refine Xd rfl rfl (Xo rfl rfl Tryz.underlying23 inf3.size Xy Xy) Xp ?_
  refine Xd rfl rfl (Xl rfl Tryz.underlying3 rfl Xq) Xp ?_
  refine Xd rfl rfl (Xh (off := 0) rfl Tryz.underlying78 rfl inf3.size (by decide) rfl) Xp ?_
  refine Xd rfl rfl (Xl rfl Tryz.underlying3 rfl Xq) Xp ?_
  refine Yg rfl rfl (X0 (at_forest f _ _ _ (kForest.mono (Hp.le_trans leH1 leH4).sees hp0) (by omega)) rfl Tryz.func47 rfl rfl rfl ?_)
  rintro v5 H4 ⟨rfl, rfl⟩; rw [show atI f.order (f.parent.getD w 0) = (q : Int) from hq1]
  refine ⟨Yf, ?_⟩
  refine Xd rfl rfl (Xo rfl rfl Tryz.underlying23 inf3.size Xy Xy) Xp ?_
  refine Xd rfl rfl (Xl rfl Tryz.underlying3 rfl Xq) Xp ?_
  refine Yg rfl rfl (X0 (Find_links (lk p w) _ _ _ _ (hsl.mono leH4.sees) (by omega)) rfl Tryz.func46 rfl rfl rfl ?_)
  rintro v6 H4 ⟨rfl, rfl⟩
  refine ⟨Yf, ?_⟩
  refine Xd rfl rfl (Xg rfl) Xp ?_
  refine Xf ?_
  refine Xf ?_
  refine Xc (by kernel_rfl) ?_
  refine Xa (Xb rfl) ?_
  refine Xa (Yw rfl rfl) ?_
  refine X1 rfl rfl ?_ ?_
  intro hc5
  have hneg : ¬ 0 ≤ Vm f p w r x := by have := of_decide_eq_true hc5; rw [hlo]; omega
  have hone := rowOne_none hpar hneg
  refine Yj ?_
  refine Xc (by kernel_rfl) ?_
  refine Xa (Xb Xi) ?_
  refine Xa (Yd rfl rfl Yk) ?_
  refine Xa (Xg rfl) ?_
  first
    | (rw [hone] at hnext
       exact ⟨(nd p w).length - (j + 1), by omega, j + 1, G10, _, A10, c10, by omega, rfl, Hp.le_trans (Hp.le_push' (Hp.le_trans hle4 hle9) _) hle10, by rw [hnext, hrows3]; simp, hown10, e2, e3, e5, e6, rfl, e8, e9, rfl⟩)
    | (rw [hone] at hnext
       exact ⟨(nd p w).length - (j + 1), by omega, j + 1, G4, rows3, B3, c53, by omega, rfl, hle4, by rw [hnext, hrows3]; simp, hown4, e2, e3, e5, e6, e7, e8, e9, rfl⟩)
  intro hc5
  have hpos : 0 ≤ Vf (lk p w) (r.nodes.getD q 0) x.a := by have := of_decide_eq_false hc5; omega
  obtain ⟨m, hm1, hm2, hm3, hm4⟩ := findI_lt hpos
  rw [hm1] at hlo
  rw [hm1]
  have hone := rowOne_link (r := r) (x := x) hpar hlo hm2
  obtain ⟨bl, ol, eAl, hbl, hcelll⟩ := hsl.link_at hm2
  subst eAl
  have hcelll4 := leH4.cells hbl hcelll
  have hcelll2 := hcelll4 2 _ rfl
  have hcelll3 := hcelll4 3 _ rfl
  obtain ⟨hl0, hl1, hl2, hl3⟩ := ht.costL w (lk p w)[m] (List.getElem_mem hm2)
  refine X6 ?_
  refine Ys (by kernel_rfl) (Y1 (B := [0, 0, 2, 0, 14, 30, 0, 126, 254, 510, 1023, 0, 0, 4096, 0, 28672, 61440, 0, 258048, 520192, 1044480, 2095104, 4194303, 8388607]) (π := [0, 1, 2, 3, 4, 5, 6, 7, 8, 9, 10, 11, 12, 13, 14, 15, 16, 17, 18, 19, 20, 21, 22, 23]) (by kernel_rfl)) ?_
  refine Xd rfl rfl (Xb rfl) Xp ?_
  refine Xd rfl rfl (Xh (off := 1) Xi Tryz.underlying29 Xi inf27.size (by decide) Xi) Xp ?_
  refine Xd rfl rfl (Xl rfl Tryz.underlying27 rfl Xq) Xp ?_
  refine Xd rfl rfl (Xb Xi) Xp ?_
  refine Xd rfl rfl (Xo rfl rfl Tryz.underlying27 inf68.size Xy Xy) Xp ?_
  refine Xd rfl rfl (Xl rfl Tryz.underlying68 rfl Xq) Xp ?_
  refine Xd rfl rfl (Xb rfl) Xp ?_
  refine Xd rfl rfl (Xo rfl rfl Tryz.underlying68 inf78.size Xy Xy) Xp ?_
  refine Xd rfl rfl (Xh (off := 2) rfl Tryz.underlying78 rfl inf3.size (by decide) rfl) Xp ?_
  refine Xd rfl rfl (Xl rfl Tryz.underlying3 rfl Xq) Xp ?_
  refine Xd rfl rfl (Yd rfl rfl Yk) Xp ?_
  refine Xd rfl rfl (Xb rfl) Xp ?_
  refine Xd rfl rfl (Xh (off := 1) Xi Tryz.underlying29 Xi inf27.size (by decide) Xi) Xp ?_
  refine Xd rfl rfl (Xl rfl Tryz.underlying27 rfl Xq) Xp ?_
  refine Xd rfl rfl (Xb Xi) Xp ?_
  refine Xd rfl rfl (Xo rfl rfl Tryz.underlying27 inf68.size Xy Xy) Xp ?_
  refine Xd rfl rfl (Xl rfl Tryz.underlying68 rfl Xq) Xp ?_
  refine Xd rfl rfl (Xb rfl) Xp ?_
  refine Xd rfl rfl (Xo rfl rfl Tryz.underlying68 inf78.size Xy Xy) Xp ?_
  refine Xd rfl rfl (Xh (off := 3) rfl Tryz.underlying78 rfl inf42.size (by decide) rfl) Xp ?_
  refine Xd rfl rfl (Xl rfl Tryz.underlying42 rfl Xq) Xp ?_
  refine Yg rfl rfl (X0 (timesR_u64 x.n (lk p w)[m].n hx2 hl2 _) rfl Tryz.func48 rfl rfl rfl ?_)
  rintro v7 H4 ⟨rfl, rfl⟩
  refine ⟨Yf, ?_⟩
  refine Xd rfl rfl (Xg rfl) Xp ?_
  refine Xd rfl rfl (Xg rfl) Xp ?_
  first
    | (obtain ⟨C, hC⟩ : ∃ C, C = x.cost + (lk p w)[m].cost := ⟨_, rfl⟩
       obtain ⟨N, hN⟩ : ∃ N, N = Yv x.n (lk p w)[m].n := ⟨_, rfl⟩
       have hC01 : 0 ≤ C ∧ C ≤ 2000000000 := by omega
       have hN0 : 0 ≤ N := by rw [hN]; exact (Z2 hx2 hl2).1
       rw [← hC, ← hN] at hone
       rw [← hC, ← hN])
    | (obtain ⟨C, hC⟩ : ∃ C, C = x.cost := ⟨_, rfl⟩
       obtain ⟨N, hN⟩ : ∃ N, N = x.n := ⟨_, rfl⟩
       have hC01 : 0 ≤ C ∧ C ≤ 2000000000 := by omega
       have hN0 : 0 ≤ N := by omega
       have hone := rowOne_flat (p := p) (r := r) (x := x) hpar
       rw [← hC, ← hN] at hone
       rw [← hC, ← hN])
  have hsr : r.cost + C ≤ 9223372036854775807 := by omega
  refine Ys (by kernel_rfl) (Y1 (B := [0, 0, 0, 0, 12, 28, 60, 126, 0, 256, 768, 2046, 0, 0, 12288, 28672, 61440, 0, 258048, 0, 0, 1572864, 3670016, 7864320, 0, 33034238, 67108862, 134217726, 268435455, 536870911]) (π := [0, 1, 2, 3, 4, 5, 6, 8, 9, 10, 12, 13, 14, 15, 16, 17, 18, 19, 20, 21, 22, 23, 24, 7, 11, 25, 26, 27, 28, 29]) (by kernel_rfl)) ?_
  refine Xd rfl rfl (Xw Xi) Xp ?_
  first | refine Y5 rfl rfl (Ya (r := []) Tryz.underlying23 inf3.size inf3.zero rfl (by decide) (by decide) (by decide) rfl) ?_
  refine Xd rfl rfl (Xw Xi) Xp ?_
  refine Xd rfl rfl (Xb Xi) Xp ?_
  refine Xd rfl rfl (Xo rfl rfl Tryz.underlying38 inf49.size Xy Xy) Xp ?_
  refine Xd rfl rfl (Xh (off := 0) rfl Tryz.underlying49 rfl inf23.size (by decide) rfl) Xp ?_
  refine Xd rfl rfl (Xl rfl Tryz.underlying23 rfl Xq) Xp ?_
  refine Xd rfl rfl (Xh (off := 0) rfl Tryz.underlying78 rfl inf3.size (by decide) rfl) Xp ?_
  refine Xd rfl rfl (Xl rfl Tryz.underlying3 rfl Xq) Xp ?_
  first | refine Y5 rfl rfl (Ya (r := [.int .i64 _]) Tryz.underlying23 inf3.size inf3.zero rfl (by decide) (by decide) (by decide) rfl) ?_
  refine Xd rfl rfl (Xw Xi) Xp ?_
  refine Xd rfl rfl (Xb Xi) Xp ?_
  refine Xd rfl rfl (Xo rfl rfl Tryz.underlying38 inf49.size Xy Xy) Xp ?_
  refine Xd rfl rfl (Xh (off := 1) rfl Tryz.underlying49 rfl inf3.size (by decide) rfl) Xp ?_
  refine Xd rfl rfl (Xl rfl Tryz.underlying3 rfl Xq) Xp ?_
  refine Xd rfl rfl (Xb rfl) Xp ?_
  refine Xd rfl rfl (Yd rfl rfl Yk) Xp ?_
  refine Xd rfl rfl (Xw Xi) Xp ?_
  refine Xd rfl rfl (Xb Xi) Xp ?_
  refine Xd rfl rfl (Xo rfl rfl Tryz.underlying38 inf49.size Xy Xy) Xp ?_
  refine Xd rfl rfl (Xh (off := 2) rfl Tryz.underlying49 rfl inf42.size (by decide) rfl) Xp ?_
  refine Xd rfl rfl (Xl rfl Tryz.underlying42 rfl Xq) Xp ?_
  refine Xd rfl rfl (Xb rfl) Xp ?_
  have o1 := own_lit (Y6 .i64) (H := (H4.push (.own 1 [])).push (.own 1 [.int .i64 x.a])) (b := H4.size) (c := 0) (cs := []) (by simp <;> omega) Yh
  have leA : H4.le (((H4.push (.own 1 [])).push (.own 1 [.int .i64 x.a])).put H4.size .dead) := Hp.le_put_new (Hp.le_push' (H4.le_push _) _) (Nat.le_refl _) _
  have hdo4 : H4.get bo ≠ .dead := by rw [leH4.2 bo hbo hdo]; exact hdo
  have hbo4 : bo < H4.size := Nat.lt_of_lt_of_le hbo leH4.1
  refine Yg rfl rfl (OwnP.append (ys := r.nodes) o1 Tryz.underlying23 inf3 rfl rfl rfl (hwr.mono (Hp.le_trans leH4 leA).sees) (by simp only [List.length_nil]; omega) (by simp only [List.length_nil]; omega) ?_)
  rintro v7 G7 H7 hle7 hown7
  have hsameO := OwnP.sameO o1 hle7 hown7
  rw [List.nil_append] at hown7
  obtain ⟨A7, c7, rfl⟩ := hown7.shape
  have z7 := hle7.1
  simp only [Hp.put_size, Hp.push_size] at z7
  have z77 := hown7.size
  have g71 : G7.get (H4.size + 1) = .own 1 [.int .i64 x.a] := Xt hle7 (by simp) (by intro e; cases e) Yh
  have le47 : H4.le G7 := Hp.le_trans leA hle7
  have hsame : ∀ b ∈ [bo], H7.get b = ((H4.push (.own 1 [])).push (.own 1 [.int .i64 x.a])).get b := fun b hb => by
    rw [List.mem_singleton] at hb; subst hb
    rw [(Hp.le_trans le47 hown7.le).2 _ hbo4 hdo4, Hp.push_old _ _ (by simp; omega), Hp.push_old _ _ hbo4]
  refine ⟨Yf, ?_⟩
  clear hsameO hsame
  refine Yg rfl rfl (OwnP.append (ys := [x.a]) hown7 Tryz.underlying23 inf3 rfl rfl rfl (sl_lit1 (k := Y6 .i64) g71 (show H4.size + 1 < G7.size by omega) rfl rfl) (by simp only [List.length_singleton]; omega) (by simp only [List.length_singleton]; omega) ?_)
  rintro v8 G8 H8 hle8 hown8
  have hsameO := OwnP.sameO hown7 hle8 hown8
  obtain ⟨A8, c8, rfl⟩ := hown8.shape
  have z8 := hle8.1
  have z88 := hown8.size
  have le48 : H4.le H8 := Hp.le_trans le47 (Hp.le_trans hle8 hown8.le)
  have hsame : ∀ b ∈ [bo], H8.get b = H7.get b := fun b hb => by
    rw [List.mem_singleton] at hb; subst hb
    rw [le48.2 _ hbo4 hdo4, (Hp.le_trans le47 hown7.le).2 _ hbo4 hdo4]
  refine ⟨Yf, ?_⟩
  clear hsameO hsame
  refine Yg rfl rfl (X0 (timesR_u64 r.n N hr2 hN0 _) rfl Tryz.func48 rfl rfl rfl ?_)
  rintro v9 H8 ⟨rfl, rfl⟩
  refine ⟨Yf, ?_⟩
  refine Xd rfl rfl (Zb (pl := [(0, 1), (1, 1), (2, 1)]) (r := [.slice _ _ _, .int .i64 _, .int .u64 _]) Tryz.underlying49 inf49.zero (by decide) rfl rfl) Xp ?_
  refine Y5 rfl rfl (Ya (r := [.slice _ _ _, .int .i64 _, .int .u64 _]) Tryz.underlying38 inf49.size inf49.zero rfl (by decide) (by decide) (by decide) rfl) ?_
  obtain ⟨G9, hle9, hown9, htr⟩ := hown4.stays le48
  have hnodes := htr (Y6 .i64) _ _ (plain_int _) (by decide) hown8.sl
  have z99 := hown9.size
  refine Yg rfl rfl (OwnP.append (ys := [⟨r.nodes ++ [x.a], r.cost + C, Yv r.n N⟩]) (hown9.push _) Tryz.underlying38 inf49 rfl rfl rfl (Zl (k := kRow) ⟨_, rfl, hnodes⟩ rfl hown9.size rfl) (by simp only [List.length_singleton]; omega) (by simp only [List.length_singleton]; omega) ?_)
  rintro v10 G10 H10 hle10 hown10
  obtain ⟨A10, c10, e10⟩ := hown10.shape
  subst e10
  refine ⟨Yf, ?_⟩
  refine Xd rfl rfl (X4 rfl) Xp ?_
  refine Xc (by kernel_rfl) ?_
  refine Xa (Xb Xi) ?_
  refine Xa (Yd rfl rfl Yk) ?_
  refine Xa (Xg rfl) ?_
  first
    | (rw [hone] at hnext
       exact ⟨(nd p w).length - (j + 1), by omega, j + 1, G10, _, A10, c10, by omega, rfl, Hp.le_trans (Hp.le_push' (Hp.le_trans hle4 hle9) _) hle10, by rw [hnext, hrows3]; simp, hown10, e2, e3, e5, e6, rfl, e8, e9, rfl⟩)
    | (rw [hone] at hnext
       exact ⟨(nd p w).length - (j + 1), by omega, j + 1, G4, rows3, B3, c53, by omega, rfl, hle4, by rw [hnext, hrows3]; simp, hown4, e2, e3, e5, e6, e7, e8, e9, rfl⟩)
  intro hc4
  have hpar : ¬ 0 ≤ par f w := of_decide_eq_false hc4
  refine X6 ?_
  first
    | (obtain ⟨C, hC⟩ : ∃ C, C = x.cost + (lk p w)[m].cost := ⟨_, rfl⟩
       obtain ⟨N, hN⟩ : ∃ N, N = Yv x.n (lk p w)[m].n := ⟨_, rfl⟩
       have hC01 : 0 ≤ C ∧ C ≤ 2000000000 := by omega
       have hN0 : 0 ≤ N := by rw [hN]; exact (Z2 hx2 hl2).1
       rw [← hC, ← hN] at hone
       rw [← hC, ← hN])
    | (obtain ⟨C, hC⟩ : ∃ C, C = x.cost := ⟨_, rfl⟩
       obtain ⟨N, hN⟩ : ∃ N, N = x.n := ⟨_, rfl⟩
       have hC01 : 0 ≤ C ∧ C ≤ 2000000000 := by omega
       have hN0 : 0 ≤ N := by omega
       have hone := rowOne_flat (p := p) (r := r) (x := x) hpar
       rw [← hC, ← hN] at hone
       rw [← hC, ← hN])
  have hsr : r.cost + C ≤ 9223372036854775807 := by omega
  refine Ys (by kernel_rfl) (Y1 (B := [0, 0, 0, 0, 12, 28, 60, 126, 0, 256, 768, 2046, 0, 0, 12288, 28672, 61440, 0, 258048, 0, 0, 1572864, 3670016, 7864320, 0, 33034238, 67108862, 134217726, 268435455, 536870911]) (π := [0, 1, 2, 3, 4, 5, 6, 8, 9, 10, 12, 13, 14, 15, 16, 17, 18, 19, 20, 21, 22, 23, 24, 7, 11, 25, 26, 27, 28, 29]) (by kernel_rfl)) ?_
  refine Xd rfl rfl (Xw Xi) Xp ?_
  first | refine Y5 rfl rfl (Ya (r := []) Tryz.underlying23 inf3.size inf3.zero rfl (by decide) (by decide) (by decide) rfl) ?_
  refine Xd rfl rfl (Xw Xi) Xp ?_
  refine Xd rfl rfl (Xb Xi) Xp ?_
  refine Xd rfl rfl (Xo rfl rfl Tryz.underlying38 inf49.size Xy Xy) Xp ?_
  refine Xd rfl rfl (Xh (off := 0) rfl Tryz.underlying49 rfl inf23.size (by decide) rfl) Xp ?_
  refine Xd rfl rfl (Xl rfl Tryz.underlying23 rfl Xq) Xp ?_
  refine Xd rfl rfl (Xh (off := 0) rfl Tryz.underlying78 rfl inf3.size (by decide) rfl) Xp ?_
  refine Xd rfl rfl (Xl rfl Tryz.underlying3 rfl Xq) Xp ?_
  first | refine Y5 rfl rfl (Ya (r := [.int .i64 _]) Tryz.underlying23 inf3.size inf3.zero rfl (by decide) (by decide) (by decide) rfl) ?_
  refine Xd rfl rfl (Xw Xi) Xp ?_
  refine Xd rfl rfl (Xb Xi) Xp ?_
  refine Xd rfl rfl (Xo rfl rfl Tryz.underlying38 inf49.size Xy Xy) Xp ?_
  refine Xd rfl rfl (Xh (off := 1) rfl Tryz.underlying49 rfl inf3.size (by decide) rfl) Xp ?_
  refine Xd rfl rfl (Xl rfl Tryz.underlying3 rfl Xq) Xp ?_
  refine Xd rfl rfl (Xb rfl) Xp ?_
  refine Xd rfl rfl (Yd rfl rfl Yk) Xp ?_
  refine Xd rfl rfl (Xw Xi) Xp ?_
  refine Xd rfl rfl (Xb Xi) Xp ?_
  refine Xd rfl rfl (Xo rfl rfl Tryz.underlying38 inf49.size Xy Xy) Xp ?_
  refine Xd rfl rfl (Xh (off := 2) rfl Tryz.underlying49 rfl inf42.size (by decide) rfl) Xp ?_
  refine Xd rfl rfl (Xl rfl Tryz.underlying42 rfl Xq) Xp ?_
  refine Xd rfl rfl (Xb rfl) Xp ?_
  have o1 := own_lit (Y6 .i64) (H := (H4.push (.own 1 [])).push (.own 1 [.int .i64 x.a])) (b := H4.size) (c := 0) (cs := []) (by simp <;> omega) Yh
  have leA : H4.le (((H4.push (.own 1 [])).push (.own 1 [.int .i64 x.a])).put H4.size .dead) := Hp.le_put_new (Hp.le_push' (H4.le_push _) _) (Nat.le_refl _) _
  have hdo4 : H4.get bo ≠ .dead := by rw [leH4.2 bo hbo hdo]; exact hdo
  have hbo4 : bo < H4.size := Nat.lt_of_lt_of_le hbo leH4.1
  refine Yg rfl rfl (OwnP.append (ys := r.nodes) o1 Tryz.underlying23 inf3 rfl rfl rfl (hwr.mono (Hp.le_trans leH4 leA).sees) (by simp only [List.length_nil]; omega) (by simp only [List.length_nil]; omega) ?_)
  rintro v7 G7 H7 hle7 hown7
  have hsameO := OwnP.sameO o1 hle7 hown7
  rw [List.nil_append] at hown7
  obtain ⟨A7, c7, rfl⟩ := hown7.shape
  have z7 := hle7.1
  simp only [Hp.put_size, Hp.push_size] at z7
  have z77 := hown7.size
  have g71 : G7.get (H4.size + 1) = .own 1 [.int .i64 x.a] := Xt hle7 (by simp) (by intro e; cases e) Yh
  have le47 : H4.le G7 := Hp.le_trans leA hle7
  have hsame : ∀ b ∈ [bo], H7.get b = ((H4.push (.own 1 [])).push (.own 1 [.int .i64 x.a])).get b := fun b hb => by
    rw [List.mem_singleton] at hb; subst hb
    rw [(Hp.le_trans le47 hown7.le).2 _ hbo4 hdo4, Hp.push_old _ _ (by simp; omega), Hp.push_old _ _ hbo4]
  refine ⟨Yf, ?_⟩
  clear hsameO hsame
  refine Yg rfl rfl (OwnP.append (ys := [x.a]) hown7 Tryz.underlying23 inf3 rfl rfl rfl (sl_lit1 (k := Y6 .i64) g71 (show H4.size + 1 < G7.size by omega) rfl rfl) (by simp only [List.length_singleton]; omega) (by simp only [List.length_singleton]; omega) ?_)
  rintro v8 G8 H8 hle8 hown8
  have hsameO := OwnP.sameO hown7 hle8 hown8
  obtain ⟨A8, c8, rfl⟩ := hown8.shape
  have z8 := hle8.1
  have z88 := hown8.size
  have le48 : H4.le H8 := Hp.le_trans le47 (Hp.le_trans hle8 hown8.le)
  have hsame : ∀ b ∈ [bo], H8.get b = H7.get b := fun b hb => by
    rw [List.mem_singleton] at hb; subst hb
    rw [le48.2 _ hbo4 hdo4, (Hp.le_trans le47 hown7.le).2 _ hbo4 hdo4]
  refine ⟨Yf, ?_⟩
  clear hsameO hsame
  refine Yg rfl rfl (X0 (timesR_u64 r.n N hr2 hN0 _) rfl Tryz.func48 rfl rfl rfl ?_)
  rintro v9 H8 ⟨rfl, rfl⟩
  refine ⟨Yf, ?_⟩
  refine Xd rfl rfl (Zb (pl := [(0, 1), (1, 1), (2, 1)]) (r := [.slice _ _ _, .int .i64 _, .int .u64 _]) Tryz.underlying49 inf49.zero (by decide) rfl rfl) Xp ?_
  refine Y5 rfl rfl (Ya (r := [.slice _ _ _, .int .i64 _, .int .u64 _]) Tryz.underlying38 inf49.size inf49.zero rfl (by decide) (by decide) (by decide) rfl) ?_
  obtain ⟨G9, hle9, hown9, htr⟩ := hown4.stays le48
  have hnodes := htr (Y6 .i64) _ _ (plain_int _) (by decide) hown8.sl
  have z99 := hown9.size
  refine Yg rfl rfl (OwnP.append (ys := [⟨r.nodes ++ [x.a], r.cost + C, Yv r.n N⟩]) (hown9.push _) Tryz.underlying38 inf49 rfl rfl rfl (Zl (k := kRow) ⟨_, rfl, hnodes⟩ rfl hown9.size rfl) (by simp only [List.length_singleton]; omega) (by simp only [List.length_singleton]; omega) ?_)
  rintro v10 G10 H10 hle10 hown10
  obtain ⟨A10, c10, e10⟩ := hown10.shape
  subst e10
  refine ⟨Yf, ?_⟩
  refine Xd rfl rfl (X4 rfl) Xp ?_
  refine Xc (by kernel_rfl) ?_
  refine Xa (Xb Xi) ?_
  refine Xa (Yd rfl rfl Yk) ?_
  refine Xa (Xg rfl) ?_
  first
    | (rw [hone] at hnext
       exact ⟨(nd p w).length - (j + 1), by omega, j + 1, G10, _, A10, c10, by omega, rfl, Hp.le_trans (Hp.le_push' (Hp.le_trans hle4 hle9) _) hle10, by rw [hnext, hrows3]; simp, hown10, e2, e3, e5, e6, rfl, e8, e9, rfl⟩)
    | (rw [hone] at hnext
       exact ⟨(nd p w).length - (j + 1), by omega, j + 1, G4, rows3, B3, c53, by omega, rfl, hle4, by rw [hnext, hrows3]; simp, hown4, e2, e3, e5, e6, e7, e8, e9, rfl⟩)
  intro hc3
  (try simp only [decide_eq_true_eq, decide_eq_false_iff_not, Bool.not_eq_true', Bool.not_eq_false'] at hc3)
  refine Yj ?_
  refine Xc (by kernel_rfl) ?_
  refine Xa (Xb Xi) ?_
  refine Xa (Yd rfl rfl Yk) ?_
  refine Xa (Xg rfl) ?_
  have hj2 : (nd p w).take j = nd p w := List.take_of_length_le (by omega)
  rw [hj2] at hrows3
  exact ⟨(Zq f p i).length - (k + 1), by omega, k + 1, G3, rows3, B3, c53, by omega, rfl, hle3, by rw [flatMap_next hkx, ← hrows, ← hr]; exact hrows3, hown3, e2, e3, e5, e6, e7, e8, rfl⟩
  intro hc2
  (try simp only [decide_eq_true_eq, decide_eq_false_iff_not, Bool.not_eq_true', Bool.not_eq_false'] at hc2)
  refine Yj ?_
  refine Xc (by kernel_rfl) ?_
  refine Xa (Xw Xi) ?_
  refine Xa (X4 rfl) ?_
  refine Xc (by kernel_rfl) ?_
  refine Xa (Xb Xi) ?_
  refine Xa (Yd rfl rfl Yk) ?_
  refine Xa (Xg rfl) ?_
  have hk2 : (Zq f p i).take k = Zq f p i := List.take_of_length_le (by omega)
  rw [hk2] at hrows
  have hnew : rows = Zq f p (i + 1) := by rw [hrows]; show _ = (Zq f p i).flatMap _; rw [hvat]
  subst hnew
  exact ⟨f.order.length - (i + 1), by omega, i + 1, B, c5, by omega, rfl, Hp.le_trans hle1 leH2, hown2.sl, e2, e3, rfl, rfl⟩
  intro hc1
  (try simp only [decide_eq_true_eq, decide_eq_false_iff_not, Bool.not_eq_true', Bool.not_eq_false'] at hc1)
  refine Yj ?_
  refine Xf ?_
  refine Xc (by kernel_rfl) ?_
  refine Xa (Xw Xi) ?_
  refine Xa (X4 rfl) ?_
  refine X8 ?_
  have hk : i = f.order.length := by omega
  subst hk
  exact ⟨_, Xv (Xx rfl), leH1, hso⟩
end Go.Proofs.YtcaeoebphfjfiaaGreat.Am


/- The nodes and links that are in rows, by the document's words. -/
namespace Go.Proofs.YtcaeoebphfjfiaaGreat.Am
open Go Go.RowKit
set_option maxRecDepth 100000
set_option linter.unusedVariables false
set_option linter.unusedSimpArgs false

def Vn (f : Forest) (r : RowT) (v : Int) : Int := r.nodes.getD (atI f.order v).toNat 0
def nodeIn (f : Forest) (rows : List RowT) (v : Nat) (x : Link) : Bool := rows.any fun r => decide (Vn f r v = x.a)
def Uq (f : Forest) (rows : List RowT) (v : Nat) (x : Link) : Bool := rows.any fun r => decide (Vn f r v = x.b) && decide (Vn f r (par f v) = x.a)
def Zy (f : Forest) (p : Parts) (rows : List RowT) (v : Nat) : List Link := (nd p v).filter (nodeIn f rows v)
def Ud (f : Forest) (p : Parts) (rows : List RowT) (v : Nat) : List Link := (lk p v).filter (Uq f rows v)
def ofTo (f : Forest) (p : Parts) (rows : List RowT) (k : Nat) : Parts := ⟨(List.range k).map (Zy f p rows), (List.range k).map (Ud f p rows)⟩
def refOf (f : Forest) (p : Parts) : Parts := ofTo f p (Yu f p) f.vars.length
theorem OwnP.get_new {α : Type} {k : Kd α} {G H G' H' : Hp} {v : Value} {xs ys : List α} (h0 : OwnP k G H v xs) (h : OwnP k G' H' v ys) {c : Nat} (hc : G.size ≤ c) : G'.get c = H'.get c := by
  rcases h with ⟨rfl, rfl, rfl⟩ | ⟨b, cs, d, rfl, hb, hd, rfl, _⟩
  · rfl
  · rcases h0 with ⟨h, _⟩ | ⟨b', cs', d', e, hb', _⟩
    · cases h
    · simp only [Value.slice.injEq, Option.some.injEq, Addr.mk.injEq, and_true] at e
      obtain ⟨rfl, _⟩ := e
      rw [Hp.put_other _ _ (by omega)]
theorem OwnP.under {α β : Type} {k : Kd α} {k' : Kd β} {G H : Hp} {v r : Value} {xs : List α} {ys : List β} (h : OwnP k G H v xs) (hk : ∀ (H H' : Hp) x cs, k'.rep H x cs → k'.rep H' x cs) (hne : k.sz ≠ k'.sz) (hs : Sl k' H r ys) : Sl k' G r ys := by
  rcases h with ⟨rfl, rfl, rfl⟩ | ⟨b, cs, d, rfl, hb, hd, rfl, _⟩
  · exact hs
  · have := hs.put_odd hk (b1 := b) (st := k.sz) (cs := cs) (Hp.put_same _ _ _) hne .dead
    rwa [Hp.put_put, Hp.put_self _ hd] at this
theorem filter_next {q : Link → Bool} {xs : List Link} {i : Nat} (h : i < xs.length) : (xs.take (i + 1)).filter q = (xs.take i).filter q ++ (if q xs[i] = true then [xs[i]] else []) := by
  rw [← Yr h, List.filter_append, List.filter_cons, List.filter_nil]
theorem ofTo_nodes (f : Forest) (p : Parts) (rows : List RowT) (k : Nat) : (ofTo f p rows (k + 1)).nodes = (ofTo f p rows k).nodes ++ [Zy f p rows k] := by
  show (List.range (k + 1)).map _ = (List.range k).map _ ++ [_]
  rw [List.range_succ, List.map_append]; rfl
theorem ofTo_links (f : Forest) (p : Parts) (rows : List RowT) (k : Nat) : (ofTo f p rows (k + 1)).links = (ofTo f p rows k).links ++ [Ud f p rows k] := by
  show (List.range (k + 1)).map _ = (List.range k).map _ ++ [_]
  rw [List.range_succ, List.map_append]; rfl
theorem ofTo_len (f : Forest) (p : Parts) (rows : List RowT) (k : Nat) : (ofTo f p rows k).nodes.length = k ∧ (ofTo f p rows k).links.length = k := by simp [ofTo]
theorem GoodF.at_lt {f : Forest} (h : GoodF f) {v : Nat} (hv : v < f.vars.length) : ∃ q : Nat, atI f.order v = q ∧ q < f.vars.length := by
  obtain ⟨q, h1, _, h3, _⟩ := atI_take (xs := f.order) (v := (v : Int)) (i := f.order.length) (by rw [List.take_length]; exact h.in_order hv)
  exact ⟨q, h1, by have := h.l1; omega⟩
set_option maxHeartbeats 8000000 in
theorem Of_ref (f : Forest) (p : Parts) (cs ds : List Value) (H : Hp) (hp : kForest.rep H f cs) (hq : kParts.rep H p ds) (hG : GoodP f p) (hsm : Small f p) (ht : Tiny f p) :
    ACalls Tryz.prog 27 #[.agg cs.toArray, .agg ds.toArray] H (fun r H' => ∃ G' N L, H.le G' ∧ r = .agg #[N, L] ∧ PartsP G' H' N L (refOf f p).nodes (refOf f p).links) := by
  have hg := hG.gf
  have hp0 := hp
  have hq0 := hq
  obtain ⟨v0, v1, v2, v3, v4, rfl, hs0, hs1, hs2, hs3, hs4⟩ := hp
  obtain ⟨A0, c0, rfl⟩ := hs0.shape
  obtain ⟨A1, c1, rfl⟩ := hs1.shape
  obtain ⟨A2, c2, rfl⟩ := hs2.shape
  obtain ⟨A3, c3, rfl⟩ := hs3.shape
  obtain ⟨A4, c4, rfl⟩ := hs4.shape
  obtain ⟨u0, u1, rfl, hn0, hn1⟩ := hq
  obtain ⟨B0, d0, rfl⟩ := hn0.shape
  obtain ⟨B1, d1, rfl⟩ := hn1.shape
  have hgl := hg.l1
  have hgp := hg.l2
  have hln := hG.n1
  have hll := hG.n2
  have hvn := ht.vars
  have hrok := rowsK_ok ht f.order.length
  have hrl : (Yu f p).length ≤ 1024 := Nat.le_trans (rowsK_len ht f.order.length) (Nat.pow_le_pow_right (by omega) (by omega : f.order.length ≤ 5))
  refine Xu Tryz.func27 rfl rfl rfl (by simp) ?_
  refine Xf ?_
  refine Xc (by kernel_rfl) ?_
  refine X2 (Ym rfl) ?_
  refine X2 (Ym rfl) ?_
  refine X2 (Y9 (l := [.slice none 0 0, .slice none 0 0]) inf29.zero rfl (by decide)) ?_
  refine Xf ?_
  refine Xc (by kernel_rfl) ?_
  refine Xa (Zb (pl := [(0, 1), (1, 1)]) (r := [.slice _ _ _, .slice _ _ _]) Tryz.underlying29 inf29.zero (by decide) rfl rfl) ?_
  refine Xa (Yc (cs := [.slice _ _ _, .slice _ _ _, .slice _ _ _, .slice _ _ _, .slice _ _ _]) rfl Tryz.underlying26 rfl inf26.size Yb) ?_
  refine Xa (Yc (cs := [.slice _ _ _, .slice _ _ _]) rfl Tryz.underlying29 rfl inf29.size Yb) ?_
  refine X5 (X0 (Rows_ref f p _ _ _ (kForest.mono Zo hp0) (kParts.mono Zo hq0) hG hsm ht) rfl Tryz.func12 rfl rfl rfl ?_)
  rintro v5 H5 ⟨hle5, hso⟩; obtain ⟨Ao, co, rfl⟩ := hso.shape; have hz5 := hle5.1; simp only [Hp.push_size] at hz5
  refine X2 (Y9 (l := [.slice none 0 0, .slice none 0 0]) inf29.zero rfl (by decide)) ?_
  refine X5 (Yq (vs := [.slice _ _ _, .slice _ _ _]) rfl rfl inf29.size Yh Yp rfl rfl ?_)
  refine Xa (X4 rfl) ?_
  refine Xf ?_
  refine Xf ?_
  obtain ⟨H6, hH6⟩ : ∃ H6, H6 = (H5.push (.own 0 [.slice none 0 0, .slice none 0 0])).put H5.size (.own 0 [.slice none 0 0, .slice none 0 0]) := ⟨_, rfl⟩
  change ACode true _ _ _ _ _ ((H5.push (.own 0 [.slice none 0 0, .slice none 0 0])).put H5.size (.own 0 [.slice none 0 0, .slice none 0 0]))
  rw [← hH6]
  have le56 : H5.le H6 := by rw [hH6]; exact Hp.le_put_new (H5.le_push _) (Nat.le_refl _) _
  have hz6 : H6.size = H5.size + 1 := by rw [hH6]; simp
  have leB6 := Hp.le_trans hle5 le56
  have k0 : H6.get H.size = .own 0 [.slice A0 f.vars.length c0, .slice A1 f.order.length c1, .slice A2 f.parent.length c2, .slice A3 f.links.length c3, .slice A4 f.loops.length c4] := Xt leB6 (by simp <;> omega) (by intro e; cases e) Yh
  have k1 : H6.get (H.size + 1) = .own 0 [.slice B0 p.nodes.length d0, .slice B1 p.links.length d1] := Xt leB6 (by simp <;> omega) (by intro e; cases e) Yh
  have k2 : H6.get (H.size + 2) = .own 0 [.slice none 0 0, .slice none 0 0] := Xt leB6 (by simp) (by intro e; cases e) Yh
  have k5 : H6.get H5.size = .own 0 [.slice none 0 0, .slice none 0 0] := by rw [hH6]; exact Hp.put_same _ _ _
  have leH6 : H.le H6 := Hp.le_trans (Hp.le_push' (Hp.le_push' (H.le_push _) _) _) leB6
  have hso6 := hso.mono le56.sees
  refine Xc (by kernel_rfl) ?_
  refine Xa (Xg rfl) ?_
  refine X3 ?_
  refine Yt (fun n t H' => ∃ (v : Nat) (G : Hp) (AN AL : Option Addr) (cN cL : Nat), v ≤ f.vars.length ∧ n = f.vars.length - v ∧ H.le G ∧ H6.les G ∧ G.get H.size = .own 0 [.slice A0 f.vars.length c0, .slice A1 f.order.length c1, .slice A2 f.parent.length c2, .slice A3 f.links.length c3, .slice A4 f.loops.length c4] ∧ G.get (H.size + 1) = .own 0 [.slice B0 p.nodes.length d0, .slice B1 p.links.length d1] ∧ G.get (H.size + 2) = .own 0 [.slice none 0 0, .slice none 0 0] ∧ G.get H5.size = .own 0 [.slice AN v cN, .slice AL v cL] ∧ PartsP G H' (.slice AN v cN) (.slice AL v cL) (ofTo f p (Yu f p) v).nodes (ofTo f p (Yu f p) v).links ∧ t 2 = .pointer (some ⟨H.size, 0, none⟩) ∧ t 3 = .pointer (some ⟨H.size + 1, 0, none⟩) ∧ t 4 = .pointer (some ⟨H.size + 2, 0, none⟩) ∧ t 5 = .pointer (some ⟨H5.size, 0, none⟩) ∧ t 6 = .slice Ao (Yu f p).length co ∧ t 7 = .int .i64 v) (f.vars.length) (⟨0, H6, none, none, 0, 0, by omega, rfl, leH6, (Hp.le_refl _).les, k0, k1, k2, k5, ⟨H6, OwnP.nil _ _, OwnP.nil _ _⟩, rfl, rfl, rfl, rfl, rfl, rfl⟩) ?_
  rintro n t H7 ⟨v, G7, AN, AL, cN, cL, hv, rfl, leG7, hles7, kg0, kg1, kg2, kg5, hpp7, e2, e3, e4, e5, e6, e7⟩
  have hz7 := hles7.1
  have hzz7 := hpp7.size
  have hg0 := Xt hpp7.le (by omega) (by intro e; cases e) kg0
  have hg1 := Xt hpp7.le (by omega) (by intro e; cases e) kg1
  have hg5 := Xt hpp7.le (by omega) (by intro e; cases e) kg5
  have hg2 := Xt hpp7.le (by omega) (by intro e; cases e) kg2
  have se7 : H6.sees H7 := hles7.sees.trans hpp7.le.sees
  refine Xf ?_
  refine Xf ?_
  refine Xc (by kernel_rfl) ?_
  refine Xa (Xb Xi) ?_
  refine Xa (Xh (off := 0) Xi Tryz.underlying26 Xi inf22.size (by decide) Xi) ?_
  refine Xa (Xl rfl Tryz.underlying22 rfl Xq) ?_
  refine Xa (Yl rfl Tryz.underlying22) ?_
  refine Xa (Yw rfl rfl) ?_
  refine X1 rfl rfl ?_ ?_
  intro hc1
  (try simp only [decide_eq_true_eq, decide_eq_false_iff_not, Bool.not_eq_true', Bool.not_eq_false'] at hc1)
  refine X6 ?_
  refine Xf ?_
  refine X3 ?_
  refine Xf ?_
  have hvx : v < f.vars.length := by omega
  obtain ⟨q, hq1, hq2⟩ := hg.at_lt hvx
  obtain ⟨b3, o3, ks3, eB0, hb3, ⟨wn, rfl, hsn⟩, hcell3⟩ := (hn0.mono (leH6.sees.trans se7)).elem_at (i := v) (by omega)
  obtain ⟨b4, o4, ks4, eB1, hb4, ⟨wl, rfl, hsl⟩, hcell4⟩ := (hn1.mono (leH6.sees.trans se7)).elem_at (i := v) (by omega)
  subst eB0 eB1
  have hcell3' := hcell3.one
  have hcell4' := hcell4.one
  have gn : p.nodes[v]'(by omega) = nd p v := (Yz (by omega)).symm
  have gl : p.links[v]'(by omega) = lk p v := (Yz (by omega)).symm
  rw [gn] at hsn
  rw [gl] at hsl
  obtain ⟨An, cn, rfl⟩ := hsn.shape
  obtain ⟨Al, cl, rfl⟩ := hsl.shape
  have hndl : (nd p v).length ≤ 1000000 := Zz hsm.s5 v
  have hlkl : (lk p v).length ≤ 1000000 := Zz hsm.s6 v
  have hfo7 := kForest.mono (leH6.sees.trans se7) hp0
  have hso7 := hso6.mono se7
  refine Xc (by kernel_rfl) ?_
  first | refine X2 (Ya (r := []) Tryz.underlying68 inf78.size inf78.zero rfl (by decide) (by decide) (by decide) rfl) ?_
  first | refine X2 (Ya (r := []) Tryz.underlying68 inf78.size inf78.zero rfl (by decide) (by decide) (by decide) rfl) ?_
  refine Xa (X4 rfl) ?_
  refine Xa (X4 rfl) ?_
  refine Xf ?_
  refine Xf ?_
  refine Xc (by kernel_rfl) ?_
  refine Xa (Xg rfl) ?_
  refine X3 ?_
  refine Yt (fun n t H' => ∃ (i : Nat) (G : Hp) (B : Option Addr) (c8 : Nat), i ≤ (nd p v).length ∧ n = (nd p v).length - i ∧ (((H7.push (.own 4 [])).push (.own 4 [])).put H7.size .dead).le G ∧ OwnP kLink G H' (.slice B (((nd p v).take i).filter (nodeIn f (Yu f p) v)).length c8) (((nd p v).take i).filter (nodeIn f (Yu f p) v)) ∧ t 2 = .pointer (some ⟨H.size, 0, none⟩) ∧ t 3 = .pointer (some ⟨H.size + 1, 0, none⟩) ∧ t 4 = .pointer (some ⟨H.size + 2, 0, none⟩) ∧ t 5 = .pointer (some ⟨H5.size, 0, none⟩) ∧ t 6 = .slice Ao (Yu f p).length co ∧ t 7 = .int .i64 v ∧ t 8 = .slice B (((nd p v).take i).filter (nodeIn f (Yu f p) v)).length c8 ∧ t 9 = .slice (some ⟨H7.size + 1, 0, none⟩) 0 0 ∧ t 10 = .int .i64 i) ((nd p v).length) (⟨0, ((H7.push (.own 4 [])).push (.own 4 [])).put H7.size .dead, _, _, by omega, rfl, Hp.le_refl _, own_lit kLink (cs := []) (by simp <;> omega) Yh, e2, e3, e4, e5, e6, e7, rfl, rfl, rfl⟩) ?_
  rintro n t H8 ⟨i, G8, B, c8, hi, rfl, hle8, hown8, e2, e3, e4, e5, e6, e7, e8, e9, e10⟩
  have hz8 := hown8.size
  have leA : H7.le (((H7.push (.own 4 [])).push (.own 4 [])).put H7.size .dead) := Hp.le_put_new (Hp.le_push' (H7.le_push _) _) (Nat.le_refl _) _
  have le78 : H7.le H8 := Hp.le_trans leA (Hp.le_trans hle8 hown8.le)
  have hs8 := hle8.1
  simp only [Hp.put_size, Hp.push_size] at hs8
  have hg08 := Xt le78 (by omega) (by intro e; cases e) hg0
  have hg18 := Xt le78 (by omega) (by intro e; cases e) hg1
  have hcell38 := le78.cell1 hb3 hcell3'
  have hflen : (((nd p v).take i).filter (nodeIn f (Yu f p) v)).length ≤ (nd p v).length := Nat.le_trans (List.length_filter_le _ _) (by rw [List.length_take]; omega)
  refine Xf ?_
  refine Xf ?_
  refine Xc (by kernel_rfl) ?_
  refine Xa (Xb Xi) ?_
  refine Xa (Xh (off := 0) Xi Tryz.underlying29 Xi inf27.size (by decide) Xi) ?_
  refine Xa (Xl rfl Tryz.underlying27 rfl Xq) ?_
  refine Xa (Xb Xi) ?_
  refine Xa (Xo rfl rfl Tryz.underlying27 inf68.size Xy Xy) ?_
  refine Xa (Xl rfl Tryz.underlying68 rfl Xq) ?_
  refine Xa (Yl rfl Tryz.underlying68) ?_
  refine Xa (Yw rfl rfl) ?_
  refine X1 rfl rfl ?_ ?_
  intro hc2
  (try simp only [decide_eq_true_eq, decide_eq_false_iff_not, Bool.not_eq_true', Bool.not_eq_false'] at hc2)
  refine X6 ?_
  refine Xf ?_
  refine X3 ?_
  refine Xf ?_
  have hix : i < (nd p v).length := by omega
  obtain ⟨bx, ox, eAn, hbx, hcellx⟩ := hsn.link_at hix
  subst eAn
  have hcellx8 := le78.cells hbx hcellx
  obtain ⟨x, hx⟩ : ∃ x, x = (nd p v)[i] := ⟨_, rfl⟩
  rw [← hx] at hcellx hcellx8
  have hcellx80 := hcellx8 0 _ rfl
  have hnext := filter_next (q := nodeIn f (Yu f p) v) hix
  rw [← hx] at hnext
  refine Xc (by kernel_rfl) ?_
  refine Xa (Xg rfl) ?_
  refine X3 ?_
  refine Yt (fun n t H' => ∃ (k : Nat), k ≤ (Yu f p).length ∧ n = (Yu f p).length - k ∧ H' = H8 ∧ (∀ r ∈ (Yu f p).take k, decide (Vn f r v = x.a) = false) ∧ t 2 = .pointer (some ⟨H.size, 0, none⟩) ∧ t 3 = .pointer (some ⟨H.size + 1, 0, none⟩) ∧ t 4 = .pointer (some ⟨H.size + 2, 0, none⟩) ∧ t 5 = .pointer (some ⟨H5.size, 0, none⟩) ∧ t 6 = .slice Ao (Yu f p).length co ∧ t 7 = .int .i64 v ∧ t 8 = .slice B (((nd p v).take i).filter (nodeIn f (Yu f p) v)).length c8 ∧ t 9 = .slice (some ⟨H7.size + 1, 0, none⟩) 0 0 ∧ t 10 = .int .i64 i ∧ t 11 = .int .i64 k) ((Yu f p).length) (⟨0, by omega, rfl, rfl, by simp, e2, e3, e4, e5, e6, e7, e8, e9, e10, rfl⟩) ?_
  rintro n t H8 ⟨k, hk, rfl, rfl, hno, e2, e3, e4, e5, e6, e7, e8, e9, e10, e11⟩
  refine Xf ?_
  refine Xf ?_
  refine Xc (by kernel_rfl) ?_
  refine Xa (Xb Xi) ?_
  refine Xa (Xw Xi) ?_
  refine Xa (Yl rfl Tryz.underlying38) ?_
  refine Xa (Yw rfl rfl) ?_
  refine X1 rfl rfl ?_ ?_
  intro hc3
  (try simp only [decide_eq_true_eq, decide_eq_false_iff_not, Bool.not_eq_true', Bool.not_eq_false'] at hc3)
  refine X6 ?_
  refine Xf ?_
  refine X3 ?_
  refine Xf ?_
  have hkx : k < (Yu f p).length := by omega
  obtain ⟨bo, oo, wr, eAo, hbo, hcello, hwr⟩ := (hso7.mono le78.sees).row_at hkx
  have hcello0 := hcello 0 _ rfl
  obtain ⟨r, hr⟩ : ∃ r, r = (Yu f p)[k] := ⟨_, rfl⟩
  rw [← hr] at hcello hwr
  have hrn : r.nodes.length = f.order.length := (hrok r (by rw [hr]; exact List.getElem_mem hkx)).len
  obtain ⟨Ar, cr, rfl⟩ := hwr.shape
  obtain ⟨bq, oq, eAr, hbq, hcellq⟩ := hwr.int_at (i := (q : Int)) (by omega) (by omega)
  rw [Int.toNat_natCast] at hcellq
  subst eAr
  have hna : Vn f r v = r.nodes.getD q 0 := by unfold Vn; rw [hq1]; rfl
  subst eAo
  refine Ys (by kernel_rfl) (Y1 (B := [0, 0, 3, 7, 15, 0, 0, 96, 255, 511, 0, 1024, 0, 7168, 15360, 0, 64512, 130048, 261120, 524287]) (π := [0, 1, 2, 3, 4, 5, 6, 10, 11, 12, 13, 14, 15, 16, 17, 18, 7, 8, 9, 19]) (by kernel_rfl)) ?_
  refine Xd rfl rfl (Xw Xi) Xp ?_
  refine Xd rfl rfl (Xb Xi) Xp ?_
  refine Xd rfl rfl (Xo rfl rfl Tryz.underlying38 inf49.size Xy Xy) Xp ?_
  refine Xd rfl rfl (Xh (off := 0) rfl Tryz.underlying49 rfl inf23.size (by decide) rfl) Xp ?_
  refine Xd rfl rfl (Xl rfl Tryz.underlying23 rfl Xq) Xp ?_
  refine Xd rfl rfl (Yc (cs := [.slice _ _ _, .slice _ _ _, .slice _ _ _, .slice _ _ _, .slice _ _ _]) Xi Tryz.underlying26 Xi inf26.size Yb) Xp ?_
  refine Xd rfl rfl (Xb Xi) Xp ?_
  refine Xd rfl rfl (Xh (off := 0) Xi Tryz.underlying29 Xi inf27.size (by decide) Xi) Xp ?_
  refine Xd rfl rfl (Xl rfl Tryz.underlying27 rfl Xq) Xp ?_
  refine Xd rfl rfl (Xb Xi) Xp ?_
  refine Xd rfl rfl (Xo rfl rfl Tryz.underlying27 inf68.size Xy Xy) Xp ?_
  refine Xd rfl rfl (Xl rfl Tryz.underlying68 rfl Xq) Xp ?_
  refine Xd rfl rfl (Xb Xi) Xp ?_
  refine Xd rfl rfl (Xo rfl rfl Tryz.underlying68 inf78.size Xy Xy) Xp ?_
  refine Xd rfl rfl (Xh (off := 0) rfl Tryz.underlying78 rfl inf3.size (by decide) rfl) Xp ?_
  refine Xd rfl rfl (Xl rfl Tryz.underlying3 rfl Xq) Xp ?_
  refine Yg rfl rfl (X0 (at_forest f _ _ _ (kForest.mono le78.sees hfo7) (by omega)) rfl Tryz.func47 rfl rfl rfl ?_)
  rintro v5 H8 ⟨rfl, rfl⟩; rw [hq1]
  refine ⟨Yf, ?_⟩
  refine Xd rfl rfl (Xo rfl rfl Tryz.underlying23 inf3.size Xy Xy) Xp ?_
  refine Xd rfl rfl (Xl rfl Tryz.underlying3 rfl Xq) Xp ?_
  refine Xd rfl rfl (Z0 rfl rfl) Xp ?_
  refine X1 rfl rfl ?_ ?_
  intro hc4
  have hyes : Vn f r v = x.a := by rw [hna]; exact of_decide_eq_true hc4
  have hin : nodeIn f (Yu f p) v x = true := List.any_eq_true.2 ⟨r, by rw [hr]; exact List.getElem_mem hkx, by rw [decide_eq_true hyes]⟩
  rw [if_pos hin] at hnext
  refine Xf ?_
  refine Xc (by kernel_rfl) ?_
  refine Xa (Xw Xi) ?_
  refine Xa (Xh (off := 0) Xi Tryz.underlying29 Xi inf27.size (by decide) Xi) ?_
  refine Xa (Xl rfl Tryz.underlying27 rfl Xq) ?_
  refine Xa (Xb Xi) ?_
  refine Xa (Xo rfl rfl Tryz.underlying27 inf68.size Xy Xy) ?_
  refine Xa (Xl rfl Tryz.underlying68 rfl Xq) ?_
  refine Xa (Xb Xi) ?_
  refine Xa (Xo rfl rfl Tryz.underlying68 inf78.size Xy Xy) ?_
  refine Xa (Yc (cs := [.int .i64 _, .int .i64 _, .int .i64 _, .int .u64 _]) rfl Tryz.underlying78 rfl inf78.size Yb) ?_
  first | refine X2 (Ya (r := [.int .i64 _, .int .i64 _, .int .i64 _, .int .u64 _]) Tryz.underlying68 inf78.size inf78.zero rfl (by decide) (by decide) (by decide) rfl) ?_
  refine X5 (OwnP.append (ys := [x]) (hown8.push _) Tryz.underlying68 inf78 rfl rfl rfl (Zl (k := kLink) rfl rfl hown8.size rfl) (by simp only [List.length_singleton]; omega) (by simp only [List.length_singleton]; omega) ?_)
  rintro v6 G6 H6 hle6 hown6
  rw [← hnext] at hown6
  obtain ⟨B', c', e6'⟩ := hown6.shape
  subst e6'
  refine Xa (X4 rfl) ?_
  refine Yj ?_
  refine Xc (by kernel_rfl) ?_
  refine Xa (Xb Xi) ?_
  refine Xa (Yd rfl rfl Yk) ?_
  refine Xa (Xg rfl) ?_
  first
    | exact ⟨(nd p v).length - (i + 1), by omega, i + 1, G6, B', c', by omega, rfl, Hp.le_trans (Hp.le_push' hle8 _) hle6, hown6, e2, e3, e4, e5, e6, e7, rfl, e9, rfl⟩
    | (have hk2 : (Yu f p).take k = Yu f p := List.take_of_length_le (by omega)
       rw [hk2] at hno
       have hnin : ¬ nodeIn f (Yu f p) v x = true := fun h => by
         obtain ⟨z, hz, hz2⟩ := List.any_eq_true.1 h
         rw [hno z hz] at hz2; cases hz2
       rw [if_neg hnin, List.append_nil] at hnext
       exact ⟨(nd p v).length - (i + 1), by omega, i + 1, G8, B, c8, by omega, rfl, hle8, by rw [hnext]; exact hown8, e2, e3, e4, e5, e6, e7, by rw [hnext]; exact e8, e9, rfl⟩)
  intro hc4
  have hnot : decide (Vn f r v = x.a) = false := by rw [hna]; exact hc4
  refine X6 ?_
  refine Xc (by kernel_rfl) ?_
  refine Xa (Xb Xi) ?_
  refine Xa (Yd rfl rfl Yk) ?_
  refine Xa (Xg rfl) ?_
  refine ⟨(Yu f p).length - (k + 1), by omega, k + 1, by omega, rfl, rfl, fun z hz => ?_, e2, e3, e4, e5, e6, e7, e8, e9, e10, rfl⟩
  rw [List.take_succ_eq_append_getElem hkx] at hz
  rcases List.mem_append.1 hz with hz | hz
  · exact hno z hz
  · rw [List.mem_singleton.1 hz, ← hr]; exact hnot
  intro hc3
  (try simp only [decide_eq_true_eq, decide_eq_false_iff_not, Bool.not_eq_true', Bool.not_eq_false'] at hc3)
  refine Yj ?_
  refine Xc (by kernel_rfl) ?_
  refine Xa (Xb Xi) ?_
  refine Xa (Yd rfl rfl Yk) ?_
  refine Xa (Xg rfl) ?_
  first
    | exact ⟨(nd p v).length - (i + 1), by omega, i + 1, G6, B', c', by omega, rfl, Hp.le_trans (Hp.le_push' hle8 _) hle6, hown6, e2, e3, e4, e5, e6, e7, rfl, e9, rfl⟩
    | (have hk2 : (Yu f p).take k = Yu f p := List.take_of_length_le (by omega)
       rw [hk2] at hno
       have hnin : ¬ nodeIn f (Yu f p) v x = true := fun h => by
         obtain ⟨z, hz, hz2⟩ := List.any_eq_true.1 h
         rw [hno z hz] at hz2; cases hz2
       rw [if_neg hnin, List.append_nil] at hnext
       exact ⟨(nd p v).length - (i + 1), by omega, i + 1, G8, B, c8, by omega, rfl, hle8, by rw [hnext]; exact hown8, e2, e3, e4, e5, e6, e7, by rw [hnext]; exact e8, e9, rfl⟩)
  intro hc2
  (try simp only [decide_eq_true_eq, decide_eq_false_iff_not, Bool.not_eq_true', Bool.not_eq_false'] at hc2)
  refine Yj ?_
  refine Xf ?_
  refine Xf ?_
  have hnfull : (((nd p v).take i).filter (nodeIn f (Yu f p) v)) = Zy f p (Yu f p) v := by rw [List.take_of_length_le (by omega)]; rfl
  rw [hnfull] at hown8 e8
  have hbl8 : G8.get (H7.size + 1) = .own 4 [] := Xt hle8 (by simp) (by intro e; cases e) Yh
  have hbl : H8.get (H7.size + 1) = .own 4 [] := Xt hown8.le (by omega) (by intro e; cases e) hbl8
  have hnK : Sl kLink (H8.put (H7.size + 1) .dead) (.slice B (Zy f p (Yu f p) v).length c8) (Zy f p (Yu f p) v) := (hown8.put_plain plain_link (by rw [hbl8]; intro e; cases e) .dead).sl
  have leK : H7.le (H8.put (H7.size + 1) .dead) := Hp.le_put_new le78 (by omega) _
  refine Xc (by kernel_rfl) ?_
  refine Xa (Xg rfl) ?_
  refine X3 ?_
  refine Yt (fun n t H' => ∃ (j : Nat) (G : Hp) (B9 : Option Addr) (c9 : Nat), j ≤ (lk p v).length ∧ n = (lk p v).length - j ∧ (H8.put (H7.size + 1) .dead).le G ∧ OwnP kLink G H' (.slice B9 (((lk p v).take j).filter (Uq f (Yu f p) v)).length c9) (((lk p v).take j).filter (Uq f (Yu f p) v)) ∧ t 2 = .pointer (some ⟨H.size, 0, none⟩) ∧ t 3 = .pointer (some ⟨H.size + 1, 0, none⟩) ∧ t 4 = .pointer (some ⟨H.size + 2, 0, none⟩) ∧ t 5 = .pointer (some ⟨H5.size, 0, none⟩) ∧ t 6 = .slice Ao (Yu f p).length co ∧ t 7 = .int .i64 v ∧ t 8 = .slice B (Zy f p (Yu f p) v).length c8 ∧ t 9 = .slice B9 (((lk p v).take j).filter (Uq f (Yu f p) v)).length c9 ∧ t 12 = .int .i64 j) ((lk p v).length) (⟨0, H8.put (H7.size + 1) .dead, _, _, by omega, rfl, Hp.le_refl _, own_lit kLink (cs := []) (by omega) hbl, e2, e3, e4, e5, e6, e7, e8, e9, rfl⟩) ?_
  rintro n t H9 ⟨j, G9, B9, c9, hj, rfl, hle9, hown9, e2, e3, e4, e5, e6, e7, e8, e9, e12⟩
  have hz9 := hown9.size
  have hs9 := hle9.1
  simp only [Hp.put_size] at hs9
  have le79 : H7.le H9 := Hp.le_trans leK (Hp.le_trans hle9 hown9.le)
  have hg09 := Xt le79 (by omega) (by intro e; cases e) hg0
  have hg19 := Xt le79 (by omega) (by intro e; cases e) hg1
  have hcell49 := le79.cell1 hb4 hcell4'
  have hmlen : (((lk p v).take j).filter (Uq f (Yu f p) v)).length ≤ (lk p v).length := Nat.le_trans (List.length_filter_le _ _) (by rw [List.length_take]; omega)
  refine Xf ?_
  refine Xf ?_
  refine Xc (by kernel_rfl) ?_
  refine Xa (Xb Xi) ?_
  refine Xa (Xh (off := 1) Xi Tryz.underlying29 Xi inf27.size (by decide) Xi) ?_
  refine Xa (Xl rfl Tryz.underlying27 rfl Xq) ?_
  refine Xa (Xb Xi) ?_
  refine Xa (Xo rfl rfl Tryz.underlying27 inf68.size Xy Xy) ?_
  refine Xa (Xl rfl Tryz.underlying68 rfl Xq) ?_
  refine Xa (Yl rfl Tryz.underlying68) ?_
  refine Xa (Yw rfl rfl) ?_
  refine X1 rfl rfl ?_ ?_
  intro hc5
  (try simp only [decide_eq_true_eq, decide_eq_false_iff_not, Bool.not_eq_true', Bool.not_eq_false'] at hc5)
  refine X6 ?_
  refine Xf ?_
  refine X3 ?_
  refine Xf ?_
  have hjx : j < (lk p v).length := by omega
  obtain ⟨by', oy, eAl, hby, hcelly⟩ := hsl.link_at hjx
  subst eAl
  have hcelly9 := le79.cells hby hcelly
  obtain ⟨y, hy⟩ : ∃ y, y = (lk p v)[j] := ⟨_, rfl⟩
  rw [← hy] at hcelly hcelly9
  have hnextl := filter_next (q := Uq f (Yu f p) v) hjx
  rw [← hy] at hnextl
  have hgev := hg.parent_ge hvx
  have hpar : par f v ≠ -1 := fun e => by
    have h4 := (hG.ok v hvx).2.2.2 e
    have h5 : (lk p v).length = 0 := by unfold lk; rw [h4]; rfl
    omega
  obtain ⟨u, hu⟩ : ∃ u : Nat, par f v = u := ⟨(par f v).toNat, by unfold par at *; omega⟩
  obtain ⟨q', hq1', hq2'⟩ := hg.at_lt (v := u) (by unfold par at *; omega)
  obtain ⟨b2, o2, eA2, hb2, hcell2⟩ := (hs2.mono (leH6.sees.trans se7)).int_at (i := (v : Int)) (by omega) (by omega)
  rw [Int.toNat_natCast] at hcell2
  subst eA2
  rw [show f.parent.getD v 0 = (u : Int) from hu] at hcell2
  refine Xc (by kernel_rfl) ?_
  refine Xa (Xh (off := 1) Xi Tryz.underlying29 Xi inf27.size (by decide) Xi) ?_
  refine Xa (Xl rfl Tryz.underlying27 rfl Xq) ?_
  refine Xa (Xb Xi) ?_
  refine Xa (Xo rfl rfl Tryz.underlying27 inf68.size Xy Xy) ?_
  refine Xa (Xl rfl Tryz.underlying68 rfl Xq) ?_
  refine Xa (Xb Xi) ?_
  refine Xa (Xo rfl rfl Tryz.underlying68 inf78.size Xy Xy) ?_
  refine Xa (Yc (cs := [.int .i64 _, .int .i64 _, .int .i64 _, .int .u64 _]) rfl Tryz.underlying78 rfl inf78.size Yb) ?_
  refine X2 (Y9 (l := [.int .i64 0, .int .i64 0, .int .i64 0, .int .u64 0]) inf78.zero rfl (by decide)) ?_
  first | refine X5 (Yq (vs := [.int .i64 _, .int .i64 _, .int .i64 _, .int .u64 _]) rfl rfl inf78.size Yh Yp rfl rfl ?_)
  refine Xf ?_
  obtain ⟨HT, hHT⟩ : ∃ HT, HT = (H9.push (.own 0 [.int .i64 0, .int .i64 0, .int .i64 0, .int .u64 0])).put H9.size (.own 0 [.int .i64 y.a, .int .i64 y.b, .int .i64 y.cost, .int .u64 y.n]) := ⟨_, rfl⟩
  obtain ⟨GT, hGT⟩ : ∃ GT, GT = (G9.push (.own 0 [.int .i64 0, .int .i64 0, .int .i64 0, .int .u64 0])).put H9.size (.own 0 [.int .i64 y.a, .int .i64 y.b, .int .i64 y.cost, .int .u64 y.n]) := ⟨_, rfl⟩
  have hownT : OwnP kLink GT HT (.slice B9 (((lk p v).take j).filter (Uq f (Yu f p) v)).length c9) (((lk p v).take j).filter (Uq f (Yu f p) v)) := by rw [hHT, hGT]; exact hown9.boxed _ _
  have hleT : (H8.put (H7.size + 1) .dead).le GT := by rw [hGT]; exact Hp.le_put_new (Hp.le_push' hle9 _) (by simp; omega) _
  have gT : HT.get H9.size = .own 0 [.int .i64 y.a, .int .i64 y.b, .int .i64 y.cost, .int .u64 y.n] := by rw [hHT]; exact Hp.put_same _ _ _
  have hzT : HT.size = H9.size + 1 := by rw [hHT]; simp
  change ACode true _ _ _ _ _ ((H9.push (.own 0 [.int .i64 0, .int .i64 0, .int .i64 0, .int .u64 0])).put H9.size (.own 0 [.int .i64 y.a, .int .i64 y.b, .int .i64 y.cost, .int .u64 y.n]))
  rw [← hHT]
  have hzzT := hownT.size
  have le7T : H7.le HT := Hp.le_trans leK (Hp.le_trans hleT hownT.le)
  have hg0T := Xt le7T (by omega) (by intro e; cases e) hg0
  have hg1T := Xt le7T (by omega) (by intro e; cases e) hg1
  have hcell2T := le7T.cell1 hb2 hcell2
  refine Xc (by kernel_rfl) ?_
  refine Xa (Xg rfl) ?_
  refine X3 ?_
  refine Yt (fun n t H' => ∃ (k : Nat), k ≤ (Yu f p).length ∧ n = (Yu f p).length - k ∧ H' = HT ∧ (∀ r ∈ (Yu f p).take k, (decide (Vn f r v = y.b) && decide (Vn f r (par f v) = y.a)) = false) ∧ t 2 = .pointer (some ⟨H.size, 0, none⟩) ∧ t 3 = .pointer (some ⟨H.size + 1, 0, none⟩) ∧ t 4 = .pointer (some ⟨H.size + 2, 0, none⟩) ∧ t 5 = .pointer (some ⟨H5.size, 0, none⟩) ∧ t 6 = .slice Ao (Yu f p).length co ∧ t 7 = .int .i64 v ∧ t 8 = .slice B (Zy f p (Yu f p) v).length c8 ∧ t 9 = .slice B9 (((lk p v).take j).filter (Uq f (Yu f p) v)).length c9 ∧ t 12 = .int .i64 j ∧ t 13 = .pointer (some ⟨H9.size, 0, none⟩) ∧ t 14 = .int .i64 k) ((Yu f p).length) (⟨0, by omega, rfl, rfl, by simp, e2, e3, e4, e5, e6, e7, e8, e9, e12, rfl, rfl⟩) ?_
  rintro n t HT ⟨k, hk, rfl, rfl, hno, e2, e3, e4, e5, e6, e7, e8, e9, e12, e13, e14⟩
  refine Xf ?_
  refine Xf ?_
  refine Xc (by kernel_rfl) ?_
  refine Xa (Xb Xi) ?_
  refine Xa (Xw Xi) ?_
  refine Xa (Yl rfl Tryz.underlying38) ?_
  refine Xa (Yw rfl rfl) ?_
  refine X1 rfl rfl ?_ ?_
  intro hc6
  (try simp only [decide_eq_true_eq, decide_eq_false_iff_not, Bool.not_eq_true', Bool.not_eq_false'] at hc6)
  refine X6 ?_
  refine Xf ?_
  refine X3 ?_
  refine Xf ?_
  have hkx : k < (Yu f p).length := by omega
  obtain ⟨bo, oo, wr, eAo, hbo, hcello, hwr⟩ := (hso7.mono le7T.sees).row_at hkx
  have hcello0 := hcello 0 _ rfl
  obtain ⟨r, hr⟩ : ∃ r, r = (Yu f p)[k] := ⟨_, rfl⟩
  rw [← hr] at hcello hwr
  have hrn : r.nodes.length = f.order.length := (hrok r (by rw [hr]; exact List.getElem_mem hkx)).len
  obtain ⟨Ar, cr, rfl⟩ := hwr.shape
  obtain ⟨bq, oq, eAr, hbq, hcellq⟩ := hwr.int_at (i := (q : Int)) (by omega) (by omega)
  obtain ⟨bq', oq', eAr', hbq', hcellq'⟩ := hwr.int_at (i := (q' : Int)) (by omega) (by omega)
  rw [Int.toNat_natCast] at hcellq hcellq'
  subst eAr
  simp only [Option.some.injEq, Addr.mk.injEq, and_true] at eAr'
  obtain ⟨rfl, rfl⟩ := eAr'
  have hna : Vn f r v = r.nodes.getD q 0 := by unfold Vn; rw [hq1]; rfl
  have hnu : Vn f r (par f v) = r.nodes.getD q' 0 := by unfold Vn; rw [hu, hq1']; rfl
  subst eAo
  refine Ys (by kernel_rfl) (Y1 (B := [0, 0, 3, 7, 15, 0, 0, 96, 255, 511, 0, 1024, 4095, 8191, 16383, 16383, 65535, 131071, 262143, 16383, 16383, 1064959, 16383, 7356415, 15745023, 33046527, 67108863, 134217727, 16383, 268451839, 1073741823, 2147483647]) (π := [0, 1, 2, 3, 4, 5, 6, 10, 11, 7, 8, 9, 12, 13, 14, 15, 16, 17, 18, 19, 20, 21, 22, 23, 24, 28, 29, 25, 26, 27, 30, 31]) (by kernel_rfl)) ?_
  refine Xd rfl rfl (Xw Xi) Xp ?_
  refine Xd rfl rfl (Xb Xi) Xp ?_
  refine Xd rfl rfl (Xo rfl rfl Tryz.underlying38 inf49.size Xy Xy) Xp ?_
  refine Xd rfl rfl (Xh (off := 0) rfl Tryz.underlying49 rfl inf23.size (by decide) rfl) Xp ?_
  refine Xd rfl rfl (Xl rfl Tryz.underlying23 rfl Xq) Xp ?_
  refine Xd rfl rfl (Yc (cs := [.slice _ _ _, .slice _ _ _, .slice _ _ _, .slice _ _ _, .slice _ _ _]) Xi Tryz.underlying26 Xi inf26.size Yb) Xp ?_
  refine Xd rfl rfl (Xb Xi) Xp ?_
  refine Xd rfl rfl (Xh (off := 1) Xi Tryz.underlying78 Xi inf3.size (by decide) Xi) Xp ?_
  refine Xd rfl rfl (Xl rfl Tryz.underlying3 rfl Xq) Xp ?_
  refine Yg rfl rfl (X0 (at_forest f _ _ _ (kForest.mono le7T.sees hfo7) (by omega)) rfl Tryz.func47 rfl rfl rfl ?_)
  rintro v5 HT ⟨rfl, rfl⟩; rw [hq1]
  refine ⟨Yf, ?_⟩
  refine Xd rfl rfl (Xo rfl rfl Tryz.underlying23 inf3.size Xy Xy) Xp ?_
  refine Xd rfl rfl (Xl rfl Tryz.underlying3 rfl Xq) Xp ?_
  refine Xd rfl rfl (Z0 rfl rfl) Xp ?_
  refine Xd rfl rfl (Xs rfl) Xp ?_
  refine Vr rfl rfl rfl rfl ?_ ?_
  intro hg7
  have hyes1 : Vn f r v = y.b := by rw [hna]; exact of_decide_eq_true hg7
  refine Yi rfl (Xk rfl rfl rfl hg7) rfl (Xw Xi) Xp ?_
  refine Yi rfl (Xk rfl rfl rfl hg7) rfl (Xb Xi) Xp ?_
  refine Yi rfl (Xk rfl rfl rfl hg7) rfl (Xo rfl rfl Tryz.underlying38 inf49.size Xy Xy) Xp ?_
  refine Yi rfl (Xk rfl rfl rfl hg7) rfl (Xh (off := 0) rfl Tryz.underlying49 rfl inf23.size (by decide) rfl) Xp ?_
  refine Yi rfl (Xk rfl rfl rfl hg7) rfl (Xl rfl Tryz.underlying23 rfl Xq) Xp ?_
  refine Yi rfl (Xk rfl rfl rfl hg7) rfl (Yc (cs := [.slice _ _ _, .slice _ _ _, .slice _ _ _, .slice _ _ _, .slice _ _ _]) Xi Tryz.underlying26 Xi inf26.size Yb) Xp ?_
  refine Yi rfl (Xk rfl rfl rfl hg7) rfl (Xh (off := 2) Xi Tryz.underlying26 Xi inf23.size (by decide) Xi) Xp ?_
  refine Yi rfl (Xk rfl rfl rfl hg7) rfl (Xl rfl Tryz.underlying23 rfl Xq) Xp ?_
  refine Yi rfl (Xk rfl rfl rfl hg7) rfl (Xb Xi) Xp ?_
  refine Yi rfl (Xk rfl rfl rfl hg7) rfl (Xo rfl rfl Tryz.underlying23 inf3.size Xy Xy) Xp ?_
  refine Yi rfl (Xk rfl rfl rfl hg7) rfl (Xl rfl Tryz.underlying3 rfl Xq) Xp ?_
  refine Yi rfl (Xk rfl rfl rfl hg7) rfl (Xh (off := 0) Xi Tryz.underlying78 Xi inf3.size (by decide) Xi) Xp ?_
  refine Yi rfl (Xk rfl rfl rfl hg7) rfl (Xl rfl Tryz.underlying3 rfl Xq) Xp ?_
  refine adr_wop rfl (Xk rfl rfl rfl hg7) rfl (X0 (at_forest f _ _ _ (kForest.mono le7T.sees hfo7) (by omega)) rfl Tryz.func47 rfl rfl rfl ?_)
  rintro v6 HT ⟨rfl, rfl⟩; rw [hq1']
  refine ⟨Yf, ?_⟩
  refine Yi rfl (Xk rfl rfl rfl hg7) rfl (Xo rfl rfl Tryz.underlying23 inf3.size Xy Xy) Xp ?_
  refine Yi rfl (Xk rfl rfl rfl hg7) rfl (Xl rfl Tryz.underlying3 rfl Xq) Xp ?_
  refine Yi rfl (Xk rfl rfl rfl hg7) rfl (Z0 rfl rfl) Xp ?_
  refine Xd rfl rfl (Xn (congrArg Value.bool hg7) rfl) Xp ?_
  refine X1 rfl rfl ?_ ?_
  intro hc8
  have hyes2 : Vn f r (par f v) = y.a := by rw [hnu]; exact of_decide_eq_true hc8
  have hin : Uq f (Yu f p) v y = true := List.any_eq_true.2 ⟨r, by rw [hr]; exact List.getElem_mem hkx, by rw [decide_eq_true hyes1, decide_eq_true hyes2]; rfl⟩
  rw [if_pos hin] at hnextl
  refine Xf ?_
  refine Xc (by kernel_rfl) ?_
  refine Xa (Xw Xi) ?_
  refine Xa (Yc (cs := [.int .i64 _, .int .i64 _, .int .i64 _, .int .u64 _]) Xi Tryz.underlying78 Xi inf78.size Yb) ?_
  first | refine X2 (Ya (r := [.int .i64 _, .int .i64 _, .int .i64 _, .int .u64 _]) Tryz.underlying68 inf78.size inf78.zero rfl (by decide) (by decide) (by decide) rfl) ?_
  refine X5 (OwnP.append (ys := [y]) (hownT.push _) Tryz.underlying68 inf78 rfl rfl rfl (Zl (k := kLink) rfl rfl hownT.size rfl) (by simp only [List.length_singleton]; omega) (by simp only [List.length_singleton]; omega) ?_)
  rintro v6 G6 H6' hle6 hown6
  rw [← hnextl] at hown6
  obtain ⟨B', c', e6'⟩ := hown6.shape
  subst e6'
  refine Xa (X4 rfl) ?_
  refine Yj ?_
  refine Xc (by kernel_rfl) ?_
  refine Xa (Xb Xi) ?_
  refine Xa (Yd rfl rfl Yk) ?_
  refine Xa (Xg rfl) ?_
  first
    | exact ⟨(lk p v).length - (j + 1), by omega, j + 1, G6, B', c', by omega, rfl, Hp.le_trans (Hp.le_push' hleT _) hle6, hown6, e2, e3, e4, e5, e6, e7, e8, rfl, rfl⟩
    | (have hk2 : (Yu f p).take k = Yu f p := List.take_of_length_le (by omega)
       rw [hk2] at hno
       have hnin : ¬ Uq f (Yu f p) v y = true := fun h => by
         obtain ⟨z, hz, hz2⟩ := List.any_eq_true.1 h
         rw [hno z hz] at hz2; cases hz2
       rw [if_neg hnin, List.append_nil] at hnextl
       exact ⟨(lk p v).length - (j + 1), by omega, j + 1, GT, B9, c9, by omega, rfl, hleT, by rw [hnextl]; exact hownT, e2, e3, e4, e5, e6, e7, e8, by rw [hnextl]; exact e9, rfl⟩)
  intro hc8
  have hnot : (decide (Vn f r v = y.b) && decide (Vn f r (par f v) = y.a)) = false := by rw [hnu, hc8, Bool.and_false]
  refine X6 ?_
  refine Xc (by kernel_rfl) ?_
  refine Xa (Xb Xi) ?_
  refine Xa (Yd rfl rfl Yk) ?_
  refine Xa (Xg rfl) ?_
  refine ⟨(Yu f p).length - (k + 1), by omega, k + 1, by omega, rfl, rfl, fun z hz => ?_, e2, e3, e4, e5, e6, e7, e8, e9, e12, e13, rfl⟩
  rw [List.take_succ_eq_append_getElem hkx] at hz
  rcases List.mem_append.1 hz with hz | hz
  · exact hno z hz
  · rw [List.mem_singleton.1 hz, ← hr]; exact hnot
  intro hg7
  have hnot : (decide (Vn f r v = y.b) && decide (Vn f r (par f v) = y.a)) = false := by rw [hna, hg7]; rfl
  refine Xz rfl (Xj rfl rfl rfl hg7 rfl) ?_
  refine Xz rfl (Xj rfl rfl rfl hg7 rfl) ?_
  refine Xz rfl (Xj rfl rfl rfl hg7 rfl) ?_
  refine Xz rfl (Xj rfl rfl rfl hg7 rfl) ?_
  refine Xz rfl (Xj rfl rfl rfl hg7 rfl) ?_
  refine Xz rfl (Xj rfl rfl rfl hg7 rfl) ?_
  refine Xz rfl (Xj rfl rfl rfl hg7 rfl) ?_
  refine Xz rfl (Xj rfl rfl rfl hg7 rfl) ?_
  refine Xz rfl (Xj rfl rfl rfl hg7 rfl) ?_
  refine Xz rfl (Xj rfl rfl rfl hg7 rfl) ?_
  refine Xz rfl (Xj rfl rfl rfl hg7 rfl) ?_
  refine Xz rfl (Xj rfl rfl rfl hg7 rfl) ?_
  refine Xz rfl (Xj rfl rfl rfl hg7 rfl) ?_
  refine Xz rfl (Xj rfl rfl rfl hg7 rfl) ?_
  refine Xz rfl (Xj rfl rfl rfl hg7 rfl) ?_
  refine Xz rfl (Xj rfl rfl rfl hg7 rfl) ?_
  refine Xz rfl (Xj rfl rfl rfl hg7 rfl) ?_
  refine Xd rfl rfl (Xn (congrArg Value.bool hg7) Xi) Xp ?_
  refine Yx rfl rfl ?_
  refine X6 ?_
  refine Xc (by kernel_rfl) ?_
  refine Xa (Xb Xi) ?_
  refine Xa (Yd rfl rfl Yk) ?_
  refine Xa (Xg rfl) ?_
  refine ⟨(Yu f p).length - (k + 1), by omega, k + 1, by omega, rfl, rfl, fun z hz => ?_, e2, e3, e4, e5, e6, e7, e8, e9, e12, e13, rfl⟩
  rw [List.take_succ_eq_append_getElem hkx] at hz
  rcases List.mem_append.1 hz with hz | hz
  · exact hno z hz
  · rw [List.mem_singleton.1 hz, ← hr]; exact hnot
  intro hc6
  (try simp only [decide_eq_true_eq, decide_eq_false_iff_not, Bool.not_eq_true', Bool.not_eq_false'] at hc6)
  refine Yj ?_
  refine Xc (by kernel_rfl) ?_
  refine Xa (Xb Xi) ?_
  refine Xa (Yd rfl rfl Yk) ?_
  refine Xa (Xg rfl) ?_
  first
    | exact ⟨(lk p v).length - (j + 1), by omega, j + 1, G6, B', c', by omega, rfl, Hp.le_trans (Hp.le_push' hleT _) hle6, hown6, e2, e3, e4, e5, e6, e7, e8, rfl, rfl⟩
    | (have hk2 : (Yu f p).take k = Yu f p := List.take_of_length_le (by omega)
       rw [hk2] at hno
       have hnin : ¬ Uq f (Yu f p) v y = true := fun h => by
         obtain ⟨z, hz, hz2⟩ := List.any_eq_true.1 h
         rw [hno z hz] at hz2; cases hz2
       rw [if_neg hnin, List.append_nil] at hnextl
       exact ⟨(lk p v).length - (j + 1), by omega, j + 1, GT, B9, c9, by omega, rfl, hleT, by rw [hnextl]; exact hownT, e2, e3, e4, e5, e6, e7, e8, by rw [hnextl]; exact e9, rfl⟩)
  intro hc5
  (try simp only [decide_eq_true_eq, decide_eq_false_iff_not, Bool.not_eq_true', Bool.not_eq_false'] at hc5)
  refine Yj ?_
  have hlfull : (((lk p v).take j).filter (Uq f (Yu f p) v)) = Ud f p (Yu f p) v := by rw [List.take_of_length_le (by omega)]; rfl
  rw [hlfull] at hown9 e9
  have hsl9 := hown9.sl
  have hsn9 : Sl kLink H9 (.slice B (Zy f p (Yu f p) v).length c8) (Zy f p (Yu f p) v) := hnK.mono (Hp.le_trans hle9 hown9.le).sees
  obtain ⟨G1, hle1, hpp9⟩ := hpp7.after le79
  have hs1' := hle1.1
  have hzz9 := hpp9.size
  have kg51 := Xt hle1 (by omega) (by intro e; cases e) kg5
  have hg59 := Xt hpp9.le (by omega) (by intro e; cases e) kg51
  obtain ⟨Gm, hL0, hN0⟩ := hpp9.swap
  have hzm := hN0.size
  have hol := ofTo_len f p (Yu f p) v
  have kgm5 := Xt hL0.le (by omega) (by intro e; cases e) kg51
  have hnm := hN0.under plain_link (by decide) hsn9
  have hlm := hN0.under plain_link (by decide) hsl9
  refine Ys (by kernel_rfl) (Y1 (B := [0, 1, 0, 4, 15, 0, 32, 0, 128, 511, 127, 2047, 4095, 8191]) (π := [0, 1, 2, 3, 5, 6, 7, 8, 4, 10, 9, 11, 12, 13]) (by kernel_rfl)) ?_
  refine Xd rfl rfl (Xh (off := 0) Xi Tryz.underlying29 Xi inf27.size (by decide) Xi) Xp ?_
  refine Xd rfl rfl (Xl rfl Tryz.underlying27 rfl Xq) Xp ?_
  refine Xd rfl rfl (Xw Xi) Xp ?_
  refine Y5 rfl rfl (Ya (r := [.slice _ _ _]) Tryz.underlying27 inf68.size inf68.zero rfl (by decide) (by decide) (by decide) rfl) ?_
  refine Xd rfl rfl (Xh (off := 1) Xi Tryz.underlying29 Xi inf27.size (by decide) Xi) Xp ?_
  refine Xd rfl rfl (Xl rfl Tryz.underlying27 rfl Xq) Xp ?_
  refine Xd rfl rfl (Xw Xi) Xp ?_
  refine Y5 rfl rfl (Ya (r := [.slice _ _ _]) Tryz.underlying27 inf68.size inf68.zero rfl (by decide) (by decide) (by decide) rfl) ?_
  have hNp := (hN0.push (.own 1 [.slice B (Zy f p (Yu f p) v).length c8])).push (.own 1 [.slice B9 (Ud f p (Yu f p) v).length c9])
  refine Yg rfl rfl (OwnP.append (ys := [Zy f p (Yu f p) v]) hNp Tryz.underlying27 inf68 rfl rfl rfl (sl_lit1 (k := Vs kLink) (b := H9.size) (u := .slice B (Zy f p (Yu f p) v).length c8) (show ((Gm.push (.own 1 [.slice B (Zy f p (Yu f p) v).length c8])).push (.own 1 [.slice B9 (Ud f p (Yu f p) v).length c9])).get H9.size = .own 1 [.slice B (Zy f p (Yu f p) v).length c8] by rw [hzm, Hp.push_old _ _ (by simp)]; exact Hp.push_new _ _) (by simp <;> omega) ⟨_, rfl, hnm.mono (Hp.le_push' (Gm.le_push _) _).sees⟩ rfl) (by rw [hol.1]; simp only [List.length_singleton]; omega) (by rw [hol.1]; simp only [List.length_singleton]; omega) ?_)
  rintro v6 G6 H6' hle6 hown6
  have hsameO := OwnP.sameO hNp hle6 hown6
  obtain ⟨A6, c6, e6'⟩ := hown6.shape
  rw [List.length_append, hol.1, List.length_singleton] at e6'
  subst e6'
  rw [← ofTo_nodes] at hown6
  have leM6 := Hp.le_trans (Hp.le_push' (Gm.le_push (.own 1 [.slice B (Zy f p (Yu f p) v).length c8])) (.own 1 [.slice B9 (Ud f p (Yu f p) v).length c9])) hle6
  obtain ⟨G2, hle2, hL2, _⟩ := hL0.after leM6
  have hpp6 : PartsP G2 H6' (.slice AL v cL) (.slice A6 (v + 1) c6) _ _ := ⟨G6, hL2, hown6⟩
  have z6 := hle6.1
  simp only [Hp.push_size] at z6
  have zz6 := hown6.size
  have g6l : G6.get (H9.size + 1) = .own 1 [.slice B9 (Ud f p (Yu f p) v).length c9] := Xt hle6 (by simp <;> omega) (by intro e; cases e) (by rw [show H9.size + 1 = (Gm.push (.own 1 [.slice B (Zy f p (Yu f p) v).length c8])).size by simp; omega]; exact Hp.push_new _ _)
  have h6l := Xt hown6.le (by omega) (by intro e; cases e) g6l
  have kg52 := Xt hle2 (by omega) (by intro e; cases e) kg51
  have s12 := hle2.1
  have hsame : ∀ b ∈ [H9.size + 1], H6'.get b = ((H9.push (.own 1 [.slice B (Zy f p (Yu f p) v).length c8])).push (.own 1 [.slice B9 (Ud f p (Yu f p) v).length c9])).get b := fun b hb => by rw [List.mem_singleton] at hb; subst hb; exact hsameO _ 1 [.slice B9 (Ud f p (Yu f p) v).length c9] (by simp; omega) (by rw [show H9.size + 1 = (Gm.push (.own 1 [.slice B (Zy f p (Yu f p) v).length c8])).size by simp; omega]; exact Hp.push_new _ _)
  have hsame2 : ∀ b ∈ [H9.size], H6'.get b = ((H9.push (.own 1 [.slice B (Zy f p (Yu f p) v).length c8])).push (.own 1 [.slice B9 (Ud f p (Yu f p) v).length c9])).get b := fun b hb => by rw [List.mem_singleton] at hb; subst hb; exact hsameO _ 1 [.slice B (Zy f p (Yu f p) v).length c8] (by simp <;> omega) (by rw [hzm, Hp.push_old _ _ (by simp)]; exact Hp.push_new _ _)
  refine ⟨Yf, ?_⟩
  clear hsameO hsame hsame2
  refine Xd rfl rfl (Xh (off := 0) Xi Tryz.underlying29 Xi inf27.size (by decide) Xi) Xp ?_
  obtain ⟨Gn, hN2, hL3⟩ := hpp6.swap
  have zn := hL3.size
  have zn2 := hN2.size
  have gnl : Gn.get (H9.size + 1) = .own 1 [.slice B9 (Ud f p (Yu f p) v).length c9] := by rw [OwnP.get_new hL0 hL3 (by omega)]; exact h6l
  have kgn5 := Xt hN2.le (by omega) (by intro e; cases e) kg52
  have hln := hL3.under plain_link (by decide) ((hlm.mono leM6.sees).mono hown6.le.sees)
  refine Yg rfl rfl (OwnP.append (ys := [Ud f p (Yu f p) v]) hL3 Tryz.underlying27 inf68 rfl rfl rfl (sl_lit1 (k := Vs kLink) (b := H9.size + 1) gnl (by omega) ⟨_, rfl, hln⟩ rfl) (by rw [hol.2]; simp only [List.length_singleton]; omega) (by rw [hol.2]; simp only [List.length_singleton]; omega) ?_)
  rintro v8 G8' H8' hle8' hown8'
  have hsameO := OwnP.sameO hL3 hle8' hown8'
  obtain ⟨A8, c8', e8'⟩ := hown8'.shape
  rw [List.length_append, hol.2, List.length_singleton] at e8'
  subst e8'
  rw [← ofTo_links] at hown8'
  obtain ⟨G3, hle3, hN3, _⟩ := hN2.after hle8'
  have hpp8 : PartsP G3 H8' (.slice A6 (v + 1) c6) (.slice A8 (v + 1) c8') _ _ := ⟨G8', hN3, hown8'⟩
  have s13 := hle3.1
  have zz8 := hpp8.size
  have kg53 := Xt hle3 (by omega) (by intro e; cases e) kg52
  have hg58 := Xt hpp8.le (by omega) (by intro e; cases e) kg53
  have leG3 := Hp.le_trans hle1 (Hp.le_trans hle2 hle3)
  have kg03 := Xt leG3 (by omega) (by intro e; cases e) kg0
  have kg13 := Xt leG3 (by omega) (by intro e; cases e) kg1
  have kg23 := Xt leG3 (by omega) (by intro e; cases e) kg2
  refine ⟨Yf, ?_⟩
  clear hsameO
  first | refine Yg rfl rfl (Y8 rfl rfl rfl inf27.size Yh Yp rfl ?_)
  refine ⟨Yf, ?_⟩
  refine Xd rfl rfl (Xh (off := 1) Xi Tryz.underlying29 Xi inf27.size (by decide) Xi) Xp ?_
  first | refine Yg rfl rfl (Y8 rfl rfl rfl inf27.size Yh Yp rfl ?_)
  refine ⟨Yf, ?_⟩
  refine Xc (by kernel_rfl) ?_
  refine Xa (Xb Xi) ?_
  refine Xa (Yd rfl rfl Yk) ?_
  refine Xa (Xg rfl) ?_
  exact ⟨f.vars.length - (v + 1), by omega, v + 1, (G3.put H5.size (.own 0 [.slice A6 (v + 1) c6, .slice AL v cL])).put H5.size (.own 0 [.slice A6 (v + 1) c6, .slice A8 (v + 1) c8']), A6, A8, c6, c8', by omega, rfl, Hp.le_put_new (Hp.le_put_new (Hp.le_trans leG7 leG3) (by omega) _) (by omega) _, ((hles7.trans leG3.les).box kg53 _).box (Hp.put_same _ _ _) _, by rw [Hp.put_other _ _ (by omega), Hp.put_other _ _ (by omega)]; exact kg03, by rw [Hp.put_other _ _ (by omega), Hp.put_other _ _ (by omega)]; exact kg13, by rw [Hp.put_other _ _ (by omega), Hp.put_other _ _ (by omega)]; exact kg23, Hp.put_same _ _ _, (hpp8.box_put (by omega) kg53 _).box_put (by simp; omega) (Hp.put_same _ _ _) _, e2, e3, e4, e5, e6, rfl⟩
  intro hc1
  (try simp only [decide_eq_true_eq, decide_eq_false_iff_not, Bool.not_eq_true', Bool.not_eq_false'] at hc1)
  refine Yj ?_
  refine Xf ?_
  refine Xc (by kernel_rfl) ?_
  refine Xa (Yc (cs := [.slice _ _ _, .slice _ _ _]) Xi Tryz.underlying29 Xi inf29.size Yb) ?_
  refine X5 (Yq (vs := [.slice _ _ _, .slice _ _ _]) Xi Xi inf29.size Yh Yp Xi Xi ?_)
  refine X8 ?_
  have hvn' : v = f.vars.length := by omega
  subst hvn'
  exact ⟨_, Xv (Zc Xi (Za (cs := [_, _]) Tryz.underlying29 rfl inf29.size Yb)), _, _, _, Hp.le_put_new leG7 (by omega) _, rfl, hpp7.box_put (by omega) kg2 _⟩
end Go.Proofs.YtcaeoebphfjfiaaGreat.Am


/- Rows in plain words: which lists of nodes are a row; that what was reduced has the same rows; that each of its nodes and links is in some row. -/
namespace Go.Proofs.YtcaeoebphfjfiaaGreat.Am
open Go Go.RowKit
set_option maxRecDepth 100000
set_option linter.unusedVariables false
set_option linter.unusedSimpArgs false

def Z9 (f : Forest) (v : Int) : Nat := (atI f.order v).toNat
theorem GoodF.vAt_lt {f : Forest} (h : GoodF f) {s : Nat} (hs : s < f.vars.length) : Zr f s < f.vars.length ∧ ((Zr f s : Nat) : Int) = f.order.getD s 0 := by
  have h1 := h.ok s hs
  have h2 := h1.1
  have h3 := h1.2.1
  unfold Zr
  omega
theorem GoodF.pos_vAt {f : Forest} (h : GoodF f) {s : Nat} (hs : s < f.vars.length) : Z9 f (Zr f s) = s := by
  have hl := h.l1
  rw [(h.vAt_lt hs).2]
  unfold Z9
  have h1 := (h.ok s hs).2.2.1
  rw [atI_some (i := s) (by omega) (by rw [Zf (by omega)]) h1]; rfl
theorem GoodF.pos_par {f : Forest} (h : GoodF f) {s : Nat} (hs : s < f.vars.length) (hp : 0 ≤ par f (Zr f s)) : Z9 f (par f (Zr f s)) < s ∧ ((Zr f (Z9 f (par f (Zr f s))) : Nat) : Int) = par f (Zr f s) := by
  have h1 := (h.ok s hs).2.2.2
  have h2 : (f.order.getD s 0).toNat = Zr f s := rfl
  rw [h2] at h1
  obtain ⟨q, hq1, hq2, hq3, hq4⟩ := atI_take (xs := f.order) (v := par f (Zr f s)) (i := s) (h1.resolve_left (by unfold par at hp; omega))
  have hq : Z9 f (par f (Zr f s)) = q := by unfold Z9; rw [hq1]; rfl
  rw [hq]
  refine ⟨hq2, ?_⟩
  rw [(h.vAt_lt (by omega)).2, Zf hq3, hq4]
theorem GoodF.vAt_pos {f : Forest} (h : GoodF f) {v : Nat} (hv : v < f.vars.length) : Z9 f v < f.vars.length ∧ Zr f (Z9 f v) = v := by
  have hl := h.l1
  obtain ⟨q, h1, _, h3, h4⟩ := atI_take (xs := f.order) (v := (v : Int)) (i := f.order.length) (by rw [List.take_length]; exact h.in_order hv)
  have hq : Z9 f v = q := by unfold Z9; rw [h1]; rfl
  rw [hq]
  refine ⟨by omega, ?_⟩
  unfold Zr
  rw [Zf h3, h4]; rfl
def SatAt (f : Forest) (p : Parts) (ns : List Int) (s : Nat) : Prop :=
  ns.getD s 0 ∈ V4 (nd p (Zr f s)) ∧ (0 ≤ par f (Zr f s) → ∃ l ∈ lk p (Zr f s), l.a = ns.getD (Z9 f (par f (Zr f s))) 0 ∧ l.b = ns.getD s 0)
def Sat (f : Forest) (p : Parts) (i : Nat) (ns : List Int) : Prop := ns.length = i ∧ ∀ s, s < i → SatAt f p ns s
theorem getD_app {ns : List Int} {a : Int} {s : Nat} (h : s < ns.length) : (ns ++ [a]).getD s 0 = ns.getD s 0 := by
  rw [List.getD_eq_getElem?_getD, List.getD_eq_getElem?_getD, List.getElem?_append_left h]
theorem V1 {ns : List Int} {a : Int} : (ns ++ [a]).getD ns.length 0 = a := by
  rw [List.getD_eq_getElem?_getD, List.getElem?_append_right (Nat.le_refl _)]; simp
theorem SatAt.app {f : Forest} {p : Parts} {ns : List Int} {a : Int} {s : Nat} (hg : GoodF f) (hs : s < ns.length) (hn : ns.length < f.vars.length) : SatAt f p (ns ++ [a]) s ↔ SatAt f p ns s := by
  unfold SatAt
  rw [getD_app hs]
  constructor
  · intro ⟨h1, h2⟩
    refine ⟨h1, fun hp => ?_⟩
    obtain ⟨l, hl, e1, e2⟩ := h2 hp
    rw [getD_app (by have := (hg.pos_par (by omega) hp).1; omega)] at e1
    exact ⟨l, hl, e1, e2⟩
  · intro ⟨h1, h2⟩
    refine ⟨h1, fun hp => ?_⟩
    obtain ⟨l, hl, e1, e2⟩ := h2 hp
    exact ⟨l, hl, by rw [getD_app (by have := (hg.pos_par (by omega) hp).1; omega)]; exact e1, e2⟩
theorem sat_succ {f : Forest} {p : Parts} {ns : List Int} {a : Int} {i : Nat} (hg : GoodF f) (hl : ns.length = i) (hi : i < f.vars.length) : Sat f p (i + 1) (ns ++ [a]) ↔ Sat f p i ns ∧ SatAt f p (ns ++ [a]) i := by
  subst hl
  constructor
  · intro ⟨h1, h2⟩
    exact ⟨⟨rfl, fun s hs => (SatAt.app hg hs hi).1 (h2 s (by omega))⟩, h2 _ (by omega)⟩
  · intro ⟨⟨_, h1⟩, h2⟩
    refine ⟨by simp, fun s hs => ?_⟩
    rcases Nat.lt_or_ge s ns.length with h | h
    · exact (SatAt.app hg h hi).2 (h1 s h)
    · obtain rfl : s = ns.length := by omega
      exact h2
theorem rowOne_sat {f : Forest} {p : Parts} {r r' : RowT} {x : Link} {i : Nat} (hg : GoodF f) (hi : i < f.vars.length) (hr : r.nodes.length = i) (hx : x ∈ nd p (Zr f i)) (h : Zw f p (Zr f i) r x = some r') : r'.nodes = r.nodes ++ [x.a] ∧ SatAt f p r'.nodes i := by
  subst hr
  have hfirst : x.a ∈ V4 (nd p (Zr f r.nodes.length)) := List.mem_map.2 ⟨x, hx, rfl⟩
  unfold Zw at h
  split at h
  · rename_i hp
    split at h
    · rename_i hlo
      injection h with h
      subst h
      refine ⟨rfl, by rw [V1]; exact hfirst, fun _ => ?_⟩
      obtain ⟨l, hl, e1, e2⟩ := findI_ge.1 hlo
      have := (hg.pos_par hi hp).1
      exact ⟨l, hl, by rw [getD_app this]; exact e1, by rw [V1]; exact e2⟩
    · cases h
  · rename_i hp
    injection h with h
    subst h
    exact ⟨rfl, by rw [V1]; exact hfirst, fun h => absurd h hp⟩
theorem rowOne_some {f : Forest} {p : Parts} {r : RowT} {x : Link} {i : Nat} (hg : GoodF f) (hi : i < f.vars.length) (hr : r.nodes.length = i) (hs : SatAt f p (r.nodes ++ [x.a]) i) : ∃ r', Zw f p (Zr f i) r x = some r' ∧ r'.nodes = r.nodes ++ [x.a] := by
  subst hr
  unfold Zw
  by_cases hp : 0 ≤ par f (Zr f r.nodes.length)
  · obtain ⟨l, hl, e1, e2⟩ := hs.2 hp
    rw [getD_app (hg.pos_par hi hp).1] at e1
    rw [V1] at e2
    have hlo : 0 ≤ Vm f p (Zr f r.nodes.length) r x := findI_ge.2 ⟨l, hl, e1, e2⟩
    rw [if_pos hp, if_pos hlo]
    exact ⟨_, rfl, rfl⟩
  · rw [if_neg hp]; exact ⟨_, rfl, rfl⟩
theorem rows_len {f : Forest} {p : Parts} : ∀ (i : Nat), ∀ r ∈ Zq f p i, r.nodes.length = i
  | 0, r, h => by simp [Zq] at h; subst h; rfl
  | i + 1, r, h => by
    obtain ⟨r0, h0, h1⟩ := List.mem_flatMap.1 h
    obtain ⟨x, hx, h2⟩ := List.mem_filterMap.1 h1
    have h3 := rows_len i r0 h0
    unfold Zw at h2
    split at h2
    · split at h2
      · injection h2 with h2; subst h2; simp [h3]
      · cases h2
    · injection h2 with h2; subst h2; simp [h3]
theorem rows_sat {f : Forest} {p : Parts} (hg : GoodF f) : ∀ (i : Nat), i ≤ f.vars.length → ∀ r ∈ Zq f p i, Sat f p i r.nodes
  | 0, _, r, h => by simp [Zq] at h; subst h; exact ⟨rfl, fun s hs => by omega⟩
  | i + 1, hi, r, h => by
    obtain ⟨r0, h0, h1⟩ := List.mem_flatMap.1 h
    obtain ⟨x, hx, h2⟩ := List.mem_filterMap.1 h1
    have h3 := rows_len i r0 h0
    obtain ⟨e, hs⟩ := rowOne_sat hg (by omega) h3 hx h2
    rw [e] at hs ⊢
    exact (sat_succ hg h3 (by omega)).2 ⟨rows_sat hg i (by omega) r0 h0, hs⟩
theorem sat_rows {f : Forest} {p : Parts} (hg : GoodF f) : ∀ (i : Nat), i ≤ f.vars.length → ∀ ns, Sat f p i ns → ∃ r ∈ Zq f p i, r.nodes = ns
  | 0, _, ns, ⟨h, _⟩ => ⟨⟨[], 0, 1⟩, by simp [Zq], by rw [List.eq_nil_of_length_eq_zero h]⟩
  | i + 1, hi, ns, h => by
    obtain ⟨ns0, a, rfl⟩ : ∃ ns0 a, ns = ns0 ++ [a] := ⟨ns.dropLast, ns.getLast (by intro e; rw [e] at h; have := h.1; simp at this), (List.dropLast_concat_getLast _).symm⟩
    have hl : ns0.length = i := by have := h.1; simp at this; exact this
    obtain ⟨h1, h2⟩ := (sat_succ hg hl (by omega)).1 h
    obtain ⟨r0, h3, h4⟩ := sat_rows hg i (by omega) ns0 h1
    have h5 := h2.1
    rw [← hl, V1, hl] at h5
    obtain ⟨x, hx, e⟩ := List.mem_map.1 h5
    subst e
    rw [← h4] at h2 hl
    obtain ⟨r', h6, h7⟩ := rowOne_some hg (by omega) hl h2
    exact ⟨r', List.mem_flatMap.2 ⟨r0, h3, List.mem_filterMap.2 ⟨x, hx, h6⟩⟩, by rw [h7, h4]⟩
theorem Sat.sub {f : Forest} {p q : Parts} {i : Nat} {ns : List Int} (h : Sat f q i ns) (hs : Sub q p) : Sat f p i ns :=
  ⟨h.1, fun s hi => by
    obtain ⟨h1, h2⟩ := h.2 s hi
    refine ⟨?_, fun hp => ?_⟩
    · obtain ⟨x, hx, e⟩ := List.mem_map.1 h1
      exact List.mem_map.2 ⟨x, (hs _).1.subset hx, e⟩
    · obtain ⟨l, hl, e⟩ := h2 hp
      exact ⟨l, (hs _).2.subset hl, e⟩⟩
end Go.Proofs.YtcaeoebphfjfiaaGreat.Am


/- What was reduced has the same rows, and each of its nodes and links is in some row. -/
namespace Go.Proofs.YtcaeoebphfjfiaaGreat.Am
open Go Go.RowKit
set_option maxRecDepth 100000
set_option linter.unusedVariables false
set_option linter.unusedSimpArgs false

theorem sat_up {f : Forest} {p : Parts} {w : Nat} {ns : List Int} (hg : GoodF f) (hl : Lens f.vars.length p) (hw : w < f.vars.length) (h : Sat f p f.vars.length ns) : Sat f (upC f p w) f.vars.length ns ∧ Sat f (Vb f p w) f.vars.length ns := by
  have hge : -1 ≤ par f w ∧ par f w < f.vars.length := hg.parent_ge hw
  have hu : (par f w).toNat < f.vars.length := by omega
  have hnn : par f w ≠ -1 → 0 ≤ par f w := fun h => by omega
  have hlink : par f w ≠ -1 → ∃ l ∈ left p w (par f w).toNat, l.a = ns.getD (Z9 f (par f w)) 0 ∧ l.b = ns.getD (Z9 f w) 0 := fun hp => by
    obtain ⟨k1, k2⟩ := hg.vAt_pos hw
    have hp0 : 0 ≤ par f w := hnn hp
    obtain ⟨h1, h2⟩ := h.2 (Z9 f w) k1
    rw [k2] at h1 h2
    obtain ⟨l, hl1, e1, e2⟩ := h2 hp0
    have hpn : ((par f w).toNat : Int) = par f w := Int.toNat_of_nonneg hp0
    obtain ⟨k3, k4⟩ := hg.vAt_pos (v := (par f w).toNat) hu
    rw [hpn] at k3 k4
    have h3 := (h.2 _ k3).1
    rw [k4] at h3
    exact ⟨l, left_mem.2 ⟨hl1, by rw [e1]; exact h3, by rw [e2]; exact h1⟩, e1, e2⟩
  constructor
  · refine ⟨h.1, fun s hs => ?_⟩
    obtain ⟨h1, h2⟩ := h.2 s hs
    refine ⟨?_, fun hp => ?_⟩
    · rw [nd_up hl hu]
      split
      · rename_i hc
        obtain ⟨l, hl1, e1, e2⟩ := hlink hc.1
        obtain ⟨x, hx, e⟩ := List.mem_map.1 h1
        refine List.mem_map.2 ⟨x, List.mem_filter.2 ⟨hx, ?_⟩, e⟩
        rw [decide_eq_true_eq, e]
        have hps : Z9 f (par f w) = s := by
          have := hg.pos_vAt hs
          rw [hc.2, show ((par f w).toNat : Int) = par f w from Int.toNat_of_nonneg (hnn hc.1)] at this
          exact this
        rw [hps] at e1
        exact List.mem_map.2 ⟨l, hl1, e1⟩
      · exact h1
    · rw [lk_up hl hw]
      split
      · rename_i hc
        obtain ⟨l, hl1, e1, e2⟩ := hlink hc.1
        have hps : Z9 f w = s := by rw [← hc.2]; exact hg.pos_vAt hs
        rw [hps] at e2
        exact ⟨l, hl1, by rw [hc.2]; exact e1, e2⟩
      · exact h2 hp
  · refine ⟨h.1, fun s hs => ?_⟩
    obtain ⟨h1, h2⟩ := h.2 s hs
    refine ⟨?_, fun hp => ?_⟩
    · rw [nd_down hl hw]
      split
      · rename_i hc
        obtain ⟨l, hl1, e1, e2⟩ := hlink hc.1
        rw [hc.2] at h1
        obtain ⟨x, hx, e⟩ := List.mem_map.1 h1
        refine List.mem_map.2 ⟨x, List.mem_filter.2 ⟨hx, ?_⟩, e⟩
        rw [decide_eq_true_eq, e]
        have hps : Z9 f w = s := by rw [← hc.2]; exact hg.pos_vAt hs
        rw [hps] at e2
        exact List.mem_map.2 ⟨l, hl1, e2⟩
      · exact h1
    · rw [lk_down hl hw]
      split
      · rename_i hc
        obtain ⟨l, hl1, e1, e2⟩ := hlink hc.1
        have hps : Z9 f w = s := by rw [← hc.2]; exact hg.pos_vAt hs
        rw [hps] at e2
        exact ⟨l, hl1, by rw [hc.2]; exact e1, e2⟩
      · exact h2 hp
theorem sat_up_fold {f : Forest} {ns : List Int} (hg : GoodF f) : ∀ (vs : List Int) (p : Parts), (∀ v ∈ vs, v.toNat < f.vars.length) → Lens f.vars.length p → Sat f p f.vars.length ns → Sat f (vs.foldl (fun p v => upC f p v.toNat) p) f.vars.length ns
  | [], _, _, _, h => h
  | v :: vs, p, hv, hl, h => sat_up_fold hg vs _ (fun w hw => hv w (by simp [hw])) (hl.up _) (sat_up hg hl (hv v (by simp)) h).1
theorem sat_down_fold {f : Forest} {ns : List Int} (hg : GoodF f) : ∀ (vs : List Int) (p : Parts), (∀ v ∈ vs, v.toNat < f.vars.length) → Lens f.vars.length p → Sat f p f.vars.length ns → Sat f (vs.foldl (fun p v => Vb f p v.toNat) p) f.vars.length ns
  | [], _, _, _, h => h
  | v :: vs, p, hv, hl, h => sat_down_fold hg vs _ (fun w hw => hv w (by simp [hw])) (hl.down _) (sat_up hg hl (hv v (by simp)) h).2
theorem sat_ofP {f : Forest} {p : Parts} {ns : List Int} (h : GoodP f p) (hs : Sat f p f.vars.length ns) : Sat f (Uc f p) f.vars.length ns := by
  obtain ⟨k1, k2, k3, k4⟩ := up_all h.gf f.order.reverse [] p rfl h.lens h.nb (fun v hv => by simp at hv)
  have e1 : upP f p = f.order.reverse.foldl (fun p v => upC f p v.toNat) p := k4
  rw [← e1] at k1 k2
  have e2 : downP f (upP f p) = f.order.foldl (fun p v => Vb f p v.toNat) (upP f p) := down_fold _ _ (fun v hv => by have := h.gf.order_in hv; omega) k1 (h.nb.sub k2)
  have s1 : Sat f (upP f p) f.vars.length ns := by rw [e1]; exact sat_up_fold h.gf _ _ (fun v hv => by have := h.gf.order_in (List.mem_reverse.1 hv); omega) h.lens hs
  have s2 : Sat f (downP f (upP f p)) f.vars.length ns := by rw [e2]; exact sat_down_fold h.gf _ _ (fun v hv => by have := h.gf.order_in hv; omega) k1 s1
  unfold Uc
  split
  · rename_i hr
    exfalso
    obtain ⟨v, hv, hr2⟩ := List.any_eq_true.1 hr
    have hvv := h.gf.order_in hv
    obtain ⟨m, rfl⟩ : ∃ m : Nat, v = m := ⟨v.toNat, by omega⟩
    obtain ⟨q1, q2⟩ := h.gf.vAt_pos (v := m) (by omega)
    have h3 := (s2.2 _ q1).1
    rw [q2] at h3
    unfold Z3 at hr2
    rw [Bool.and_eq_true, decide_eq_true_eq, decide_eq_true_eq, Int.toNat_natCast] at hr2
    rw [show nd (downP f (upP f p)) m = [] from List.eq_nil_of_length_eq_zero hr2.2] at h3
    simp [V4] at h3
  · exact s2
def Pinned (f : Forest) (x : Parts) (pin : Nat → Option Int) : Prop := ∀ s a, pin s = some a → s < f.vars.length ∧ a ∈ V4 (nd x (Zr f s)) ∧ (0 ≤ par f (Zr f s) → ∃ l ∈ lk x (Zr f s), pin (Z9 f (par f (Zr f s))) = some l.a ∧ l.b = a)
structure Fit (f : Forest) (x : Parts) : Prop where
  gf : GoodF f
  full : ∀ v : Nat, v < f.vars.length → par f v ≠ -1 → Full f x v
  root : ∀ v : Nat, v < f.vars.length → par f v = -1 → nd x v ≠ []
theorem mem_par {f : Forest} {x : Parts} {s : Nat} (hg : GoodF f) (hs : s < f.vars.length) (hp : 0 ≤ par f (Zr f s)) : (par f (Zr f s)).toNat = Zr f (Z9 f (par f (Zr f s))) := by
  have := (hg.pos_par hs hp).2; omega
theorem pinned_row {f : Forest} {x : Parts} (hx : Fit f x) {pin : Nat → Option Int} (hpin : Pinned f x pin) : ∀ i, i ≤ f.vars.length → ∃ ns, Sat f x i ns ∧ ∀ s a, s < i → pin s = some a → ns.getD s 0 = a
  | 0, _ => ⟨[], ⟨rfl, fun s hs => by omega⟩, fun s a hs => by omega⟩
  | i + 1, hi => by
    obtain ⟨ns, h1, h2⟩ := pinned_row hx hpin i (by omega)
    have hlen := h1.1
    have key : ∃ a, SatAt f x (ns ++ [a]) i ∧ ∀ a', pin i = some a' → a = a' := by
      have hvl := (hx.gf.vAt_lt (s := i) (by omega)).1
      have hge : -1 ≤ par f (Zr f i) ∧ par f (Zr f i) < f.vars.length := hx.gf.parent_ge hvl
      cases hpi : pin i with
      | some a =>
        obtain ⟨k1, k2, k3⟩ := hpin i a hpi
        refine ⟨a, ⟨by rw [← hlen, V1, hlen]; exact k2, fun hp => ?_⟩, fun a' e => by injection e⟩
        obtain ⟨l, hl, e1, e2⟩ := k3 hp
        have hq := (hx.gf.pos_par (by omega) hp).1
        refine ⟨l, hl, ?_, ?_⟩
        · rw [getD_app (by omega)]; exact (h2 _ _ hq e1).symm
        · rw [← hlen, V1]; exact e2
      | none =>
        by_cases hp : par f (Zr f i) = -1
        · obtain ⟨y, hy⟩ := List.exists_mem_of_ne_nil _ (hx.root _ hvl hp)
          exact ⟨y.a, ⟨by rw [← hlen, V1, hlen]; exact List.mem_map.2 ⟨y, hy, rfl⟩, fun h => by omega⟩, fun a' e => by cases e⟩
        · have hp0 : 0 ≤ par f (Zr f i) := by omega
          have hF := hx.full _ hvl hp
          have hq := (hx.gf.pos_par (by omega) hp0).1
          have h3 := (h1.2 _ hq).1
          rw [← mem_par (x := x) hx.gf (by omega) hp0] at h3
          obtain ⟨y, hy, e⟩ := List.mem_map.1 h3
          obtain ⟨l, hl, e1⟩ := List.mem_map.1 (hF.up y hy)
          refine ⟨l.b, ⟨by rw [← hlen, V1, hlen]; exact (hF.ends l hl).2, fun _ => ⟨l, hl, ?_, by rw [← hlen, V1]⟩⟩, fun a' e => by cases e⟩
          rw [getD_app (by omega), ← e]; exact e1
    obtain ⟨a, k1, k2⟩ := key
    refine ⟨ns ++ [a], (sat_succ hx.gf hlen (by omega)).2 ⟨h1, k1⟩, fun s a' hs hp => ?_⟩
    rcases Nat.lt_or_ge s i with h | h
    · rw [getD_app (by omega)]; exact h2 s a' h hp
    · obtain rfl : s = i := by omega
      rw [← hlen, V1]; exact k2 a' hp
theorem pin_node {f : Forest} {x : Parts} (hx : Fit f x) : ∀ (s0 : Nat), s0 < f.vars.length → ∀ a0 ∈ V4 (nd x (Zr f s0)), ∃ pin, Pinned f x pin ∧ pin s0 = some a0 ∧ ∀ s, s0 < s → pin s = none := by
  intro s0
  induction s0 using Nat.strongRecOn with
  | ind s0 ih =>
    intro hs a0 ha
    have hvl := (hx.gf.vAt_lt hs).1
    have hge : -1 ≤ par f (Zr f s0) ∧ par f (Zr f s0) < f.vars.length := hx.gf.parent_ge hvl
    by_cases hp : par f (Zr f s0) = -1
    · refine ⟨fun s => if s = s0 then some a0 else none, fun s a e => ?_, by simp, fun s h => if_neg (by omega)⟩
      by_cases hss : s = s0
      · subst hss; simp at e; subst e; exact ⟨hs, ha, fun h => by omega⟩
      · simp [hss] at e
    · have hp0 : 0 ≤ par f (Zr f s0) := by omega
      have hF := hx.full _ hvl hp
      have hq := (hx.gf.pos_par hs hp0).1
      obtain ⟨y, hy, e⟩ := List.mem_map.1 ha
      obtain ⟨l, hl, e1⟩ := List.mem_map.1 (hF.down y hy)
      have h3 := (hF.ends l hl).1
      rw [mem_par (x := x) hx.gf hs hp0] at h3
      obtain ⟨pin, k1, k2, k3⟩ := ih _ hq (by omega) l.a h3
      refine ⟨fun s => if s = s0 then some a0 else pin s, fun s a ee => ?_, by simp, fun s h => (if_neg (by omega)).trans (k3 s (by omega))⟩
      by_cases hss : s = s0
      · subst hss
        simp at ee
        subst ee
        exact ⟨hs, ha, fun _ => ⟨l, hl, (if_neg (by omega)).trans k2, by rw [e1]; exact e⟩⟩
      · simp only [hss, if_false] at ee
        obtain ⟨j1, j2, j3⟩ := k1 s a ee
        refine ⟨j1, j2, fun h => ?_⟩
        obtain ⟨l', hl', e3, e4⟩ := j3 h
        refine ⟨l', hl', ?_, e4⟩
        have hsq : ¬ Z9 f (par f (Zr f s0)) < s := fun h => by rw [k3 s h] at ee; cases ee
        have := (hx.gf.pos_par j1 h).1
        exact (if_neg (by omega)).trans e3
theorem pin_link {f : Forest} {x : Parts} (hx : Fit f x) {s0 : Nat} (hs : s0 < f.vars.length) (hp : par f (Zr f s0) ≠ -1) {l : Link} (hl : l ∈ lk x (Zr f s0)) : ∃ pin, Pinned f x pin ∧ pin s0 = some l.b ∧ pin (Z9 f (par f (Zr f s0))) = some l.a := by
  have hvl := (hx.gf.vAt_lt hs).1
  have hge : -1 ≤ par f (Zr f s0) ∧ par f (Zr f s0) < f.vars.length := hx.gf.parent_ge hvl
  have hp0 : 0 ≤ par f (Zr f s0) := by omega
  have hF := hx.full _ hvl hp
  have hq := (hx.gf.pos_par hs hp0).1
  obtain ⟨h3, h4⟩ := hF.ends l hl
  rw [mem_par (x := x) hx.gf hs hp0] at h3
  obtain ⟨pin, k1, k2, k3⟩ := pin_node hx _ (by omega) l.a h3
  refine ⟨fun s => if s = s0 then some l.b else pin s, fun s a ee => ?_, by simp, (if_neg (by omega)).trans k2⟩
  by_cases hss : s = s0
  · subst hss
    simp at ee
    subst ee
    exact ⟨hs, h4, fun _ => ⟨l, hl, (if_neg (by omega)).trans k2, rfl⟩⟩
  · simp only [hss, if_false] at ee
    obtain ⟨j1, j2, j3⟩ := k1 s a ee
    refine ⟨j1, j2, fun h => ?_⟩
    obtain ⟨l', hl', e3, e4⟩ := j3 h
    refine ⟨l', hl', ?_, e4⟩
    have hsq : ¬ Z9 f (par f (Zr f s0)) < s := fun h => by rw [k3 s h] at ee; cases ee
    have := (hx.gf.pos_par j1 h).1
    exact (if_neg (by omega)).trans e3
end Go.Proofs.YtcaeoebphfjfiaaGreat.Am


/- Just those nodes and links are left that are in some row, and the rows are what they were. -/
namespace Go.Proofs.YtcaeoebphfjfiaaGreat.Am
open Go Go.RowKit
set_option maxRecDepth 100000
set_option linter.unusedVariables false
set_option linter.unusedSimpArgs false

theorem findI_link {xs : List Link} {a b : Int} (h : 0 ≤ Vf xs a b) : ∃ m : Nat, Vf xs a b = m ∧ ∃ hm : m < xs.length, xs[m].a = a ∧ xs[m].b = b := by
  unfold Vf at *
  cases hf : xs.findIdx? (isAt a b) with
  | none => rw [hf] at h; simp at h
  | some i =>
    obtain ⟨hi, h1, _⟩ := List.findIdx?_eq_some_iff_getElem.1 hf
    unfold isAt at h1
    rw [Bool.and_eq_true, decide_eq_true_eq, decide_eq_true_eq] at h1
    exact ⟨i, rfl, hi, h1⟩
theorem goodL_ne {xs : List Link} (h : GoodL xs) : xs.Pairwise fun x y => x.a ≠ y.a ∨ x.b ≠ y.b :=
  (Ui.1 h).2.imp fun {x y} h => by
    simp only [Vl, Bool.or_eq_true, Bool.and_eq_true, decide_eq_true_eq] at h
    omega
theorem pairwise_uniq {α : Type} {R : α → α → Prop} (sy : ∀ x y, R x y → R y x) {xs : List α} (h : xs.Pairwise R) {x y : α} (hx : x ∈ xs) (hy : y ∈ xs) (hne : ¬ R x y) : x = y := by
  obtain ⟨i, hi, rfl⟩ := List.getElem_of_mem hx
  obtain ⟨j, hj, rfl⟩ := List.getElem_of_mem hy
  rw [List.pairwise_iff_getElem] at h
  rcases Nat.lt_trichotomy i j with h1 | h1 | h1
  · exact absurd (h i j hi hj h1) hne
  · subst h1; rfl
  · exact absurd (sy _ _ (h j i hj hi h1)) hne
theorem goodL_uniq {xs : List Link} (h : GoodL xs) {x y : Link} (hx : x ∈ xs) (hy : y ∈ xs) (ha : x.a = y.a) (hb : x.b = y.b) : x = y :=
  pairwise_uniq (R := fun x y => x.a ≠ y.a ∨ x.b ≠ y.b) (fun x y h => h.elim (fun h => .inl (Ne.symm h)) (fun h => .inr (Ne.symm h))) (goodL_ne h) hx hy (by rw [ha, hb]; simp)
theorem goodL_nodup {xs : List Link} (h : GoodL xs) : xs.Nodup := (goodL_ne h).imp fun {x y} h e => by subst e; simp at h
theorem sublist_filter {α : Type} {xs ys : List α} {q : α → Bool} (h : xs.Sublist ys) : ys.Nodup → (∀ y ∈ ys, q y = true ↔ y ∈ xs) → xs = ys.filter q := by
  induction h with
  | slnil => intro _ _; rfl
  | @cons xs ys a hs ih =>
    intro hn hq
    obtain ⟨h1, h2⟩ := List.nodup_cons.1 hn
    have hqa : ¬ q a = true := fun h => h1 (hs.subset ((hq a (by simp)).1 h))
    rw [List.filter_cons_of_neg hqa]
    exact ih h2 fun y hy => hq y (by simp [hy])
  | @cons_cons xs ys a hs ih =>
    intro hn hq
    obtain ⟨h1, h2⟩ := List.nodup_cons.1 hn
    rw [List.filter_cons_of_pos ((hq a (by simp)).2 (by simp)), ← ih h2 fun y hy => ?_]
    rw [hq y (by simp [hy])]
    constructor
    · intro h
      rcases List.mem_cons.1 h with h | h
      · exact absurd (h ▸ hy) h1
      · exact h
    · intro h; simp [h]
theorem nd_uniq {f : Forest} {p : Parts} (h : GoodP f p) {v : Nat} (hv : v < f.vars.length) {x y : Link} (hx : x ∈ nd p v) (hy : y ∈ nd p v) (ha : x.a = y.a) : x = y :=
  goodL_uniq (h.ok v hv).1 hx hy ha (by rw [← h.nb v x hx, ← h.nb v y hy, ha])
theorem lk_uniq {f : Forest} {p : Parts} (h : GoodP f p) {v : Nat} (hv : v < f.vars.length) {x y : Link} (hx : x ∈ lk p v) (hy : y ∈ lk p v) (ha : x.a = y.a) (hb : x.b = y.b) : x = y := goodL_uniq (h.ok v hv).2.1 hx hy ha hb
theorem fit_of {f : Forest} {p : Parts} (h : GoodP f p) (hr : ¬ f.order.any (Z3 f (Uc f p)) = true) : Fit f (Uc f p) := by
  obtain ⟨k1, k2, k3, k4⟩ := Vx h
  refine ⟨h.gf, k3, fun v hv hp he => hr (List.any_eq_true.2 ⟨v, h.gf.in_order hv, ?_⟩)⟩
  unfold Z3
  rw [Int.toNat_natCast, Bool.and_eq_true, decide_eq_true_eq, decide_eq_true_eq]
  exact ⟨hp, by rw [show (Uc f p).nodes.getD v [] = [] from he]; rfl⟩
theorem rows_mem {f : Forest} {p : Parts} (hg : GoodF f) {ns : List Int} (h : Sat f p f.vars.length ns) : ∃ r ∈ Yu f p, r.nodes = ns := by
  unfold Yu
  rw [hg.l1]
  exact sat_rows hg _ (Nat.le_refl _) ns h
theorem mem_rows {f : Forest} {p : Parts} (hg : GoodF f) {r : RowT} (h : r ∈ Yu f p) : Sat f p f.vars.length r.nodes := by
  unfold Yu at h
  rw [hg.l1] at h
  exact rows_sat hg _ (Nat.le_refl _) r h
theorem node_in {f : Forest} {p : Parts} (h : GoodP f p) {v : Nat} (hv : v < f.vars.length) {y : Link} (hy : y ∈ nd p v) : (∃ r ∈ Yu f p, r.nodes.getD (Z9 f v) 0 = y.a) ↔ y ∈ nd (Uc f p) v := by
  obtain ⟨k1, k2, k3, k4⟩ := Vx h
  obtain ⟨q1, q2⟩ := h.gf.vAt_pos hv
  constructor
  · intro ⟨r, hr, e⟩
    have h1 := ((sat_ofP h (mem_rows h.gf hr)).2 _ q1).1
    rw [q2, e] at h1
    obtain ⟨z, hz, e2⟩ := List.mem_map.1 h1
    rw [nd_uniq h hv hy ((k2 v).1.subset hz) e2.symm]
    exact hz
  · intro hx
    have hr : ¬ f.order.any (Z3 f (Uc f p)) = true := fun hr => by
      rw [k4 hr, nd_empties] at hx; simp at hx
    have hF := fit_of h hr
    obtain ⟨pin, j1, j2, _⟩ := pin_node hF (Z9 f v) q1 y.a (by rw [q2]; exact List.mem_map.2 ⟨y, hx, rfl⟩)
    obtain ⟨ns, j4, j5⟩ := pinned_row hF j1 _ (Nat.le_refl _)
    obtain ⟨r, hr1, hr2⟩ := rows_mem h.gf (j4.sub k2)
    exact ⟨r, hr1, by rw [hr2]; exact j5 _ _ q1 j2⟩
theorem link_in {f : Forest} {p : Parts} (h : GoodP f p) {v : Nat} (hv : v < f.vars.length) {l : Link} (hl : l ∈ lk p v) : (∃ r ∈ Yu f p, r.nodes.getD (Z9 f v) 0 = l.b ∧ r.nodes.getD (Z9 f (par f v)) 0 = l.a) ↔ l ∈ lk (Uc f p) v := by
  obtain ⟨k1, k2, k3, k4⟩ := Vx h
  obtain ⟨q1, q2⟩ := h.gf.vAt_pos hv
  have hge : -1 ≤ par f v ∧ par f v < f.vars.length := h.gf.parent_ge hv
  have hpar : par f v ≠ -1 := fun e => by
    have h4 := (h.ok v hv).2.2.2 e
    unfold lk at hl
    rw [h4] at hl; simp at hl
  have hp0 : 0 ≤ par f v := by omega
  constructor
  · intro ⟨r, hr, e1, e2⟩
    have h1 := ((sat_ofP h (mem_rows h.gf hr)).2 _ q1).2
    rw [q2, e1, e2] at h1
    obtain ⟨z, hz, e3, e4⟩ := h1 hp0
    rw [lk_uniq h hv hl ((k2 v).2.subset hz) e3.symm e4.symm]
    exact hz
  · intro hx
    have hr : ¬ f.order.any (Z3 f (Uc f p)) = true := fun hr => by
      rw [k4 hr, lk_empties] at hx; simp at hx
    have hF := fit_of h hr
    obtain ⟨pin, j1, j2, j3⟩ := pin_link hF q1 (by rw [q2]; exact hpar) (l := l) (by rw [q2]; exact hx)
    rw [q2] at j3
    obtain ⟨ns, j4, j5⟩ := pinned_row hF j1 _ (Nat.le_refl _)
    obtain ⟨r, hr1, hr2⟩ := rows_mem h.gf (j4.sub k2)
    have hq := (h.gf.pos_par q1 (by rw [q2]; exact hp0)).1
    rw [q2] at hq
    exact ⟨r, hr1, by rw [hr2]; exact j5 _ _ q1 j2, by rw [hr2]; exact j5 _ _ (by omega) j3⟩
theorem flatMap_sub {α β : Type} {g k : α → List β} {xs ys : List α} (h : xs.Sublist ys) : (∀ a ∈ xs, (g a).Sublist (k a)) → (xs.flatMap g).Sublist (ys.flatMap k) := by
  induction h with
  | slnil => intro _; simp
  | @cons xs ys a hs ih =>
    intro hg
    rw [List.flatMap_cons]
    exact (ih hg).trans (List.sublist_append_right _ _)
  | @cons_cons xs ys a hs ih =>
    intro hg
    rw [List.flatMap_cons, List.flatMap_cons]
    exact (hg a (by simp)).append (ih fun b hb => hg b (by simp [hb]))
theorem filterMap_sub {α β : Type} {g k : α → Option β} {xs ys : List α} (h : xs.Sublist ys) : (∀ a ∈ xs, ∀ b, g a = some b → k a = some b) → (xs.filterMap g).Sublist (ys.filterMap k) := by
  induction h with
  | slnil => intro _; simp
  | @cons xs ys a hs ih =>
    intro hg
    rw [List.filterMap_cons]
    split
    · exact ih hg
    · exact (ih hg).trans (List.sublist_cons_self _ _)
  | @cons_cons xs ys a hs ih =>
    intro hg
    have ih' := ih fun b hb => hg b (by simp [hb])
    rw [List.filterMap_cons]
    split
    · rw [List.filterMap_cons]
      split
      · exact ih'
      · exact ih'.trans (List.sublist_cons_self _ _)
    · rename_i b hb
      rw [List.filterMap_cons, hg a (by simp) b hb]
      exact ih'.cons_cons _
theorem rowOne_sub {f : Forest} {p x : Parts} (h : GoodP f p) (hs : Sub x p) {v : Nat} (hv : v < f.vars.length) {r : RowT} {y : Link} {r' : RowT} (h1 : Zw f x v r y = some r') : Zw f p v r y = some r' := by
  unfold Zw at *
  by_cases hp : 0 ≤ par f v
  · rw [if_pos hp] at h1 ⊢
    by_cases hx : 0 ≤ Vm f x v r y
    · rw [if_pos hx] at h1
      obtain ⟨m, e1, hm, e2, e3⟩ := findI_link hx
      have hpx : 0 ≤ Vm f p v r y := findI_ge.2 ⟨_, (hs v).2.subset (List.getElem_mem hm), e2, e3⟩
      obtain ⟨m', e1', hm', e2', e3'⟩ := findI_link hpx
      rw [if_pos hpx]
      have e : (lk x v)[m] = (lk p v)[m'] := lk_uniq h hv ((hs v).2.subset (List.getElem_mem hm)) (List.getElem_mem hm') (by rw [e2, e2']) (by rw [e3, e3'])
      have g1 : (lk x v).getD (Vm f x v r y).toNat V6 = (lk x v)[m] := by rw [show Vm f x v r y = (m : Int) from e1, Int.toNat_natCast, List.getD_eq_getElem?_getD, List.getElem?_eq_getElem hm]; rfl
      have g2 : (lk p v).getD (Vm f p v r y).toNat V6 = (lk p v)[m'] := by rw [show Vm f p v r y = (m' : Int) from e1', Int.toNat_natCast, List.getD_eq_getElem?_getD, List.getElem?_eq_getElem hm']; rfl
      rw [g1, e] at h1
      rw [g2]
      exact h1
    · rw [if_neg hx] at h1; cases h1
  · rw [if_neg hp] at h1 ⊢; exact h1
theorem rows_sub {f : Forest} {p x : Parts} (h : GoodP f p) (hs : Sub x p) : ∀ i, i ≤ f.vars.length → (Zq f x i).Sublist (Zq f p i)
  | 0, _ => List.Sublist.refl _
  | i + 1, hi => flatMap_sub (rows_sub h hs i (by omega)) fun r _ => filterMap_sub (hs _).1 fun y _ b hb => rowOne_sub h hs (h.gf.vAt_lt (by omega)).1 hb
theorem Un {f : Forest} {p : Parts} {v : Nat} {r r' : RowT} {x : Link} (h : Zw f p v r x = some r') : r'.nodes = r.nodes ++ [x.a] := by
  unfold Zw at h
  split at h
  · split at h
    · injection h with h; subst h; rfl
    · cases h
  · injection h with h; subst h; rfl
theorem rows_ne {f : Forest} {p : Parts} (h : GoodP f p) : ∀ i, i ≤ f.vars.length → (Zq f p i).Pairwise fun r s => r.nodes ≠ s.nodes
  | 0, _ => by simp [Zq]
  | i + 1, hi => by
    show ((Zq f p i).flatMap _).Pairwise _
    rw [List.pairwise_flatMap]
    refine ⟨fun r hr => ?_, (rows_ne h i (by omega)).imp_of_mem fun {a b} ha hb hne x hx y hy e => ?_⟩
    · rw [List.pairwise_filterMap]
      refine (goodL_ne (h.ok _ (h.gf.vAt_lt (s := i) (by omega)).1).1).imp_of_mem fun {x y} hx hy hne b hb b' hb' e => ?_
      rw [Un hb, Un hb'] at e
      have e2 : x.a = y.a := by have := (List.append_inj' e rfl).2; simpa using this
      have n1 := h.nb _ x hx
      have n2 := h.nb _ y hy
      rcases hne with hne | hne
      · exact hne e2
      · exact hne (by rw [← n1, ← n2]; exact e2)
    · obtain ⟨_, _, h1⟩ := List.mem_filterMap.1 hx
      obtain ⟨_, _, h2⟩ := List.mem_filterMap.1 hy
      rw [Un h1, Un h2] at e
      exact hne (List.append_inj' e rfl).1
theorem rows_same {f : Forest} {p : Parts} (h : GoodP f p) : Yu f (Uc f p) = Yu f p := by
  obtain ⟨k1, k2, k3, k4⟩ := Vx h
  have hsub : (Yu f (Uc f p)).Sublist (Yu f p) := by unfold Yu; exact rows_sub h k2 _ (by rw [h.gf.l1]; exact Nat.le_refl _)
  have hne : (Yu f p).Pairwise fun r s => r.nodes ≠ s.nodes := by unfold Yu; exact rows_ne h _ (by rw [h.gf.l1]; exact Nat.le_refl _)
  have := sublist_filter (q := fun _ => true) hsub (hne.imp fun {a b} h e => h (by rw [e])) fun r hr => ⟨fun _ => ?_, fun _ => rfl⟩
  · rw [this]; simp
  · obtain ⟨r', hr', e⟩ := rows_mem h.gf (sat_ofP h (mem_rows h.gf hr))
    have : r = r' := pairwise_uniq (fun _ _ h => Ne.symm h) hne hr (hsub.subset hr') (by rw [e]; simp)
    rw [this]; exact hr'
end Go.Proofs.YtcaeoebphfjfiaaGreat.Am


/- What the document calls reduced is what is left. -/
namespace Go.Proofs.YtcaeoebphfjfiaaGreat.Am
open Go Go.RowKit
set_option maxRecDepth 100000
set_option linter.unusedVariables false
set_option linter.unusedSimpArgs false

theorem refOf_eq {f : Forest} {p : Parts} (h : GoodP f p) : refOf f p = Uc f p := by
  obtain ⟨k1, k2, k3, k4⟩ := Vx h
  obtain ⟨l1, l2⟩ := ofTo_len f p (Yu f p) f.vars.length
  have hget : ∀ (g : Nat → List Link) v, v < f.vars.length → ((List.range f.vars.length).map g).getD v [] = g v := fun g v hv => by
    rw [List.getD_eq_getElem?_getD, List.getElem?_map, List.getElem?_range hv]; rfl
  refine parts_ext l1 l2 k1.1 k1.2 (fun v hv => ?_) (fun v hv => ?_)
  · show ((List.range f.vars.length).map (Zy f p (Yu f p))).getD v [] = _
    rw [hget _ v hv]
    refine (sublist_filter (k2 v).1 (goodL_nodup (h.ok v hv).1) fun y hy => ?_).symm
    rw [← node_in h hv hy]
    unfold nodeIn
    rw [List.any_eq_true]
    exact ⟨fun ⟨r, hr, e⟩ => ⟨r, hr, of_decide_eq_true e⟩, fun ⟨r, hr, e⟩ => ⟨r, hr, decide_eq_true e⟩⟩
  · show ((List.range f.vars.length).map (Ud f p (Yu f p))).getD v [] = _
    rw [hget _ v hv]
    refine (sublist_filter (k2 v).2 (goodL_nodup (h.ok v hv).2.1) fun y hy => ?_).symm
    rw [← link_in h hv hy]
    unfold Uq
    rw [List.any_eq_true]
    constructor
    · intro ⟨r, hr, e⟩
      rw [Bool.and_eq_true, decide_eq_true_eq, decide_eq_true_eq] at e
      exact ⟨r, hr, e⟩
    · intro ⟨r, hr, e⟩
      exact ⟨r, hr, by rw [Bool.and_eq_true, decide_eq_true_eq, decide_eq_true_eq]; exact e⟩
end Go.Proofs.YtcaeoebphfjfiaaGreat.Am
