/- Texts that the proof rests on, part 7: lemmas for every heap that is related to a world, no condition beyond each lemma's own. -/
import Derived.Test.YtcaeoebphfjfiaaGreatEb6
import Derived.Test.YtcaeoebphfjfiaaGreatEb1
import Derived.Test.YtcaeoebphfjfiaaGreatEbRow

/- The statement EachBehind, as the abstract machine runs it. -/
namespace Go.Proofs.YtcaeoebphfjfiaaGreat.Am
open Go Go.RowKit
set_option maxRecDepth 100000
set_option linter.unusedVariables false
set_option linter.unusedSimpArgs false

theorem walk_nil {G : Hp} {wb : Nat} {tv : Value} (h : Zv G G wb tv w0) {H' : Hp} (hle : G.le H') : Zv H' H' wb tv w0 := by
  obtain ⟨B, c, hwb, gw, hown⟩ := h
  rcases hown with ⟨e, _, _⟩ | ⟨b, cs, c', e, h1, h2, h3, _⟩
  · have gw' := Xt hle hwb (by intro e; cases e) gw
    rw [e] at gw'
    exact ⟨none, 0, Nat.lt_of_lt_of_le hwb hle.1, gw', OwnP.nil _ _⟩
  · have h4 := congrArg (fun X => X.get b) h3
    simp only [Hp.put_same] at h4
    rw [h2] at h4; cases h4
theorem rowT_nodes {T : TreeT} {ns : List Int} {r : RowT} (h : Vs T ns = some r) : r.nodes = ns ∧ ns.length = T.vars.length := by
  unfold Vs at h
  split at h
  · rename_i hl
    cases hc : Z4 T ns T.vars.length with
    | none => rw [hc] at h; cases h
    | some cn => rw [hc] at h; injection h with h; subst h; exact ⟨rfl, hl⟩
  · cases h
theorem ext_path {T : TreeT} (hT : GoodT T) : ∀ (d : Nat) (p : List Int), Path T p → p.length + d = T.vars.length → ∀ x ∈ Vz T d p, Path T x
  | 0, p, hp, _, x, hx => by rw [List.mem_singleton.1 hx]; exact hp
  | d + 1, p, hp, hd, x, hx => by
    obtain ⟨l, h1, h2⟩ := List.mem_flatMap.1 hx
    exact ext_path hT d (p ++ [l.b]) (Ud hT hp (by omega) h1) (by simp; omega) x h2
theorem beh_next {T : TreeT} (hT : GoodT T) (hA : Alive T) {ns : List Int} (hl : ns.length = T.vars.length) (hp : Path T ns) : TellsH T (Zy T ⟨ns, true, false, 0⟩).2 (behN T ns) := by
  have hb : behN T ns = Uk T ns ns.length := by
    rcases Nat.eq_zero_or_pos ns.length with h0 | h0
    · obtain rfl : ns = [] := List.eq_nil_of_length_eq_zero h0
      unfold behN
      rw [← hl]; rfl
    · obtain ⟨k, hk⟩ : ∃ k, ns.length = k + 1 := ⟨ns.length - 1, by omega⟩
      rw [beh_is hT hl (g := k) (by omega) (path_take hT hp (by omega)) (.inl hk.symm), hk]
  have ht := (next_tells hT hA _ ⟨ns, true, false, 0⟩ ⟨by show ns.length ≤ _; omega, hp⟩ (Nat.le_refl _)).2.1
  have hr : Zt T ⟨ns, true, false, 0⟩ = Uk T ns ns.length := rfl
  rw [hb, ← hr]
  cases hn : (Zy T ⟨ns, true, false, 0⟩).2 with
  | none => rw [hn] at ht; exact ⟨by rw [ht.1]; rfl, fun r h => (by cases h)⟩
  | some r =>
    rw [hn] at ht
    have h1 : _ = r.nodes :: _ ∧ _ := ht
    exact ⟨by rw [h1.1]; rfl, fun r' e => by injection e with e; subst e; exact h1.2⟩
theorem first_row {T : TreeT} (hT : GoodT T) (hA : Alive T) {rows : List RowT} (hrest0 : Zt T w0 = rows.map RowT.nodes) (hrr : ∀ r ∈ rows, Vs T r.nodes = some r) : (Zy T w0).2 = rows[0]? := by
  have h0 := (next_tells hT hA _ w0 (val_w0 T) (Nat.le_refl _)).2.1
  cases hn : (Zy T w0).2 with
  | none =>
    rw [hn] at h0
    have h1 : Zt T w0 = [] := h0.1
    rw [hrest0] at h1
    have : rows = [] := by simpa using h1
    rw [this]; rfl
  | some r =>
    rw [hn] at h0
    have h1 : Zt T w0 = r.nodes :: _ ∧ _ := h0
    rw [hrest0] at h1
    cases hrw : rows with
    | nil => rw [hrw] at h1; exact absurd h1.1 (by simp)
    | cons a l =>
      have h2 := h1.1
      rw [hrw, List.map_cons, List.cons.injEq] at h2
      have ha : a ∈ rows := by rw [hrw]; simp
      rw [rows_eq h2.1.symm h1.2 (hrr a ha)]; rfl
set_option maxHeartbeats 8000000 in
theorem EachBehind_ok (f : Forest) (p : Parts) (ns : List Int) (cs ds : List Value) (vn : Value) (H : Hp) (hp : kForest.rep H f cs) (hq : kParts.rep H p ds) (hn : Sl (Y1 .i64) H vn ns) (hbf : BigF f) (hbp : BigP p) (hbn : ns.length ≤ 9223372036854775807) :
    ACalls Tryz.prog 6 #[.agg cs.toArray, .agg ds.toArray, vn] H (fun r H' => r = .bool true ∧ H.le H') := by
  have hp0 := hp
  have hq0 := hq
  obtain ⟨v0, v1, v2, v3, v4, rfl, hs0, hs1, hs2, hs3, hs4⟩ := hp
  obtain ⟨A0, c0, rfl⟩ := hs0.shape
  obtain ⟨A1, c1, rfl⟩ := hs1.shape
  obtain ⟨A2, c2, rfl⟩ := hs2.shape
  obtain ⟨A3, c3, rfl⟩ := hs3.shape
  obtain ⟨A4, c4, rfl⟩ := hs4.shape
  obtain ⟨u0, u1, rfl, hn0, hn1⟩ := hq
  obtain ⟨B0, d0, rfl⟩ := hn0.shape
  obtain ⟨B1, d1, rfl⟩ := hn1.shape
  obtain ⟨An, cn, rfl⟩ := hn.shape
  have hsm := small_few f p
  have hbq := bigP_few p
  have hbg := bigF_few f
  have hpp := few4_few4 p
  have hff := ffew_ffew f
  have htn : GoodP f.few p.few4 → f.few.vars.length < 6 → Tiny f.few p.few4 := tiny_few
  have hch : GoodP f.few p.few4 → Cheap p.few4 := cheap_few
  have hvar := few_vars f
  obtain ⟨F, hF⟩ : ∃ F, F = f.few := ⟨_, rfl⟩
  obtain ⟨Q, hQ⟩ : ∃ Q, Q = p.few4 := ⟨_, rfl⟩
  obtain ⟨N, hN⟩ : ∃ N, N = ns.take 6 := ⟨_, rfl⟩
  have hNl : N.length ≤ 6 := by rw [hN, List.length_take]; omega
  have hNN : N.take 6 = N := List.take_of_length_le hNl
  rw [← hF, ← hQ] at hsm htn hch
  rw [← hQ] at hpp hbq
  rw [← hF] at hff hbg hvar
  refine Xv Tryz.func6 rfl rfl rfl (by simp) ?_
  refine Xe ?_
  refine Xb (by kernel_rfl) ?_
  refine X3 (Yv rfl) ?_
  refine X3 (Yv rfl) ?_
  refine Xa (Xo rfl) ?_
  refine Xe ?_
  refine Ys (by kernel_rfl) (Yy (B := [0, 1, 0, 7, 0, 31, 63, 127, 255]) (π := [0, 2, 4, 1, 3, 5, 6, 7, 8]) (by kernel_rfl)) ?_
  refine Xd rfl rfl (Yk (cs := [.slice _ _ _, .slice _ _ _, .slice _ _ _, .slice _ _ _, .slice _ _ _]) rfl Tryz.underlying26 rfl inf26.size X8) Xp ?_
  refine Xd rfl rfl (Yk (cs := [.slice _ _ _, .slice _ _ _]) rfl Tryz.underlying29 rfl inf29.size X8) Xp ?_
  refine Xd rfl rfl (Xx rfl) Xp ?_
  refine Yi rfl rfl (X1 (Forest_28 f _ _ (kForest.mono Zk hp0) hbf) rfl Tryz.func7 rfl rfl rfl ?_)
  rintro v5 H5 ⟨hle5, es, rfl, hes⟩; rw [← hF] at hes; have hf5 := hes; obtain ⟨a0, a1, a2, a3, a4, rfl, ht0, ht1, ht2, ht3, ht4⟩ := hes; obtain ⟨C0, k0, rfl⟩ := ht0.shape; obtain ⟨C1, k1, rfl⟩ := ht1.shape; obtain ⟨C2, k2, rfl⟩ := ht2.shape; obtain ⟨C3, k3, rfl⟩ := ht3.shape; obtain ⟨C4, k4, rfl⟩ := ht4.shape; have hz5 := hle5.1; simp only [Hp.push_size] at hz5
  refine ⟨Ye, ?_⟩
  refine Yi rfl rfl (X1 (Few4_parts p _ _ (kParts.mono Zk hq0) hbp.l0 hbp.l1 hbp.s0 hbp.s1) rfl Tryz.func8 rfl rfl rfl ?_)
  rintro v6 H6 ⟨hle6, es, rfl, hes⟩; rw [← hQ] at hes; have hq6 := hes; obtain ⟨b0, b1, rfl, hm0, hm1⟩ := hes; obtain ⟨D0, m0, rfl⟩ := hm0.shape; obtain ⟨D1, m1, rfl⟩ := hm1.shape; have hz6 := hle6.1; have hf6 := kForest.mono hle6.sees hf5
  refine ⟨Ye, ?_⟩
  refine Yi rfl rfl (X1 (V2 ns _ 6 _ (hn.mono Zk) hbn (by omega) (by omega)) rfl Tryz.func22 rfl rfl rfl ?_)
  rintro v7 H7 ⟨hle7, hs7⟩; change Sl (Y1 .i64) H7 v7 (ns.take 6) at hs7; rw [← hN] at hs7; obtain ⟨E0, n0, rfl⟩ := hs7.shape; have hz7 := hle7.1; have hf7 := kForest.mono hle7.sees hf6; have hq7 := kParts.mono hle7.sees hq6; have h70 : H7.get H.size = .own 0 [.slice A0 f.vars.length c0, .slice A1 f.order.length c1, .slice A2 f.parent.length c2, .slice A3 f.links.length c3, .slice A4 f.loops.length c4] := Xt (Hp.le_trans hle5 (Hp.le_trans hle6 hle7)) (by simp <;> omega) (by intro e; cases e) Yc; have h71 : H7.get (H.size + 1) = .own 0 [.slice B0 p.nodes.length d0, .slice B1 p.links.length d1] := Xt (Hp.le_trans hle5 (Hp.le_trans hle6 hle7)) (by simp <;> omega) (by intro e; cases e) Yc
  refine ⟨Ye, ?_⟩
  refine Yi rfl rfl (Yj (vs := [.slice _ _ _, .slice _ _ _, .slice _ _ _, .slice _ _ _, .slice _ _ _]) rfl rfl inf26.size Yc Yh rfl rfl ?_)
  refine ⟨Ye, ?_⟩
  refine Yi rfl rfl (Yj (vs := [.slice _ _ _, .slice _ _ _]) rfl rfl inf29.size Yc Yh rfl rfl ?_)
  refine ⟨Ye, ?_⟩
  refine Xd rfl rfl (Ya rfl) Xp ?_
  refine Xe ?_
  obtain ⟨HA, hHA⟩ : ∃ HA, HA = (H7.put H.size (.own 0 [.slice C0 F.vars.length k0, .slice C1 F.order.length k1, .slice C2 F.parent.length k2, .slice C3 F.links.length k3, .slice C4 F.loops.length k4])).put (H.size + 1) (.own 0 [.slice D0 Q.nodes.length m0, .slice D1 Q.links.length m1]) := ⟨_, rfl⟩
  have g5 : H7.sees (H7.put H.size (.own 0 [.slice C0 F.vars.length k0, .slice C1 F.order.length k1, .slice C2 F.parent.length k2, .slice C3 F.links.length k3, .slice C4 F.loops.length k4])) := Hp.sees_box _ h70
  have g6 : (H7.put H.size (.own 0 [.slice C0 F.vars.length k0, .slice C1 F.order.length k1, .slice C2 F.parent.length k2, .slice C3 F.links.length k3, .slice C4 F.loops.length k4])).sees HA := by rw [hHA]; exact Hp.sees_box _ (by rw [Hp.put_other _ _ (by omega)]; exact h71)
  have fA := kForest.mono (g5.trans g6) hf7
  have qA := kParts.mono (g5.trans g6) hq7
  have nA := hs7.mono (g5.trans g6)
  have leA : H.le HA := by rw [hHA]; exact Hp.le_put_new (Hp.le_put_new (Hp.le_trans (Hp.le_trans (Hp.le_push' (H.le_push _) _) hle5) (Hp.le_trans hle6 hle7)) (by omega) _) (by omega) _
  have zA : H.size + 2 ≤ HA.size := by rw [hHA]; simp; omega
  have A0' : HA.get H.size = .own 0 [.slice C0 F.vars.length k0, .slice C1 F.order.length k1, .slice C2 F.parent.length k2, .slice C3 F.links.length k3, .slice C4 F.loops.length k4] := by rw [hHA, Hp.put_other _ _ (by omega)]; exact Hp.put_same _ _ _
  have A1' : HA.get (H.size + 1) = .own 0 [.slice D0 Q.nodes.length m0, .slice D1 Q.links.length m1] := by rw [hHA]; exact Hp.put_same _ _ _
  change ACode true _ _ _ _ _ ((H7.put H.size (.own 0 [.slice C0 F.vars.length k0, .slice C1 F.order.length k1, .slice C2 F.parent.length k2, .slice C3 F.links.length k3, .slice C4 F.loops.length k4])).put (H.size + 1) (.own 0 [.slice D0 Q.nodes.length m0, .slice D1 Q.links.length m1]))
  rw [← hHA]
  clear hHA g5 g6 h70 h71 hf7 hq7 hf6 hq6 hle5 hle6 hle7 hz5 hz6 hz7 hf5 hs7
  refine Ys (by kernel_rfl) (Yy (B := [0, 1, 0, 7, 15, 31, 63, 63, 127, 511]) (π := [0, 2, 1, 3, 4, 5, 6, 7, 8, 9]) (by kernel_rfl)) ?_
  refine Xd rfl rfl (Yk (cs := [.slice _ _ _, .slice _ _ _, .slice _ _ _, .slice _ _ _, .slice _ _ _]) rfl Tryz.underlying26 rfl inf26.size X8) Xp ?_
  refine Xd rfl rfl (Yk (cs := [.slice _ _ _, .slice _ _ _]) rfl Tryz.underlying29 rfl inf29.size X8) Xp ?_
  refine Yi rfl rfl (X1 (Forest_28 F _ _ fA hbg) rfl Tryz.func7 rfl rfl rfl ?_)
  rintro v8 H8 ⟨hle8, es, rfl, hes⟩; rw [hff] at hes; have f8 := hes; obtain ⟨a5, a6, a7, a8, a9, rfl, hu0, hu1, hu2, hu3, hu4⟩ := hes; obtain ⟨E1, l1, rfl⟩ := hu0.shape; obtain ⟨E2, l2, rfl⟩ := hu1.shape; obtain ⟨E3, l3, rfl⟩ := hu2.shape; obtain ⟨E4, l4, rfl⟩ := hu3.shape; obtain ⟨E5, l5, rfl⟩ := hu4.shape
  refine ⟨Ye, ?_⟩
  refine Yi rfl rfl (X1 (Few4_parts Q _ _ (kParts.mono hle8.sees qA) hbq.l0 hbq.l1 hbq.s0 hbq.s1) rfl Tryz.func8 rfl rfl rfl ?_)
  rintro v9 H9 ⟨hle9, es, rfl, hes⟩; rw [hpp] at hes; have q9 := hes; obtain ⟨b2, b3, rfl, hm2, hm3⟩ := hes; obtain ⟨D2, m2, rfl⟩ := hm2.shape; obtain ⟨D3, m3, rfl⟩ := hm3.shape
  refine ⟨Ye, ?_⟩
  refine Yi rfl rfl (X1 (New_tree F Q _ _ _ (kForest.mono hle9.sees f8) q9 hsm hch) rfl Tryz.func9 rfl rfl rfl ?_)
  rintro v10 HB ⟨hle10, g, tv, hg, rfl, htv⟩
  refine ⟨Ye, ?_⟩
  refine Xd rfl rfl (Zn rfl) Xp ?_
  refine Xd rfl rfl (Yn rfl rfl) Xp ?_
  refine Xd rfl rfl (Yn rfl rfl) Xp ?_
  refine Xd rfl rfl (Vf rfl) Xp ?_
  refine Xd rfl rfl (Xn rfl) Xp ?_
  refine Xe ?_
  refine Xe ?_
  have leAB := Hp.le_trans hle8 (Hp.le_trans hle9 hle10)
  have leB := Hp.le_trans leA leAB
  have zAB := leAB.1
  have fB := kForest.mono leAB.sees fA
  have qB := kParts.mono leAB.sees qA
  have nB := nA.mono leAB.sees
  have B0' := Xt leAB (by omega) (by intro e; cases e) A0'
  have B1' := Xt leAB (by omega) (by intro e; cases e) A1'
  clear hle8 hle9 hle10 f8 q9 hm2 hm3 hu0 hu1 hu2 hu3 hu4
  refine Xb (by kernel_rfl) ?_
  refine Xa (Yk (cs := [.slice _ _ _, .slice _ _ _, .slice _ _ _, .slice _ _ _, .slice _ _ _]) rfl Tryz.underlying26 rfl inf26.size X8) ?_
  refine Xa (Yk (cs := [.slice _ _ _, .slice _ _ _]) rfl Tryz.underlying29 rfl inf29.size X8) ?_
  refine X0 (X1 (few31_ok F Q _ _ _ fB qB hsm) rfl Tryz.func10 rfl rfl rfl ?_)
  rintro v13 HB ⟨⟨bf, rfl, hbf2⟩, rfl⟩
  refine Xa (Zr rfl) ?_
  refine X5 rfl rfl ?_ ?_
  intro hc1
  obtain rfl : bf = false := by simpa using hc1
  have hbad : ¬ (GoodP F Q ∧ F.vars.length < 5) := fun h => by have := hbf2.2 h; cases this
  refine Xe ?_
  refine Xb (by kernel_rfl) ?_
  refine Xa (Xc rfl) ?_
  refine Xa (Zw rfl rfl) ?_
  refine Xa (Xq rfl) ?_
  refine Yd rfl rfl rfl ?_ ?_
  intro hg2
  have hgf : True := trivial
  refine Xf (Xi rfl rfl rfl hg2 rfl) ?_
  refine Xf (Xi rfl rfl rfl hg2 rfl) ?_
  refine Xf (Xi rfl rfl rfl hg2 rfl) ?_
  refine Xf (Xi rfl rfl rfl hg2 rfl) ?_
  refine Xa (Xm (congrArg Value.bool hg2) rfl) ?_
  refine Xa (Xq rfl) ?_
  refine Zz (Xh rfl rfl rfl rfl) (X1 (Uc _) rfl Tryz.func11 rfl rfl rfl ?_)
  rintro v H' ⟨rfl, hlv⟩
  refine Xa (Xm (congrArg Value.bool rfl) rfl) ?_
  refine Xa (Xo rfl) ?_
  refine X4 ?_
  exact ⟨.bool true, Xy (Xu rfl), rfl, Hp.le_trans leB hlv⟩
  intro hg2
  have hgt : g = true := by cases g with | true => rfl | false => exact absurd hg2 (by simp)
  have hmany : ¬ F.vars.length < 5 := fun h => hbad ⟨hg.1 hgt, h⟩
  refine Xl (Xh rfl rfl rfl hg2) (Xg (off := 0) rfl Tryz.underlying26 rfl inf22.size (by decide) rfl) ?_
  refine Xl (Xh rfl rfl rfl hg2) (Xj rfl Tryz.underlying22 rfl Xr) ?_
  refine Xl (Xh rfl rfl rfl hg2) (Yo rfl Tryz.underlying22) ?_
  refine Xl (Xh rfl rfl rfl hg2) (Uh rfl rfl) ?_
  refine Xa (Xm (congrArg Value.bool hg2) rfl) ?_
  refine Xa (Xq rfl) ?_
  refine Yd rfl rfl rfl ?_ ?_
  intro hg3
  have hp3 := hg3; try simp only [decide_eq_true_eq, decide_eq_false_iff_not, Bool.not_eq_true', Bool.not_eq_false'] at hp3
  refine Zz (Xh rfl rfl rfl hg3) (X1 (Uc _) rfl Tryz.func11 rfl rfl rfl ?_)
  rintro v H' ⟨rfl, hlv⟩
  refine Xa (Xm (congrArg Value.bool hg3) rfl) ?_
  refine Xa (Xo rfl) ?_
  refine X4 ?_
  exact ⟨.bool true, Xy (Xu rfl), rfl, Hp.le_trans leB hlv⟩
  intro hg3
  (have h := of_decide_eq_false hg3; omega)
  intro hc1
  obtain rfl : bf = true := by simpa using hc1
  obtain ⟨hG, hfive⟩ := hbf2.1 rfl
  obtain rfl : g = true := hg.2 hG
  rw [if_pos rfl] at htv
  obtain ⟨tb, _, _, _, _, _, etv, _⟩ := id htv
  subst etv
  have ht := htn hG (by omega)
  obtain ⟨k1', k2', k3', k4'⟩ := ofP_all hG
  have hX := ofP_good hG
  have hsx := small_sub hsm k1' k2'
  have hT := good_tree hX hsx ((hch hG).sub k2') (by omega)
  have hA := alive_tree hG
  obtain ⟨hrm, hrr⟩ := rows_ext hG
  have hol : F.order.length = F.vars.length := hG.gf.l1
  obtain ⟨tl1, tl2, tl3⟩ := Ub (f := F) (ofP F Q)
  have hrl : (Vp F Q).length ≤ 256 := Nat.le_trans (rowsK_len ht F.order.length) (Nat.pow_le_pow_right (by omega) (by omega : F.order.length ≤ 4))
  have hrn : ∀ r ∈ Vp F Q, r.nodes.length = F.vars.length := fun r hr => by have := rows_len (f := F) (p := Q) F.order.length r hr; omega
  obtain ⟨T, hTe⟩ : ∃ T, T = Y9 F (ofP F Q) := ⟨_, rfl⟩
  rw [← hTe] at htv hT hA hrm tl1 tl2 tl3
  simp only [← hTe] at hrr
  obtain ⟨rows, hrows⟩ : ∃ rows, rows = Vp F Q := ⟨_, rfl⟩
  rw [← hrows] at hrm hrl
  simp only [← hrows] at hrr hrn
  have hvl : T.vars.length = F.vars.length := tl1.trans hol
  have hrest0 : Zt T w0 = rows.map RowT.nodes := by
    rw [hrm, ← hvl]
    show Vz T (T.vars.length - 0) [] ++ [] = _
    rw [List.append_nil, Nat.sub_zero]
  refine X7 ?_
  refine Xe ?_
  refine Xb (by kernel_rfl) ?_
  refine Xa (Yk (cs := [.slice _ _ _, .slice _ _ _, .slice _ _ _, .slice _ _ _, .slice _ _ _]) rfl Tryz.underlying26 rfl inf26.size X8) ?_
  refine Xa (Yk (cs := [.slice _ _ _, .slice _ _ _]) rfl Tryz.underlying29 rfl inf29.size X8) ?_
  refine X0 (X1 (Rows_ref F Q _ _ _ fB qB hG hsm ht) rfl Tryz.func12 rfl rfl rfl ?_)
  rintro v18 HR ⟨hleR, hrR⟩; rw [← hrows] at hrR; obtain ⟨D8, m8, rfl⟩ := hrR.shape; have zR := hleR.1; have R0' := Xt hleR (by omega) (by intro e; cases e) B0'; have trR := htv.mono hleR; have leHR := Hp.le_trans leB hleR; have nR := nB.mono hleR.sees
  refine Xa (Xw rfl) ?_
  refine X0 (X1 (New_walk tb _) rfl Tryz.func13 rfl rfl rfl ?_)
  rintro v19 HW ⟨rfl, hleW, hW⟩; have zW := hleW.1; have zW2 : HR.size < HW.size := by obtain ⟨_, _, h, _⟩ := hW; exact h
  refine Xa (Ya rfl) ?_
  refine Xa (Ze rfl) ?_
  refine Xe ?_
  refine Xe ?_
  refine Xb (by kernel_rfl) ?_
  refine Xa (Xw rfl) ?_
  refine Xa (Vb rfl t_spot rfl Tryz.underlying40) ?_
  refine X5 rfl rfl ?_ ?_
  intro hc4
  cases hc4
  intro hc4
  (try simp only [decide_eq_true_eq, decide_eq_false_iff_not, Bool.not_eq_true', Bool.not_eq_false'] at hc4)
  refine X7 ?_
  refine Xe ?_
  refine Xb (by kernel_rfl) ?_
  refine Xa (Xw rfl) ?_
  refine Xa (Xx rfl) ?_
  refine X0 (X1 (V2 N _ 6 _ (nR.mono hleW.sees) (by omega) (by omega) (by omega)) rfl Tryz.func22 rfl rfl rfl ?_)
  rintro v20 H8 ⟨hle8, hs8⟩; change Sl (Y1 .i64) H8 v20 (N.take 6) at hs8; rw [hNN] at hs8; obtain ⟨E8, n8, rfl⟩ := hs8.shape; have hle8W := Hp.le_trans hleW hle8
  refine X0 (X1 (Behind_walk hT hA (trR.mono hle8W) hs8 (by omega)) rfl Tryz.func35 rfl rfl rfl ?_)
  rintro v21 H9 ⟨hle9, o, ho1, ho2, A9, k9, rfl, sl9⟩; have leR9 := Hp.le_trans hle8W hle9; have zR9 := leR9.1; have zWR := hle8.1; have zW9 := hle9.1
  refine Xa (Zn rfl) ?_
  refine Xa (Yn rfl rfl) ?_
  refine Xa (Yn rfl rfl) ?_
  refine X3 (Yz (l := [.slice none 0 0, .int .i64 0, .int .u64 0]) inf44.zero rfl (by decide)) ?_
  refine X0 (Yj (vs := [.slice _ _ _, .int .i64 _, .int .u64 _]) rfl rfl inf44.size Yc Yh rfl rfl ?_)
  refine Xa (Xo rfl) ?_
  refine Xe ?_
  obtain ⟨HX, hHX⟩ : ∃ HX, HX = (H9.push (.own 0 [.slice none 0 0, .int .i64 0, .int .u64 0])).put H9.size (.own 0 [.slice A9 (Va o).length k9, .int .i64 (Ui o), .int .u64 (Uj o)]) := ⟨_, rfl⟩
  have le9X : H9.le HX := by rw [hHX]; exact Hp.le_put_new (H9.le_push _) (Nat.le_refl _) _
  have gX : HX.get H9.size = .own 0 [.slice A9 (Va o).length k9, .int .i64 (Ui o), .int .u64 (Uj o)] := by rw [hHX]; exact Hp.put_same _ _ _
  have zX : HX.size = H9.size + 1 := by rw [hHX]; simp
  change ACode true _ _ _ _ _ ((H9.push (.own 0 [.slice none 0 0, .int .i64 0, .int .u64 0])).put H9.size (.own 0 [.slice A9 (Va o).length k9, .int .i64 (Ui o), .int .u64 (Uj o)]))
  rw [← hHX]
  clear hHX
  have leRX := Hp.le_trans leR9 le9X
  have leWX := Hp.le_trans hle8 (Hp.le_trans hle9 le9X)
  refine Xb (by kernel_rfl) ?_
  refine Xa (Xw rfl) ?_
  refine Xa (Xx rfl) ?_
  refine X0 (X1 (V2 N _ 6 _ (nR.mono leRX.sees) (by omega) (by omega) (by omega)) rfl Tryz.func22 rfl rfl rfl ?_)
  rintro v22 H10 ⟨hle10, hs10⟩; change Sl (Y1 .i64) H10 v22 (N.take 6) at hs10; rw [hNN] at hs10; obtain ⟨E10, n10, rfl⟩ := hs10.shape; have leR10 := Hp.le_trans leRX hle10; have hW10 := walk_nil hW (Hp.le_trans leWX hle10); have z10 := hle10.1
  refine X0 (X1 (To_walk hT hW10 (trR.mono leR10) hs10 (by omega)) rfl Tryz.func36 rfl rfl rfl ?_)
  rintro v23 H11 ⟨G11, aw11, rfl, hW11⟩; obtain ⟨q, hq⟩ : ∃ q, q = Vs T N := ⟨_, rfl⟩; obtain ⟨S5, hS5⟩ : ∃ S5, S5 = toS T w0 N := ⟨_, rfl⟩; rw [← hS5] at hW11; rw [← hq]
  refine Xa (Xo rfl) ?_
  refine Xe ?_
  refine Xe ?_
  obtain ⟨B11, c11, hwb11, gw11, hown11⟩ := id hW11
  obtain ⟨B10, c10, hwb10, gw10, _⟩ := id hW10
  have g10 := Xt hle10 (by omega) (by intro e; cases e) gX
  have g11 := aw11.keep (by omega) (by omega) (by intro e; cases e) g10
  have z11 := aw11.size
  have zz11 := hown11.size
  have h11 := Xt hown11.le (by omega) (by intro e; cases e) g11
  have leRG := aw11.base leR10 (Nat.le_refl _)
  have leR11 := Hp.le_trans leRG hown11.le
  have slG := ((sl9.mono le9X.sees).mono hle10.sees).mono (aw11.sees gw10)
  have sl11 := slG.mono hown11.le.sees
  have rr11 := hrR.mono leR11.sees
  have nn11 := nR.mono leR11.sees
  have f11 := Xt leR11 (by omega) (by intro e; cases e) R0'
  have leH11 := Hp.le_trans leHR leR11
  have hacc := acc_all hG (ns := N)
  rw [← hTe, ← hrows] at hacc
  have hfr : q.isSome = decide (0 ≤ Vj rows N) := by
    rw [hq]
    unfold Vs
    rw [hvl]
    by_cases hN2 : N.length = F.vars.length
    · rw [if_pos hN2] at hacc ⊢
      rw [hacc]
      by_cases h0 : 0 ≤ Vj rows N
      · rw [if_pos h0, decide_eq_true h0]; rfl
      · rw [if_neg h0, decide_eq_false h0]; rfl
    · rw [if_neg hN2] at hacc ⊢
      by_cases h0 : 0 ≤ Vj rows N
      · rw [if_pos h0] at hacc; cases hacc
      · rw [decide_eq_false h0]; rfl
  have hqp : q.isSome = true → Path T N := fun h => by
    rw [hfr] at h
    have h0 := of_decide_eq_true h
    rcases findRow_cases rows N with ⟨h1, _⟩ | ⟨i, _, hi, h2⟩
    · rw [h1] at h0; exact absurd h0 (by decide)
    · rw [← h2]
      refine ext_path hT T.vars.length [] (fun i h => absurd h (Nat.not_lt_zero _)) (by simp) _ ?_
      rw [hvl, ← hrm]
      exact List.mem_map.2 ⟨_, List.getElem_mem hi, rfl⟩
  clear hacc
  refine Xb (by kernel_rfl) ?_
  refine Xa (Xq rfl) ?_
  refine Xa (Xx rfl) ?_
  refine Xa (Xx rfl) ?_
  refine X0 (X1 (FindR_ref rows N _ _ _ rr11 nn11 (by omega) (by omega)) rfl Tryz.func33 rfl rfl rfl ?_)
  rintro v24 H11 ⟨rfl, rfl⟩
  refine Xa (av_ge rfl rfl) ?_
  refine Xa (av_bne rfl rfl Tryz.underlying4) ?_
  refine X5 rfl rfl ?_ ?_
  intro hc5
  (have h := hc5; rw [hfr] at h; simp at h)
  intro hc5
  (try simp only [decide_eq_true_eq, decide_eq_false_iff_not, Bool.not_eq_true', Bool.not_eq_false'] at hc5)
  refine X7 ?_
  refine Xe ?_
  refine Xe ?_
  refine Xb (by kernel_rfl) ?_
  refine Xa (Xx rfl) ?_
  refine Xa (Yo rfl Tryz.underlying23) ?_
  refine Xa (Xg (off := 0) rfl Tryz.underlying26 rfl inf22.size (by decide) rfl) ?_
  refine Xa (Xj rfl Tryz.underlying22 rfl Xr) ?_
  refine Xa (Yo rfl Tryz.underlying22) ?_
  refine Xa (Zw rfl rfl) ?_
  refine X5 rfl rfl ?_ ?_
  intro hc6
  have hne : N.length ≠ F.vars.length := by have := of_decide_eq_true hc6; omega
  have hon : o = none := ho2 (by omega)
  subst hon
  refine Xe ?_
  refine Xb (by kernel_rfl) ?_
  refine Xa (Xq rfl) ?_
  refine Xa (Zr rfl) ?_
  refine Xa (Xq rfl) ?_
  refine Yd rfl rfl rfl ?_ ?_
  intro hg7
  have hp7 := hg7; try simp only [decide_eq_true_eq, decide_eq_false_iff_not, Bool.not_eq_true', Bool.not_eq_false'] at hp7
  refine Xl (Xh rfl rfl rfl hg7) (Xg (off := 0) rfl Tryz.underlying44 rfl inf23.size (by decide) rfl) ?_
  refine Xl (Xh rfl rfl rfl hg7) (Xj rfl Tryz.underlying23 rfl Xr) ?_
  refine Xl (Xh rfl rfl rfl hg7) (Yo rfl Tryz.underlying23) ?_
  refine Xl (Xh rfl rfl rfl hg7) (Z3 rfl rfl) ?_
  refine Xa (Xm (congrArg Value.bool hg7) rfl) ?_
  refine Xa (Xq rfl) ?_
  refine Yd rfl rfl rfl ?_ ?_
  intro hg8
  have hp8 := hg8; try simp only [decide_eq_true_eq, decide_eq_false_iff_not, Bool.not_eq_true', Bool.not_eq_false'] at hp8
  refine Zz (Xh rfl rfl rfl hg8) (X1 (Uc _) rfl Tryz.func11 rfl rfl rfl ?_)
  rintro v H' ⟨rfl, hlv⟩
  refine Xa (Xm (congrArg Value.bool hg8) rfl) ?_
  refine Xa (Xo rfl) ?_
  refine X4 ?_
  exact ⟨.bool true, Xy (Xu rfl), rfl, Hp.le_trans leH11 hlv⟩
  intro hg8
  (have h := hg8; simp [Va] at h)
  intro hg7
  (have h := hg7; simp at h)
  intro hc6
  have heq : N.length = F.vars.length := by have := of_decide_eq_false hc6; omega
  have hto := ho1 (by omega)
  refine X7 ?_
  refine Xe ?_
  refine Xb (by kernel_rfl) ?_
  refine Xa (Xx rfl) ?_
  refine Xa (Xx rfl) ?_
  refine X0 (X1 (BehR_ref rows N _ _ _ rr11 nn11 (by omega) (by omega) (fun r hr => by have := hrn r hr; omega)) rfl Tryz.func37 rfl rfl rfl ?_)
  rintro v25 H11 ⟨⟨k, rfl, hk⟩, rfl⟩
  refine Xa (Xn rfl) ?_
  refine Xe ?_
  refine Xe ?_
  have hkI : ((k : Int) < (rows.length : Int)) ↔ k < rows.length := by omega
  have hok : o = rows[k]? := tells_row_at hk (by rw [hrm, hvl]) hrr hto
  refine ac_cut (fun t H' => H11.le H' ∧ t 9 = .slice D8 rows.length m8 ∧ t 10 = .pointer (some ⟨HR.size, 0, none⟩) ∧ t 11 = .pointer (some ⟨H9.size, 0, none⟩) ∧ t 12 = .bool o.isSome ∧ t 13 = .bool q.isSome ∧ t 120 = .bool false) ?_ ?_
  have hok : o = rows[k]? := tells_row_at hk (by rw [hrm, hvl]) hrr hto
  have hkl := hk.1
  have hsk : o.isSome = decide (k < rows.length) := by
    rw [hok]
    by_cases h : k < rows.length
    · rw [List.getElem?_eq_getElem h, decide_eq_true h]; rfl
    · rw [List.getElem?_eq_none (by omega), decide_eq_false h]; rfl
  refine Ys (by kernel_rfl) (Yy (B := [0, 0, 0, 4, 14, 31, 63, 127, 255, 511, 511, 511, 3583, 7679, 15871, 32767, 65535, 131071, 262143, 524287, 1048575, 2097151, 4194303, 8388607, 16777215, 33554431, 67108863, 134217727, 268435455]) (π := [0, 1, 2, 3, 4, 5, 6, 7, 8, 9, 10, 11, 12, 13, 14, 15, 16, 17, 18, 19, 20, 21, 22, 23, 24, 25, 26, 27, 28]) (by kernel_rfl)) ?_
  refine Xd rfl rfl (Xq rfl) Xp ?_
  refine Xd rfl rfl (Xc rfl) Xp ?_
  refine Xd rfl rfl (Xx rfl) Xp ?_
  refine Xd rfl rfl (Yo rfl Tryz.underlying38) Xp ?_
  refine Xd rfl rfl (Y3 rfl rfl) Xp ?_
  refine Xd rfl rfl (av_bne rfl rfl Tryz.underlying4) Xp ?_
  refine Xd rfl rfl (Xq rfl) Xp ?_
  refine Zm rfl rfl rfl rfl ?_ ?_
  intro hg9
  (have h := hg9; rw [hsk] at h; simp at h)
  intro hg9
  have hp9 := hg9; try simp only [decide_eq_true_eq, decide_eq_false_iff_not, Bool.not_eq_true', Bool.not_eq_false'] at hp9
  refine Yf rfl (Xh rfl rfl rfl hg9) rfl (Xq rfl) Xp ?_
  refine Yf rfl (Xh rfl rfl rfl hg9) rfl (Xq rfl) Xp ?_
  refine Zm rfl rfl rfl rfl ?_ ?_
  intro hg10
  have hos : o.isSome = true := hg10
  obtain ⟨r, hr⟩ := Option.isSome_iff_exists.1 hos
  subst hr
  obtain ⟨hkx, hrk⟩ := List.getElem?_eq_some_iff.1 hok.symm
  obtain ⟨bD, oD, wD, eD, hbD, hcD, hwD⟩ := rr11.row_at hkx
  subst eD
  rw [hrk] at hcD hwD
  obtain ⟨AD, cD, rfl⟩ := hwD.shape
  have hrlen := hrn r (by rw [← hrk]; exact List.getElem_mem hkx)
  refine Yf rfl (Xh rfl rfl rfl hg10) rfl (Yk (cs := [.slice _ _ _, .int .i64 _, .int .u64 _]) rfl Tryz.underlying44 rfl inf44.size X8) Xp ?_
  refine Yf rfl (Xh rfl rfl rfl hg10) rfl (Xx rfl) Xp ?_
  refine Yf rfl (Xh rfl rfl rfl hg10) rfl (Xc rfl) Xp ?_
  refine Yf rfl (Xh rfl rfl rfl hg10) rfl (Xs rfl rfl Tryz.underlying38 inf49.size X2 X2) Xp ?_
  refine Yf rfl (Xh rfl rfl rfl hg10) rfl (Yk (cs := [.slice _ _ _, .int .i64 _, .int .u64 _]) rfl Tryz.underlying49 rfl inf49.size X8) Xp ?_
  refine Ua rfl (Xh rfl rfl rfl hg10) rfl (X1 (OfRow_ref _ _ _ _ _ _) rfl Tryz.func17 rfl rfl rfl ?_)
  rintro v26 H12 ⟨rfl, hle12⟩; have zL := hle12.1
  refine ⟨Ye, ?_⟩
  refine Ua rfl (Xh rfl rfl rfl hg10) rfl (X1 (SameRow_true r.nodes r.cost r.n A9 AD k9 cD _ (sl11.mono hle12.sees) (hwD.mono hle12.sees) (by omega)) rfl Tryz.func16 rfl rfl rfl ?_)
  rintro v27 H12 ⟨rfl, rfl⟩
  refine ⟨Ye, ?_⟩
  refine Yf rfl (Xh rfl rfl rfl hg10) rfl (Zr rfl) Xp ?_
  refine Yf rfl (Xh rfl rfl rfl hg9) rfl (Xm (congrArg Value.bool hg10) rfl) Xp ?_
  refine Xd rfl rfl (Xm (congrArg Value.bool hg9) rfl) Xp ?_
  refine Xd rfl rfl (Xq rfl) Xp ?_
  refine Zm rfl rfl rfl rfl ?_ ?_
  intro hg11
  (have h := hg11; simp at h)
  intro hg11
  have hp11 := hg11; try simp only [decide_eq_true_eq, decide_eq_false_iff_not, Bool.not_eq_true', Bool.not_eq_false'] at hp11
  refine Yf rfl (Xh rfl rfl rfl hg11) rfl (Xq rfl) Xp ?_
  refine Yf rfl (Xh rfl rfl rfl hg11) rfl (Zr rfl) Xp ?_
  refine Yf rfl (Xh rfl rfl rfl hg11) rfl (Xq rfl) Xp ?_
  refine Zm rfl rfl rfl rfl ?_ ?_
  intro hg12
  (have h := hg12; simp at h)
  intro hg12
  have hp12 := hg12; try simp only [decide_eq_true_eq, decide_eq_false_iff_not, Bool.not_eq_true', Bool.not_eq_false'] at hp12
  refine Xz rfl (Xi rfl rfl rfl hg12 rfl) ?_
  refine Xz rfl (Xi rfl rfl rfl hg12 rfl) ?_
  refine Xz rfl (Xi rfl rfl rfl hg12 rfl) ?_
  refine Xz rfl (Xi rfl rfl rfl hg12 rfl) ?_
  refine Yf rfl (Xh rfl rfl rfl hg11) rfl (Xm (congrArg Value.bool hg12) rfl) Xp ?_
  refine Xd rfl rfl (Xm (congrArg Value.bool hg11) rfl) Xp ?_
  refine ⟨by first | exact hle12 | exact Hp.le_refl _, rfl, rfl, rfl, rfl, rfl, ?_⟩
  first | exact congrArg Value.bool (by simp [Va]) | exact congrArg Value.bool (by simp)
  intro hg10
  have hos : o.isSome = false := hg10
  obtain rfl : o = none := by cases o with | none => rfl | some r => cases hos
  refine Xz rfl (Xi rfl rfl rfl hg10 rfl) ?_
  refine Xz rfl (Xi rfl rfl rfl hg10 rfl) ?_
  refine Xz rfl (Xi rfl rfl rfl hg10 rfl) ?_
  refine Xz rfl (Xi rfl rfl rfl hg10 rfl) ?_
  refine Xz rfl (Xi rfl rfl rfl hg10 rfl) ?_
  refine Xz rfl (Xi rfl rfl rfl hg10 rfl) ?_
  refine Xz rfl (Xi rfl rfl rfl hg10 rfl) ?_
  refine Xz rfl (Xi rfl rfl rfl hg10 rfl) ?_
  refine Yf rfl (Xh rfl rfl rfl hg9) rfl (Xm (congrArg Value.bool hg10) rfl) Xp ?_
  refine Xd rfl rfl (Xm (congrArg Value.bool hg9) rfl) Xp ?_
  refine Xd rfl rfl (Xq rfl) Xp ?_
  refine Yf rfl (Xh rfl rfl rfl rfl) rfl (Xq rfl) Xp ?_
  refine Yf rfl (Xh rfl rfl rfl rfl) rfl (Zr rfl) Xp ?_
  refine Yf rfl (Xh rfl rfl rfl rfl) rfl (Xq rfl) Xp ?_
  refine Zm rfl rfl rfl rfl ?_ ?_
  intro hg13
  have hp13 := hg13; try simp only [decide_eq_true_eq, decide_eq_false_iff_not, Bool.not_eq_true', Bool.not_eq_false'] at hp13
  refine Yf rfl (Xh rfl rfl rfl hg13) rfl (Xg (off := 0) rfl Tryz.underlying44 rfl inf23.size (by decide) rfl) Xp ?_
  refine Yf rfl (Xh rfl rfl rfl hg13) rfl (Xj rfl Tryz.underlying23 rfl Xr) Xp ?_
  refine Yf rfl (Xh rfl rfl rfl hg13) rfl (Yo rfl Tryz.underlying23) Xp ?_
  refine Yf rfl (Xh rfl rfl rfl hg13) rfl (Uh rfl rfl) Xp ?_
  refine Yf rfl (Xh rfl rfl rfl rfl) rfl (Xm (congrArg Value.bool hg13) rfl) Xp ?_
  refine Xd rfl rfl (Xm (congrArg Value.bool rfl) rfl) Xp ?_
  refine ⟨by first | exact hle12 | exact Hp.le_refl _, rfl, rfl, rfl, rfl, rfl, ?_⟩
  first | exact congrArg Value.bool (by simp [Va]) | exact congrArg Value.bool (by simp)
  intro hg13
  have hp13 := hg13; try simp only [decide_eq_true_eq, decide_eq_false_iff_not, Bool.not_eq_true', Bool.not_eq_false'] at hp13
  refine Xz rfl (Xi rfl rfl rfl hg13 rfl) ?_
  refine Xz rfl (Xi rfl rfl rfl hg13 rfl) ?_
  refine Xz rfl (Xi rfl rfl rfl hg13 rfl) ?_
  refine Xz rfl (Xi rfl rfl rfl hg13 rfl) ?_
  refine Yf rfl (Xh rfl rfl rfl rfl) rfl (Xm (congrArg Value.bool hg13) rfl) Xp ?_
  refine Xd rfl rfl (Xm (congrArg Value.bool rfl) rfl) Xp ?_
  refine ⟨by first | exact hle12 | exact Hp.le_refl _, rfl, rfl, rfl, rfl, rfl, ?_⟩
  first | exact congrArg Value.bool (by simp [Va]) | exact congrArg Value.bool (by simp)
  rintro t H12 ⟨le12, e9, e10, e11, e12, e13, e120⟩
  have hok : o = rows[k]? := tells_row_at hk (by rw [hrm, hvl]) hrr hto
  obtain ⟨G12, leG12, hown12⟩ := hown11.later le12
  have gw12 := Xt leG12 hwb11 (by intro e; cases e) gw11
  have hW12 : Zv G12 H12 HR.size (.pointer (some ⟨tb, 0, none⟩)) S5 := ⟨B11, c11, Nat.lt_of_lt_of_le hwb11 leG12.1, gw12, hown12⟩
  have leRG12 := Hp.le_trans leRG leG12
  have trG12 := trR.mono leRG12
  have slG12 := slG.mono leG12.sees
  have g12 := Xt leG12 (by omega) (by intro e; cases e) g11
  have z12 := leG12.1
  have zz12 := hown12.size
  have e9 := e9; have e10 := e10; have e11 := e11; have e12 := e12; have e13 := e13; have e120 := e120
  refine Yw (e120) rfl ?_
  refine X7 ?_
  refine Xe ?_
  refine Xe ?_
  refine Xb (by kernel_rfl) ?_
  refine Xa (Xq Xk) ?_
  refine X5 rfl rfl ?_ ?_
  intro hc15
  have hqs : q.isSome = true := hc15
  obtain ⟨s, hs⟩ := Option.isSome_iff_exists.1 hqs
  have hsN := (rowT_nodes (hq.symm.trans hs)).1
  have eS : S5 = ⟨N, true, false, 0⟩ := by
    rw [hS5]; unfold toS; rw [← hq, hs]
    show (⟨s.nodes, true, false, 0⟩ : Zl) = _
    rw [hsN]
  have hnx : (Zy T S5).2 = o := by
    rw [eS, hok]; exact tells_row_at hk (by rw [hrm, hvl]) hrr (beh_next hT hA (by omega) (hqp hqs))
  have hv : ValS T S5 := by rw [eS]; exact ⟨by show N.length ≤ _; omega, hqp hqs⟩
  have hst : S5.steps = 0 := by rw [eS]
  have e9 := e9; have e10 := e10; have e11 := e11; have e12 := e12; have e13 := e13
  refine Xe ?_
  refine Xb (by kernel_rfl) ?_
  refine Xa (Xw Xk) ?_
  refine X0 (X1 (Next_walk hT hA hW12 (fun _ => trG12) hv (by omega) (by omega) ⟨_, rfl⟩) rfl Tryz.func20 rfl rfl rfl ?_)
  rintro v28 H13 ⟨G13, aw13, hW13, A13, k13, rfl, sl13⟩; rw [hnx] at sl13 ⊢; obtain ⟨B13, c13, hwb13, gw13, hown13⟩ := hW13; have z13 := aw13.size; have g13 := aw13.keep (by omega) (by omega) (by intro e; cases e) g12; have h13 := Xt hown13.le (by omega) (by intro e; cases e) g13; have zz13 := hown13.size; have slo13 := (slG12.mono (aw13.sees gw12)).mono hown13.le.sees; have slx13 := sl13.mono hown13.le.sees; have leR13 := Hp.le_trans (aw13.base leRG12 (Nat.le_refl _)) hown13.le; have leH13 := Hp.le_trans leHR leR13; have e11 := e11; have e12 := e12
  refine Xa (Zn rfl) ?_
  refine Xa (Yn rfl rfl) ?_
  refine Xa (Yn rfl rfl) ?_
  refine X3 (Yz (l := [.slice none 0 0, .int .i64 0, .int .u64 0]) inf44.zero rfl (by decide)) ?_
  refine X0 (Yj (vs := [.slice _ _ _, .int .i64 _, .int .u64 _]) rfl rfl inf44.size Yc Yh rfl rfl ?_)
  refine Xa (Xo rfl) ?_
  refine Xe ?_
  obtain ⟨H14, hH14⟩ : ∃ H14, H14 = (H13.push (.own 0 [.slice none 0 0, .int .i64 0, .int .u64 0])).put H13.size (.own 0 [.slice A13 (Va o).length k13, .int .i64 (Ui o), .int .u64 (Uj o)]) := ⟨_, rfl⟩
  have le14 : H13.le H14 := by rw [hH14]; exact Hp.le_put_new (H13.le_push _) (Nat.le_refl _) _
  have gx14 : H14.get H13.size = .own 0 [.slice A13 (Va o).length k13, .int .i64 (Ui o), .int .u64 (Uj o)] := by rw [hH14]; exact Hp.put_same _ _ _
  have gr14 := Xt le14 (by omega) (by intro e; cases e) h13
  change ACode true _ _ _ _ _ ((H13.push (.own 0 [.slice none 0 0, .int .i64 0, .int .u64 0])).put H13.size (.own 0 [.slice A13 (Va o).length k13, .int .i64 (Ui o), .int .u64 (Uj o)]))
  rw [← hH14]
  clear hH14
  have leH14 := Hp.le_trans leH13 le14
  have e11 := e11; have e12 := e12
  refine Xb (by kernel_rfl) ?_
  refine Xa (Xq rfl) ?_
  refine Xa (Xq Xk) ?_
  refine Xa (av_beq rfl rfl Tryz.underlying4) ?_
  refine Xa (Xq rfl) ?_
  refine Yd rfl rfl rfl ?_ ?_
  intro hg16
  have hp16 := hg16; try simp only [decide_eq_true_eq, decide_eq_false_iff_not, Bool.not_eq_true', Bool.not_eq_false'] at hp16
  refine Xl (Xh rfl rfl rfl hg16) (Xq Xk) ?_
  refine Xl (Xh rfl rfl rfl hg16) (Zr rfl) ?_
  refine Xl (Xh rfl rfl rfl hg16) (Xq rfl) ?_
  refine Yd rfl rfl rfl ?_ ?_
  intro hg17
  have hp17 := hg17; try simp only [decide_eq_true_eq, decide_eq_false_iff_not, Bool.not_eq_true', Bool.not_eq_false'] at hp17
  refine Xf (Xi rfl rfl rfl hg17 rfl) ?_
  refine Xf (Xi rfl rfl rfl hg17 rfl) ?_
  refine Xf (Xi rfl rfl rfl hg17 rfl) ?_
  refine Xl (Xh rfl rfl rfl hg16) (Xm (congrArg Value.bool hg17) Xk) ?_
  refine Xa (Xm (congrArg Value.bool hg16) rfl) ?_
  refine Xa (Xq rfl) ?_
  refine Zz (Xh rfl rfl rfl rfl) (X1 (Uc _) rfl Tryz.func11 rfl rfl rfl ?_)
  rintro v H' ⟨rfl, hlv⟩
  refine Xa (Xm (congrArg Value.bool rfl) rfl) ?_
  refine Xa (Xo rfl) ?_
  refine X4 ?_
  exact ⟨.bool true, Xy (Xu rfl), rfl, Hp.le_trans leH14 hlv⟩
  intro hg17
  have hos : o.isSome = true := by have h := hg17; simpa using h
  obtain ⟨r, hr⟩ := Option.isSome_iff_exists.1 hos
  subst hr
  obtain ⟨hkx, hrk⟩ := List.getElem?_eq_some_iff.1 hok.symm
  have hrlen := hrn r (by rw [← hrk]; exact List.getElem_mem hkx)
  have e11 := e11; have e12 := e12
  refine Xl (Xh rfl rfl rfl hg17) (Yk (cs := [.slice _ _ _, .int .i64 _, .int .u64 _]) rfl Tryz.underlying44 rfl inf44.size X8) ?_
  refine Xl (Xh rfl rfl rfl hg17) (Yk (cs := [.slice _ _ _, .int .i64 _, .int .u64 _]) Xk Tryz.underlying44 Xk inf44.size X8) ?_
  refine Zz (Xh rfl rfl rfl hg17) (X1 (SameRow_true r.nodes r.cost r.n A13 A9 k13 k9 _ (slx13.mono le14.sees) (slo13.mono le14.sees) (by omega)) rfl Tryz.func16 rfl rfl rfl ?_)
  rintro v29 H14 ⟨rfl, rfl⟩
  refine Xl (Xh rfl rfl rfl hg16) (Xm (congrArg Value.bool hg17) rfl) ?_
  refine Xa (Xm (congrArg Value.bool hg16) rfl) ?_
  refine Xa (Xq rfl) ?_
  refine Yd rfl rfl rfl ?_ ?_
  intro hg18
  have hp18 := hg18; try simp only [decide_eq_true_eq, decide_eq_false_iff_not, Bool.not_eq_true', Bool.not_eq_false'] at hp18
  refine Zz (Xh rfl rfl rfl hg18) (X1 (Uc _) rfl Tryz.func11 rfl rfl rfl ?_)
  rintro v H' ⟨rfl, hlv⟩
  refine Xa (Xm (congrArg Value.bool hg18) rfl) ?_
  refine Xa (Xo rfl) ?_
  refine X4 ?_
  exact ⟨.bool true, Xy (Xu rfl), rfl, Hp.le_trans leH14 hlv⟩
  intro hg18
  (have h := hg18; simp at h)
  intro hg16
  (have h := hg16; simp at h)
  intro hc15
  have hqs : q.isSome = false := hc15
  have hq0 : q = none := by cases q with | none => rfl | some r => cases hqs
  have eS : S5 = w0 := by rw [hS5]; unfold toS; rw [← hq, hq0]
  obtain ⟨o7, ho7⟩ : ∃ o7, o7 = rows[0]? := ⟨_, rfl⟩
  have hnx : (Zy T S5).2 = o7 := by rw [eS, ho7]; exact first_row hT hA hrest0 hrr
  have hv : ValS T S5 := by rw [eS]; exact val_w0 T
  have hst : S5.steps = 0 := by rw [eS]; rfl
  have e9 := e9; have e10 := e10; have e11 := e11; have e12 := e12; have e13 := e13
  refine X7 ?_
  refine Xe ?_
  refine Xb (by kernel_rfl) ?_
  refine Xa (Xw Xk) ?_
  refine X0 (X1 (Next_walk hT hA hW12 (fun _ => trG12) hv (by omega) (by omega) ⟨_, rfl⟩) rfl Tryz.func20 rfl rfl rfl ?_)
  rintro v28 H13 ⟨G13, aw13, hW13, A13, k13, rfl, sl13⟩; rw [hnx] at sl13 ⊢; obtain ⟨B13, c13, hwb13, gw13, hown13⟩ := hW13; have slx13 := sl13.mono hown13.le.sees; have leR13 := Hp.le_trans (aw13.base leRG12 (Nat.le_refl _)) hown13.le; have leH13 := Hp.le_trans leHR leR13; have e9 := e9; have rr13 := hrR.mono leR13.sees
  refine Xa (Zn rfl) ?_
  refine Xa (Yn rfl rfl) ?_
  refine Xa (Yn rfl rfl) ?_
  refine X3 (Yz (l := [.slice none 0 0, .int .i64 0, .int .u64 0]) inf44.zero rfl (by decide)) ?_
  refine X0 (Yj (vs := [.slice _ _ _, .int .i64 _, .int .u64 _]) rfl rfl inf44.size Yc Yh rfl rfl ?_)
  refine Xa (Xo rfl) ?_
  refine Xe ?_
  obtain ⟨H14, hH14⟩ : ∃ H14, H14 = (H13.push (.own 0 [.slice none 0 0, .int .i64 0, .int .u64 0])).put H13.size (.own 0 [.slice A13 (Va o7).length k13, .int .i64 (Ui o7), .int .u64 (Uj o7)]) := ⟨_, rfl⟩
  have le14 : H13.le H14 := by rw [hH14]; exact Hp.le_put_new (H13.le_push _) (Nat.le_refl _) _
  have gx14 : H14.get H13.size = .own 0 [.slice A13 (Va o7).length k13, .int .i64 (Ui o7), .int .u64 (Uj o7)] := by rw [hH14]; exact Hp.put_same _ _ _
  have z14 : H14.size = H13.size + 1 := by rw [hH14]; simp
  change ACode true _ _ _ _ _ ((H13.push (.own 0 [.slice none 0 0, .int .i64 0, .int .u64 0])).put H13.size (.own 0 [.slice A13 (Va o7).length k13, .int .i64 (Ui o7), .int .u64 (Uj o7)]))
  rw [← hH14]
  clear hH14
  have leH14 := Hp.le_trans leH13 le14
  have rr14 := rr13.mono le14.sees
  have slx14 := slx13.mono le14.sees
  have hsome : o7.isSome = decide ((rows.length : Int) > 0) := by
    rw [ho7]
    cases hrw : rows with
    | nil => rfl
    | cons a l => simp
  have e9 := e9
  refine Ys (by kernel_rfl) (Yy (B := [0, 0, 2, 6, 15, 31, 63, 127, 255, 511, 511, 1535, 3583, 7679, 16383, 32767, 65535, 131071, 262143, 524287, 1048575]) (π := [0, 1, 2, 3, 4, 5, 6, 7, 8, 9, 10, 11, 12, 13, 14, 15, 16, 17, 18, 19, 20]) (by kernel_rfl)) ?_
  refine Xd rfl rfl (Xq rfl) Xp ?_
  refine Xd rfl rfl (Xx Xk) Xp ?_
  refine Xd rfl rfl (Yo rfl Tryz.underlying38) Xp ?_
  refine Xd rfl rfl (Uh rfl rfl) Xp ?_
  refine Xd rfl rfl (av_beq rfl rfl Tryz.underlying4) Xp ?_
  refine Xd rfl rfl (Xq rfl) Xp ?_
  refine Zm rfl rfl rfl rfl ?_ ?_
  intro hg19
  have hp19 := hg19; try simp only [decide_eq_true_eq, decide_eq_false_iff_not, Bool.not_eq_true', Bool.not_eq_false'] at hp19
  refine Yf rfl (Xh rfl rfl rfl hg19) rfl (Xq rfl) Xp ?_
  refine Yf rfl (Xh rfl rfl rfl hg19) rfl (Zr rfl) Xp ?_
  refine Yf rfl (Xh rfl rfl rfl hg19) rfl (Xq rfl) Xp ?_
  refine Zm rfl rfl rfl rfl ?_ ?_
  intro hg20
  have hle15 := Hp.le_refl H14
  refine Xz rfl (Xi rfl rfl rfl hg20 rfl) ?_
  refine Xz rfl (Xi rfl rfl rfl hg20 rfl) ?_
  refine Xz rfl (Xi rfl rfl rfl hg20 rfl) ?_
  refine Xz rfl (Xi rfl rfl rfl hg20 rfl) ?_
  refine Xz rfl (Xi rfl rfl rfl hg20 rfl) ?_
  refine Xz rfl (Xi rfl rfl rfl hg20 rfl) ?_
  refine Yf rfl (Xh rfl rfl rfl hg19) rfl (Xm (congrArg Value.bool hg20) Xk) Xp ?_
  refine Xd rfl rfl (Xm (congrArg Value.bool hg19) rfl) Xp ?_
  refine Xd rfl rfl (Xq rfl) Xp ?_
  refine Ua rfl (Xh rfl rfl rfl rfl) rfl (X1 (Uc _) rfl Tryz.func11 rfl rfl rfl ?_)
  rintro v H' ⟨rfl, hlv⟩
  refine ⟨Ye, ?_⟩
  refine Xd rfl rfl (Xm (congrArg Value.bool rfl) rfl) Xp ?_
  refine Xd rfl rfl (Xo rfl) Xp ?_
  refine X4 ?_
  exact ⟨.bool true, Xy (Xu rfl), rfl, Hp.le_trans leH14 (Hp.le_trans hle15 hlv)⟩
  intro hg20
  have hos : o7.isSome = true := by have h := hg20; simpa using h
  obtain ⟨a, ha⟩ := Option.isSome_iff_exists.1 hos
  obtain ⟨hz0, ha0⟩ := List.getElem?_eq_some_iff.1 (ho7.symm.trans ha)
  subst ha
  obtain ⟨bD, oD, wD, eD, hbD, hcD, hwD⟩ := rr14.row_at hz0
  subst eD
  rw [ha0] at hcD hwD
  obtain ⟨AD, cD, rfl⟩ := hwD.shape
  have halen := hrn a (by rw [← ha0]; exact List.getElem_mem hz0)
  have e9 := e9
  refine Yf rfl (Xh rfl rfl rfl hg20) rfl (Yk (cs := [.slice _ _ _, .int .i64 _, .int .u64 _]) rfl Tryz.underlying44 rfl inf44.size X8) Xp ?_
  refine Yf rfl (Xh rfl rfl rfl hg20) rfl (Xx Xk) Xp ?_
  refine Yf rfl (Xh rfl rfl rfl hg20) rfl (Xs rfl rfl Tryz.underlying38 inf49.size X2 X2) Xp ?_
  refine Yf rfl (Xh rfl rfl rfl hg20) rfl (Yk (cs := [.slice _ _ _, .int .i64 _, .int .u64 _]) rfl Tryz.underlying49 rfl inf49.size X8) Xp ?_
  refine Ua rfl (Xh rfl rfl rfl hg20) rfl (X1 (OfRow_ref _ _ _ _ _ _) rfl Tryz.func17 rfl rfl rfl ?_)
  rintro v29 H15 ⟨rfl, hle15⟩
  refine ⟨Ye, ?_⟩
  refine Ua rfl (Xh rfl rfl rfl hg20) rfl (X1 (SameRow_true a.nodes a.cost a.n A13 AD k13 cD _ (slx14.mono hle15.sees) (hwD.mono hle15.sees) (by omega)) rfl Tryz.func16 rfl rfl rfl ?_)
  rintro v30 H15 ⟨rfl, rfl⟩
  refine ⟨Ye, ?_⟩
  refine Yf rfl (Xh rfl rfl rfl hg19) rfl (Xm (congrArg Value.bool hg20) rfl) Xp ?_
  refine Xd rfl rfl (Xm (congrArg Value.bool hg19) rfl) Xp ?_
  refine Xd rfl rfl (Xq rfl) Xp ?_
  refine Zm rfl rfl rfl rfl ?_ ?_
  intro hg21
  have hp21 := hg21; try simp only [decide_eq_true_eq, decide_eq_false_iff_not, Bool.not_eq_true', Bool.not_eq_false'] at hp21
  refine Ua rfl (Xh rfl rfl rfl hg21) rfl (X1 (Uc _) rfl Tryz.func11 rfl rfl rfl ?_)
  rintro v H' ⟨rfl, hlv⟩
  refine ⟨Ye, ?_⟩
  refine Xd rfl rfl (Xm (congrArg Value.bool hg21) rfl) Xp ?_
  refine Xd rfl rfl (Xo rfl) Xp ?_
  refine X4 ?_
  exact ⟨.bool true, Xy (Xu rfl), rfl, Hp.le_trans leH14 (Hp.le_trans hle15 hlv)⟩
  intro hg21
  (have h := hg21; simp at h)
  intro hg19
  (have h := hg19; rw [hsome] at h; simp at h)
end Go.Proofs.YtcaeoebphfjfiaaGreat.Am


/- Links among the arguments of a statement. -/
namespace Go.Proofs.YtcaeoebphfjfiaaGreat.Am
open Go Go.RowKit
set_option maxRecDepth 100000
theorem cells_i64 : Tryz.prog.cellsOf 3 = 1 := by kernel_rfl
theorem cells_u64 : Tryz.prog.cellsOf 42 = 1 := by kernel_rfl
theorem cells_link : Tryz.prog.cellsOf 78 = 4 := by kernel_rfl
theorem opens_ints : Opens Tryz.prog (Vm (Y1 .i64)) 23 (fun xs => xs.length ≤ maxLen ∧ ∀ x ∈ xs, fits .i64 x) := opens_sl Tryz.underlying23 cells_i64 (opens_int Tryz.underlying3)
theorem opens_link : Opens Tryz.prog kLink 78 (fun x => fits .i64 x.a ∧ fits .i64 x.b ∧ fits .i64 x.cost ∧ fits .u64 x.n) := fun Hh enc W fuel cs x h => by
  obtain ⟨xs, n, _, _, hl, hxs, hf⟩ := DataW.trod_struct Tryz.underlying78 h
  rw [cells_link] at hl
  have hxs : xs.length = 4 := hxs
  match cs, hl with
  | [c0, c1, c2, c3], _ =>
    have f0 : DataW.trod enc Tryz.prog W 0 (fun _ => true) true n 3 (([c0, c1, c2, c3].drop 0).take (Tryz.prog.cellsOf 3)) = xs[0]? := hf 0 _ rfl
    have f1 : DataW.trod enc Tryz.prog W 0 (fun _ => true) true n 3 (([c0, c1, c2, c3].drop 1).take (Tryz.prog.cellsOf 3)) = xs[1]? := hf 1 _ rfl
    have f2 : DataW.trod enc Tryz.prog W 0 (fun _ => true) true n 3 (([c0, c1, c2, c3].drop 2).take (Tryz.prog.cellsOf 3)) = xs[2]? := hf 2 _ rfl
    have f3 : DataW.trod enc Tryz.prog W 0 (fun _ => true) true n 42 (([c0, c1, c2, c3].drop 3).take (Tryz.prog.cellsOf 42)) = xs[3]? := hf 3 _ rfl
    rw [cells_i64, List.getElem?_eq_getElem (show 0 < xs.length by omega)] at f0
    rw [cells_i64, List.getElem?_eq_getElem (show 1 < xs.length by omega)] at f1
    rw [cells_i64, List.getElem?_eq_getElem (show 2 < xs.length by omega)] at f2
    rw [cells_u64, List.getElem?_eq_getElem (show 3 < xs.length by omega)] at f3
    obtain ⟨y0, r0, b0, v0⟩ := opens_int (P := Tryz.prog) Tryz.underlying3 Hh enc W n _ _ f0
    obtain ⟨y1, r1, b1, v1⟩ := opens_int (P := Tryz.prog) Tryz.underlying3 Hh enc W n _ _ f1
    obtain ⟨y2, r2, b2, v2⟩ := opens_int (P := Tryz.prog) Tryz.underlying3 Hh enc W n _ _ f2
    obtain ⟨y3, r3, b3, v3⟩ := opens_int (P := Tryz.prog) Tryz.underlying42 Hh enc W n _ _ f3
    refine ⟨⟨y0, y1, y2, y3⟩, ?_, ⟨b0, b1, b2, b3⟩, fun v hv => ?_⟩
    · have e0 : [V4 W c0] = [Value.int .i64 y0] := r0
      have e1 : [V4 W c1] = [Value.int .i64 y1] := r1
      have e2 : [V4 W c2] = [Value.int .i64 y2] := r2
      have e3 : [V4 W c3] = [Value.int .u64 y3] := r3
      simp only [List.cons.injEq, and_true] at e0 e1 e2 e3
      simp [kLink, e0, e1, e2, e3]
    · simp at hv
      rcases hv with rfl | rfl | rfl | rfl
      · exact v0 _ (List.mem_singleton.2 rfl)
      · exact v1 _ (List.mem_singleton.2 rfl)
      · exact v2 _ (List.mem_singleton.2 rfl)
      · exact v3 _ (List.mem_singleton.2 rfl)
theorem opens_links : Opens Tryz.prog (Vm kLink) 68 (fun xs => xs.length ≤ maxLen ∧ ∀ x ∈ xs, fits .i64 x.a ∧ fits .i64 x.b ∧ fits .i64 x.cost ∧ fits .u64 x.n) := opens_sl Tryz.underlying68 cells_link opens_link
end Go.Proofs.YtcaeoebphfjfiaaGreat.Am


/- Forests and parts among the arguments of a statement. -/
namespace Go.Proofs.YtcaeoebphfjfiaaGreat.Am
open Go Go.RowKit
set_option maxRecDepth 100000
theorem cells_links : Tryz.prog.cellsOf 68 = 1 := by kernel_rfl
theorem cells_ints : Tryz.prog.cellsOf 23 = 1 := by kernel_rfl
theorem cells_str : Tryz.prog.cellsOf 9 = 1 := by kernel_rfl
theorem cells_strs : Tryz.prog.cellsOf 22 = 1 := by kernel_rfl
theorem cells_intss : Tryz.prog.cellsOf 24 = 1 := by kernel_rfl
theorem cells_linkss : Tryz.prog.cellsOf 27 = 1 := by kernel_rfl
theorem cells_parts : Tryz.prog.cellsOf 29 = 2 := by kernel_rfl
theorem cells_forest : Tryz.prog.cellsOf 26 = 5 := by kernel_rfl
theorem opens_strs : Opens Tryz.prog (Vm kStr) 22 (fun xs => xs.length ≤ maxLen ∧ ∀ x ∈ xs, x.size ≤ maxLen) := opens_sl Tryz.underlying22 cells_str (opens_str Tryz.underlying9)
theorem opens_intss : Opens Tryz.prog (Vm (Vm (Y1 .i64))) 24 (fun xs => xs.length ≤ maxLen ∧ ∀ x ∈ xs, x.length ≤ maxLen ∧ ∀ n ∈ x, fits .i64 n) := opens_sl Tryz.underlying24 cells_ints opens_ints
theorem opens_linkss : Opens Tryz.prog (Vm (Vm kLink)) 27 (fun xs : List (List Link) => xs.length ≤ maxLen ∧ ∀ l ∈ xs, l.length ≤ maxLen ∧ ∀ x ∈ l, fits .i64 x.a ∧ fits .i64 x.b ∧ fits .i64 x.cost ∧ fits .u64 x.n) := opens_sl Tryz.underlying27 cells_links opens_links
theorem opens_parts : Opens Tryz.prog kParts 29 BigP := fun Hh enc W fuel cs x h => by
  obtain ⟨xs, n, _, _, hl, hxs, hf⟩ := DataW.trod_struct Tryz.underlying29 h
  rw [cells_parts] at hl
  have hxs : xs.length = 2 := hxs
  match cs, hl with
  | [c0, c1], _ =>
    have f0 : DataW.trod enc Tryz.prog W 0 (fun _ => true) true n 27 (([c0, c1].drop 0).take (Tryz.prog.cellsOf 27)) = xs[0]? := hf 0 _ rfl
    have f1 : DataW.trod enc Tryz.prog W 0 (fun _ => true) true n 27 (([c0, c1].drop 1).take (Tryz.prog.cellsOf 27)) = xs[1]? := hf 1 _ rfl
    rw [cells_linkss, List.getElem?_eq_getElem (show 0 < xs.length by omega)] at f0
    rw [cells_linkss, List.getElem?_eq_getElem (show 1 < xs.length by omega)] at f1
    obtain ⟨y0, ⟨w0, r0, s0⟩, b0, v0⟩ := opens_linkss Hh enc W n _ _ f0
    obtain ⟨y1, ⟨w1, r1, s1⟩, b1, v1⟩ := opens_linkss Hh enc W n _ _ f1
    refine ⟨⟨y0, y1⟩, ⟨w0, w1, ?_, s0, s1⟩, ⟨b0.1, b1.1, fun l hl => (b0.2 l hl).1, fun l hl => (b1.2 l hl).1⟩, fun v hv => ?_⟩
    · have e0 : [V4 W c0] = [w0] := r0
      have e1 : [V4 W c1] = [w1] := r1
      simp only [List.cons.injEq, and_true] at e0 e1
      simp [e0, e1]
    · simp at hv
      rcases hv with rfl | rfl
      · exact v0 _ (List.mem_singleton.2 rfl)
      · exact v1 _ (List.mem_singleton.2 rfl)
theorem opens_forest : Opens Tryz.prog kForest 26 BigF := fun Hh enc W fuel cs x h => by
  obtain ⟨xs, n, _, _, hl, hxs, hf⟩ := DataW.trod_struct Tryz.underlying26 h
  rw [cells_forest] at hl
  have hxs : xs.length = 5 := hxs
  match cs, hl with
  | [c0, c1, c2, c3, c4], _ =>
    have f0 : DataW.trod enc Tryz.prog W 0 (fun _ => true) true n 22 (([c0, c1, c2, c3, c4].drop 0).take (Tryz.prog.cellsOf 22)) = xs[0]? := hf 0 _ rfl
    have f1 : DataW.trod enc Tryz.prog W 0 (fun _ => true) true n 23 (([c0, c1, c2, c3, c4].drop 1).take (Tryz.prog.cellsOf 23)) = xs[1]? := hf 1 _ rfl
    have f2 : DataW.trod enc Tryz.prog W 0 (fun _ => true) true n 23 (([c0, c1, c2, c3, c4].drop 2).take (Tryz.prog.cellsOf 23)) = xs[2]? := hf 2 _ rfl
    have f3 : DataW.trod enc Tryz.prog W 0 (fun _ => true) true n 24 (([c0, c1, c2, c3, c4].drop 3).take (Tryz.prog.cellsOf 24)) = xs[3]? := hf 3 _ rfl
    have f4 : DataW.trod enc Tryz.prog W 0 (fun _ => true) true n 24 (([c0, c1, c2, c3, c4].drop 4).take (Tryz.prog.cellsOf 24)) = xs[4]? := hf 4 _ rfl
    rw [cells_strs, List.getElem?_eq_getElem (show 0 < xs.length by omega)] at f0
    rw [cells_ints, List.getElem?_eq_getElem (show 1 < xs.length by omega)] at f1
    rw [cells_ints, List.getElem?_eq_getElem (show 2 < xs.length by omega)] at f2
    rw [cells_intss, List.getElem?_eq_getElem (show 3 < xs.length by omega)] at f3
    rw [cells_intss, List.getElem?_eq_getElem (show 4 < xs.length by omega)] at f4
    obtain ⟨y0, ⟨w0, r0, s0⟩, b0, v0⟩ := opens_strs Hh enc W n _ _ f0
    obtain ⟨y1, ⟨w1, r1, s1⟩, b1, v1⟩ := opens_ints Hh enc W n _ _ f1
    obtain ⟨y2, ⟨w2, r2, s2⟩, b2, v2⟩ := opens_ints Hh enc W n _ _ f2
    obtain ⟨y3, ⟨w3, r3, s3⟩, b3, v3⟩ := opens_intss Hh enc W n _ _ f3
    obtain ⟨y4, ⟨w4, r4, s4⟩, b4, v4⟩ := opens_intss Hh enc W n _ _ f4
    refine ⟨⟨y0, y1, y2, y3, y4⟩, ⟨w0, w1, w2, w3, w4, ?_, s0, s1, s2, s3, s4⟩, ⟨b0.1, b1.1, b2.1, b3.1, b4.1, fun l hl => (b3.2 l hl).1, fun l hl => (b4.2 l hl).1⟩, fun v hv => ?_⟩
    · have e0 : [V4 W c0] = [w0] := r0
      have e1 : [V4 W c1] = [w1] := r1
      have e2 : [V4 W c2] = [w2] := r2
      have e3 : [V4 W c3] = [w3] := r3
      have e4 : [V4 W c4] = [w4] := r4
      simp only [List.cons.injEq, and_true] at e0 e1 e2 e3 e4
      simp [e0, e1, e2, e3, e4]
    · simp at hv
      rcases hv with rfl | rfl | rfl | rfl | rfl
      · exact v0 _ (List.mem_singleton.2 rfl)
      · exact v1 _ (List.mem_singleton.2 rfl)
      · exact v2 _ (List.mem_singleton.2 rfl)
      · exact v3 _ (List.mem_singleton.2 rfl)
      · exact v4 _ (List.mem_singleton.2 rfl)
end Go.Proofs.YtcaeoebphfjfiaaGreat.Am
