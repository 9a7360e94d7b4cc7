/- Texts that the proof rests on, part 7: lemmas for every heap that is related to a world, no condition beyond each lemma's own. -/
import Derived.Test.YtcaeoebphfjfiaaGreatCb6
import Derived.Test.YtcaeoebphfjfiaaGreatCbTreeGroups
import Derived.Test.YtcaeoebphfjfiaaGreatCb1
import Derived.Test.YtcaeoebphfjfiaaGreatCbRow

/- The document's own counts: row by row. -/
namespace Go.Proofs.YtcaeoebphfjfiaaGreat.Am
open Go Go.RowKit
set_option maxRecDepth 100000
set_option linter.unusedVariables false
set_option linter.unusedSimpArgs false

def kidF (T : TreeT) (i k : Nat) (b : Int) : Int := ((List.range k).filter fun j => decide (T.parent.getD j 0 = (i : Int))).foldl (fun n k => Yv n (Vq T T.vars.length k b)) 1
theorem kidF_next (T : TreeT) (i k : Nat) (b : Int) : kidF T i (k + 1) b = if T.parent.getD k 0 = (i : Int) then Yv (kidF T i k b) (Vq T T.vars.length k b) else kidF T i k b := by
  unfold kidF
  rw [List.range_succ, List.filter_append, List.foldl_append]
  by_cases h : T.parent.getD k 0 = (i : Int)
  · simp only [List.filter_cons, List.filter_nil]
    rw [if_pos h, if_pos (decide_eq_true h)]; rfl
  · simp only [List.filter_cons, List.filter_nil]
    rw [if_neg h, if_neg (by rw [decide_eq_true_eq]; exact h)]; rfl
theorem kidF_all {T : TreeT} (hT : GoodT T) (i : Nat) (b : Int) : kidF T i T.vars.length b = Z6 T T.vars.length i b := by
  unfold kidF Z6 kidsT
  rw [hT.l1]
theorem kidF_nonneg {T : TreeT} (hT : GoodT T) (i k : Nat) (b : Int) : 0 ≤ kidF T i k b := fold_times (by decide) fun k _ => Ve hT _ _ _
set_option maxHeartbeats 1000000 in
theorem below30 (f : Forest) (x : Parts) (hg : GoodF f) {T : TreeT} (hTe : T = Yy f x) (hT : GoodT T) (i : Nat) (hi : i < T.vars.length)
    (hS : ∀ (k : Nat) (b : Int) (cs ds : List Value) (H : Hp), i < k → k < T.vars.length → kForest.rep H f cs → kParts.rep H x ds → ACalls Tryz.prog 28 #[.agg cs.toArray, .agg ds.toArray, .int .i64 k, .int .i64 b] H (fun r H' => r = .int .u64 (Vq T T.vars.length k b) ∧ H.le H'))
    (b : Int) (cs ds : List Value) (H : Hp) (hp : kForest.rep H f cs) (hq : kParts.rep H x ds) :
    ACalls Tryz.prog 30 #[.agg cs.toArray, .agg ds.toArray, .int .i64 i, .int .i64 b] H (fun r H' => r = .int .u64 (Z6 T T.vars.length i b) ∧ H.le H') := by
  have hp0 := hp
  have hq0 := hq
  obtain ⟨v0, v1, v2, v3, v4, rfl, hs0, hs1, hs2, hs3, hs4⟩ := hp
  obtain ⟨A0, c0, rfl⟩ := hs0.shape
  obtain ⟨A1, c1, rfl⟩ := hs1.shape
  obtain ⟨A2, c2, rfl⟩ := hs2.shape
  obtain ⟨A3, c3, rfl⟩ := hs3.shape
  obtain ⟨A4, c4, rfl⟩ := hs4.shape
  obtain ⟨u0, u1, rfl, hn0, hn1⟩ := hq
  obtain ⟨B0, d0, rfl⟩ := hn0.shape
  obtain ⟨B1, d1, rfl⟩ := hn1.shape
  have hol : f.order.length = T.vars.length := by rw [hTe]; exact (Vj x).1.symm
  have hfew := hT.few
  obtain ⟨K, hK⟩ : ∃ K, K = (H.push (.own 0 [.slice A0 f.vars.length c0, .slice A1 f.order.length c1, .slice A2 f.parent.length c2, .slice A3 f.links.length c3, .slice A4 f.loops.length c4])).push (.own 0 [.slice B0 x.nodes.length d0, .slice B1 x.links.length d1]) := ⟨_, rfl⟩
  have leK : H.le K := by rw [hK]; exact Hp.le_push' (H.le_push _) _
  have zK : K.size = H.size + 2 := by rw [hK]; simp
  have gK0 : K.get H.size = .own 0 [.slice A0 f.vars.length c0, .slice A1 f.order.length c1, .slice A2 f.parent.length c2, .slice A3 f.links.length c3, .slice A4 f.loops.length c4] := by rw [hK]; exact Yh
  have gK1 : K.get (H.size + 1) = .own 0 [.slice B0 x.nodes.length d0, .slice B1 x.links.length d1] := by rw [hK]; exact Yh
  refine Xu Tryz.func30 rfl rfl rfl (by simp) ?_
  refine Xf ?_
  refine Xc (by kernel_rfl) ?_
  refine X2 (Ym rfl) ?_
  refine X2 (Ym rfl) ?_
  refine Xa (Xg rfl) ?_
  refine Xf ?_
  refine Xc (by kernel_rfl) ?_
  refine Xa (Xg rfl) ?_
  refine Xf ?_
  refine Xf ?_
  refine Xc (by kernel_rfl) ?_
  refine Xa (Xg rfl) ?_
  refine X3 ?_
  refine Yt (fun n t H' => ∃ (k : Nat), n = T.vars.length - k ∧ k ≤ T.vars.length ∧ K.le H' ∧ t 2 = .int .i64 i ∧ t 3 = .int .i64 b ∧ t 4 = .pointer (some ⟨H.size, 0, none⟩) ∧ t 5 = .pointer (some ⟨H.size + 1, 0, none⟩) ∧ t 9 = .int .u64 (kidF T i k b) ∧ t 10 = .int .i64 k) (T.vars.length) (⟨0, rfl, Nat.zero_le _, by rw [hK]; exact Hp.le_refl _, rfl, rfl, rfl, rfl, rfl, rfl⟩) ?_
  rintro n t H1 ⟨k, rfl, hk, le1, e2, e3, e4, e5, e9, e10⟩
  have g10 := Xt le1 (by omega) (by intro e; cases e) gK0
  have g11 := Xt le1 (by omega) (by intro e; cases e) gK1
  have z1 := le1.1
  have leH1 := Hp.le_trans leK le1
  have hpar := parR_tree (f := f) (x := x) hg (k : Int)
  rw [← hTe] at hpar
  refine Xf ?_
  refine Xf ?_
  refine Xc (by kernel_rfl) ?_
  refine Xa (Xb Xi) ?_
  refine Xa (Xh (off := 1) Xi Tryz.underlying26 Xi inf23.size (by decide) Xi) ?_
  refine Xa (Xl rfl Tryz.underlying23 rfl Xq) ?_
  refine Xa (Yl rfl Tryz.underlying23) ?_
  refine Xa (Yw rfl rfl) ?_
  refine X1 rfl rfl ?_ ?_
  intro hc1
  have hkl : k < T.vars.length := by have := of_decide_eq_true hc1; omega
  rw [if_pos ⟨by omega, by omega⟩, Int.toNat_natCast] at hpar
  refine X6 ?_
  refine Xf ?_
  refine X3 ?_
  refine Xf ?_
  refine Xc (by kernel_rfl) ?_
  refine Xa (Yc (cs := [.slice _ _ _, .slice _ _ _, .slice _ _ _, .slice _ _ _, .slice _ _ _]) Xi Tryz.underlying26 Xi inf26.size Yb) ?_
  refine Xa (Xb Xi) ?_
  refine X5 (X0 (ParentR_ref f _ (k : Int) _ (kForest.mono leH1.sees hp0) hg (by omega)) rfl Tryz.func61 rfl rfl rfl ?_)
  rintro v20 H1 ⟨rfl, rfl⟩; rw [hpar]
  refine Xa (Xb Xi) ?_
  refine Xa (Z0 rfl rfl) ?_
  refine X1 rfl rfl ?_ ?_
  intro hc2
  have hki : T.parent.getD k 0 = (i : Int) := of_decide_eq_true hc2
  have hpk := hT.par k hkl
  have hnx := kidF_next T i k b
  rw [if_pos hki] at hnx
  refine Xc (by kernel_rfl) ?_
  refine Xa (Xb Xi) ?_
  refine Xa (Yc (cs := [.slice _ _ _, .slice _ _ _, .slice _ _ _, .slice _ _ _, .slice _ _ _]) Xi Tryz.underlying26 Xi inf26.size Yb) ?_
  refine Xa (Yc (cs := [.slice _ _ _, .slice _ _ _]) Xi Tryz.underlying29 Xi inf29.size Yb) ?_
  refine Xa (Xb Xi) ?_
  refine Xa (Xb Xi) ?_
  refine X5 (X0 (hS k b _ _ _ (by omega) hkl (kForest.mono leH1.sees hp0) (kParts.mono leH1.sees hq0)) rfl Tryz.func28 rfl rfl rfl ?_)
  rintro v28 H2 ⟨rfl, le2⟩
  refine X5 (X0 (timesR_u64 _ _ (kidF_nonneg hT i k b) (Ve hT _ _ _) _) rfl Tryz.func48 rfl rfl rfl ?_)
  rintro v29 H2 ⟨rfl, rfl⟩
  refine Xa (Xg rfl) ?_
  refine Xc (by kernel_rfl) ?_
  refine Xa (Xb Xi) ?_
  refine Xa (Yd rfl rfl Yk) ?_
  refine Xa (Xg rfl) ?_
  first
    | exact ⟨T.vars.length - (k + 1), by omega, k + 1, rfl, by omega, Hp.le_trans le1 le2, e2, e3, e4, e5, by rw [hnx]; rfl, rfl⟩
    | exact ⟨T.vars.length - (k + 1), by omega, k + 1, rfl, by omega, le1, e2, e3, e4, e5, by rw [hnx]; exact e9, rfl⟩
  intro hc2
  have hki : ¬ T.parent.getD k 0 = (i : Int) := of_decide_eq_false hc2
  have hnx := kidF_next T i k b
  rw [if_neg hki] at hnx
  refine X6 ?_
  refine Xc (by kernel_rfl) ?_
  refine Xa (Xb Xi) ?_
  refine Xa (Yd rfl rfl Yk) ?_
  refine Xa (Xg rfl) ?_
  first
    | exact ⟨T.vars.length - (k + 1), by omega, k + 1, rfl, by omega, Hp.le_trans le1 le2, e2, e3, e4, e5, by rw [hnx]; rfl, rfl⟩
    | exact ⟨T.vars.length - (k + 1), by omega, k + 1, rfl, by omega, le1, e2, e3, e4, e5, by rw [hnx]; exact e9, rfl⟩
  intro hc1
  have hkl : ¬ k < T.vars.length := by have := of_decide_eq_false hc1; omega
  have hkv : k = T.vars.length := by omega
  rw [hkv, kidF_all hT] at e9
  refine Yj ?_
  refine Xf ?_
  refine Xc (by kernel_rfl) ?_
  refine Xa (Xb Xi) ?_
  refine Xa (Xg rfl) ?_
  refine X8 ?_
  exact ⟨_, Xv (Xx rfl), rfl, leH1⟩
set_option maxHeartbeats 1000000 in
theorem sum30 (f : Forest) (x : Parts) (hG : GoodP f x) (hlen : Lens f.vars.length x) (hsm : Small f x) (hch : Cheap x) (hF : ∀ v : Nat, v < f.vars.length → par f v ≠ -1 → Full f x v) {T : TreeT} (hTe : T = Yy f x) (hT : GoodT T) (i : Nat) (hi : i < T.vars.length)
    (hB : ∀ (b : Int) (cs ds : List Value) (H : Hp), kForest.rep H f cs → kParts.rep H x ds → ACalls Tryz.prog 30 #[.agg cs.toArray, .agg ds.toArray, .int .i64 i, .int .i64 b] H (fun r H' => r = .int .u64 (Z6 T T.vars.length i b) ∧ H.le H'))
    (a : Int) (cs ds : List Value) (H : Hp) (hp : kForest.rep H f cs) (hq : kParts.rep H x ds) :
    ACalls Tryz.prog 28 #[.agg cs.toArray, .agg ds.toArray, .int .i64 i, .int .i64 a] H (fun r H' => r = .int .u64 (Vq T T.vars.length i a) ∧ H.le H') := by
  have hp0 := hp
  have hq0 := hq
  obtain ⟨v0, v1, v2, v3, v4, rfl, hs0, hs1, hs2, hs3, hs4⟩ := hp
  obtain ⟨A0, c0, rfl⟩ := hs0.shape
  obtain ⟨A1, c1, rfl⟩ := hs1.shape
  obtain ⟨A2, c2, rfl⟩ := hs2.shape
  obtain ⟨A3, c3, rfl⟩ := hs3.shape
  obtain ⟨A4, c4, rfl⟩ := hs4.shape
  obtain ⟨u0, u1, rfl, hn0, hn1⟩ := hq
  obtain ⟨B0, d0, rfl⟩ := hn0.shape
  obtain ⟨B1, d1, rfl⟩ := hn1.shape
  obtain ⟨g, hgr⟩ : ∃ g, g = T.group (i : Int) a := ⟨_, rfl⟩
  have hgl := group_len hT.lens (i : Int) a
  rw [← hgr] at hgl
  have hsum := sum_is hT hi a
  rw [← hgr] at hsum
  have hgR : groupR f x (i : Int) a = g := by rw [← group_same hG hF, ← hTe, hgr]
  have hnn : ∀ y ∈ g, 0 ≤ y.n := fun y hy => (hT.group_mem (i := (i : Int)) (above := a) (by rw [← hgr]; exact hy)).2.2
  obtain ⟨K, hK⟩ : ∃ K, K = (H.push (.own 0 [.slice A0 f.vars.length c0, .slice A1 f.order.length c1, .slice A2 f.parent.length c2, .slice A3 f.links.length c3, .slice A4 f.loops.length c4])).push (.own 0 [.slice B0 x.nodes.length d0, .slice B1 x.links.length d1]) := ⟨_, rfl⟩
  have leK : H.le K := by rw [hK]; exact Hp.le_push' (H.le_push _) _
  have zK : K.size = H.size + 2 := by rw [hK]; simp
  have gK0 : K.get H.size = .own 0 [.slice A0 f.vars.length c0, .slice A1 f.order.length c1, .slice A2 f.parent.length c2, .slice A3 f.links.length c3, .slice A4 f.loops.length c4] := by rw [hK]; exact Yh
  have gK1 : K.get (H.size + 1) = .own 0 [.slice B0 x.nodes.length d0, .slice B1 x.links.length d1] := by rw [hK]; exact Yh
  refine Xu Tryz.func28 rfl rfl rfl (by simp) ?_
  refine Xf ?_
  refine Xc (by kernel_rfl) ?_
  refine X2 (Ym rfl) ?_
  refine X2 (Ym rfl) ?_
  refine Xa (Xg rfl) ?_
  refine Xf ?_
  refine Xc (by kernel_rfl) ?_
  refine Xa (Yc (cs := [.slice _ _ _, .slice _ _ _, .slice _ _ _, .slice _ _ _, .slice _ _ _]) rfl Tryz.underlying26 rfl inf26.size Yb) ?_
  refine Xa (Yc (cs := [.slice _ _ _, .slice _ _ _]) rfl Tryz.underlying29 rfl inf29.size Yb) ?_
  refine Xa (Xb rfl) ?_
  refine Xa (Xb rfl) ?_
  refine X5 (X0 (GroupR_ref f x _ _ (i : Int) a _ (kForest.mono Zo hp0) (kParts.mono Zo hq0) hG.gf hlen hsm hch) rfl Tryz.func59 rfl rfl rfl ?_)
  rintro v16 H2 ⟨le2, sl2⟩; rw [hgR] at sl2; obtain ⟨Ag, cg, rfl⟩ := sl2.shape; rw [← hK] at le2; have leH2 := Hp.le_trans leK le2
  refine Xa (Xg rfl) ?_
  refine Xa (X4 rfl) ?_
  refine Xf ?_
  refine Xf ?_
  refine Xc (by kernel_rfl) ?_
  refine Xa (Xg rfl) ?_
  refine X3 ?_
  refine Yt (fun n t H' => ∃ (m : Nat) (D : Option Addr), n = g.length - m ∧ m ≤ g.length ∧ H2.le H' ∧ Sl kLink H2 (.slice D g.length cg) g ∧ t 2 = .int .i64 i ∧ t 4 = .pointer (some ⟨H.size, 0, none⟩) ∧ t 5 = .pointer (some ⟨H.size + 1, 0, none⟩) ∧ t 9 = .int .u64 ((g.take m).foldl (fun s y => addI s (Yv y.n (Z6 T T.vars.length i y.b))) 0) ∧ t 10 = .slice D g.length cg ∧ t 11 = .int .i64 m) (g.length) (⟨0, _, rfl, Nat.zero_le _, Hp.le_refl _, sl2, rfl, rfl, rfl, rfl, rfl, rfl⟩) ?_
  rintro n t H3 ⟨m, D, rfl, hm, le3, slD, e2, e4, e5, e9, e10, e11⟩
  have le23 := Hp.le_trans le2 le3
  have g10 := Xt le23 (by omega) (by intro e; cases e) gK0
  have g11 := Xt le23 (by omega) (by intro e; cases e) gK1
  have z3 := le23.1
  have leH3 := Hp.le_trans leK le23
  refine Xf ?_
  refine Xf ?_
  refine Xc (by kernel_rfl) ?_
  refine Xa (Xb Xi) ?_
  refine Xa (Xw Xi) ?_
  refine Xa (Yl rfl Tryz.underlying68) ?_
  refine Xa (Yw rfl rfl) ?_
  refine X1 rfl rfl ?_ ?_
  intro hc1
  have hml : m < g.length := by have := of_decide_eq_true hc1; omega
  obtain ⟨bg, og, eg, hbg, hcg⟩ := (slD.mono le3.sees).link_at hml
  obtain ⟨l, hl⟩ : ∃ l, l = g[m] := ⟨_, rfl⟩
  rw [← hl] at hcg
  subst eg
  have hcg3 : H3.cell? bg (og + ((m : Int)).toNat * 4 + 3) = some (.int .u64 l.n) := hcg 3 _ rfl
  have hcg1 : H3.cell? bg (og + ((m : Int)).toNat * 4 + 1) = some (.int .i64 l.b) := hcg 1 _ rfl
  have hlg : l ∈ g := by rw [hl]; exact List.getElem_mem hml
  have hbel := belT_nonneg hT T.vars.length i l.b
  have hfg : 0 ≤ (g.take m).foldl (fun s y => addI s (Yv y.n (Z6 T T.vars.length i y.b))) 0 := fold_add (f := fun (y : Link) => Yv y.n (Z6 T T.vars.length i y.b)) (Int.le_refl 0) fun y hy => (Z2 (hnn y (List.mem_of_mem_take hy)) (belT_nonneg hT _ _ _)).1
  have hnx : addI ((g.take m).foldl (fun s y => addI s (Yv y.n (Z6 T T.vars.length i y.b))) 0) (Yv l.n (Z6 T T.vars.length i l.b)) = (g.take (m + 1)).foldl (fun s y => addI s (Yv y.n (Z6 T T.vars.length i y.b))) 0 := by
    rw [← Yr hml, List.foldl_append, ← hl]; rfl
  refine X6 ?_
  refine Xf ?_
  refine X3 ?_
  refine Ys (by kernel_rfl) (Y1 (B := [0, 0, 0, 6, 14, 30, 0, 0, 0, 0, 0, 1536, 3584, 7680, 16320, 32766, 65535, 131071]) (π := [0, 1, 2, 3, 4, 5, 6, 7, 8, 9, 10, 11, 12, 13, 14, 15, 16, 17]) (by kernel_rfl)) ?_
  refine Xd rfl rfl (Xb Xi) Xp ?_
  refine Xd rfl rfl (Xw Xi) Xp ?_
  refine Xd rfl rfl (Xb Xi) Xp ?_
  refine Xd rfl rfl (Xo rfl rfl Tryz.underlying68 inf78.size Xy Xy) Xp ?_
  refine Xd rfl rfl (Xh (off := 3) rfl Tryz.underlying78 rfl inf42.size (by decide) rfl) Xp ?_
  refine Xd rfl rfl (Xl rfl Tryz.underlying42 rfl Xq) Xp ?_
  refine Xd rfl rfl (Yc (cs := [.slice _ _ _, .slice _ _ _, .slice _ _ _, .slice _ _ _, .slice _ _ _]) Xi Tryz.underlying26 Xi inf26.size Yb) Xp ?_
  refine Xd rfl rfl (Yc (cs := [.slice _ _ _, .slice _ _ _]) Xi Tryz.underlying29 Xi inf29.size Yb) Xp ?_
  refine Xd rfl rfl (Xb Xi) Xp ?_
  refine Xd rfl rfl (Xw Xi) Xp ?_
  refine Xd rfl rfl (Xb Xi) Xp ?_
  refine Xd rfl rfl (Xo rfl rfl Tryz.underlying68 inf78.size Xy Xy) Xp ?_
  refine Xd rfl rfl (Xh (off := 1) rfl Tryz.underlying78 rfl inf3.size (by decide) rfl) Xp ?_
  refine Xd rfl rfl (Xl rfl Tryz.underlying3 rfl Xq) Xp ?_
  refine Yg rfl rfl (X0 (hB l.b _ _ _ (kForest.mono leH3.sees hp0) (kParts.mono leH3.sees hq0)) rfl Tryz.func30 rfl rfl rfl ?_)
  rintro v37 H4 ⟨rfl, le4⟩; have z4 := le4.1; have hsame : ∀ b ∈ [bg], H4.get b = H3.get b := (fun b hb => by rw [List.mem_singleton] at hb; subst hb; exact le4.2 _ hbg (fun e => by have h := hcg3; unfold Hp.cell? at h; rw [e] at h; cases h))
  refine ⟨Yf, ?_⟩
  refine Yg rfl rfl (X0 (timesR_u64 _ _ (hnn l hlg) hbel _) rfl Tryz.func48 rfl rfl rfl ?_)
  rintro v38 H4 ⟨rfl, rfl⟩
  refine ⟨Yf, ?_⟩
  refine Yg rfl rfl (X0 (addR_u64 _ _ hfg (Z2 (hnn l hlg) hbel).1 _) rfl Tryz.func60 rfl rfl rfl ?_)
  rintro v39 H4 ⟨rfl, rfl⟩
  refine ⟨Yf, ?_⟩
  refine Xd rfl rfl (Xg rfl) Xp ?_
  refine Xc (by kernel_rfl) ?_
  refine Xa (Xb Xi) ?_
  refine Xa (Yd rfl rfl Yk) ?_
  refine Xa (Xg rfl) ?_
  exact ⟨g.length - (m + 1), by omega, m + 1, _, rfl, by omega, Hp.le_trans le3 le4, slD, e2, e4, e5, congrArg (Value.int .u64) hnx, e10, rfl⟩
  intro hc1
  have hml : m = g.length := by have := of_decide_eq_false hc1; omega
  rw [hml, List.take_length, ← hsum] at e9
  refine Yj ?_
  refine Xf ?_
  refine Xc (by kernel_rfl) ?_
  refine Xa (Xb Xi) ?_
  refine Xa (Xg rfl) ?_
  refine X8 ?_
  exact ⟨_, Xv (Xx rfl), rfl, leH3⟩
theorem both30 (f : Forest) (x : Parts) (hG : GoodP f x) (hlen : Lens f.vars.length x) (hsm : Small f x) (hch : Cheap x) (hF : ∀ v : Nat, v < f.vars.length → par f v ≠ -1 → Full f x v) {T : TreeT} (hTe : T = Yy f x) (hT : GoodT T) : ∀ (m i : Nat), i < T.vars.length → T.vars.length - i ≤ m →
    (∀ (b : Int) (cs ds : List Value) (H : Hp), kForest.rep H f cs → kParts.rep H x ds → ACalls Tryz.prog 30 #[.agg cs.toArray, .agg ds.toArray, .int .i64 i, .int .i64 b] H (fun r H' => r = .int .u64 (Z6 T T.vars.length i b) ∧ H.le H')) ∧
    (∀ (a : Int) (cs ds : List Value) (H : Hp), kForest.rep H f cs → kParts.rep H x ds → ACalls Tryz.prog 28 #[.agg cs.toArray, .agg ds.toArray, .int .i64 i, .int .i64 a] H (fun r H' => r = .int .u64 (Vq T T.vars.length i a) ∧ H.le H'))
  | 0, i, h, h2 => by omega
  | m + 1, i, h, h2 => by
    have hb := below30 f x hG.gf hTe hT i h (fun k b cs ds H h3 h4 hp hq => (both30 f x hG hlen hsm hch hF hTe hT m k h4 (by omega)).2 b cs ds H hp hq)
    exact ⟨hb, sum30 f x hG hlen hsm hch hF hTe hT i h hb⟩
set_option maxHeartbeats 1000000 in
theorem has30 (f : Forest) (x : Parts) (hg : GoodF f) (hlen : Lens f.vars.length x) (hsm : Small f x) (i : Nat) (hi : i < f.vars.length) (b : Int) (cs ds : List Value) (H : Hp) (hp : kForest.rep H f cs) (hq : kParts.rep H x ds) :
    ACalls Tryz.prog 29 #[.agg cs.toArray, .agg ds.toArray, .int .i64 i, .int .i64 b] H (fun r H' => r = .bool ((nd x (Zr f i)).any fun y => decide (y.a = b)) ∧ H.le H') := by
  have hp0 := hp
  have hq0 := hq
  obtain ⟨v0, v1, v2, v3, v4, rfl, hs0, hs1, hs2, hs3, hs4⟩ := hp
  obtain ⟨A0, c0, rfl⟩ := hs0.shape
  obtain ⟨A1, c1, rfl⟩ := hs1.shape
  obtain ⟨A2, c2, rfl⟩ := hs2.shape
  obtain ⟨A3, c3, rfl⟩ := hs3.shape
  obtain ⟨A4, c4, rfl⟩ := hs4.shape
  obtain ⟨u0, u1, rfl, hn0, hn1⟩ := hq
  obtain ⟨B0, d0, rfl⟩ := hn0.shape
  obtain ⟨B1, d1, rfl⟩ := hn1.shape
  have hol : f.order.length = f.vars.length := hg.l1
  have hx1 := hlen.1
  have hs5 := hsm.s5
  obtain ⟨hwn, hwv⟩ := hg.vAt_lt hi
  obtain ⟨w, hw⟩ : ∃ w : Nat, w = Zr f i := ⟨_, rfl⟩
  rw [← hw] at hwn hwv
  obtain ⟨K, hK⟩ : ∃ K, K = (H.push (.own 0 [.slice A0 f.vars.length c0, .slice A1 f.order.length c1, .slice A2 f.parent.length c2, .slice A3 f.links.length c3, .slice A4 f.loops.length c4])).push (.own 0 [.slice B0 x.nodes.length d0, .slice B1 x.links.length d1]) := ⟨_, rfl⟩
  have leK : H.le K := by rw [hK]; exact Hp.le_push' (H.le_push _) _
  have zK : K.size = H.size + 2 := by rw [hK]; simp
  have gK0 : K.get H.size = .own 0 [.slice A0 f.vars.length c0, .slice A1 f.order.length c1, .slice A2 f.parent.length c2, .slice A3 f.links.length c3, .slice A4 f.loops.length c4] := by rw [hK]; exact Yh
  have gK1 : K.get (H.size + 1) = .own 0 [.slice B0 x.nodes.length d0, .slice B1 x.links.length d1] := by rw [hK]; exact Yh
  obtain ⟨ns, hns⟩ : ∃ ns, ns = nd x w := ⟨_, rfl⟩
  have hnl : ns.length ≤ 1000000 := by rw [hns]; exact Zz hs5 w
  refine Xu Tryz.func29 rfl rfl rfl (by simp) ?_
  refine Xf ?_
  refine Xc (by kernel_rfl) ?_
  refine X2 (Ym rfl) ?_
  refine X2 (Ym rfl) ?_
  refine Xa (Xr rfl) ?_
  refine Xf ?_
  refine Xf ?_
  refine Xc (by kernel_rfl) ?_
  refine Xa (Xb rfl) ?_
  refine Xa (Yw rfl rfl) ?_
  refine Xa (Xs rfl) ?_
  refine Ye rfl rfl rfl ?_ ?_
  intro hg1
  (have h := of_decide_eq_true hg1; omega)
  intro hg1
  have hp1 := hg1; try simp only [decide_eq_true_eq, decide_eq_false_iff_not, Bool.not_eq_true', Bool.not_eq_false'] at hp1
  refine Xm (Xk rfl rfl rfl hg1) (Xb rfl) ?_
  refine Xm (Xk rfl rfl rfl hg1) (Xh (off := 1) rfl Tryz.underlying26 rfl inf23.size (by decide) rfl) ?_
  refine Xm (Xk rfl rfl rfl hg1) (Xl rfl Tryz.underlying23 rfl Xq) ?_
  refine Xm (Xk rfl rfl rfl hg1) (Yl rfl Tryz.underlying23) ?_
  refine Xm (Xk rfl rfl rfl hg1) (av_ge rfl rfl) ?_
  refine Xa (Xn (congrArg Value.bool hg1) rfl) ?_
  refine X1 rfl rfl ?_ ?_
  intro hc2
  (have h := of_decide_eq_true hc2; omega)
  intro hc2
  (try simp only [decide_eq_true_eq, decide_eq_false_iff_not, Bool.not_eq_true', Bool.not_eq_false'] at hc2)
  refine X6 ?_
  refine Xf ?_
  change ACode true _ _ _ _ _ ((H.push (.own 0 [.slice A0 f.vars.length c0, .slice A1 f.order.length c1, .slice A2 f.parent.length c2, .slice A3 f.links.length c3, .slice A4 f.loops.length c4])).push (.own 0 [.slice B0 x.nodes.length d0, .slice B1 x.links.length d1]))
  rw [← hK]
  have s1K := hs1.mono leK.sees
  have n0K := hn0.mono leK.sees
  obtain ⟨bo, oo, eo, hbo, hco⟩ := s1K.int_at (i := (i : Int)) (by omega) (by omega)
  subst eo
  rw [Int.toNat_natCast, ← hwv] at hco
  obtain ⟨bn, on, ks, en, hbn, ⟨wn, rfl, hwn2⟩, hcn⟩ := n0K.elem_at (i := w) (by omega)
  subst en
  have hcn0 := hcn.one
  have ndw : nd x w = x.nodes[w]'(by omega) := Yz _
  rw [← ndw, ← hns] at hwn2
  obtain ⟨An, cn, rfl⟩ := hwn2.shape
  refine Ys (by kernel_rfl) (Y1 (B := [0, 1, 0, 4, 0, 28, 60, 127, 255, 511]) (π := [0, 1, 2, 3, 4, 5, 6, 7, 8, 9]) (by kernel_rfl)) ?_
  refine Xd rfl rfl (Xh (off := 0) rfl Tryz.underlying29 rfl inf27.size (by decide) rfl) Xp ?_
  refine Xd rfl rfl (Xl rfl Tryz.underlying27 rfl Xq) Xp ?_
  refine Xd rfl rfl (Xh (off := 1) rfl Tryz.underlying26 rfl inf23.size (by decide) rfl) Xp ?_
  refine Xd rfl rfl (Xl rfl Tryz.underlying23 rfl Xq) Xp ?_
  refine Xd rfl rfl (Xb rfl) Xp ?_
  refine Xd rfl rfl (Xo rfl rfl Tryz.underlying23 inf3.size Xy Xy) Xp ?_
  refine Xd rfl rfl (Xl rfl Tryz.underlying3 rfl Xq) Xp ?_
  refine Xd rfl rfl (Xo rfl rfl Tryz.underlying27 inf68.size Xy Xy) Xp ?_
  refine Xd rfl rfl (Xl rfl Tryz.underlying68 rfl Xq) Xp ?_
  refine Xd rfl rfl (X4 rfl) Xp ?_
  refine Xf ?_
  refine Xf ?_
  refine Xc (by kernel_rfl) ?_
  refine Xa (Xg rfl) ?_
  refine X3 ?_
  refine Yt (fun n t H' => ∃ (m : Nat) (D : Option Addr), n = ns.length - m ∧ m ≤ ns.length ∧ H' = K ∧ Sl kLink K (.slice D ns.length cn) ns ∧ (∀ j (h : j < ns.length), j < m → ns[j].a ≠ b) ∧ t 3 = .int .i64 b ∧ t 9 = .slice D ns.length cn ∧ t 10 = .int .i64 m) (ns.length) (⟨0, _, rfl, Nat.zero_le _, rfl, hwn2, fun j h h0 => by omega, rfl, rfl, rfl⟩) ?_
  rintro n t HX ⟨m, D, rfl, hm, rfl, slD, hno, e3, e9, e10⟩
  refine Xf ?_
  refine Xf ?_
  refine Xc (by kernel_rfl) ?_
  refine Xa (Xb Xi) ?_
  refine Xa (Xw Xi) ?_
  refine Xa (Yl rfl Tryz.underlying68) ?_
  refine Xa (Yw rfl rfl) ?_
  refine X1 rfl rfl ?_ ?_
  intro hc3
  have hml : m < ns.length := by have := of_decide_eq_true hc3; omega
  obtain ⟨bg, og, eg, hbg, hcg⟩ := slD.link_at hml
  subst eg
  have hcg0 : HX.cell? bg (og + ((m : Int)).toNat * 4 + 0) = some (.int .i64 ns[m].a) := hcg 0 _ rfl
  refine X6 ?_
  refine Xf ?_
  refine X3 ?_
  refine Xf ?_
  refine Xc (by kernel_rfl) ?_
  refine Xa (Xw Xi) ?_
  refine Xa (Xb Xi) ?_
  refine Xa (Xo rfl rfl Tryz.underlying68 inf78.size Xy Xy) ?_
  refine Xa (Xh (off := 0) rfl Tryz.underlying78 rfl inf3.size (by decide) rfl) ?_
  refine Xa (Xl rfl Tryz.underlying3 rfl Xq) ?_
  refine Xa (Xb Xi) ?_
  refine Xa (Z0 rfl rfl) ?_
  refine X1 rfl rfl ?_ ?_
  intro hc4
  have hyes : ns[m].a = b := of_decide_eq_true hc4
  refine Xf ?_
  refine Xc (by kernel_rfl) ?_
  refine Xa (Xr rfl) ?_
  refine X8 ?_
  exact ⟨.bool true, Xv (Xx rfl), by rw [← hw, ← hns]; congr 1; symm; exact List.any_eq_true.2 ⟨ns[m], List.getElem_mem hml, decide_eq_true hyes⟩, leK⟩
  intro hc4
  have hnot : ¬ ns[m].a = b := of_decide_eq_false hc4
  refine X6 ?_
  refine Xc (by kernel_rfl) ?_
  refine Xa (Xb Xi) ?_
  refine Xa (Yd rfl rfl Yk) ?_
  refine Xa (Xg rfl) ?_
  exact ⟨ns.length - (m + 1), by omega, m + 1, _, rfl, by omega, rfl, slD, fun j h h0 => by
    by_cases hj : j = m
    · subst hj; exact hnot
    · exact hno j h (by omega), e3, e9, rfl⟩
  intro hc3
  have hml : m = ns.length := by have := of_decide_eq_false hc3; omega
  refine Yj ?_
  refine Xf ?_
  refine Xc (by kernel_rfl) ?_
  refine Xa (Xr rfl) ?_
  refine X8 ?_
  exact ⟨.bool false, Xv (Xx rfl), by
    rw [← hw, ← hns]; congr 1; symm
    rw [List.any_eq_false]
    intro y hy
    obtain ⟨j, hj, rfl⟩ := List.getElem_of_mem hy
    simpa using hno j hj (by omega), leK⟩
theorem Below_cntR {T : TreeT} {cb tb : Nat} {H : Hp} (hc : CntR H cb tb T) (i : Nat) (hi : i < T.vars.length) (b : Int) :
    ACalls Tryz.prog 31 #[.pointer (some ⟨cb, 0, none⟩), .int .i64 i, .int .i64 b] H (fun r H' => ∃ n, r = .int .u64 n ∧ (hasB T i b → n = Z6 T T.vars.length i b) ∧ (¬ hasB T i b → n = 0) ∧ H' = H) := by
  obtain ⟨mb, ms, es1, es2, h1, h2, h3, h4, h5, h6, h7, h8⟩ := hc
  have hget := (h8.i1.get i b).1
  obtain ⟨q1, q2⟩ := h8.bel i b hi
  refine Xu Tryz.func31 rfl rfl rfl (by simp) ?_
  refine Xf ?_
  refine Xc (by kernel_rfl) ?_
  refine Xa (Xg rfl) ?_
  refine Xf ?_
  refine Xf ?_
  refine Xc (by kernel_rfl) ?_
  refine Xa (X9 rfl) ?_
  refine Xa (Vh rfl t_spot rfl Tryz.underlying57) ?_
  refine X1 rfl rfl ?_ ?_
  intro hc1
  (have h := hc1; simp at h)
  intro hc1
  (try simp only [decide_eq_true_eq, decide_eq_false_iff_not, Bool.not_eq_true', Bool.not_eq_false'] at hc1)
  refine X6 ?_
  refine Xf ?_
  refine Xc (by kernel_rfl) ?_
  refine Xa (X9 rfl) ?_
  refine Xa (Yo rfl) ?_
  refine Xa (Xh (off := 1) rfl Tryz.underlying92 rfl inf90.size (by decide) rfl) ?_
  refine Xa (Xl rfl Tryz.underlying90 rfl Xq) ?_
  refine Xa (Xb rfl) ?_
  refine Xa (Xb rfl) ?_
  refine Xa (Zb (pl := [(0, 1), (1, 1)]) (r := [.int .i64 _, .int .i64 _]) Tryz.underlying95 inf95.zero (by decide) rfl rfl) ?_
  refine Xa (Ur hget Tryz.underlying90 V8 inf42.zero (fun φ => .int _ _) rfl rfl ⟨_, _, rfl⟩ (.inl h5) h8.i1.keys) ?_
  refine Xa (Xg rfl) ?_
  refine X8 ?_
  exact ⟨_, Xv (Xx rfl), _, rfl, q1, q2, rfl⟩
theorem Sum_cntR {T : TreeT} (hT : GoodT T) {cb tb : Nat} {H : Hp} (hc : CntR H cb tb T) (i : Nat) (hi : i < T.vars.length) (a : Int) :
    ACalls Tryz.prog 32 #[.pointer (some ⟨cb, 0, none⟩), .int .i64 i, .int .i64 a] H (fun r H' => r = .int .u64 (Vq T T.vars.length i a) ∧ H' = H) := by
  refine Xu Tryz.func32 rfl rfl rfl (by simp) ?_
  refine Xf ?_
  refine Xc (by kernel_rfl) ?_
  refine Xa (Xg rfl) ?_
  refine Xf ?_
  refine Xf ?_
  refine Xc (by kernel_rfl) ?_
  refine Xa (X9 rfl) ?_
  refine Xa (Vh rfl t_spot rfl Tryz.underlying57) ?_
  refine X1 rfl rfl ?_ ?_
  intro hc1
  (have h := hc1; simp at h)
  intro hc1
  (try simp only [decide_eq_true_eq, decide_eq_false_iff_not, Bool.not_eq_true', Bool.not_eq_false'] at hc1)
  refine X6 ?_
  refine Xf ?_
  refine Xc (by kernel_rfl) ?_
  refine Xa (X9 rfl) ?_
  refine Xa (Xb rfl) ?_
  refine Xa (Xb rfl) ?_
  refine X5 (X0 (sum_cntR hT hc i hi a) rfl Tryz.func62 rfl rfl rfl ?_)
  rintro v12 H ⟨rfl, rfl⟩
  refine Xa (Xg rfl) ?_
  refine X8 ?_
  exact ⟨_, Xv (Xx rfl), rfl, rfl⟩
theorem small30_forest (f : Forest) (cs : List Value) (H : Hp) (hp : kForest.rep H f cs) : ACalls Tryz.prog 24 #[.agg cs.toArray] H (fun r H' => r = .bool (decide (f.vars.length < 6)) ∧ H' = H) := by
  refine ACalls.pure (R := fun r => r = .bool (decide (f.vars.length < 6))) (fun v h => by rw [h]; rfl) ?_
  obtain ⟨v0, v1, v2, v3, v4, rfl, hs0, hs1, hs2, hs3, hs4⟩ := kForest.mono H.sees_ro hp
  obtain ⟨A0, c0, rfl⟩ := hs0.shape
  obtain ⟨A1, c1, rfl⟩ := hs1.shape
  obtain ⟨A2, c2, rfl⟩ := hs2.shape
  obtain ⟨A3, c3, rfl⟩ := hs3.shape
  obtain ⟨A4, c4, rfl⟩ := hs4.shape
  refine Xu Tryz.func24 rfl rfl rfl (by simp) ?_
  refine Xf ?_
  refine Xc (by kernel_rfl) ?_
  refine X2 (Ym rfl) ?_
  refine Xa (Xr rfl) ?_
  refine Xf ?_
  refine Xc (by kernel_rfl) ?_
  refine Xa (Xh (off := 0) rfl Tryz.underlying26 rfl inf22.size (by decide) rfl) ?_
  refine Xa (Xl rfl Tryz.underlying22 rfl Xq) ?_
  refine Xa (Yl rfl Tryz.underlying22) ?_
  refine Xa (Yw rfl rfl) ?_
  refine Xa (Xr rfl) ?_
  refine X8 ?_
  refine ⟨.bool (decide ((f.vars.length : Int) < 6)), Xv (Xx rfl), ?_⟩
  congr 1
  exact decide_eq_decide.2 (by omega)
end Go.Proofs.YtcaeoebphfjfiaaGreat.Am


/- What is told of no tree and of no walk; the small living call of the statements on walks. -/
namespace Go.Proofs.YtcaeoebphfjfiaaGreat.Am
open Go Go.RowKit
set_option maxRecDepth 100000
set_option linter.unusedVariables false
set_option linter.unusedSimpArgs false

end Go.Proofs.YtcaeoebphfjfiaaGreat.Am


/- The statement CountsBelow, as the abstract machine runs it. -/
namespace Go.Proofs.YtcaeoebphfjfiaaGreat.Am
open Go Go.RowKit
set_option maxRecDepth 100000
set_option linter.unusedVariables false
set_option linter.unusedSimpArgs false

theorem beh_rows {T : TreeT} (hT : GoodT T) (hn : ∀ i a, ∀ x ∈ T.group i a, 1 ≤ x.n) {rows : List RowT} (hrm : rows.map RowT.nodes = extN T T.vars.length []) (hrl : rows.length ≤ 1000000) (N : List Int) :
    (behT T N = 0 ↔ (rows.filter fun r => decide (r.nodes.take N.length = N)).length = 0) ∧ ((rows.filter fun r => decide (r.nodes.take N.length = N)).length : Int) ≤ behT T N := by
  have hk : (rows.filter fun r => decide (r.nodes.take N.length = N)).length = ((extN T T.vars.length []).filter fun ns => decide (ns.take N.length = N)).length := by
    rw [← hrm, List.filter_map, List.length_map]; rfl
  have hkl : (rows.filter fun r => decide (r.nodes.take N.length = N)).length ≤ 1000000 := Nat.le_trans (List.length_filter_le _ _) hrl
  by_cases h : N.length ≤ T.vars.length ∧ Path T N
  · rw [behT_cnt hT h.1 h.2, cap_zero]
    rw [ext_preC hT h.2 h.1 N.length T.vars.length [] (by simp) (by simp) (by simp)] at hk
    obtain ⟨h1, h2⟩ := ext_cnt hT hn (T.vars.length - N.length) N (by omega)
    refine ⟨⟨fun h3 => by omega, fun h3 => h2 (List.length_eq_zero_iff.1 (by omega))⟩, ?_⟩
    unfold capI Y3
    omega
  · have hnil : ((extN T T.vars.length []).filter fun ns => decide (ns.take N.length = N)) = [] := by
      rw [List.filter_eq_nil_iff]
      intro r hr he
      have he := of_decide_eq_true he
      obtain ⟨m1, _⟩ := mem_ext _ _ _ hr
      simp only [List.length_nil, Nat.zero_add] at m1
      have hl : N.length ≤ T.vars.length := by
        have := congrArg List.length he
        rw [List.length_take] at this
        omega
      refine h ⟨hl, ?_⟩
      have hp := ext_pathC hT T.vars.length [] r (by simp) (fun i hi => by simp at hi) hr
      have := path_take hT (k := N.length) hp (by omega)
      rwa [he] at this
    rw [behT_none hT h, hk, hnil]
    simp
theorem filt_next {rows : List RowT} {q : RowT → Bool} {i : Nat} (h : i < rows.length) : ((rows.take (i + 1)).filter q).length = ((rows.take i).filter q).length + (if q rows[i] = true then 1 else 0) := by
  rw [← Yr h, List.filter_append, List.length_append, List.filter_cons]
  split <;> simp
theorem find_one {r N : List Int} {c m : Int} : (findRow [(⟨r, c, m⟩ : RowT)] N = 0) ↔ r = N := by
  rcases findRow_cases [(⟨r, c, m⟩ : RowT)] N with ⟨h1, h2⟩ | ⟨i, h1, hi, h2⟩
  · rw [h1]
    exact ⟨fun h => absurd h (by decide), fun h => absurd h (h2 ⟨r, c, m⟩ (by simp))⟩
  · have : i = 0 := by simpa using hi
    subst this
    rw [h1]
    exact ⟨fun _ => h2, fun _ => rfl⟩
theorem few_links {f : Forest} {p x : Parts} (hs : Sub x p.few4) (hn : ∀ v, (nd p.few4 v).length ≤ 4) : ∀ l ∈ (Yy f x).links, l.length ≤ 1000 := fun l hl => by
  obtain ⟨v, _, rfl⟩ := List.mem_map.1 hl
  unfold Y4
  split
  · have := (hs v.toNat).1.length_le
    have := hn v.toNat
    omega
  · rw [List.length_map]
    have h1 := (hs v.toNat).2.length_le
    have h2 : (lk p.few4 v.toNat).length ≤ 25 := by
      unfold lk
      rw [List.getD_eq_getElem?_getD]
      cases h : p.few4.links[v.toNat]? with
      | none => simp
      | some l =>
        obtain ⟨y, _, rfl⟩ := List.mem_map.1 (show l ∈ (p.links.take 8).map Z5 from List.mem_of_getElem? h)
        show (Z5 y).length ≤ 25
        unfold Z5
        rw [List.length_map, List.length_take]; omega
    omega
set_option maxHeartbeats 8000000 in
theorem CountsBelow_ok (f : Forest) (p : Parts) (ns : List Int) (cs ds : List Value) (vn : Value) (H : Hp) (hp : kForest.rep H f cs) (hq : kParts.rep H p ds) (hn : Sl (Y6 .i64) H vn ns) (hbf : BigF f) (hbp : BigP p) (hbn : ns.length ≤ 9223372036854775807) :
    ACalls Tryz.prog 5 #[.agg cs.toArray, .agg ds.toArray, vn] H (fun r H' => r = .bool true ∧ H.le H') := by
  have hp0 := hp
  have hq0 := hq
  obtain ⟨v0, v1, v2, v3, v4, rfl, hs0, hs1, hs2, hs3, hs4⟩ := hp
  obtain ⟨A0, c0, rfl⟩ := hs0.shape
  obtain ⟨A1, c1, rfl⟩ := hs1.shape
  obtain ⟨A2, c2, rfl⟩ := hs2.shape
  obtain ⟨A3, c3, rfl⟩ := hs3.shape
  obtain ⟨A4, c4, rfl⟩ := hs4.shape
  obtain ⟨u0, u1, rfl, hn0, hn1⟩ := hq
  obtain ⟨B0, d0, rfl⟩ := hn0.shape
  obtain ⟨B1, d1, rfl⟩ := hn1.shape
  obtain ⟨An, cn, rfl⟩ := hn.shape
  have hsm := small_few f p
  have hbq := bigP_few p
  have hbg := bigF_few f
  have hpp := few4_few4 p
  have hff := ffew_ffew f
  have htn : GoodP f.few p.few4 → f.few.vars.length < 6 → Tiny f.few p.few4 := tiny_few
  have hch : GoodP f.few p.few4 → Cheap p.few4 := cheap_few
  have hvar := few_vars f
  obtain ⟨F, hF⟩ : ∃ F, F = f.few := ⟨_, rfl⟩
  obtain ⟨Q, hQ⟩ : ∃ Q, Q = p.few4 := ⟨_, rfl⟩
  obtain ⟨N, hN⟩ : ∃ N, N = ns.take 6 := ⟨_, rfl⟩
  have hNl : N.length ≤ 6 := by rw [hN, List.length_take]; omega
  have hNN : N.take 6 = N := List.take_of_length_le hNl
  rw [← hF, ← hQ] at hsm htn hch
  rw [← hQ] at hpp hbq
  rw [← hF] at hff hbg hvar
  refine Xu Tryz.func5 rfl rfl rfl (by simp) ?_
  refine Xf ?_
  refine Xc (by kernel_rfl) ?_
  refine X2 (Ym rfl) ?_
  refine X2 (Ym rfl) ?_
  refine Xa (Xr rfl) ?_
  refine Xf ?_
  refine Ys (by kernel_rfl) (Y1 (B := [0, 1, 0, 7, 0, 31, 63, 127, 255]) (π := [0, 2, 4, 1, 3, 5, 6, 7, 8]) (by kernel_rfl)) ?_
  refine Xd rfl rfl (Yc (cs := [.slice _ _ _, .slice _ _ _, .slice _ _ _, .slice _ _ _, .slice _ _ _]) rfl Tryz.underlying26 rfl inf26.size Yb) Xp ?_
  refine Xd rfl rfl (Yc (cs := [.slice _ _ _, .slice _ _ _]) rfl Tryz.underlying29 rfl inf29.size Yb) Xp ?_
  refine Xd rfl rfl (Xw rfl) Xp ?_
  refine Yg rfl rfl (X0 (Forest_28 f _ _ (kForest.mono Zo hp0) hbf) rfl Tryz.func7 rfl rfl rfl ?_)
  rintro v5 H5 ⟨hle5, es, rfl, hes⟩; rw [← hF] at hes; have hf5 := hes; obtain ⟨a0, a1, a2, a3, a4, rfl, ht0, ht1, ht2, ht3, ht4⟩ := hes; obtain ⟨C0, k0, rfl⟩ := ht0.shape; obtain ⟨C1, k1, rfl⟩ := ht1.shape; obtain ⟨C2, k2, rfl⟩ := ht2.shape; obtain ⟨C3, k3, rfl⟩ := ht3.shape; obtain ⟨C4, k4, rfl⟩ := ht4.shape; have hz5 := hle5.1; simp only [Hp.push_size] at hz5
  refine ⟨Yf, ?_⟩
  refine Yg rfl rfl (X0 (Few4_parts p _ _ (kParts.mono Zo hq0) hbp.l0 hbp.l1 hbp.s0 hbp.s1) rfl Tryz.func8 rfl rfl rfl ?_)
  rintro v6 H6 ⟨hle6, es, rfl, hes⟩; rw [← hQ] at hes; have hq6 := hes; obtain ⟨b0, b1, rfl, hm0, hm1⟩ := hes; obtain ⟨D0, m0, rfl⟩ := hm0.shape; obtain ⟨D1, m1, rfl⟩ := hm1.shape; have hz6 := hle6.1; have hf6 := kForest.mono hle6.sees hf5
  refine ⟨Yf, ?_⟩
  refine Yg rfl rfl (X0 (Ug ns _ 6 _ (hn.mono Zo) hbn (by omega) (by omega)) rfl Tryz.func22 rfl rfl rfl ?_)
  rintro v7 H7 ⟨hle7, hs7⟩; change Sl (Y6 .i64) H7 v7 (ns.take 6) at hs7; rw [← hN] at hs7; obtain ⟨E0, n0, rfl⟩ := hs7.shape; have hz7 := hle7.1; have hf7 := kForest.mono hle7.sees hf6; have hq7 := kParts.mono hle7.sees hq6; have h70 : H7.get H.size = .own 0 [.slice A0 f.vars.length c0, .slice A1 f.order.length c1, .slice A2 f.parent.length c2, .slice A3 f.links.length c3, .slice A4 f.loops.length c4] := Xt (Hp.le_trans hle5 (Hp.le_trans hle6 hle7)) (by simp <;> omega) (by intro e; cases e) Yh; have h71 : H7.get (H.size + 1) = .own 0 [.slice B0 p.nodes.length d0, .slice B1 p.links.length d1] := Xt (Hp.le_trans hle5 (Hp.le_trans hle6 hle7)) (by simp <;> omega) (by intro e; cases e) Yh
  refine ⟨Yf, ?_⟩
  refine Yg rfl rfl (Yq (vs := [.slice _ _ _, .slice _ _ _, .slice _ _ _, .slice _ _ _, .slice _ _ _]) rfl rfl inf26.size Yh Yp rfl rfl ?_)
  refine ⟨Yf, ?_⟩
  refine Yg rfl rfl (Yq (vs := [.slice _ _ _, .slice _ _ _]) rfl rfl inf29.size Yh Yp rfl rfl ?_)
  refine ⟨Yf, ?_⟩
  refine Xd rfl rfl (X4 rfl) Xp ?_
  refine Xf ?_
  obtain ⟨HA, hHA⟩ : ∃ HA, HA = (H7.put H.size (.own 0 [.slice C0 F.vars.length k0, .slice C1 F.order.length k1, .slice C2 F.parent.length k2, .slice C3 F.links.length k3, .slice C4 F.loops.length k4])).put (H.size + 1) (.own 0 [.slice D0 Q.nodes.length m0, .slice D1 Q.links.length m1]) := ⟨_, rfl⟩
  have g5 : H7.sees (H7.put H.size (.own 0 [.slice C0 F.vars.length k0, .slice C1 F.order.length k1, .slice C2 F.parent.length k2, .slice C3 F.links.length k3, .slice C4 F.loops.length k4])) := Hp.sees_box _ h70
  have g6 : (H7.put H.size (.own 0 [.slice C0 F.vars.length k0, .slice C1 F.order.length k1, .slice C2 F.parent.length k2, .slice C3 F.links.length k3, .slice C4 F.loops.length k4])).sees HA := by rw [hHA]; exact Hp.sees_box _ (by rw [Hp.put_other _ _ (by omega)]; exact h71)
  have fA := kForest.mono (g5.trans g6) hf7
  have qA := kParts.mono (g5.trans g6) hq7
  have nA := hs7.mono (g5.trans g6)
  have leA : H.le HA := by rw [hHA]; exact Hp.le_put_new (Hp.le_put_new (Hp.le_trans (Hp.le_trans (Hp.le_push' (H.le_push _) _) hle5) (Hp.le_trans hle6 hle7)) (by omega) _) (by omega) _
  have zA : H.size + 2 ≤ HA.size := by rw [hHA]; simp; omega
  have A0' : HA.get H.size = .own 0 [.slice C0 F.vars.length k0, .slice C1 F.order.length k1, .slice C2 F.parent.length k2, .slice C3 F.links.length k3, .slice C4 F.loops.length k4] := by rw [hHA, Hp.put_other _ _ (by omega)]; exact Hp.put_same _ _ _
  have A1' : HA.get (H.size + 1) = .own 0 [.slice D0 Q.nodes.length m0, .slice D1 Q.links.length m1] := by rw [hHA]; exact Hp.put_same _ _ _
  change ACode true _ _ _ _ _ ((H7.put H.size (.own 0 [.slice C0 F.vars.length k0, .slice C1 F.order.length k1, .slice C2 F.parent.length k2, .slice C3 F.links.length k3, .slice C4 F.loops.length k4])).put (H.size + 1) (.own 0 [.slice D0 Q.nodes.length m0, .slice D1 Q.links.length m1]))
  rw [← hHA]
  clear hHA g5 g6 h70 h71 hf7 hq7 hf6 hq6 hle5 hle6 hle7 hz5 hz6 hz7 hf5 hs7
  refine Ys (by kernel_rfl) (Y1 (B := [0, 1, 0, 7, 15, 31, 63, 63, 127, 511]) (π := [0, 2, 1, 3, 4, 5, 6, 7, 8, 9]) (by kernel_rfl)) ?_
  refine Xd rfl rfl (Yc (cs := [.slice _ _ _, .slice _ _ _, .slice _ _ _, .slice _ _ _, .slice _ _ _]) rfl Tryz.underlying26 rfl inf26.size Yb) Xp ?_
  refine Xd rfl rfl (Yc (cs := [.slice _ _ _, .slice _ _ _]) rfl Tryz.underlying29 rfl inf29.size Yb) Xp ?_
  refine Yg rfl rfl (X0 (Forest_28 F _ _ fA hbg) rfl Tryz.func7 rfl rfl rfl ?_)
  rintro v8 H8 ⟨hle8, es, rfl, hes⟩; rw [hff] at hes; have f8 := hes; obtain ⟨a5, a6, a7, a8, a9, rfl, hu0, hu1, hu2, hu3, hu4⟩ := hes; obtain ⟨E1, l1, rfl⟩ := hu0.shape; obtain ⟨E2, l2, rfl⟩ := hu1.shape; obtain ⟨E3, l3, rfl⟩ := hu2.shape; obtain ⟨E4, l4, rfl⟩ := hu3.shape; obtain ⟨E5, l5, rfl⟩ := hu4.shape
  refine ⟨Yf, ?_⟩
  refine Yg rfl rfl (X0 (Few4_parts Q _ _ (kParts.mono hle8.sees qA) hbq.l0 hbq.l1 hbq.s0 hbq.s1) rfl Tryz.func8 rfl rfl rfl ?_)
  rintro v9 H9 ⟨hle9, es, rfl, hes⟩; rw [hpp] at hes; have q9 := hes; obtain ⟨b2, b3, rfl, hm2, hm3⟩ := hes; obtain ⟨D2, m2, rfl⟩ := hm2.shape; obtain ⟨D3, m3, rfl⟩ := hm3.shape
  refine ⟨Yf, ?_⟩
  refine Yg rfl rfl (X0 (New_tree F Q _ _ _ (kForest.mono hle9.sees f8) q9 hsm hch) rfl Tryz.func9 rfl rfl rfl ?_)
  rintro v10 HB ⟨hle10, g, tv, hg, rfl, htv⟩
  refine ⟨Yf, ?_⟩
  refine Xd rfl rfl (Va rfl) Xp ?_
  refine Xd rfl rfl (Zi rfl rfl) Xp ?_
  refine Xd rfl rfl (Zi rfl rfl) Xp ?_
  refine Xd rfl rfl (Vc rfl) Xp ?_
  refine Xd rfl rfl (Xg rfl) Xp ?_
  refine Xf ?_
  refine Xf ?_
  have leAB := Hp.le_trans hle8 (Hp.le_trans hle9 hle10)
  have leB := Hp.le_trans leA leAB
  have zAB := leAB.1
  have fB := kForest.mono leAB.sees fA
  have qB := kParts.mono leAB.sees qA
  have nB := nA.mono leAB.sees
  have B0' := Xt leAB (by omega) (by intro e; cases e) A0'
  have B1' := Xt leAB (by omega) (by intro e; cases e) A1'
  clear hle8 hle9 hle10 f8 q9 hm2 hm3 hu0 hu1 hu2 hu3 hu4
  obtain ⟨bf, hbf2⟩ : ∃ bf : Bool, (bf = true ↔ GoodP F Q) := by
    by_cases h : GoodP F Q
    · exact ⟨true, fun _ => h, fun _ => rfl⟩
    · exact ⟨false, fun e => (by cases e), fun e => absurd e h⟩
  refine ac_cut (fun t H' => H' = HB ∧ t 2 = .slice E0 N.length n0 ∧ t 3 = .pointer (some ⟨H.size, 0, none⟩) ∧ t 4 = .pointer (some ⟨H.size + 1, 0, none⟩) ∧ t 7 = tv ∧ t 8 = .int .i64 (if g = true then 0 else 1) ∧ t 41 = .bool (!(bf && decide (F.vars.length < 6)))) ?_ ?_
  refine Xc (by kernel_rfl) ?_
  refine Xa (Yc (cs := [.slice _ _ _, .slice _ _ _, .slice _ _ _, .slice _ _ _, .slice _ _ _]) rfl Tryz.underlying26 rfl inf26.size Yb) ?_
  refine Xa (Yc (cs := [.slice _ _ _, .slice _ _ _]) rfl Tryz.underlying29 rfl inf29.size Yb) ?_
  refine X5 (X0 (GoodP_ref F Q _ _ _ fB qB hsm) rfl Tryz.func23 rfl rfl rfl ?_)
  rintro v35 HB ⟨⟨b', rfl, hb'⟩, rfl⟩; obtain rfl : b' = bf := (by rw [Bool.eq_iff_iff]; exact hb'.trans hbf2.symm)
  refine Xa (Vo rfl) ?_
  refine Xa (Xs rfl) ?_
  refine Ye rfl rfl rfl ?_ ?_
  intro hg1
  have hbf0 : b' = false := by have h := hg1; simpa using h
  refine Xe (Xj rfl rfl rfl hg1 rfl) ?_
  refine Xe (Xj rfl rfl rfl hg1 rfl) ?_
  refine Xe (Xj rfl rfl rfl hg1 rfl) ?_
  refine Xa (Xn (congrArg Value.bool hg1) rfl) ?_
  exact ⟨rfl, rfl, rfl, rfl, rfl, rfl, congrArg Value.bool (by rw [hbf0]; simp)⟩
  intro hg1
  have hbf0 : b' = true := by have h := hg1; simpa using h
  refine Xm (Xk rfl rfl rfl hg1) (Yc (cs := [.slice _ _ _, .slice _ _ _, .slice _ _ _, .slice _ _ _, .slice _ _ _]) rfl Tryz.underlying26 rfl inf26.size Yb) ?_
  refine Zm (Xk rfl rfl rfl hg1) (X0 (small30_forest F _ _ fB) rfl Tryz.func24 rfl rfl rfl ?_)
  rintro v39 HB ⟨rfl, rfl⟩
  refine Xm (Xk rfl rfl rfl hg1) (Vo rfl) ?_
  refine Xa (Xn (congrArg Value.bool hg1) rfl) ?_
  exact ⟨rfl, rfl, rfl, rfl, rfl, rfl, congrArg Value.bool (by rw [hbf0]; simp)⟩
  rintro t HB ⟨rfl, e2, e3, e4, e7, e8, e41⟩
  refine X1 Xi rfl ?_ ?_
  intro hc2
  have hbad : ¬ (GoodP F Q ∧ F.vars.length < 6) := fun h => by have h2 := hc2; rw [hbf2.2 h.1, decide_eq_true h.2] at h2; cases h2
  refine Xf ?_
  refine Xc (by kernel_rfl) ?_
  refine Xa (Xb Xi) ?_
  refine Xa (Vk rfl rfl) ?_
  refine Xa (Xs rfl) ?_
  refine Ye rfl rfl rfl ?_ ?_
  intro hg3
  have hgf : True := trivial
  refine Xe (Xj rfl rfl rfl hg3 rfl) ?_
  refine Xe (Xj rfl rfl rfl hg3 rfl) ?_
  refine Xe (Xj rfl rfl rfl hg3 rfl) ?_
  refine Xa (Xn (congrArg Value.bool hg3) Xi) ?_
  refine Xa (Xs rfl) ?_
  refine Zm (Xk rfl rfl rfl rfl) (X0 (lives30_ok _) rfl Tryz.func25 rfl rfl rfl ?_)
  rintro v H' ⟨rfl, hlv⟩
  refine Xa (Xn (congrArg Value.bool rfl) rfl) ?_
  refine Xa (Xr rfl) ?_
  refine X8 ?_
  exact ⟨.bool true, Xv (Xx rfl), rfl, Hp.le_trans leB hlv⟩
  intro hg3
  have hgt : g = true := by cases g with | true => rfl | false => exact absurd hg3 (by simp)
  have hmany : ¬ F.vars.length < 6 := fun h => hbad ⟨hg.1 hgt, h⟩
  refine Xm (Xk rfl rfl rfl hg3) (Yc (cs := [.slice _ _ _, .slice _ _ _, .slice _ _ _, .slice _ _ _, .slice _ _ _]) Xi Tryz.underlying26 Xi inf26.size Yb) ?_
  refine Zm (Xk rfl rfl rfl hg3) (X0 (small30_forest F _ _ fB) rfl Tryz.func24 rfl rfl rfl ?_)
  rintro v46 HB ⟨rfl, rfl⟩
  refine Xm (Xk rfl rfl rfl hg3) (Vo rfl) ?_
  refine Xa (Xn (congrArg Value.bool hg3) rfl) ?_
  refine Xa (Xs rfl) ?_
  refine Ye rfl rfl rfl ?_ ?_
  intro hg4
  have hp4 := hg4; try simp only [decide_eq_true_eq, decide_eq_false_iff_not, Bool.not_eq_true', Bool.not_eq_false'] at hp4
  refine Zm (Xk rfl rfl rfl hg4) (X0 (lives30_ok _) rfl Tryz.func25 rfl rfl rfl ?_)
  rintro v H' ⟨rfl, hlv⟩
  refine Xa (Xn (congrArg Value.bool hg4) rfl) ?_
  refine Xa (Xr rfl) ?_
  refine X8 ?_
  exact ⟨.bool true, Xv (Xx rfl), rfl, Hp.le_trans leB hlv⟩
  intro hg4
  (have h := hg4; simp at h; omega)
  intro hc2
  have hgs : bf = true ∧ F.vars.length < 6 := by have h := hc2; simpa using h
  obtain ⟨hbt, hsix⟩ := hgs
  have hG := hbf2.1 hbt
  obtain rfl : g = true := hg.2 hG
  rw [if_pos rfl] at htv
  obtain ⟨tb, _, _, _, _, _, etv, _⟩ := id htv
  subst etv
  have ht := htn hG hsix
  obtain ⟨k1', k2', k3', k4'⟩ := Vx hG
  have hX := ofP_good hG
  have hsx := small_sub hsm k1' k2'
  have hcx := (hch hG).sub k2'
  have hT := good_tree hX hsx hcx (by omega)
  have hRE := reach_tree hG hT
  have hFA : FewA (Yy F (Uc F Q)) := by
    refine fewA_of ?_
    have hn4 := ht.nodes
    have k2'' := k2'
    rw [hQ] at k2'' hn4 ⊢
    exact few_links k2'' hn4
  have hpos := fun i a z hz => (group_pos hX k3' i a z hz).1
  have hwant := refOf_eq hG
  obtain ⟨hrm, hrr⟩ := rows_ext hG
  have hol : F.order.length = F.vars.length := hG.gf.l1
  obtain ⟨tl1, tl2, tl3⟩ := Vj (f := F) (Uc F Q)
  have hrl : (Yu F Q).length ≤ 1024 := Nat.le_trans (rowsK_len ht F.order.length) (Nat.pow_le_pow_right (by omega) (by omega : F.order.length ≤ 5))
  have hrn : ∀ r ∈ Yu F Q, r.nodes.length = F.vars.length := fun r hr => by have := rows_len (f := F) (p := Q) F.order.length r hr; omega
  have hhas := fun {i : Nat} (hi : i < F.vars.length) (b : Int) => hasB_nd hX k3' hi b
  obtain ⟨X, hXe⟩ : ∃ X, X = Uc F Q := ⟨_, rfl⟩
  rw [← hXe] at htv hT hX hsx hcx hwant k1' k2' k3' hRE hFA hrm tl1 tl2 tl3
  simp only [← hXe] at hhas hpos
  obtain ⟨T, hTe⟩ : ∃ T, T = Yy F X := ⟨_, rfl⟩
  rw [← hTe] at htv hT hRE hFA hrm tl1 tl2 tl3
  simp only [← hTe] at hhas hpos
  obtain ⟨rows, hrows⟩ : ∃ rows, rows = Yu F Q := ⟨_, rfl⟩
  rw [← hrows] at hrm hrl
  simp only [← hrows] at hrn
  have hvl : T.vars.length = F.vars.length := tl1.trans hol
  rw [← hvl] at hrm
  have hbr := beh_rows hT hpos hrm (by omega) N
  refine X6 ?_
  refine Xf ?_
  refine Ys (by kernel_rfl) (Y1 (B := [0, 1, 0, 0, 15, 0, 63, 127]) (π := [0, 2, 3, 5, 1, 4, 6, 7]) (by kernel_rfl)) ?_
  refine Xd rfl rfl (X9 Xi) Xp ?_
  refine Xd rfl rfl (Yc (cs := [.slice _ _ _, .slice _ _ _, .slice _ _ _, .slice _ _ _, .slice _ _ _]) Xi Tryz.underlying26 Xi inf26.size Yb) Xp ?_
  refine Xd rfl rfl (Yc (cs := [.slice _ _ _, .slice _ _ _]) Xi Tryz.underlying29 Xi inf29.size Yb) Xp ?_
  refine Y5 rfl rfl (Y9 (l := [.slice none 0 0, .slice none 0 0]) inf29.zero rfl (by decide)) ?_
  refine Yg rfl rfl (X0 (New_cnt hT hFA hRE _ (htv.mono (HB.le_push _))) rfl Tryz.func26 rfl rfl rfl ?_)
  rintro v53 HC1 ⟨leC1, cb, rfl, hcc⟩; have zC1 := leC1.1; simp only [Hp.push_size] at zC1; have leBC1 := Hp.le_trans (HB.le_push (.own 0 [.slice none 0 0, .slice none 0 0])) leC1; have gb1 : HC1.get HB.size = .own 0 [.slice none 0 0, .slice none 0 0] := Xt leC1 (by simp) (by intro e; cases e) (Hp.push_new _ _); have C0' := Xt leBC1 (by omega) (by intro e; cases e) B0'; have C1' := Xt leBC1 (by omega) (by intro e; cases e) B1'
  refine ⟨Yf, ?_⟩
  refine Yg rfl rfl (X0 (Of_ref F Q _ _ _ (kForest.mono leBC1.sees fB) (kParts.mono leBC1.sees qB) hG hsm ht) rfl Tryz.func27 rfl rfl rfl ?_)
  rintro v56 H18 ⟨G18, N18, L18, hle18, rfl, hpp18⟩; rw [hwant] at hpp18; have hleC18 := Hp.le_trans hle18 hpp18.le; obtain ⟨D8, m8, rfl⟩ := hpp18.slN.shape; obtain ⟨D9, m9, rfl⟩ := hpp18.slL.shape
  refine ⟨Yf, ?_⟩
  refine Xd rfl rfl (Zt rfl) Xp ?_
  refine Yg rfl rfl (Yq (vs := [.slice _ _ _, .slice _ _ _]) rfl rfl inf29.size Yh Yp rfl rfl ?_)
  refine ⟨Yf, ?_⟩
  refine Xf ?_
  refine Xf ?_
  have h18b := Xt hleC18 (by omega) (by intro e; cases e) gb1
  obtain ⟨HD, hHD⟩ : ∃ HD, HD = H18.put HB.size (.own 0 [.slice D8 X.nodes.length m8, .slice D9 X.links.length m9]) := ⟨_, rfl⟩
  have le18 : H18.sees HD := by rw [hHD]; exact Hp.sees_box _ h18b
  have leBD : HB.le HD := by rw [hHD]; exact Hp.le_put_new (Hp.le_trans leBC1 hleC18) (Nat.le_refl _) _
  have leD := Hp.le_trans leB leBD
  have z18 := hleC18.1
  have zD : HD.size = H18.size := by rw [hHD]; simp
  have fD := kForest.mono leBD.sees fB
  have qD := kParts.mono leBD.sees qB
  have nD := nB.mono leBD.sees
  have xD : kParts.rep HD X [.slice D8 X.nodes.length m8, .slice D9 X.links.length m9] := ⟨_, _, rfl, hpp18.slN.mono le18, hpp18.slL.mono le18⟩
  have D0' := Xt leBD (by omega) (by intro e; cases e) B0'
  have D1' := Xt leBD (by omega) (by intro e; cases e) B1'
  have D2' : HD.get HB.size = .own 0 [.slice D8 X.nodes.length m8, .slice D9 X.links.length m9] := by rw [hHD]; exact Hp.put_same _ _ _
  have zBD : HB.size < HD.size := by omega
  have hcD : CntR HD cb tb T := by
    obtain ⟨mb, ms, es1, es2, c1, c2, c3, c4, c5, c6, c7, c8⟩ := hcc.mono hleC18
    have hbx : ∀ {b : Nat} {x : Blk}, H18.get b = x → x ≠ .own 0 [.slice none 0 0, .slice none 0 0] → HD.get b = x := fun {b x} h1 h2 => by
      rw [hHD, Hp.put_other _ _ (fun e => h2 (by rw [← h1, e, h18b]))]; exact h1
    refine ⟨mb, ms, es1, es2, by omega, by omega, by omega, hbx c4 (by intro e; simp at e), hbx c5 (by intro e; cases e), hbx c6 (by intro e; cases e), htv.mono leBD, c8⟩
  change ACode true _ _ _ _ _ (H18.put HB.size (.own 0 [.slice D8 X.nodes.length m8, .slice D9 X.links.length m9]))
  rw [← hHD]
  clear hHD
  refine Xc (by kernel_rfl) ?_
  refine Xa (Xg rfl) ?_
  refine X3 ?_
  refine Yt (fun n t H' => ∃ (i : Nat), n = F.order.length - i ∧ i ≤ F.order.length ∧ HD.le H' ∧ t 2 = .slice E0 N.length n0 ∧ t 3 = .pointer (some ⟨H.size, 0, none⟩) ∧ t 4 = .pointer (some ⟨H.size + 1, 0, none⟩) ∧ t 9 = .pointer (some ⟨cb, 0, none⟩) ∧ t 10 = .pointer (some ⟨HB.size, 0, none⟩) ∧ t 11 = .int .i64 i) (F.order.length) (⟨0, rfl, Nat.zero_le _, Hp.le_refl _, e2, e3, e4, rfl, rfl, rfl⟩) ?_
  rintro n t H1 ⟨i, rfl, hi, le1, e2, e3, e4, e9, e10, e11⟩
  have I0' := Xt le1 (by omega) (by intro e; cases e) D0'
  refine Xf ?_
  refine Xf ?_
  refine Xc (by kernel_rfl) ?_
  refine Xa (Xb Xi) ?_
  refine Xa (Xh (off := 1) Xi Tryz.underlying26 Xi inf23.size (by decide) Xi) ?_
  refine Xa (Xl rfl Tryz.underlying23 rfl Xq) ?_
  refine Xa (Yl rfl Tryz.underlying23) ?_
  refine Xa (Yw rfl rfl) ?_
  refine X1 rfl rfl ?_ ?_
  intro hc5
  have hil : i < F.order.length := by have := of_decide_eq_true hc5; omega
  have hiT : i < T.vars.length := by omega
  have hboth := both30 F X hX k1' hsx hcx k3' hTe hT T.vars.length i hiT (by omega)
  refine X6 ?_
  refine Xf ?_
  refine X3 ?_
  refine Xf ?_
  refine Xc (by kernel_rfl) ?_
  refine Xa (Xg rfl) ?_
  refine X3 ?_
  refine Yt (fun n t H' => ∃ (j : Nat), n = 5 - j ∧ j ≤ 5 ∧ HD.le H' ∧ t 2 = .slice E0 N.length n0 ∧ t 3 = .pointer (some ⟨H.size, 0, none⟩) ∧ t 4 = .pointer (some ⟨H.size + 1, 0, none⟩) ∧ t 9 = .pointer (some ⟨cb, 0, none⟩) ∧ t 10 = .pointer (some ⟨HB.size, 0, none⟩) ∧ t 11 = .int .i64 i ∧ t 12 = .int .i64 j) (5) (⟨0, rfl, Nat.zero_le _, le1, e2, e3, e4, e9, e10, e11, rfl⟩) ?_
  rintro n t H2 ⟨j, rfl, hj, le2, e2, e3, e4, e9, e10, e11, e12⟩
  have J0' := Xt le2 (by omega) (by intro e; cases e) D0'
  have J2' := Xt le2 (by omega) (by intro e; cases e) D2'
  have z2 := le2.1
  refine Xf ?_
  refine Xf ?_
  refine Xc (by kernel_rfl) ?_
  refine Xa (Xb Xi) ?_
  refine Xa (Yw rfl rfl) ?_
  refine X1 rfl rfl ?_ ?_
  intro hc6
  have hjl : j < 5 := by have := of_decide_eq_true hc6; omega
  refine X6 ?_
  refine Xf ?_
  refine X3 ?_
  refine Xf ?_
  refine Xc (by kernel_rfl) ?_
  refine Xa (Yc (cs := [.slice _ _ _, .slice _ _ _, .slice _ _ _, .slice _ _ _, .slice _ _ _]) Xi Tryz.underlying26 Xi inf26.size Yb) ?_
  refine Xa (Yc (cs := [.slice _ _ _, .slice _ _ _]) Xi Tryz.underlying29 Xi inf29.size Yb) ?_
  refine Xa (Xb Xi) ?_
  refine Xa (Xb Xi) ?_
  refine X5 (X0 (hboth.2 (j : Int) _ _ _ (kForest.mono le2.sees fD) (kParts.mono le2.sees xD)) rfl Tryz.func28 rfl rfl rfl ?_)
  rintro v72 H3 ⟨rfl, le23⟩; have le3 := Hp.le_trans le2 le23; have z3 := le3.1; have K0' := Xt le3 (by omega) (by intro e; cases e) D0'; have K2' := Xt le3 (by omega) (by intro e; cases e) D2'
  refine Xa (Xg rfl) ?_
  refine Xa (Xg rfl) ?_
  refine Xf ?_
  refine Xf ?_
  refine Xc (by kernel_rfl) ?_
  refine Xa (Yc (cs := [.slice _ _ _, .slice _ _ _, .slice _ _ _, .slice _ _ _, .slice _ _ _]) Xi Tryz.underlying26 Xi inf26.size Yb) ?_
  refine Xa (Yc (cs := [.slice _ _ _, .slice _ _ _]) Xi Tryz.underlying29 Xi inf29.size Yb) ?_
  refine Xa (Xb Xi) ?_
  refine Xa (Xb Xi) ?_
  refine X5 (X0 (has30 F X hX.gf k1' hsx i (by omega) (j : Int) _ _ _ (kForest.mono le3.sees fD) (kParts.mono le3.sees xD)) rfl Tryz.func29 rfl rfl rfl ?_)
  rintro v77 H4 ⟨rfl, le34⟩; have le4 := Hp.le_trans le3 le34; have z4 := le4.1; have L0' := Xt le4 (by omega) (by intro e; cases e) D0'; have L2' := Xt le4 (by omega) (by intro e; cases e) D2'
  refine ac_cut (fun t H' => HD.le H' ∧ t 2 = .slice E0 N.length n0 ∧ t 3 = .pointer (some ⟨H.size, 0, none⟩) ∧ t 4 = .pointer (some ⟨H.size + 1, 0, none⟩) ∧ t 9 = .pointer (some ⟨cb, 0, none⟩) ∧ t 10 = .pointer (some ⟨HB.size, 0, none⟩) ∧ t 11 = .int .i64 i ∧ t 12 = .int .i64 j ∧ t 13 = .int .u64 (if ((nd X (Zr F i)).any fun y => decide (y.a = (j : Int))) = true then Z6 T T.vars.length i j else 0) ∧ t 14 = .int .u64 (Vq T T.vars.length i j)) ?_ ?_
  refine X1 rfl rfl ?_ ?_
  intro hc7
  have hh : ((nd X (Zr F i)).any fun y => decide (y.a = (j : Int))) = true := hc7
  refine Xc (by kernel_rfl) ?_
  refine Xa (Yc (cs := [.slice _ _ _, .slice _ _ _, .slice _ _ _, .slice _ _ _, .slice _ _ _]) Xi Tryz.underlying26 Xi inf26.size Yb) ?_
  refine Xa (Yc (cs := [.slice _ _ _, .slice _ _ _]) Xi Tryz.underlying29 Xi inf29.size Yb) ?_
  refine Xa (Xb Xi) ?_
  refine Xa (Xb Xi) ?_
  refine X5 (X0 (hboth.1 (j : Int) _ _ _ (kForest.mono le4.sees fD) (kParts.mono le4.sees xD)) rfl Tryz.func30 rfl rfl rfl ?_)
  rintro v82 H5 ⟨rfl, le45⟩; have le5 := Hp.le_trans le4 le45
  refine Xa (Xg rfl) ?_
  first
    | exact ⟨le5, e2, e3, e4, e9, e10, e11, e12, by rw [if_pos hh]; rfl, rfl⟩
    | exact ⟨le4, e2, e3, e4, e9, e10, e11, e12, by rw [if_neg (by rw [hh]; decide)]; rfl, rfl⟩
  intro hc7
  have hh : ((nd X (Zr F i)).any fun y => decide (y.a = (j : Int))) = false := hc7
  refine X6 ?_
  first
    | exact ⟨le5, e2, e3, e4, e9, e10, e11, e12, by rw [if_pos hh]; rfl, rfl⟩
    | exact ⟨le4, e2, e3, e4, e9, e10, e11, e12, by rw [if_neg (by rw [hh]; decide)]; rfl, rfl⟩
  rintro t H6 ⟨le6, e2, e3, e4, e9, e10, e11, e12, e13, e14⟩
  refine Xf ?_
  refine Xc (by kernel_rfl) ?_
  refine Xa (X9 Xi) ?_
  refine Xa (Xb Xi) ?_
  refine Xa (Xb Xi) ?_
  refine X5 (X0 (Below_cntR (hcD.mono le6) i hiT (j : Int)) rfl Tryz.func31 rfl rfl rfl ?_)
  rintro v86 H6 ⟨w, rfl, hw1, hw2, rfl⟩; have hweq : w = (if ((nd X (Zr F i)).any fun y => decide (y.a = (j : Int))) = true then Z6 T T.vars.length i j else 0) := (by
      have hb := hhas (i := i) (by omega) (j : Int)
      by_cases hh : ((nd X (Zr F i)).any fun y => decide (y.a = (j : Int))) = true
      · rw [if_pos hh]
        obtain ⟨y, hy, hya⟩ := List.any_eq_true.1 hh
        exact hw1 (hb.2 ⟨y, hy, of_decide_eq_true hya⟩)
      · rw [if_neg hh]
        exact hw2 (fun h => by obtain ⟨y, hy, hya⟩ := hb.1 h; exact hh (List.any_eq_true.2 ⟨y, hy, decide_eq_true hya⟩)))
  refine Xa (Xb Xi) ?_
  refine Xa (Vk rfl rfl) ?_
  refine Xa (Xs rfl) ?_
  refine Ye rfl rfl rfl ?_ ?_
  intro hg8
  exact absurd hweq (of_decide_eq_true hg8)
  intro hg8
  have hp8 := hg8; try simp only [decide_eq_true_eq, decide_eq_false_iff_not, Bool.not_eq_true', Bool.not_eq_false'] at hp8
  refine Xm (Xk rfl rfl rfl hg8) (X9 Xi) ?_
  refine Xm (Xk rfl rfl rfl hg8) (Xb Xi) ?_
  refine Xm (Xk rfl rfl rfl hg8) (Xb Xi) ?_
  refine Zm (Xk rfl rfl rfl hg8) (X0 (Sum_cntR hT (hcD.mono le6) i hiT (j : Int)) rfl Tryz.func32 rfl rfl rfl ?_)
  rintro v93 H6 ⟨rfl, rfl⟩
  refine Xm (Xk rfl rfl rfl hg8) (Xb Xi) ?_
  refine Xm (Xk rfl rfl rfl hg8) (Vk rfl rfl) ?_
  refine Xa (Xn (congrArg Value.bool hg8) rfl) ?_
  refine X1 rfl rfl ?_ ?_
  intro hc9
  exact absurd rfl (of_decide_eq_true hc9)
  intro hc9
  (try simp only [decide_eq_true_eq, decide_eq_false_iff_not, Bool.not_eq_true', Bool.not_eq_false'] at hc9)
  refine X6 ?_
  refine Xc (by kernel_rfl) ?_
  refine Xa (Xb Xi) ?_
  refine Xa (Yd rfl rfl Yk) ?_
  refine Xa (Xg rfl) ?_
  exact ⟨5 - (j + 1), by omega, j + 1, rfl, by omega, le6, e2, e3, e4, e9, e10, e11, rfl⟩
  intro hc6
  have hjl : j = 5 := by have := of_decide_eq_false hc6; omega
  refine Yj ?_
  refine Xc (by kernel_rfl) ?_
  refine Xa (Xb Xi) ?_
  refine Xa (Yd rfl rfl Yk) ?_
  refine Xa (Xg rfl) ?_
  exact ⟨F.order.length - (i + 1), by omega, i + 1, rfl, by omega, le2, e2, e3, e4, e9, e10, rfl⟩
  intro hc5
  have hil : i = F.order.length := by have := of_decide_eq_false hc5; omega
  refine Yj ?_
  refine Xf ?_
  have I1' := Xt le1 (by omega) (by intro e; cases e) D1'
  refine Xc (by kernel_rfl) ?_
  refine Xa (Yc (cs := [.slice _ _ _, .slice _ _ _, .slice _ _ _, .slice _ _ _, .slice _ _ _]) Xi Tryz.underlying26 Xi inf26.size Yb) ?_
  refine Xa (Yc (cs := [.slice _ _ _, .slice _ _ _]) Xi Tryz.underlying29 Xi inf29.size Yb) ?_
  refine X5 (X0 (Rows_ref F Q _ _ _ (kForest.mono le1.sees fD) (kParts.mono le1.sees qD) hG hsm ht) rfl Tryz.func12 rfl rfl rfl ?_)
  rintro v99 HR ⟨hleR, hrR⟩; rw [← hrows] at hrR; obtain ⟨Dr, mr, rfl⟩ := hrR.shape; have leR := Hp.le_trans le1 hleR; have nR := nD.mono leR.sees
  refine Xa (X4 rfl) ?_
  refine Xa (Xg rfl) ?_
  refine Xf ?_
  refine Xf ?_
  refine Xc (by kernel_rfl) ?_
  refine Xa (Xg rfl) ?_
  refine X3 ?_
  refine Yt (fun n t H' => ∃ (i : Nat) (D EN : Option Addr), n = rows.length - i ∧ i ≤ rows.length ∧ HR.le H' ∧ Sl kRow HR (.slice D rows.length mr) rows ∧ Sl (Y6 .i64) HR (.slice EN N.length n0) N ∧ t 2 = .slice EN N.length n0 ∧ t 9 = .pointer (some ⟨cb, 0, none⟩) ∧ t 15 = .slice D rows.length mr ∧ t 16 = .int .i64 (((rows.take i).filter fun r => decide (r.nodes.take N.length = N)).length : Nat) ∧ t 17 = .int .i64 i) (rows.length) (⟨0, _, _, rfl, Nat.zero_le _, Hp.le_refl _, hrR, nR, e2, e9, rfl, rfl, rfl⟩) ?_
  rintro n t H7 ⟨i, D, EN, rfl, hi, le7, hrD, nD7, e2, e9, e15, e16, e17⟩
  have z7 := le7.1
  refine Xf ?_
  refine Xf ?_
  refine Xc (by kernel_rfl) ?_
  refine Xa (Xb Xi) ?_
  refine Xa (Xw Xi) ?_
  refine Xa (Yl rfl Tryz.underlying38) ?_
  refine Xa (Yw rfl rfl) ?_
  refine X1 rfl rfl ?_ ?_
  intro hc10
  have hil2 : i < rows.length := by have := of_decide_eq_true hc10; omega
  obtain ⟨bD, oD, wD, eD, hbD, hcD2, hwD⟩ := (hrD.mono le7.sees).row_at hil2
  subst eD
  have hfn := filt_next (q := fun r => decide (r.nodes.take N.length = N)) hil2
  have hfl : ((rows.take i).filter fun r => decide (r.nodes.take N.length = N)).length ≤ 1024 := Nat.le_trans (List.length_filter_le _ _) (by rw [List.length_take]; omega)
  have hrlen := hrn rows[i] (List.getElem_mem hil2)
  obtain ⟨r, hrd⟩ : ∃ r, r = rows[i] := ⟨_, rfl⟩
  rw [← hrd] at hcD2 hwD hfn hrlen
  obtain ⟨AD, cD, rfl⟩ := hwD.shape
  have hcD0 : H7.cell? bD (oD + ((i : Int)).toNat * 3 + 0) = some (.slice AD r.nodes.length cD) := hcD2 0 _ rfl
  have nE7 := nD7.mono le7.sees
  refine X6 ?_
  refine Xf ?_
  refine X3 ?_
  refine Xf ?_
  refine ac_cut (fun t H' => HR.le H' ∧ t 2 = .slice EN N.length n0 ∧ t 9 = .pointer (some ⟨cb, 0, none⟩) ∧ t 15 = .slice (some ⟨bD, oD, none⟩) rows.length mr ∧ t 16 = .int .i64 (((rows.take i).filter fun r => decide (r.nodes.take N.length = N)).length : Nat) ∧ t 17 = .int .i64 i ∧ t 129 = .bool (decide (r.nodes.take N.length = N))) ?_ ?_
  refine Xc (by kernel_rfl) ?_
  refine Xa (Xw Xi) ?_
  refine Xa (Yl rfl Tryz.underlying23) ?_
  refine Xa (Xw Xi) ?_
  refine Xa (Xb Xi) ?_
  refine Xa (Xo rfl rfl Tryz.underlying38 inf49.size Xy Xy) ?_
  refine Xa (Xh (off := 0) rfl Tryz.underlying49 rfl inf23.size (by decide) rfl) ?_
  refine Xa (Xl rfl Tryz.underlying23 rfl Xq) ?_
  refine Xa (Yl rfl Tryz.underlying23) ?_
  refine Xa (av_le rfl rfl) ?_
  refine Xa (Xs rfl) ?_
  refine Ye rfl rfl rfl ?_ ?_
  intro hg11
  have hNr : N.length ≤ r.nodes.length := by have := of_decide_eq_true hg11; omega
  obtain ⟨AK, cK, SK, slK, hSK, hcutK⟩ := hwD.takes (i := N.length) hNr
  refine Xm (Xk rfl rfl rfl hg11) (Xw Xi) ?_
  refine Xm (Xk rfl rfl rfl hg11) (Xb Xi) ?_
  refine Xm (Xk rfl rfl rfl hg11) (Xo rfl rfl Tryz.underlying38 inf49.size Xy Xy) ?_
  refine Xm (Xk rfl rfl rfl hg11) (Xh (off := 0) rfl Tryz.underlying49 rfl inf23.size (by decide) rfl) ?_
  refine Xm (Xk rfl rfl rfl hg11) (Xl rfl Tryz.underlying23 rfl Xq) ?_
  refine Xm (Xk rfl rfl rfl hg11) (Xw Xi) ?_
  refine Xm (Xk rfl rfl rfl hg11) (Yl rfl Tryz.underlying23) ?_
  refine Xm (Xk rfl rfl rfl hg11) (hcutK _ _ _ _ _ _ _ _ _ _ _ _ _ (Hp.le_refl _) rfl Tryz.underlying23 inf3.size rfl) ?_
  refine Xm (Xk rfl rfl rfl hg11) (Zb (pl := [(0, 1), (1, 1), (2, 1)]) (r := [.slice _ _ _, .int .i64 _, .int .u64 _]) Tryz.underlying49 inf49.zero (by decide) rfl rfl) ?_
  refine Zm (Xk rfl rfl rfl hg11) (.make (Ya (r := [.slice _ _ _, .int .i64 _, .int .u64 _]) Tryz.underlying38 inf49.size inf49.zero rfl (by decide) (by decide) (by decide) rfl) ?_)
  refine Xm (Xk rfl rfl rfl hg11) (Xw Xi) ?_
  refine Zm (Xk rfl rfl rfl hg11) (X0 (FindR_ref [⟨r.nodes.take N.length, 0, 0⟩] N (.slice (some ⟨H7.size, 0, none⟩) 1 1) _ _ (Zl (k := kRow) ⟨_, rfl, slK⟩ rfl rfl rfl) (nE7.mono (H7.le_push _).sees) (by simp) (by omega)) rfl Tryz.func33 rfl rfl rfl ?_)
  rintro v127 H8 ⟨rfl, hH8⟩
  refine Xm (Xk rfl rfl rfl hg11) (Z0 rfl rfl) ?_
  refine Xa (Xn (congrArg Value.bool hg11) rfl) ?_
  first
    | exact ⟨by rw [hH8]; exact Hp.le_trans le7 (H7.le_push _), e2, e9, e15, e16, e17, congrArg Value.bool (decide_eq_decide.2 find_one)⟩
    | exact ⟨le7, e2, e9, e15, e16, e17, congrArg Value.bool (by symm; rw [decide_eq_false_iff_not]; intro h; have h2 := congrArg List.length h; rw [List.length_take] at h2; omega)⟩
  intro hg11
  have hNr : ¬ N.length ≤ r.nodes.length := by have := of_decide_eq_false hg11; omega
  refine Xe (Xj rfl rfl rfl hg11 rfl) ?_
  refine Xe (Xj rfl rfl rfl hg11 rfl) ?_
  refine Xe (Xj rfl rfl rfl hg11 rfl) ?_
  refine Xe (Xj rfl rfl rfl hg11 rfl) ?_
  refine Xe (Xj rfl rfl rfl hg11 rfl) ?_
  refine Xe (Xj rfl rfl rfl hg11 rfl) ?_
  refine Xe (Xj rfl rfl rfl hg11 rfl) ?_
  refine Xe (Xj rfl rfl rfl hg11 rfl) ?_
  refine Xe (Xj rfl rfl rfl hg11 rfl) ?_
  refine Xe (Xj rfl rfl rfl hg11 rfl) ?_
  refine Xe (Xj rfl rfl rfl hg11 rfl) ?_
  refine Xe (Xj rfl rfl rfl hg11 rfl) ?_
  refine Xe (Xj rfl rfl rfl hg11 rfl) ?_
  refine Xa (Xn (congrArg Value.bool hg11) Xi) ?_
  first
    | exact ⟨by rw [hH8]; exact Hp.le_trans le7 (H7.le_push _), e2, e9, e15, e16, e17, congrArg Value.bool (decide_eq_decide.2 find_one)⟩
    | exact ⟨le7, e2, e9, e15, e16, e17, congrArg Value.bool (by symm; rw [decide_eq_false_iff_not]; intro h; have h2 := congrArg List.length h; rw [List.length_take] at h2; omega)⟩
  rintro t H9 ⟨le9, e2, e9, e15, e16, e17, e129⟩
  refine X1 Xi rfl ?_ ?_
  intro hc12
  have hpr : r.nodes.take N.length = N := of_decide_eq_true hc12
  rw [if_pos (decide_eq_true hpr)] at hfn
  refine Xc (by kernel_rfl) ?_
  refine Xa (Xb Xi) ?_
  refine Xa (Yd rfl rfl Yk) ?_
  refine Xa (Xg rfl) ?_
  refine Xc (by kernel_rfl) ?_
  refine Xa (Xb Xi) ?_
  refine Xa (Yd rfl rfl Yk) ?_
  refine Xa (Xg rfl) ?_
  first
    | exact ⟨rows.length - (i + 1), by omega, i + 1, _, _, rfl, by omega, le9, hrD, nD7, e2, e9, e15, congrArg (Value.int .i64) (by rw [hfn]; omega), rfl⟩
    | exact ⟨rows.length - (i + 1), by omega, i + 1, _, _, rfl, by omega, le9, hrD, nD7, e2, e9, e15, by rw [hfn]; exact e16, rfl⟩
  intro hc12
  have hpr : ¬ r.nodes.take N.length = N := of_decide_eq_false hc12
  rw [if_neg (by simpa using hpr)] at hfn
  refine X6 ?_
  refine Xc (by kernel_rfl) ?_
  refine Xa (Xb Xi) ?_
  refine Xa (Yd rfl rfl Yk) ?_
  refine Xa (Xg rfl) ?_
  first
    | exact ⟨rows.length - (i + 1), by omega, i + 1, _, _, rfl, by omega, le9, hrD, nD7, e2, e9, e15, congrArg (Value.int .i64) (by rw [hfn]; omega), rfl⟩
    | exact ⟨rows.length - (i + 1), by omega, i + 1, _, _, rfl, by omega, le9, hrD, nD7, e2, e9, e15, by rw [hfn]; exact e16, rfl⟩
  intro hc10
  have hil2 : i = rows.length := by have := of_decide_eq_false hc10; omega
  rw [hil2, List.take_length] at e16
  refine Yj ?_
  refine Xf ?_
  obtain ⟨k, hk⟩ : ∃ k, k = (rows.filter fun r => decide (r.nodes.take N.length = N)).length := ⟨_, rfl⟩
  rw [← hk] at e16 hbr
  have hkl : k ≤ 1024 := by rw [hk]; exact Nat.le_trans (List.length_filter_le _ _) hrl
  have hkw : IntKind.u64.wrap (k : Int) = k := by simp [IntKind.wrap, IntKind.bits, IntKind.signed]; omega
  obtain ⟨hb1, hb2⟩ := hbr
  have hb3 : decide (behT T N = 0) = decide ((k : Int) = 0) := decide_eq_decide.2 (hb1.trans (by omega))
  refine Xc (by kernel_rfl) ?_
  refine Xa (X9 Xi) ?_
  refine Xa (Xw Xi) ?_
  refine X5 (X0 (Ug N _ 6 _ (nD7.mono le7.sees) (by omega) (by omega) (by omega)) rfl Tryz.func22 rfl rfl rfl ?_)
  rintro v134 H10 ⟨hle10, hs10⟩; change Sl (Y6 .i64) H10 v134 (N.take 6) at hs10; rw [hNN] at hs10
  refine X5 (X0 (Behind_cnt hT (hcD.mono (Hp.le_trans leR (Hp.le_trans le7 hle10))) hs10 (by omega)) rfl Tryz.func34 rfl rfl rfl ?_)
  rintro v135 H11 ⟨rfl, hle11⟩
  refine Xa (Xg rfl) ?_
  refine Xf ?_
  refine Xc (by kernel_rfl) ?_
  refine Xa (Xb rfl) ?_
  refine Xa (Z0 rfl rfl) ?_
  refine Xa (Xb Xi) ?_
  refine Xa (Z0 rfl rfl) ?_
  refine Xa (av_beq rfl rfl Tryz.underlying4) ?_
  refine Xa (Xs rfl) ?_
  refine Ye rfl rfl rfl ?_ ?_
  intro hg13
  have hp13 := hg13; try simp only [decide_eq_true_eq, decide_eq_false_iff_not, Bool.not_eq_true', Bool.not_eq_false'] at hp13
  refine Xm (Xk rfl rfl rfl hg13) (Xb rfl) ?_
  refine Xm (Xk rfl rfl rfl hg13) (Xb Xi) ?_
  refine Xm (Xk rfl rfl rfl hg13) (av_conv_is hkw rfl (by rw [Tryz.underlying3]; rfl) Tryz.underlying42) ?_
  refine Xm (Xk rfl rfl rfl hg13) (av_ge rfl rfl) ?_
  refine Xa (Xn (congrArg Value.bool hg13) rfl) ?_
  refine Xa (Xs rfl) ?_
  refine Ye rfl rfl rfl ?_ ?_
  intro hg14
  have hp14 := hg14; try simp only [decide_eq_true_eq, decide_eq_false_iff_not, Bool.not_eq_true', Bool.not_eq_false'] at hp14
  refine Zm (Xk rfl rfl rfl hg14) (X0 (lives30_ok _) rfl Tryz.func25 rfl rfl rfl ?_)
  rintro v H' ⟨rfl, hlv⟩
  refine Xa (Xn (congrArg Value.bool hg14) rfl) ?_
  refine Xa (Xr rfl) ?_
  refine X8 ?_
  exact ⟨.bool true, Xv (Xx rfl), rfl, Hp.le_trans (Hp.le_trans leD (Hp.le_trans leR (Hp.le_trans le7 (Hp.le_trans hle10 hle11)))) hlv⟩
  intro hg14
  (have h := hg14; simp at h; omega)
  intro hg13
  (have h := hg13; rw [hb3] at h; simp at h)
end Go.Proofs.YtcaeoebphfjfiaaGreat.Am


/- Links among the arguments of a statement. -/
namespace Go.Proofs.YtcaeoebphfjfiaaGreat.Am
open Go Go.RowKit
set_option maxRecDepth 100000
theorem cells_i64 : Tryz.prog.cellsOf 3 = 1 := by kernel_rfl
theorem cells_u64 : Tryz.prog.cellsOf 42 = 1 := by kernel_rfl
theorem cells_link : Tryz.prog.cellsOf 78 = 4 := by kernel_rfl
theorem opens_ints : Opens Tryz.prog (Vs (Y6 .i64)) 23 (fun xs => xs.length ≤ maxLen ∧ ∀ x ∈ xs, fits .i64 x) := opens_sl Tryz.underlying23 cells_i64 (opens_int Tryz.underlying3)
theorem opens_link : Opens Tryz.prog kLink 78 (fun x => fits .i64 x.a ∧ fits .i64 x.b ∧ fits .i64 x.cost ∧ fits .u64 x.n) := fun Hh enc W fuel cs x h => by
  obtain ⟨xs, n, _, _, hl, hxs, hf⟩ := DataW.trod_struct Tryz.underlying78 h
  rw [cells_link] at hl
  have hxs : xs.length = 4 := hxs
  match cs, hl with
  | [c0, c1, c2, c3], _ =>
    have f0 : DataW.trod enc Tryz.prog W 0 (fun _ => true) true n 3 (([c0, c1, c2, c3].drop 0).take (Tryz.prog.cellsOf 3)) = xs[0]? := hf 0 _ rfl
    have f1 : DataW.trod enc Tryz.prog W 0 (fun _ => true) true n 3 (([c0, c1, c2, c3].drop 1).take (Tryz.prog.cellsOf 3)) = xs[1]? := hf 1 _ rfl
    have f2 : DataW.trod enc Tryz.prog W 0 (fun _ => true) true n 3 (([c0, c1, c2, c3].drop 2).take (Tryz.prog.cellsOf 3)) = xs[2]? := hf 2 _ rfl
    have f3 : DataW.trod enc Tryz.prog W 0 (fun _ => true) true n 42 (([c0, c1, c2, c3].drop 3).take (Tryz.prog.cellsOf 42)) = xs[3]? := hf 3 _ rfl
    rw [cells_i64, List.getElem?_eq_getElem (show 0 < xs.length by omega)] at f0
    rw [cells_i64, List.getElem?_eq_getElem (show 1 < xs.length by omega)] at f1
    rw [cells_i64, List.getElem?_eq_getElem (show 2 < xs.length by omega)] at f2
    rw [cells_u64, List.getElem?_eq_getElem (show 3 < xs.length by omega)] at f3
    obtain ⟨y0, r0, b0, v0⟩ := opens_int (P := Tryz.prog) Tryz.underlying3 Hh enc W n _ _ f0
    obtain ⟨y1, r1, b1, v1⟩ := opens_int (P := Tryz.prog) Tryz.underlying3 Hh enc W n _ _ f1
    obtain ⟨y2, r2, b2, v2⟩ := opens_int (P := Tryz.prog) Tryz.underlying3 Hh enc W n _ _ f2
    obtain ⟨y3, r3, b3, v3⟩ := opens_int (P := Tryz.prog) Tryz.underlying42 Hh enc W n _ _ f3
    refine ⟨⟨y0, y1, y2, y3⟩, ?_, ⟨b0, b1, b2, b3⟩, fun v hv => ?_⟩
    · have e0 : [Ua W c0] = [Value.int .i64 y0] := r0
      have e1 : [Ua W c1] = [Value.int .i64 y1] := r1
      have e2 : [Ua W c2] = [Value.int .i64 y2] := r2
      have e3 : [Ua W c3] = [Value.int .u64 y3] := r3
      simp only [List.cons.injEq, and_true] at e0 e1 e2 e3
      simp [kLink, e0, e1, e2, e3]
    · simp at hv
      rcases hv with rfl | rfl | rfl | rfl
      · exact v0 _ (List.mem_singleton.2 rfl)
      · exact v1 _ (List.mem_singleton.2 rfl)
      · exact v2 _ (List.mem_singleton.2 rfl)
      · exact v3 _ (List.mem_singleton.2 rfl)
theorem opens_links : Opens Tryz.prog (Vs kLink) 68 (fun xs => xs.length ≤ maxLen ∧ ∀ x ∈ xs, fits .i64 x.a ∧ fits .i64 x.b ∧ fits .i64 x.cost ∧ fits .u64 x.n) := opens_sl Tryz.underlying68 cells_link opens_link
end Go.Proofs.YtcaeoebphfjfiaaGreat.Am


/- Forests and parts among the arguments of a statement. -/
namespace Go.Proofs.YtcaeoebphfjfiaaGreat.Am
open Go Go.RowKit
set_option maxRecDepth 100000
theorem cells_links : Tryz.prog.cellsOf 68 = 1 := by kernel_rfl
theorem cells_ints : Tryz.prog.cellsOf 23 = 1 := by kernel_rfl
theorem cells_str : Tryz.prog.cellsOf 9 = 1 := by kernel_rfl
theorem cells_strs : Tryz.prog.cellsOf 22 = 1 := by kernel_rfl
theorem cells_intss : Tryz.prog.cellsOf 24 = 1 := by kernel_rfl
theorem cells_linkss : Tryz.prog.cellsOf 27 = 1 := by kernel_rfl
theorem cells_parts : Tryz.prog.cellsOf 29 = 2 := by kernel_rfl
theorem cells_forest : Tryz.prog.cellsOf 26 = 5 := by kernel_rfl
theorem opens_strs : Opens Tryz.prog (Vs kStr) 22 (fun xs => xs.length ≤ maxLen ∧ ∀ x ∈ xs, x.size ≤ maxLen) := opens_sl Tryz.underlying22 cells_str (opens_str Tryz.underlying9)
theorem opens_intss : Opens Tryz.prog (Vs (Vs (Y6 .i64))) 24 (fun xs => xs.length ≤ maxLen ∧ ∀ x ∈ xs, x.length ≤ maxLen ∧ ∀ n ∈ x, fits .i64 n) := opens_sl Tryz.underlying24 cells_ints opens_ints
theorem opens_linkss : Opens Tryz.prog (Vs (Vs kLink)) 27 (fun xs : List (List Link) => xs.length ≤ maxLen ∧ ∀ l ∈ xs, l.length ≤ maxLen ∧ ∀ x ∈ l, fits .i64 x.a ∧ fits .i64 x.b ∧ fits .i64 x.cost ∧ fits .u64 x.n) := opens_sl Tryz.underlying27 cells_links opens_links
theorem opens_parts : Opens Tryz.prog kParts 29 BigP := fun Hh enc W fuel cs x h => by
  obtain ⟨xs, n, _, _, hl, hxs, hf⟩ := DataW.trod_struct Tryz.underlying29 h
  rw [cells_parts] at hl
  have hxs : xs.length = 2 := hxs
  match cs, hl with
  | [c0, c1], _ =>
    have f0 : DataW.trod enc Tryz.prog W 0 (fun _ => true) true n 27 (([c0, c1].drop 0).take (Tryz.prog.cellsOf 27)) = xs[0]? := hf 0 _ rfl
    have f1 : DataW.trod enc Tryz.prog W 0 (fun _ => true) true n 27 (([c0, c1].drop 1).take (Tryz.prog.cellsOf 27)) = xs[1]? := hf 1 _ rfl
    rw [cells_linkss, List.getElem?_eq_getElem (show 0 < xs.length by omega)] at f0
    rw [cells_linkss, List.getElem?_eq_getElem (show 1 < xs.length by omega)] at f1
    obtain ⟨y0, ⟨w0, r0, s0⟩, b0, v0⟩ := opens_linkss Hh enc W n _ _ f0
    obtain ⟨y1, ⟨w1, r1, s1⟩, b1, v1⟩ := opens_linkss Hh enc W n _ _ f1
    refine ⟨⟨y0, y1⟩, ⟨w0, w1, ?_, s0, s1⟩, ⟨b0.1, b1.1, fun l hl => (b0.2 l hl).1, fun l hl => (b1.2 l hl).1⟩, fun v hv => ?_⟩
    · have e0 : [Ua W c0] = [w0] := r0
      have e1 : [Ua W c1] = [w1] := r1
      simp only [List.cons.injEq, and_true] at e0 e1
      simp [e0, e1]
    · simp at hv
      rcases hv with rfl | rfl
      · exact v0 _ (List.mem_singleton.2 rfl)
      · exact v1 _ (List.mem_singleton.2 rfl)
theorem opens_forest : Opens Tryz.prog kForest 26 BigF := fun Hh enc W fuel cs x h => by
  obtain ⟨xs, n, _, _, hl, hxs, hf⟩ := DataW.trod_struct Tryz.underlying26 h
  rw [cells_forest] at hl
  have hxs : xs.length = 5 := hxs
  match cs, hl with
  | [c0, c1, c2, c3, c4], _ =>
    have f0 : DataW.trod enc Tryz.prog W 0 (fun _ => true) true n 22 (([c0, c1, c2, c3, c4].drop 0).take (Tryz.prog.cellsOf 22)) = xs[0]? := hf 0 _ rfl
    have f1 : DataW.trod enc Tryz.prog W 0 (fun _ => true) true n 23 (([c0, c1, c2, c3, c4].drop 1).take (Tryz.prog.cellsOf 23)) = xs[1]? := hf 1 _ rfl
    have f2 : DataW.trod enc Tryz.prog W 0 (fun _ => true) true n 23 (([c0, c1, c2, c3, c4].drop 2).take (Tryz.prog.cellsOf 23)) = xs[2]? := hf 2 _ rfl
    have f3 : DataW.trod enc Tryz.prog W 0 (fun _ => true) true n 24 (([c0, c1, c2, c3, c4].drop 3).take (Tryz.prog.cellsOf 24)) = xs[3]? := hf 3 _ rfl
    have f4 : DataW.trod enc Tryz.prog W 0 (fun _ => true) true n 24 (([c0, c1, c2, c3, c4].drop 4).take (Tryz.prog.cellsOf 24)) = xs[4]? := hf 4 _ rfl
    rw [cells_strs, List.getElem?_eq_getElem (show 0 < xs.length by omega)] at f0
    rw [cells_ints, List.getElem?_eq_getElem (show 1 < xs.length by omega)] at f1
    rw [cells_ints, List.getElem?_eq_getElem (show 2 < xs.length by omega)] at f2
    rw [cells_intss, List.getElem?_eq_getElem (show 3 < xs.length by omega)] at f3
    rw [cells_intss, List.getElem?_eq_getElem (show 4 < xs.length by omega)] at f4
    obtain ⟨y0, ⟨w0, r0, s0⟩, b0, v0⟩ := opens_strs Hh enc W n _ _ f0
    obtain ⟨y1, ⟨w1, r1, s1⟩, b1, v1⟩ := opens_ints Hh enc W n _ _ f1
    obtain ⟨y2, ⟨w2, r2, s2⟩, b2, v2⟩ := opens_ints Hh enc W n _ _ f2
    obtain ⟨y3, ⟨w3, r3, s3⟩, b3, v3⟩ := opens_intss Hh enc W n _ _ f3
    obtain ⟨y4, ⟨w4, r4, s4⟩, b4, v4⟩ := opens_intss Hh enc W n _ _ f4
    refine ⟨⟨y0, y1, y2, y3, y4⟩, ⟨w0, w1, w2, w3, w4, ?_, s0, s1, s2, s3, s4⟩, ⟨b0.1, b1.1, b2.1, b3.1, b4.1, fun l hl => (b3.2 l hl).1, fun l hl => (b4.2 l hl).1⟩, fun v hv => ?_⟩
    · have e0 : [Ua W c0] = [w0] := r0
      have e1 : [Ua W c1] = [w1] := r1
      have e2 : [Ua W c2] = [w2] := r2
      have e3 : [Ua W c3] = [w3] := r3
      have e4 : [Ua W c4] = [w4] := r4
      simp only [List.cons.injEq, and_true] at e0 e1 e2 e3 e4
      simp [e0, e1, e2, e3, e4]
    · simp at hv
      rcases hv with rfl | rfl | rfl | rfl | rfl
      · exact v0 _ (List.mem_singleton.2 rfl)
      · exact v1 _ (List.mem_singleton.2 rfl)
      · exact v2 _ (List.mem_singleton.2 rfl)
      · exact v3 _ (List.mem_singleton.2 rfl)
      · exact v4 _ (List.mem_singleton.2 rfl)
end Go.Proofs.YtcaeoebphfjfiaaGreat.Am
