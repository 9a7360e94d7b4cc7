
/- The statement TreeGroups, as the abstract machine runs it. -/
import Derived.Test.YtcaeoebphfjfiaaTg5
import Derived.Test.YtcaeoebphfjfiaaTgRow
import Derived.OpenShut
namespace Go.Proofs.Ytcaeoebphfjfiaa.Am
open Go Go.RowKit
set_option maxRecDepth 100000
set_option linter.unusedVariables false
set_option linter.unusedSimpArgs false

def kTri : Kd (Int × Int × Int) where
  sz := 3
  pos := by decide
  rep _ x cs := cs = [.int .i64 x.1, .int .i64 x.2.1, .int .i64 x.2.2]
  len h := by rw [h]; rfl
  mono _ h := h
  one h v hv := by rw [h] at hv; simp at hv; rcases hv with rfl | rfl | rfl <;> rfl
def belowR (f : Forest) (i : Int) (k : Nat) : List Int := ((List.range k).filter fun (m : Nat) => decide (parR f (m : Int) = i ∧ i ≥ -1)).map fun (m : Nat) => (m : Int)
theorem belowR_next (f : Forest) (i : Int) (k : Nat) : belowR f i (k + 1) = belowR f i k ++ (if parR f (k : Int) = i ∧ i ≥ -1 then [(k : Int)] else []) := by
  unfold belowR
  rw [List.range_succ, List.filter_append, List.map_append, List.filter_cons, List.filter_nil]
  by_cases h : parR f (k : Int) = i ∧ i ≥ -1
  · rw [if_pos (decide_eq_true h), if_pos h]; rfl
  · rw [if_neg (by rw [decide_eq_true_eq]; exact h), if_neg h]; rfl
theorem belowR_len (f : Forest) (i : Int) (k : Nat) : (belowR f i k).length ≤ k := by
  unfold belowR
  rw [List.length_map]
  exact Nat.le_trans (List.length_filter_le _ _) (by simp)
theorem parR_tree {f : Forest} {x : Parts} (hg : GoodF f) (i : Int) : parR f i = if 0 ≤ i ∧ i < (Zp f x).vars.length then (Zp f x).parent.getD i.toNat 0 else -1 := by
  unfold parR
  rw [(Vl x).1]
  split
  · rename_i h
    have := hg.l1
    rw [tree_par x hg (by omega)]
  · rfl
theorem below_same {f : Forest} {x : Parts} (hg : GoodF f) (i : Int) : belowL (Zp f x).parent i = belowR f i f.order.length := by
  unfold belowL belowR
  rw [(Vl x).2.1]
  split
  · rename_i h
    rw [List.filter_eq_nil_iff.2]
    · rfl
    · intro k _ hk
      have := of_decide_eq_true hk
      omega
  · rename_i h
    congr 1
    refine List.filter_congr fun k hk => ?_
    rw [List.mem_range] at hk
    have e : parR f (k : Int) = (Zp f x).parent.getD k 0 := by
      rw [parR_tree hg, if_pos ⟨by omega, by rw [(Vl x).1]; omega⟩, Int.toNat_natCast]
    rw [e]
    refine decide_eq_decide.2 ⟨fun h2 => ⟨h2, by omega⟩, fun h2 => h2.1⟩
def LastB (g : List Link) (node : Int) (k : Nat) (at_ : Int) : Prop := (at_ = -1 ∧ ∀ j (h : j < g.length), j < k → g[j].b ≠ node) ∨ ∃ m : Nat, at_ = m ∧ m < k ∧ ∃ h : m < g.length, g[m].b = node
theorem findB_last {g : List Link} (hr : g.Pairwise fun x y => x.b < y.b) {node : Int} {at_ : Int} (h : LastB g node g.length at_) : (at_ = -1 ∧ Vd g node = none) ∨ ∃ m : Nat, at_ = m ∧ ∃ h : m < g.length, Vd g node = some g[m] := by
  rcases h with ⟨h1, h2⟩ | ⟨m, h1, _, h2, h3⟩
  · exact .inl ⟨h1, findB_none fun l hl => by
      obtain ⟨j, hj, rfl⟩ := List.getElem_of_mem hl
      exact h2 j hj hj⟩
  · exact .inr ⟨m, h1, h2, (findB_iff hr).2 ⟨List.getElem_mem h2, h3⟩⟩
theorem LastB.skip {g : List Link} {node at_ : Int} {k : Nat} (h : LastB g node k at_) (hk : k < g.length) (hne : g[k].b ≠ node) : LastB g node (k + 1) at_ := by
  rcases h with ⟨h1, h2⟩ | ⟨m, h1, h2, h3⟩
  · refine .inl ⟨h1, fun j hj h => ?_⟩
    rcases Nat.lt_or_ge j k with h4 | h4
    · exact h2 j hj h4
    · obtain rfl : j = k := by omega
      exact hne
  · exact .inr ⟨m, h1, by omega, h3⟩
theorem sum_next {xs : List (List Link)} {k : Nat} (h : k < xs.length) : ((xs.take (k + 1)).map List.length).sum = ((xs.take k).map List.length).sum + xs[k].length := by
  rw [← Yv h, List.map_append, List.sum_append]; simp
theorem sum_bound {xs : List (List Link)} (h : ∀ l ∈ xs, l.length ≤ 1000000) (k : Nat) : ((xs.take k).map List.length).sum ≤ 1000000 * k := by
  induction k with
  | zero => simp
  | succ k ih =>
    by_cases hk : k < xs.length
    · rw [sum_next hk]
      have := h _ (List.getElem_mem hk)
      omega
    · rw [List.take_of_length_le (by omega)] at ih ⊢
      omega
set_option maxHeartbeats 8000000 in
theorem TreeGroups_ok (f : Forest) (p : Parts) (x : Int × Int × Int) (cs ds es : List Value) (H : Hp) (hp : kForest.rep H f cs) (hq : kParts.rep H p ds) (hn : kTri.rep H x es) (hbf : BigF f) (hbp : BigP p) :
    ACalls Try.prog 4 #[.agg cs.toArray, .agg ds.toArray, .agg es.toArray] H (fun r H' => r = .bool true ∧ H.le H') := by
  have hp0 := hp
  have hq0 := hq
  obtain ⟨v0, v1, v2, v3, v4, rfl, hs0, hs1, hs2, hs3, hs4⟩ := hp
  obtain ⟨A0, c0, rfl⟩ := hs0.shape
  obtain ⟨A1, c1, rfl⟩ := hs1.shape
  obtain ⟨A2, c2, rfl⟩ := hs2.shape
  obtain ⟨A3, c3, rfl⟩ := hs3.shape
  obtain ⟨A4, c4, rfl⟩ := hs4.shape
  obtain ⟨u0, u1, rfl, hn0, hn1⟩ := hq
  obtain ⟨B0, d0, rfl⟩ := hn0.shape
  obtain ⟨B1, d1, rfl⟩ := hn1.shape
  obtain ⟨ai, aab, ano⟩ := x
  have hn : es = [.int .i64 ai, .int .i64 aab, .int .i64 ano] := hn
  subst hn
  have hsm := small_few f p
  have hbq := bigP_few p
  have hbg := bigF_few f
  have hpp := few4_few4 p
  have hff := ffew_ffew f
  have htn : GoodP f.few p.few4 → f.few.vars.length < 6 → Tiny f.few p.few4 := tiny_few
  have hch : GoodP f.few p.few4 → Cheap p.few4 := cheap_few
  have hvar := few_vars f
  obtain ⟨F, hF⟩ : ∃ F, F = f.few := ⟨_, rfl⟩
  obtain ⟨Q, hQ⟩ : ∃ Q, Q = p.few4 := ⟨_, rfl⟩
  rw [← hF, ← hQ] at hsm htn hch
  rw [← hQ] at hpp hbq
  rw [← hF] at hff hbg hvar
  refine Xz Try.func4 rfl rfl rfl (by simp) ?_
  refine Xf ?_
  refine Xc (by kernel_rfl) ?_
  refine X1 (Yp rfl) ?_
  refine X1 (Yp rfl) ?_
  refine X1 (Yp rfl) ?_
  refine Xa (Xq rfl) ?_
  refine Xf ?_
  refine Ys (by kernel_rfl) (Yz (B := [0, 1, 0, 7, 15, 31]) (π := [0, 2, 1, 3, 4, 5]) (by kernel_rfl)) ?_
  refine Xd rfl rfl (Ye (cs := [.slice _ _ _, .slice _ _ _, .slice _ _ _, .slice _ _ _, .slice _ _ _]) rfl Try.underlying26 rfl inf26.size Yb) Xp ?_
  refine Xd rfl rfl (Ye (cs := [.slice _ _ _, .slice _ _ _]) rfl Try.underlying29 rfl inf29.size Yb) Xp ?_
  refine Yi rfl rfl (X2 (Forest_28 f _ _ (kForest.mono Zh hp0) hbf) rfl Try.func8 rfl rfl rfl ?_)
  rintro v5 H5 ⟨hle5, es, rfl, hes⟩; rw [← hF] at hes; have hf5 := hes; obtain ⟨a0, a1, a2, a3, a4, rfl, ht0, ht1, ht2, ht3, ht4⟩ := hes; obtain ⟨C0, k0, rfl⟩ := ht0.shape; obtain ⟨C1, k1, rfl⟩ := ht1.shape; obtain ⟨C2, k2, rfl⟩ := ht2.shape; obtain ⟨C3, k3, rfl⟩ := ht3.shape; obtain ⟨C4, k4, rfl⟩ := ht4.shape; have hz5 := hle5.1; simp only [Hp.push_size] at hz5
  refine ⟨Yg, ?_⟩
  refine Yi rfl rfl (X2 (Few4_parts p _ _ (kParts.mono Zh hq0) hbp.l0 hbp.l1 hbp.s0 hbp.s1) rfl Try.func9 rfl rfl rfl ?_)
  rintro v6 H6 ⟨hle6, es, rfl, hes⟩; rw [← hQ] at hes; have hq6 := hes; obtain ⟨b0, b1, rfl, hm0, hm1⟩ := hes; obtain ⟨D0, m0, rfl⟩ := hm0.shape; obtain ⟨D1, m1, rfl⟩ := hm1.shape; have hz6 := hle6.1; have hf6 := kForest.mono hle6.sees hf5; have h60 : H6.get H.size = .own 0 [.slice A0 f.vars.length c0, .slice A1 f.order.length c1, .slice A2 f.parent.length c2, .slice A3 f.links.length c3, .slice A4 f.loops.length c4] := Xu (Hp.le_trans hle5 hle6) (by simp <;> omega) (by intro e; cases e) Yh; have h61 : H6.get (H.size + 1) = .own 0 [.slice B0 p.nodes.length d0, .slice B1 p.links.length d1] := Xu (Hp.le_trans hle5 hle6) (by simp <;> omega) (by intro e; cases e) Yh; have h62 : H6.get (H.size + 2) = .own 0 [.int .i64 ai, .int .i64 aab, .int .i64 ano] := Xu (Hp.le_trans hle5 hle6) (by simp <;> omega) (by intro e; cases e) Yh
  refine ⟨Yg, ?_⟩
  refine Yi rfl rfl (Yk (vs := [.slice _ _ _, .slice _ _ _, .slice _ _ _, .slice _ _ _, .slice _ _ _]) rfl rfl inf26.size Yh Ym rfl rfl ?_)
  refine ⟨Yg, ?_⟩
  refine Yi rfl rfl (Yk (vs := [.slice _ _ _, .slice _ _ _]) rfl rfl inf29.size Yh Ym rfl rfl ?_)
  refine ⟨Yg, ?_⟩
  refine Xf ?_
  obtain ⟨HA, hHA⟩ : ∃ HA, HA = (H6.put H.size (.own 0 [.slice C0 F.vars.length k0, .slice C1 F.order.length k1, .slice C2 F.parent.length k2, .slice C3 F.links.length k3, .slice C4 F.loops.length k4])).put (H.size + 1) (.own 0 [.slice D0 Q.nodes.length m0, .slice D1 Q.links.length m1]) := ⟨_, rfl⟩
  have g5 : H6.sees (H6.put H.size (.own 0 [.slice C0 F.vars.length k0, .slice C1 F.order.length k1, .slice C2 F.parent.length k2, .slice C3 F.links.length k3, .slice C4 F.loops.length k4])) := Hp.sees_box _ h60
  have g6 : (H6.put H.size (.own 0 [.slice C0 F.vars.length k0, .slice C1 F.order.length k1, .slice C2 F.parent.length k2, .slice C3 F.links.length k3, .slice C4 F.loops.length k4])).sees HA := by rw [hHA]; exact Hp.sees_box _ (by rw [Hp.put_other _ _ (by omega)]; exact h61)
  have fA := kForest.mono (g5.trans g6) hf6
  have qA := kParts.mono (g5.trans g6) hq6
  have leA : H.le HA := by rw [hHA]; exact Hp.le_put_new (Hp.le_put_new (Hp.le_trans (Hp.le_trans (Hp.le_push' (Hp.le_push' (H.le_push _) _) _) hle5) hle6) (by omega) _) (by omega) _
  have zA : H.size + 3 ≤ HA.size := by rw [hHA]; simp; omega
  have A0' : HA.get H.size = .own 0 [.slice C0 F.vars.length k0, .slice C1 F.order.length k1, .slice C2 F.parent.length k2, .slice C3 F.links.length k3, .slice C4 F.loops.length k4] := by rw [hHA, Hp.put_other _ _ (by omega)]; exact Hp.put_same _ _ _
  have A1' : HA.get (H.size + 1) = .own 0 [.slice D0 Q.nodes.length m0, .slice D1 Q.links.length m1] := by rw [hHA]; exact Hp.put_same _ _ _
  have A2' : HA.get (H.size + 2) = .own 0 [.int .i64 ai, .int .i64 aab, .int .i64 ano] := by rw [hHA, Hp.put_other _ _ (by omega), Hp.put_other _ _ (by omega)]; exact h62
  change ACode true _ _ _ _ _ ((H6.put H.size (.own 0 [.slice C0 F.vars.length k0, .slice C1 F.order.length k1, .slice C2 F.parent.length k2, .slice C3 F.links.length k3, .slice C4 F.loops.length k4])).put (H.size + 1) (.own 0 [.slice D0 Q.nodes.length m0, .slice D1 Q.links.length m1]))
  rw [← hHA]
  clear hHA g5 g6 h60 h61 h62 hf6 hq6 hle5 hle6 hz5 hz6 hf5
  refine Ys (by kernel_rfl) (Yz (B := [0, 1, 0, 7, 15, 31, 63, 63, 127, 511]) (π := [0, 2, 1, 3, 4, 5, 6, 7, 8, 9]) (by kernel_rfl)) ?_
  refine Xd rfl rfl (Ye (cs := [.slice _ _ _, .slice _ _ _, .slice _ _ _, .slice _ _ _, .slice _ _ _]) rfl Try.underlying26 rfl inf26.size Yb) Xp ?_
  refine Xd rfl rfl (Ye (cs := [.slice _ _ _, .slice _ _ _]) rfl Try.underlying29 rfl inf29.size Yb) Xp ?_
  refine Yi rfl rfl (X2 (Forest_28 F _ _ fA hbg) rfl Try.func8 rfl rfl rfl ?_)
  rintro v8 H8 ⟨hle8, es, rfl, hes⟩; rw [hff] at hes; have f8 := hes; obtain ⟨a5, a6, a7, a8, a9, rfl, hu0, hu1, hu2, hu3, hu4⟩ := hes; obtain ⟨E1, l1, rfl⟩ := hu0.shape; obtain ⟨E2, l2, rfl⟩ := hu1.shape; obtain ⟨E3, l3, rfl⟩ := hu2.shape; obtain ⟨E4, l4, rfl⟩ := hu3.shape; obtain ⟨E5, l5, rfl⟩ := hu4.shape
  refine ⟨Yg, ?_⟩
  refine Yi rfl rfl (X2 (Few4_parts Q _ _ (kParts.mono hle8.sees qA) hbq.l0 hbq.l1 hbq.s0 hbq.s1) rfl Try.func9 rfl rfl rfl ?_)
  rintro v9 H9 ⟨hle9, es, rfl, hes⟩; rw [hpp] at hes; have q9 := hes; obtain ⟨b2, b3, rfl, hm2, hm3⟩ := hes; obtain ⟨D2, m2, rfl⟩ := hm2.shape; obtain ⟨D3, m3, rfl⟩ := hm3.shape
  refine ⟨Yg, ?_⟩
  refine Yi rfl rfl (X2 (New_tree F Q _ _ _ (kForest.mono hle9.sees f8) q9 hsm hch) rfl Try.func11 rfl rfl rfl ?_)
  rintro v10 HB ⟨hle10, g, tv, hg, rfl, htv⟩
  refine ⟨Yg, ?_⟩
  refine Xd rfl rfl (Zn rfl) Xp ?_
  refine Xd rfl rfl (Y4 rfl rfl) Xp ?_
  refine Xd rfl rfl (Y4 rfl rfl) Xp ?_
  refine Xd rfl rfl (Z6 rfl) Xp ?_
  refine Xd rfl rfl (Xl rfl) Xp ?_
  refine Xf ?_
  refine Xf ?_
  have leAB := Hp.le_trans hle8 (Hp.le_trans hle9 hle10)
  have leB := Hp.le_trans leA leAB
  have zAB := leAB.1
  have fB := kForest.mono leAB.sees fA
  have qB := kParts.mono leAB.sees qA
  have B0' := Xu leAB (by omega) (by intro e; cases e) A0'
  have B1' := Xu leAB (by omega) (by intro e; cases e) A1'
  have B2' := Xu leAB (by omega) (by intro e; cases e) A2'
  clear hle8 hle9 hle10 f8 q9 hm2 hm3 hu0 hu1 hu2 hu3 hu4
  refine Xc (by kernel_rfl) ?_
  refine Xa (Ye (cs := [.slice _ _ _, .slice _ _ _, .slice _ _ _, .slice _ _ _, .slice _ _ _]) rfl Try.underlying26 rfl inf26.size Yb) ?_
  refine Xa (Ye (cs := [.slice _ _ _, .slice _ _ _]) rfl Try.underlying29 rfl inf29.size Yb) ?_
  refine X6 (X2 (GoodP_ref F Q _ _ _ fB qB hsm) rfl Try.func12 rfl rfl rfl ?_)
  rintro v13 HB ⟨⟨g2, rfl, hg2⟩, rfl⟩
  refine Xa (Zo rfl) ?_
  refine X4 rfl rfl ?_ ?_
  intro hc1
  obtain rfl : g2 = false := by simpa using hc1
  have hbad : ¬ GoodP F Q := fun h => by have := hg2.2 h; cases this
  obtain rfl : g = false := by cases g with | false => rfl | true => exact absurd (hg.1 rfl) hbad
  rw [if_neg (by decide)] at htv
  subst htv
  refine Xf ?_
  refine Xc (by kernel_rfl) ?_
  refine Xa (Yf rfl) ?_
  refine Xa (Vi rfl t_spot rfl Try.underlying33) ?_
  refine Xa (Xs rfl) ?_
  refine Yd rfl rfl rfl ?_ ?_
  intro hg2
  have hp2 := hg2; try simp only [decide_eq_true_eq, decide_eq_false_iff_not, Bool.not_eq_true', Bool.not_eq_false'] at hp2
  refine Xn (Xg rfl rfl rfl hg2) (Xb rfl) ?_
  refine Xn (Xg rfl rfl rfl hg2) (Zx rfl rfl) ?_
  refine Xa (Xm (congrArg Value.bool hg2) rfl) ?_
  refine Xa (Xs rfl) ?_
  refine Yd rfl rfl rfl ?_ ?_
  intro hg3
  have hp3 := hg3; try simp only [decide_eq_true_eq, decide_eq_false_iff_not, Bool.not_eq_true', Bool.not_eq_false'] at hp3
  refine Z1 (Xg rfl rfl rfl hg3) (X2 (lives29_ok _) rfl Try.func13 rfl rfl rfl ?_)
  rintro v H' ⟨rfl, hlv⟩
  refine Xa (Xm (congrArg Value.bool hg3) rfl) ?_
  refine Xa (Xq rfl) ?_
  refine X7 ?_
  exact ⟨.bool true, Xy (Xx rfl), rfl, Hp.le_trans leB hlv⟩
  intro hg3
  exact absurd hg3 (by decide)
  intro hg2
  exact absurd hg2 (by decide)
  intro hc1
  obtain rfl : g2 = true := by simpa using hc1
  have hG := hg2.1 rfl
  obtain rfl : g = true := hg.2 hG
  rw [if_pos rfl] at htv
  obtain ⟨tb, _, _, _, _, _, etv, _⟩ := id htv
  subst etv
  obtain ⟨k1', k2', k3', k4'⟩ := ofP_all hG
  have hX := ofP_good hG
  have hsx := small_sub hsm k1' k2'
  have hcx := (hch hG).sub k2'
  have hT := good_tree hX hsx hcx (by omega)
  have hwant := refOf_eq hG
  have hol : F.order.length = F.vars.length := hG.gf.l1
  have hpl : F.parent.length = F.vars.length := hG.gf.l2
  obtain ⟨X, hXe⟩ : ∃ X, X = ofP F Q := ⟨_, rfl⟩
  rw [← hXe] at htv hT hX hsx hcx hwant k1' k2' k3'
  obtain ⟨tl1, tl2, tl3⟩ := Vl (f := F) X
  have hgs := fun i a => group_same hX k3' i a
  have hrise := fun i a => group_rise hX i a
  have hbs := below_same (x := X) hG.gf
  have hpt := parR_tree (x := X) hG.gf
  have hat := fun {i : Nat} (h : i < F.order.length) => treeOf_at (f := F) X h
  obtain ⟨T, hTe⟩ : ∃ T, T = Zp F X := ⟨_, rfl⟩
  rw [← hTe] at htv hT tl1 tl2 tl3
  simp only [← hTe] at hgs hrise hbs hpt hat
  refine X8 ?_
  refine Xf ?_
  refine Xf ?_
  refine Ys (by kernel_rfl) (Yz (B := [0, 1, 3, 7, 15, 31, 63, 127, 255, 127, 639, 1663, 4095, 8191]) (π := [0, 1, 2, 3, 4, 5, 6, 7, 9, 10, 11, 8, 12, 13]) (by kernel_rfl)) ?_
  refine Xd rfl rfl (Yf rfl) Xp ?_
  refine Xd rfl rfl (Vi rfl t_spot rfl Try.underlying33) Xp ?_
  refine Xd rfl rfl (Xs rfl) Xp ?_
  refine Za rfl rfl rfl rfl ?_ ?_
  intro hg4
  cases hg4
  intro hg4
  have hp4 := hg4; try simp only [decide_eq_true_eq, decide_eq_false_iff_not, Bool.not_eq_true', Bool.not_eq_false'] at hp4
  refine X0 rfl (Xg rfl rfl rfl hg4) rfl (Xb rfl) Xp ?_
  refine X0 rfl (Xg rfl rfl rfl hg4) rfl (Zr rfl rfl) Xp ?_
  refine Xd rfl rfl (Xm (congrArg Value.bool hg4) rfl) Xp ?_
  refine Xd rfl rfl (Xs rfl) Xp ?_
  refine Za rfl rfl rfl rfl ?_ ?_
  intro hg5
  exact absurd hg5 (by decide)
  intro hg5
  have hp5 := hg5; try simp only [decide_eq_true_eq, decide_eq_false_iff_not, Bool.not_eq_true', Bool.not_eq_false'] at hp5
  refine X0 rfl (Xg rfl rfl rfl hg5) rfl (Yf rfl) Xp ?_
  refine X0 rfl (Xg rfl rfl rfl hg5) rfl (Xi (off := 1) rfl Try.underlying26 rfl inf23.size (by decide) rfl) Xp ?_
  refine X0 rfl (Xg rfl rfl rfl hg5) rfl (Xk rfl Try.underlying23 rfl Xr) Xp ?_
  refine X0 rfl (Xg rfl rfl rfl hg5) rfl (Yl rfl Try.underlying23) Xp ?_
  refine V3 rfl (Xg rfl rfl rfl hg5) rfl (X2 (Len_tree htv) rfl Try.func21 rfl rfl rfl ?_)
  rintro v14 HB ⟨rfl, rfl⟩
  refine ⟨Yg, ?_⟩
  refine X0 rfl (Xg rfl rfl rfl hg5) rfl (Zr rfl rfl) Xp ?_
  refine Xd rfl rfl (Xm (congrArg Value.bool hg5) rfl) Xp ?_
  refine X4 rfl rfl ?_ ?_
  intro hc6
  exact absurd (by rw [tl1]) (of_decide_eq_true hc6)
  intro hc6
  (try simp only [decide_eq_true_eq, decide_eq_false_iff_not, Bool.not_eq_true', Bool.not_eq_false'] at hc6)
  refine X8 ?_
  refine Xf ?_
  refine Xf ?_
  refine Xc (by kernel_rfl) ?_
  refine Xa (Ye (cs := [.slice _ _ _, .slice _ _ _, .slice _ _ _, .slice _ _ _, .slice _ _ _]) rfl Try.underlying26 rfl inf26.size Yb) ?_
  refine X6 (X2 (small29_forest F _ _ fB) rfl Try.func14 rfl rfl rfl ?_)
  rintro v17 HB ⟨rfl, rfl⟩
  refine Xa (Zo rfl) ?_
  refine X4 rfl rfl ?_ ?_
  intro hc7
  (try simp only [decide_eq_true_eq, decide_eq_false_iff_not, Bool.not_eq_true', Bool.not_eq_false'] at hc7)
  refine Xf ?_
  refine Xc (by kernel_rfl) ?_
  refine X6 (X2 (lives29_ok _) rfl Try.func13 rfl rfl rfl ?_)
  rintro v H' ⟨rfl, hlv⟩
  refine Xa (Xq rfl) ?_
  refine X7 ?_
  exact ⟨.bool true, Xy (Xx rfl), rfl, Hp.le_trans leB hlv⟩
  intro hc7
  have hlt : F.vars.length < 6 := by simpa using hc7
  have ht := htn hG hlt
  refine X8 ?_
  refine Xf ?_
  refine Ys (by kernel_rfl) (Yz (B := [0, 0, 3, 0, 8, 0, 39, 127, 255]) (π := [0, 1, 3, 4, 5, 2, 6, 7, 8]) (by kernel_rfl)) ?_
  refine Xd rfl rfl (Ye (cs := [.slice _ _ _, .slice _ _ _, .slice _ _ _, .slice _ _ _, .slice _ _ _]) rfl Try.underlying26 rfl inf26.size Yb) Xp ?_
  refine Xd rfl rfl (Ye (cs := [.slice _ _ _, .slice _ _ _]) rfl Try.underlying29 rfl inf29.size Yb) Xp ?_
  refine Xd rfl rfl (Zt rfl rfl Try.underlying56 inf3.size Xv Xv) Xp ?_
  refine Xd rfl rfl (Xk rfl Try.underlying3 rfl Xr) Xp ?_
  refine Y8 rfl rfl (Y2 (l := [.slice none 0 0, .slice none 0 0]) inf29.zero rfl (by decide)) ?_
  refine Yi rfl rfl (X2 (Of_ref F Q _ _ _ (kForest.mono Zh fB) (kParts.mono Zh qB) hG hsm ht) rfl Try.func22 rfl rfl rfl ?_)
  rintro v18 H18 ⟨G18, N18, L18, hle18, rfl, hpp18⟩; rw [hwant] at hpp18; have hleC18 := Hp.le_trans hle18 hpp18.le; obtain ⟨D8, m8, rfl⟩ := hpp18.slN.shape; obtain ⟨D9, m9, rfl⟩ := hpp18.slL.shape
  refine ⟨Yg, ?_⟩
  refine Yi rfl rfl (Yk (vs := [.slice _ _ _, .slice _ _ _]) rfl rfl inf29.size Yh Ym rfl rfl ?_)
  refine ⟨Yg, ?_⟩
  refine Xd rfl rfl (Xl rfl) Xp ?_
  refine Xd rfl rfl (Xl rfl) Xp ?_
  refine Xf ?_
  have h18b : H18.get HB.size = .own 0 [.slice none 0 0, .slice none 0 0] := Xu hleC18 (by simp) (by intro e; cases e) Yh
  obtain ⟨HC', hHC⟩ : ∃ HC', HC' = H18.put HB.size (.own 0 [.slice D8 X.nodes.length m8, .slice D9 X.links.length m9]) := ⟨_, rfl⟩
  have le18 : H18.sees HC' := by rw [hHC]; exact Hp.sees_box _ h18b
  have leBC : HB.le HC' := by rw [hHC]; exact Hp.le_put_new (Hp.le_trans (HB.le_push _) hleC18) (Nat.le_refl _) _
  have leC := Hp.le_trans leB leBC
  have z18 := hleC18.1
  simp only [Hp.push_size] at z18
  have zC : HC'.size = H18.size := by rw [hHC]; simp
  have fC := kForest.mono leBC.sees fB
  have xC : kParts.rep HC' X [.slice D8 X.nodes.length m8, .slice D9 X.links.length m9] := ⟨_, _, rfl, hpp18.slN.mono le18, hpp18.slL.mono le18⟩
  have xN := hpp18.slN.mono le18
  have xL := hpp18.slL.mono le18
  have C0' := Xu leBC (by omega) (by intro e; cases e) B0'
  have C2' := Xu leBC (by omega) (by intro e; cases e) B2'
  have C3' : HC'.get HB.size = .own 0 [.slice D8 X.nodes.length m8, .slice D9 X.links.length m9] := by rw [hHC]; exact Hp.put_same _ _ _
  have trC := htv.mono leBC
  change ACode true _ _ _ _ _ (H18.put HB.size (.own 0 [.slice D8 X.nodes.length m8, .slice D9 X.links.length m9]))
  rw [← hHC]
  clear hHC
  obtain ⟨vF0, vF1, vF2, vF3, vF4, eF, sF0, sF1, sF2, sF3, sF4⟩ := id fC
  simp only [List.cons.injEq, and_true] at eF
  obtain ⟨rfl, rfl, rfl, rfl, rfl⟩ := eF
  obtain ⟨inb, hinb⟩ : ∃ inb : Bool, inb = (decide (0 ≤ ai) && decide (ai < (F.order.length : Int))) := ⟨_, rfl⟩
  refine Xc (by kernel_rfl) ?_
  refine Xa (Yf rfl) ?_
  refine Xa (Xb rfl) ?_
  refine X6 (X2 (Var_tree trC ai) rfl Try.func23 rfl rfl rfl ?_)
  rintro v19 HC' ⟨rfl, rfl⟩; rw [tl1, ← hinb]; obtain ⟨nm, hnm⟩ : ∃ nm, nm = (if 0 ≤ ai ∧ ai < (F.order.length : Int) then T.vars.getD ai.toNat ⟨#[]⟩ else ⟨#[]⟩) := ⟨_, rfl⟩; rw [← hnm]
  refine Xa (Zn rfl) ?_
  refine Xa (Y4 rfl rfl) ?_
  refine Xa (Y4 rfl rfl) ?_
  refine Xa (Z3 rfl) ?_
  refine Xa (Xq rfl) ?_
  refine Xf ?_
  refine ac_cut (fun t H' => H' = HC' ∧ t 3 = .pointer (some ⟨H.size, 0, none⟩) ∧ t 5 = .pointer (some ⟨H.size + 2, 0, none⟩) ∧ t 7 = .pointer (some ⟨tb, 0, none⟩) ∧ t 9 = .pointer (some ⟨HB.size, 0, none⟩) ∧ t 10 = .int .i64 ai ∧ t 11 = .int .i64 0 ∧ t 12 = .string nm ∧ t 13 = .bool inb ∧ t 14 = .bool inb) ?_ ?_
  refine Xc (by kernel_rfl) ?_
  refine Xa (Xb rfl) ?_
  refine Xa (av_ge rfl rfl) ?_
  refine Xa (Xs rfl) ?_
  refine Yd rfl rfl rfl ?_ ?_
  intro hg8
  have h0 : 0 ≤ ai := of_decide_eq_true hg8
  refine Xn (Xg rfl rfl rfl hg8) (Xb rfl) ?_
  refine Xn (Xg rfl rfl rfl hg8) (Xi (off := 1) rfl Try.underlying26 rfl inf23.size (by decide) rfl) ?_
  refine Xn (Xg rfl rfl rfl hg8) (Xk rfl Try.underlying23 rfl Xr) ?_
  refine Xn (Xg rfl rfl rfl hg8) (Yl rfl Try.underlying23) ?_
  refine Xn (Xg rfl rfl rfl hg8) (Yx rfl rfl) ?_
  refine Xa (Xm (congrArg Value.bool hg8) rfl) ?_
  refine Xa (Xq rfl) ?_
  refine ⟨rfl, rfl, rfl, rfl, rfl, rfl, rfl, rfl, rfl, congrArg Value.bool ?_⟩
  rw [hinb]
  first
    | (rw [decide_eq_true h0]; rfl)
    | (rw [decide_eq_false h0]; rfl)
  intro hg8
  have h0 : ¬ 0 ≤ ai := of_decide_eq_false hg8
  refine Xe (Xh rfl rfl rfl hg8 rfl) ?_
  refine Xe (Xh rfl rfl rfl hg8 rfl) ?_
  refine Xe (Xh rfl rfl rfl hg8 rfl) ?_
  refine Xe (Xh rfl rfl rfl hg8 rfl) ?_
  refine Xe (Xh rfl rfl rfl hg8 rfl) ?_
  refine Xa (Xm (congrArg Value.bool hg8) rfl) ?_
  refine Xa (Xq rfl) ?_
  refine ⟨rfl, rfl, rfl, rfl, rfl, rfl, rfl, rfl, rfl, congrArg Value.bool ?_⟩
  rw [hinb]
  first
    | (rw [decide_eq_true h0]; rfl)
    | (rw [decide_eq_false h0]; rfl)
  rintro t HC' ⟨rfl, e3, e5, e7, e9, e10, e11, e12, e13, e14⟩
  refine Xf ?_
  refine Xf ?_
  refine ac_cut (fun t H' => H' = HC' ∧ t 3 = .pointer (some ⟨H.size, 0, none⟩) ∧ t 5 = .pointer (some ⟨H.size + 2, 0, none⟩) ∧ t 7 = .pointer (some ⟨tb, 0, none⟩) ∧ t 9 = .pointer (some ⟨HB.size, 0, none⟩) ∧ t 10 = .int .i64 ai ∧ t 11 = .int .i64 0 ∧ t 121 = .bool false) ?_ ?_
  refine Ys (by kernel_rfl) (Yz (B := [0, 0, 3, 7, 15, 31, 63, 63, 191, 63, 575, 63, 3647, 7743, 16319, 32703, 65535, 131071, 262143, 524287, 1048575, 2097151, 4194303, 8388607, 16777215, 33554431, 67108863, 134217727, 268435455, 268435455, 1073741823, 268435455, 268435455, 8589934591, 17179869183, 34359738367]) (π := [0, 1, 2, 3, 4, 5, 6, 7, 8, 9, 10, 11, 12, 13, 14, 15, 16, 17, 18, 19, 20, 21, 22, 23, 24, 25, 26, 27, 28, 29, 31, 32, 30, 33, 34, 35]) (by kernel_rfl)) ?_
  refine Xd rfl rfl (Xs Xj) Xp ?_
  refine Xd rfl rfl (Xs Xj) Xp ?_
  refine Xd rfl rfl (av_bne rfl rfl Try.underlying4) Xp ?_
  refine Xd rfl rfl (Xs rfl) Xp ?_
  refine Za rfl rfl rfl rfl ?_ ?_
  intro hg9
  (have h := hg9; simp at h)
  intro hg9
  have hp9 := hg9; try simp only [decide_eq_true_eq, decide_eq_false_iff_not, Bool.not_eq_true', Bool.not_eq_false'] at hp9
  refine X0 rfl (Xg rfl rfl rfl hg9) rfl (Xs Xj) Xp ?_
  refine X0 rfl (Xg rfl rfl rfl hg9) rfl (Xs rfl) Xp ?_
  refine Za rfl rfl rfl rfl ?_ ?_
  intro hg10
  have hin : inb = true := hg10
  have hir : 0 ≤ ai ∧ ai < F.order.length := by
    have h := hinb
    rw [hin] at h
    have h2 := h.symm
    rw [Bool.and_eq_true, decide_eq_true_eq, decide_eq_true_eq] at h2
    exact h2
  obtain ⟨bo, oo, eo, hbo, hco⟩ := sF1.int_at hir.1 hir.2
  subst eo
  obtain ⟨hwn, hwv⟩ := hG.gf.vAt_lt (s := ai.toNat) (by omega)
  rw [← hwv] at hco
  obtain ⟨bv, ov, ksv, ev, hbv, rfl, hcv⟩ := sF0.elem_at (i := Zj F ai.toNat) hwn
  subst ev
  have hcv' := hcv.one
  have hnv : nm = F.vars[Zj F ai.toNat] := by
    rw [hnm, if_pos hir, List.getD_eq_getElem?_getD, (hat (i := ai.toNat) (by omega)).1]
    simp [List.getElem?_eq_getElem hwn]
  refine X0 rfl (Xg rfl rfl rfl hg10) rfl (av_move_str Xj) Xp ?_
  refine X0 rfl (Xg rfl rfl rfl hg10) rfl (Xi (off := 0) Xj Try.underlying26 Xj inf22.size (by decide) Xj) Xp ?_
  refine X0 rfl (Xg rfl rfl rfl hg10) rfl (Xk rfl Try.underlying22 rfl Xr) Xp ?_
  refine X0 rfl (Xg rfl rfl rfl hg10) rfl (Xi (off := 1) Xj Try.underlying26 Xj inf23.size (by decide) Xj) Xp ?_
  refine X0 rfl (Xg rfl rfl rfl hg10) rfl (Xk rfl Try.underlying23 rfl Xr) Xp ?_
  refine X0 rfl (Xg rfl rfl rfl hg10) rfl (Xb Xj) Xp ?_
  refine X0 rfl (Xg rfl rfl rfl hg10) rfl (Xo rfl rfl Try.underlying23 inf3.size Xv Xv) Xp ?_
  refine X0 rfl (Xg rfl rfl rfl hg10) rfl (Xk rfl Try.underlying3 rfl Xr) Xp ?_
  refine X0 rfl (Xg rfl rfl rfl hg10) rfl (Xo rfl rfl Try.underlying22 inf9.size Xv Xv) Xp ?_
  refine X0 rfl (Xg rfl rfl rfl hg10) rfl (Xk rfl Try.underlying9 rfl Xr) Xp ?_
  refine X0 rfl (Xg rfl rfl rfl hg10) rfl (av_str_neq rfl rfl) Xp ?_
  refine X0 rfl (Xg rfl rfl rfl hg9) rfl (Xm (congrArg Value.bool hg10) rfl) Xp ?_
  refine Xd rfl rfl (Xm (congrArg Value.bool hg9) rfl) Xp ?_
  refine Xd rfl rfl (Xs rfl) Xp ?_
  refine Za rfl rfl rfl rfl ?_ ?_
  intro hg11
  exact absurd hnv (of_decide_eq_true hg11)
  intro hg11
  have hp11 := hg11; try simp only [decide_eq_true_eq, decide_eq_false_iff_not, Bool.not_eq_true', Bool.not_eq_false'] at hp11
  refine X0 rfl (Xg rfl rfl rfl hg11) rfl (Xs Xj) Xp ?_
  refine X0 rfl (Xg rfl rfl rfl hg11) rfl (Zo rfl) Xp ?_
  refine X0 rfl (Xg rfl rfl rfl hg11) rfl (Xs rfl) Xp ?_
  refine Za rfl rfl rfl rfl ?_ ?_
  intro hg12
  (have h := hg12; rw [hin] at h; cases h)
  intro hg12
  have hp12 := hg12; try simp only [decide_eq_true_eq, decide_eq_false_iff_not, Bool.not_eq_true', Bool.not_eq_false'] at hp12
  refine Xt rfl (Xh rfl rfl rfl hg12 rfl) ?_
  refine Xt rfl (Xh rfl rfl rfl hg12 rfl) ?_
  refine X0 rfl (Xg rfl rfl rfl hg11) rfl (Xm (congrArg Value.bool hg12) Xj) Xp ?_
  refine Xd rfl rfl (Xm (congrArg Value.bool hg11) rfl) Xp ?_
  refine Xd rfl rfl (Xs rfl) Xp ?_
  refine X0 rfl (Xg rfl rfl rfl rfl) rfl (Yf Xj) Xp ?_
  refine X0 rfl (Xg rfl rfl rfl rfl) rfl (Xb Xj) Xp ?_
  refine X0 rfl (Xg rfl rfl rfl rfl) rfl (Ye (cs := [.slice _ _ _, .slice _ _ _, .slice _ _ _, .slice _ _ _, .slice _ _ _]) Xj Try.underlying26 Xj inf26.size Yb) Xp ?_
  refine X0 rfl (Xg rfl rfl rfl rfl) rfl (Xb Xj) Xp ?_
  refine V3 rfl (Xg rfl rfl rfl rfl) rfl (X2 (Parent_tree trC hT.l1 ai) rfl Try.func20 rfl rfl rfl ?_)
  rintro v21 HC' ⟨rfl, rfl⟩
  refine ⟨Yg, ?_⟩
  refine V3 rfl (Xg rfl rfl rfl rfl) rfl (X2 (ParentR_ref F _ ai _ fC hG.gf (by omega)) rfl Try.func24 rfl rfl rfl ?_)
  rintro v22 HC' ⟨rfl, rfl⟩
  refine ⟨Yg, ?_⟩
  refine X0 rfl (Xg rfl rfl rfl rfl) rfl (Zr rfl rfl) Xp ?_
  refine Xd rfl rfl (Xm (congrArg Value.bool rfl) rfl) Xp ?_
  exact ⟨rfl, e3, e5, e7, e9, e10, e11, congrArg Value.bool (decide_eq_false (fun h => h (hpt ai).symm))⟩
  intro hg10
  have hin : inb = false := hg10
  have hne : nm = ⟨#[]⟩ := by
    rw [hnm, if_neg]
    intro h
    have h3 := hinb
    rw [hin, decide_eq_true h.1, decide_eq_true h.2] at h3
    cases h3
  refine Xt rfl (Xh rfl rfl rfl hg10 rfl) ?_
  refine Xt rfl (Xh rfl rfl rfl hg10 rfl) ?_
  refine Xt rfl (Xh rfl rfl rfl hg10 rfl) ?_
  refine Xt rfl (Xh rfl rfl rfl hg10 rfl) ?_
  refine Xt rfl (Xh rfl rfl rfl hg10 rfl) ?_
  refine Xt rfl (Xh rfl rfl rfl hg10 rfl) ?_
  refine Xt rfl (Xh rfl rfl rfl hg10 rfl) ?_
  refine Xt rfl (Xh rfl rfl rfl hg10 rfl) ?_
  refine Xt rfl (Xh rfl rfl rfl hg10 rfl) ?_
  refine Xt rfl (Xh rfl rfl rfl hg10 rfl) ?_
  refine Xt rfl (Xh rfl rfl rfl hg10 rfl) ?_
  refine X0 rfl (Xg rfl rfl rfl hg9) rfl (Xm (congrArg Value.bool hg10) Xj) Xp ?_
  refine Xd rfl rfl (Xm (congrArg Value.bool hg9) rfl) Xp ?_
  refine Xd rfl rfl (Xs rfl) Xp ?_
  refine X0 rfl (Xg rfl rfl rfl rfl) rfl (Xs Xj) Xp ?_
  refine X0 rfl (Xg rfl rfl rfl rfl) rfl (Zo rfl) Xp ?_
  refine X0 rfl (Xg rfl rfl rfl rfl) rfl (Xs rfl) Xp ?_
  refine Za rfl rfl rfl rfl ?_ ?_
  intro hg13
  have hp13 := hg13; try simp only [decide_eq_true_eq, decide_eq_false_iff_not, Bool.not_eq_true', Bool.not_eq_false'] at hp13
  refine X0 rfl (Xg rfl rfl rfl hg13) rfl (av_move_str Xj) Xp ?_
  refine X0 rfl (Xg rfl rfl rfl hg13) rfl (av_str_neq rfl rfl) Xp ?_
  refine X0 rfl (Xg rfl rfl rfl rfl) rfl (Xm (congrArg Value.bool hg13) rfl) Xp ?_
  refine Xd rfl rfl (Xm (congrArg Value.bool rfl) rfl) Xp ?_
  refine Xd rfl rfl (Xs rfl) Xp ?_
  refine Za rfl rfl rfl rfl ?_ ?_
  intro hg14
  exact absurd hne (of_decide_eq_true hg14)
  intro hg14
  have hp14 := hg14; try simp only [decide_eq_true_eq, decide_eq_false_iff_not, Bool.not_eq_true', Bool.not_eq_false'] at hp14
  refine X0 rfl (Xg rfl rfl rfl hg14) rfl (Yf Xj) Xp ?_
  refine X0 rfl (Xg rfl rfl rfl hg14) rfl (Xb Xj) Xp ?_
  refine X0 rfl (Xg rfl rfl rfl hg14) rfl (Ye (cs := [.slice _ _ _, .slice _ _ _, .slice _ _ _, .slice _ _ _, .slice _ _ _]) Xj Try.underlying26 Xj inf26.size Yb) Xp ?_
  refine X0 rfl (Xg rfl rfl rfl hg14) rfl (Xb Xj) Xp ?_
  refine V3 rfl (Xg rfl rfl rfl hg14) rfl (X2 (Parent_tree trC hT.l1 ai) rfl Try.func20 rfl rfl rfl ?_)
  rintro v21 HC' ⟨rfl, rfl⟩
  refine ⟨Yg, ?_⟩
  refine V3 rfl (Xg rfl rfl rfl hg14) rfl (X2 (ParentR_ref F _ ai _ fC hG.gf (by omega)) rfl Try.func24 rfl rfl rfl ?_)
  rintro v22 HC' ⟨rfl, rfl⟩
  refine ⟨Yg, ?_⟩
  refine X0 rfl (Xg rfl rfl rfl hg14) rfl (Zr rfl rfl) Xp ?_
  refine Xd rfl rfl (Xm (congrArg Value.bool hg14) rfl) Xp ?_
  exact ⟨rfl, e3, e5, e7, e9, e10, e11, congrArg Value.bool (decide_eq_false (fun h => h (hpt ai).symm))⟩
  intro hg13
  (have h := hg13; rw [hin] at h; cases h)
  rintro t HC' ⟨rfl, e3, e5, e7, e9, e10, e11, e121⟩
  refine Yr (e121) rfl ?_
  refine X8 ?_
  refine Xf ?_
  obtain ⟨L, hL⟩ : ∃ L, L = T.group ai aab := ⟨_, rfl⟩
  refine Xc (by kernel_rfl) ?_
  refine Xa (Ye (cs := [.slice _ _ _, .slice _ _ _, .slice _ _ _, .slice _ _ _, .slice _ _ _]) Xj Try.underlying26 Xj inf26.size Yb) ?_
  refine Xa (Ye (cs := [.slice _ _ _, .slice _ _ _]) Xj Try.underlying29 Xj inf29.size Yb) ?_
  refine Xa (Xb Xj) ?_
  refine Xa (Zt Xj Xj Try.underlying56 inf3.size Xv Xv) ?_
  refine Xa (Xk rfl Try.underlying3 rfl Xr) ?_
  refine X6 (X2 (GroupR_ref F X _ _ ai aab _ fC xC hG.gf k1' hsx hcx) rfl Try.func25 rfl rfl rfl ?_)
  rintro v23 H23 ⟨hle23, hs23⟩; rw [← hgs, ← hL] at hs23; obtain ⟨D23, c23, rfl⟩ := hs23.shape; have tr23 := trC.mono hle23; have z23 := hle23.1; have G232 := Xu hle23 (by omega) (by intro e; cases e) C2'
  refine Xa (X3 rfl) ?_
  refine Xf ?_
  refine Xc (by kernel_rfl) ?_
  refine Xa (Yf Xj) ?_
  refine Xa (Xb Xj) ?_
  refine Xa (Zt Xj Xj Try.underlying56 inf3.size Xv Xv) ?_
  refine Xa (Xk rfl Try.underlying3 rfl Xr) ?_
  refine Xa (Zt Xj Xj Try.underlying56 inf3.size Xv Xv) ?_
  refine Xa (Xk rfl Try.underlying3 rfl Xr) ?_
  refine X6 (X2 (Find_tree tr23 hT.l1 hT.l2 hT.lens ai aab ano (hT.sort _ _)) rfl Try.func26 rfl rfl rfl ?_)
  rintro v24 H24 ⟨hle24, rfl⟩; rw [← hL]; obtain ⟨fo, hfo⟩ : ∃ fo, fo = Vd L ano := ⟨_, rfl⟩; rw [← hfo]
  refine Xa (Zn rfl) ?_
  refine Xa (Y4 rfl rfl) ?_
  refine Xa (Y4 rfl rfl) ?_
  refine X1 (Y2 (l := [.int .i64 0, .int .i64 0, .int .i64 0, .int .u64 0]) inf54.zero rfl (by decide)) ?_
  first | refine X6 (Yk (vs := [.int .i64 _, .int .i64 _, .int .i64 _, .int .u64 _]) rfl rfl inf54.size Yh Ym rfl rfl ?_)
  refine Xa (Xq rfl) ?_
  refine Xf ?_
  have hLr : L.Pairwise fun x y => x.b < y.b := by rw [hL]; exact hrise ai aab
  have hLl : L.length ≤ 1000000 := by rw [hL]; exact group_len hT.lens _ _
  obtain ⟨fl, hfl⟩ : ∃ fl, fl = fo.getD Zu := ⟨_, rfl⟩
  rw [← hfl]
  obtain ⟨HD, hHD⟩ : ∃ HD, HD = (H24.push (.own 0 [.int .i64 0, .int .i64 0, .int .i64 0, .int .u64 0])).put H24.size (.own 0 [.int .i64 fl.a, .int .i64 fl.b, .int .i64 fl.cost, .int .u64 fl.n]) := ⟨_, rfl⟩
  have le24D : H24.le HD := by rw [hHD]; exact Hp.le_put_new (H24.le_push _) (Nat.le_refl _) _
  have leCD := Hp.le_trans hle23 (Hp.le_trans hle24 le24D)
  have zCD := leCD.1
  have zD : HD.size = H24.size + 1 := by rw [hHD]; simp
  have D0' := Xu leCD (by omega) (by intro e; cases e) C0'
  have D2' := Xu leCD (by omega) (by intro e; cases e) C2'
  have D3' := Xu leCD (by omega) (by intro e; cases e) C3'
  have D4' : HD.get H24.size = .own 0 [.int .i64 fl.a, .int .i64 fl.b, .int .i64 fl.cost, .int .u64 fl.n] := by rw [hHD]; exact Hp.put_same _ _ _
  have trD := trC.mono leCD
  have hsD := hs23.mono (Hp.le_trans hle24 le24D).sees
  change ACode true _ _ _ _ _ ((H24.push (.own 0 [.int .i64 0, .int .i64 0, .int .i64 0, .int .u64 0])).put H24.size (.own 0 [.int .i64 fl.a, .int .i64 fl.b, .int .i64 fl.cost, .int .u64 fl.n]))
  rw [← hHD]
  clear hHD
  refine Xc (by kernel_rfl) ?_
  refine Xa (Xl rfl) ?_
  refine Xf ?_
  refine Xf ?_
  refine Xc (by kernel_rfl) ?_
  refine Xa (Xl rfl) ?_
  refine X9 ?_
  refine Yy (fun n t H' => ∃ (k : Nat) (w : Int), k ≤ L.length ∧ n = L.length - k ∧ H' = HD ∧ LastB L ano k w ∧ t 3 = .pointer (some ⟨H.size, 0, none⟩) ∧ t 5 = .pointer (some ⟨H.size + 2, 0, none⟩) ∧ t 7 = .pointer (some ⟨tb, 0, none⟩) ∧ t 9 = .pointer (some ⟨HB.size, 0, none⟩) ∧ t 10 = .int .i64 ai ∧ t 11 = .int .i64 0 ∧ t 15 = .slice D23 L.length c23 ∧ t 16 = .pointer (some ⟨H24.size, 0, none⟩) ∧ t 17 = .bool fo.isSome ∧ t 18 = .int .i64 w ∧ t 19 = .int .i64 k) (L.length) (⟨0, -1, by omega, rfl, rfl, .inl ⟨rfl, fun j _ h => by omega⟩, e3, e5, e7, e9, e10, e11, rfl, rfl, rfl, rfl, rfl⟩) ?_
  rintro n t HD ⟨k, w, hk, rfl, rfl, hlast, e3, e5, e7, e9, e10, e11, e15, e16, e17, e18, e19⟩
  refine Xf ?_
  refine Xf ?_
  refine Xc (by kernel_rfl) ?_
  refine Xa (Xb Xj) ?_
  refine Xa (Xw Xj) ?_
  refine Xa (Yl rfl Try.underlying50) ?_
  refine Xa (Yx rfl rfl) ?_
  refine X4 rfl rfl ?_ ?_
  intro hc16
  (try simp only [decide_eq_true_eq, decide_eq_false_iff_not, Bool.not_eq_true', Bool.not_eq_false'] at hc16)
  refine X8 ?_
  refine Xf ?_
  refine X9 ?_
  refine Xf ?_
  have hkx : k < L.length := by omega
  obtain ⟨bk, ok, eA, hbk, hck⟩ := hsD.link_at hkx
  subst eA
  have hck1 := hck 1 _ rfl
  refine Ys (by kernel_rfl) (Yz (B := [0, 0, 3, 7, 15, 0, 32, 127]) (π := [0, 1, 2, 3, 4, 5, 6, 7]) (by kernel_rfl)) ?_
  refine Xd rfl rfl (Xw Xj) Xp ?_
  refine Xd rfl rfl (Xb Xj) Xp ?_
  refine Xd rfl rfl (Xo rfl rfl Try.underlying50 inf54.size Xv Xv) Xp ?_
  refine Xd rfl rfl (Xi (off := 1) rfl Try.underlying54 rfl inf3.size (by decide) rfl) Xp ?_
  refine Xd rfl rfl (Xk rfl Try.underlying3 rfl Xr) Xp ?_
  refine Xd rfl rfl (Zt Xj Xj Try.underlying56 inf3.size Xv Xv) Xp ?_
  refine Xd rfl rfl (Xk rfl Try.underlying3 rfl Xr) Xp ?_
  refine Xd rfl rfl (Zx rfl rfl) Xp ?_
  refine X4 rfl rfl ?_ ?_
  intro hc17
  have heq : L[k].b = ano := of_decide_eq_true hc17
  refine Xc (by kernel_rfl) ?_
  refine Xa (Xb Xj) ?_
  refine Xa (Xl rfl) ?_
  refine Xc (by kernel_rfl) ?_
  refine Xa (Xb Xj) ?_
  refine Xa (Yc rfl rfl Yn) ?_
  refine Xa (Xl rfl) ?_
  first
    | exact ⟨L.length - (k + 1), by omega, k + 1, (k : Int), by omega, rfl, rfl, .inr ⟨k, rfl, by omega, hkx, heq⟩, e3, e5, e7, e9, e10, e11, e15, e16, e17, rfl, rfl⟩
    | exact ⟨L.length - (k + 1), by omega, k + 1, w, by omega, rfl, rfl, hlast.skip hkx hne, e3, e5, e7, e9, e10, e11, e15, e16, e17, e18, rfl⟩
  intro hc17
  have hne : L[k].b ≠ ano := of_decide_eq_false hc17
  refine X8 ?_
  refine Xc (by kernel_rfl) ?_
  refine Xa (Xb Xj) ?_
  refine Xa (Yc rfl rfl Yn) ?_
  refine Xa (Xl rfl) ?_
  first
    | exact ⟨L.length - (k + 1), by omega, k + 1, (k : Int), by omega, rfl, rfl, .inr ⟨k, rfl, by omega, hkx, heq⟩, e3, e5, e7, e9, e10, e11, e15, e16, e17, rfl, rfl⟩
    | exact ⟨L.length - (k + 1), by omega, k + 1, w, by omega, rfl, rfl, hlast.skip hkx hne, e3, e5, e7, e9, e10, e11, e15, e16, e17, e18, rfl⟩
  intro hc16
  (try simp only [decide_eq_true_eq, decide_eq_false_iff_not, Bool.not_eq_true', Bool.not_eq_false'] at hc16)
  refine Yo ?_
  refine Xf ?_
  refine Xf ?_
  refine ac_cut (fun t H' => HD.le H' ∧ t 3 = .pointer (some ⟨H.size, 0, none⟩) ∧ t 7 = .pointer (some ⟨tb, 0, none⟩) ∧ t 9 = .pointer (some ⟨HB.size, 0, none⟩) ∧ t 10 = .int .i64 ai ∧ t 11 = .int .i64 0 ∧ t 186 = .bool false) ?_ ?_
  obtain rfl : k = L.length := by omega
  have hfin := findB_last hLr hlast
  rw [← hfo] at hfin
  have hoks : fo.isSome = decide (w ≥ 0) := by
    rcases hfin with ⟨h1, h2⟩ | ⟨m, h1, h2, h3⟩
    · rw [h1, h2]; rfl
    · rw [h1, h3]; symm; exact decide_eq_true (by omega)
  refine Ys (by kernel_rfl) (Yz (B := [0, 0, 0, 4, 15, 0, 63, 127, 255, 511, 511, 1535, 4095, 8191, 16383, 32767, 65535, 131071, 131071, 131071, 917503, 1966079, 4194303, 8388607, 16777215, 33554431, 67108863, 134217727, 268435455, 536870911, 536870911, 2147483647, 4294967295, 8589934591]) (π := [0, 1, 2, 3, 5, 4, 6, 7, 8, 9, 10, 11, 12, 13, 14, 15, 16, 17, 18, 19, 20, 21, 22, 23, 24, 25, 26, 27, 28, 29, 30, 31, 32, 33]) (by kernel_rfl)) ?_
  refine Xd rfl rfl (Yf Xj) Xp ?_
  refine Xd rfl rfl (Xb Xj) Xp ?_
  refine Xd rfl rfl (Zt Xj Xj Try.underlying56 inf3.size Xv Xv) Xp ?_
  refine Xd rfl rfl (Xk rfl Try.underlying3 rfl Xr) Xp ?_
  refine Xd rfl rfl (Xw Xj) Xp ?_
  refine Yi rfl rfl (X2 (Group_tree trD hT.l1 hT.l2 hT.lens ai aab) rfl Try.func19 rfl rfl rfl ?_)
  rintro v30 H3 ⟨G3, hleG3, hownG⟩; rw [← hL] at hownG; have hslG := hownG.sl; obtain ⟨AG, cG, rfl⟩ := hslG.shape; have le23 := Hp.le_trans hleG3 hownG.le; have z233 := le23.1; have D42 := Xu le23 (by omega) (by intro e; cases e) D4'; have hs3 := hsD.mono le23.sees
  refine ⟨Yg, ?_⟩
  refine Yi rfl rfl (X2 (Same_links L L _ _ _ hslG hs3 (by omega)) rfl Try.func27 rfl rfl rfl ?_)
  rintro v31 H3 ⟨rfl, rfl⟩
  refine ⟨Yg, ?_⟩
  refine Xd rfl rfl (Zo rfl) Xp ?_
  refine Xd rfl rfl (Xs rfl) Xp ?_
  refine Za rfl rfl rfl rfl ?_ ?_
  intro hg18
  (have h := hg18; simp at h)
  intro hg18
  have hp18 := hg18; try simp only [decide_eq_true_eq, decide_eq_false_iff_not, Bool.not_eq_true', Bool.not_eq_false'] at hp18
  refine X0 rfl (Xg rfl rfl rfl hg18) rfl (Xs Xj) Xp ?_
  refine X0 rfl (Xg rfl rfl rfl hg18) rfl (Xb Xj) Xp ?_
  refine X0 rfl (Xg rfl rfl rfl hg18) rfl (av_ge rfl rfl) Xp ?_
  refine X0 rfl (Xg rfl rfl rfl hg18) rfl (av_bne rfl rfl Try.underlying4) Xp ?_
  refine Xd rfl rfl (Xm (congrArg Value.bool hg18) rfl) Xp ?_
  refine Xd rfl rfl (Xs rfl) Xp ?_
  refine Za rfl rfl rfl rfl ?_ ?_
  intro hg19
  (have h := hg19; rw [hoks] at h; simp at h)
  intro hg19
  have hp19 := hg19; try simp only [decide_eq_true_eq, decide_eq_false_iff_not, Bool.not_eq_true', Bool.not_eq_false'] at hp19
  refine X0 rfl (Xg rfl rfl rfl hg19) rfl (Xs Xj) Xp ?_
  refine X0 rfl (Xg rfl rfl rfl hg19) rfl (Xs rfl) Xp ?_
  refine Za rfl rfl rfl rfl ?_ ?_
  intro hg20
  have hsome : fo.isSome = true := hg20
  obtain ⟨m, hm, hml, hfm⟩ := hfin.resolve_left (fun h => by rw [h.2] at hsome; cases hsome)
  subst hm
  obtain ⟨bm, om, eM, hbm, hcm⟩ := hs3.link_at hml
  subst eM
  have hflm : fl = L[m] := by rw [hfl, hfm]; rfl
  refine X0 rfl (Xg rfl rfl rfl hg20) rfl (Ye (cs := [.int .i64 _, .int .i64 _, .int .i64 _, .int .u64 _]) Xj Try.underlying54 Xj inf54.size Yb) Xp ?_
  refine X0 rfl (Xg rfl rfl rfl hg20) rfl (Xw Xj) Xp ?_
  refine X0 rfl (Xg rfl rfl rfl hg20) rfl (Xb Xj) Xp ?_
  refine X0 rfl (Xg rfl rfl rfl hg20) rfl (Xo rfl rfl Try.underlying50 inf54.size Xv Xv) Xp ?_
  refine X0 rfl (Xg rfl rfl rfl hg20) rfl (Ye (cs := [.int .i64 _, .int .i64 _, .int .i64 _, .int .u64 _]) rfl Try.underlying54 rfl inf54.size Yb) Xp ?_
  refine X0 rfl (Xg rfl rfl rfl hg20) rfl (av_link_neq (p := fl) (q := L[m]) rfl rfl) Xp ?_
  refine X0 rfl (Xg rfl rfl rfl hg19) rfl (Xm (congrArg Value.bool hg20) rfl) Xp ?_
  refine Xd rfl rfl (Xm (congrArg Value.bool hg19) rfl) Xp ?_
  refine Xd rfl rfl (Xs rfl) Xp ?_
  refine Za rfl rfl rfl rfl ?_ ?_
  intro hg21
  (have h := hg21; rw [hflm] at h; simp at h)
  intro hg21
  have hp21 := hg21; try simp only [decide_eq_true_eq, decide_eq_false_iff_not, Bool.not_eq_true', Bool.not_eq_false'] at hp21
  refine X0 rfl (Xg rfl rfl rfl hg21) rfl (Xs Xj) Xp ?_
  refine X0 rfl (Xg rfl rfl rfl hg21) rfl (Zo rfl) Xp ?_
  refine X0 rfl (Xg rfl rfl rfl hg21) rfl (Xs rfl) Xp ?_
  refine Za rfl rfl rfl rfl ?_ ?_
  intro hg22
  (have h := hg22; rw [hsome] at h; cases h)
  intro hg22
  have hp22 := hg22; try simp only [decide_eq_true_eq, decide_eq_false_iff_not, Bool.not_eq_true', Bool.not_eq_false'] at hp22
  refine Xt rfl (Xh rfl rfl rfl hg22 rfl) ?_
  refine Xt rfl (Xh rfl rfl rfl hg22 rfl) ?_
  refine Xt rfl (Xh rfl rfl rfl hg22 rfl) ?_
  refine X0 rfl (Xg rfl rfl rfl hg21) rfl (Xm (congrArg Value.bool hg22) Xj) Xp ?_
  refine Xd rfl rfl (Xm (congrArg Value.bool hg21) rfl) Xp ?_
  first
    | exact ⟨le23, e3, e7, e9, e10, e11, rfl⟩
    | exact ⟨le23, e3, e7, e9, e10, e11, congrArg Value.bool (by rw [hfl0]; simp)⟩
  intro hg20
  have hnone : fo.isSome = false := hg20
  have hfl0 : fl = Zu := by rw [hfl]; cases hf : fo with | none => rfl | some y => rw [hf] at hnone; cases hnone
  refine Xt rfl (Xh rfl rfl rfl hg20 rfl) ?_
  refine Xt rfl (Xh rfl rfl rfl hg20 rfl) ?_
  refine Xt rfl (Xh rfl rfl rfl hg20 rfl) ?_
  refine Xt rfl (Xh rfl rfl rfl hg20 rfl) ?_
  refine Xt rfl (Xh rfl rfl rfl hg20 rfl) ?_
  refine Xt rfl (Xh rfl rfl rfl hg20 rfl) ?_
  refine X0 rfl (Xg rfl rfl rfl hg19) rfl (Xm (congrArg Value.bool hg20) Xj) Xp ?_
  refine Xd rfl rfl (Xm (congrArg Value.bool hg19) rfl) Xp ?_
  refine Xd rfl rfl (Xs rfl) Xp ?_
  refine X0 rfl (Xg rfl rfl rfl rfl) rfl (Xs Xj) Xp ?_
  refine X0 rfl (Xg rfl rfl rfl rfl) rfl (Zo rfl) Xp ?_
  refine X0 rfl (Xg rfl rfl rfl rfl) rfl (Xs rfl) Xp ?_
  refine Za rfl rfl rfl rfl ?_ ?_
  intro hg23
  have hp23 := hg23; try simp only [decide_eq_true_eq, decide_eq_false_iff_not, Bool.not_eq_true', Bool.not_eq_false'] at hp23
  refine X0 rfl (Xg rfl rfl rfl hg23) rfl (Ye (cs := [.int .i64 _, .int .i64 _, .int .i64 _, .int .u64 _]) Xj Try.underlying54 Xj inf54.size Yb) Xp ?_
  refine X0 rfl (Xg rfl rfl rfl hg23) rfl (Y6 (pl := [(0, 1), (1, 1), (2, 1), (3, 1)]) (r := [.int .i64 _, .int .i64 _, .int .i64 _, .int .u64 _]) Try.underlying54 inf54.zero (by decide) rfl rfl) Xp ?_
  refine X0 rfl (Xg rfl rfl rfl hg23) rfl (av_link_neq (p := fl) (q := Zu) rfl rfl) Xp ?_
  refine X0 rfl (Xg rfl rfl rfl rfl) rfl (Xm (congrArg Value.bool hg23) rfl) Xp ?_
  refine Xd rfl rfl (Xm (congrArg Value.bool rfl) rfl) Xp ?_
  first
    | exact ⟨le23, e3, e7, e9, e10, e11, rfl⟩
    | exact ⟨le23, e3, e7, e9, e10, e11, congrArg Value.bool (by rw [hfl0]; simp)⟩
  intro hg23
  (have h := hg23; rw [hnone] at h; cases h)
  rintro t HE ⟨leDE, e3, e7, e9, e10, e11, e186⟩
  refine Yr (e186) rfl ?_
  refine X8 ?_
  refine Xf ?_
  have leCE := Hp.le_trans leCD leDE
  have zDE := leDE.1
  have E0' := Xu leDE (by omega) (by intro e; cases e) D0'
  have E3' := Xu leDE (by omega) (by intro e; cases e) D3'
  have trE := trD.mono leDE
  have fE := kForest.mono leCE.sees fC
  have sF1E := sF1.mono leCE.sees
  have sF2E := sF2.mono leCE.sees
  have xNE := xN.mono leCE.sees
  have xLE := xL.mono leCE.sees
  have hsumb := sum_bound hT.lens
  have hxn := k1'.1
  have hxl := k1'.2
  refine Xc (by kernel_rfl) ?_
  first | refine X1 (Ya (r := []) Try.underlying23 inf3.size inf3.zero rfl (by decide) (by decide) (by decide) rfl) ?_
  refine Xa (X3 rfl) ?_
  refine Xf ?_
  refine Xf ?_
  refine Xc (by kernel_rfl) ?_
  refine Xa (Xl rfl) ?_
  refine X9 ?_
  refine Yy (fun n t H' => ∃ (k : Nat) (G : Hp) (B : Option Addr) (c20 : Nat) (out : List Int), k ≤ F.order.length ∧ n = F.order.length - k ∧ HE.le G ∧ out = belowR F ai k ∧ OwnP (Y3 .i64) G H' (.slice B out.length c20) out ∧ t 3 = .pointer (some ⟨H.size, 0, none⟩) ∧ t 7 = .pointer (some ⟨tb, 0, none⟩) ∧ t 9 = .pointer (some ⟨HB.size, 0, none⟩) ∧ t 10 = .int .i64 ai ∧ t 11 = .int .i64 (((T.links.take k).map List.length).sum : Nat) ∧ t 20 = .slice B out.length c20 ∧ t 21 = .int .i64 k) (F.order.length) (⟨0, _, _, _, [], by omega, rfl, HE.le_push _, rfl, OwnP.lit (Y3 .i64) HE (cs := []), e3, e7, e9, e10, e11, rfl, rfl⟩) ?_
  rintro n t H1 ⟨k, G, B, c20, out, hk, rfl, leG, hout, hown, e3, e7, e9, e10, e11, e20, e21⟩
  have leE1 := Hp.le_trans leG hown.le
  have zE1 := leE1.1
  have g0 := Xu leE1 (by omega) (by intro e; cases e) E0'
  have zz1 := hown.size
  have hol1 : out.length ≤ k := by rw [hout]; exact belowR_len F ai k
  refine Xf ?_
  refine Xf ?_
  refine Xc (by kernel_rfl) ?_
  refine Xa (Xb Xj) ?_
  refine Xa (Xi (off := 1) Xj Try.underlying26 Xj inf23.size (by decide) Xj) ?_
  refine Xa (Xk rfl Try.underlying23 rfl Xr) ?_
  refine Xa (Yl rfl Try.underlying23) ?_
  refine Xa (Yx rfl rfl) ?_
  refine X4 rfl rfl ?_ ?_
  intro hc25
  have hkx : k < F.order.length := by have := of_decide_eq_true hc25; omega
  refine X8 ?_
  refine Xf ?_
  refine X9 ?_
  refine Xf ?_
  refine Xf ?_
  refine ac_cut (fun t H' => H' = H1 ∧ t 3 = .pointer (some ⟨H.size, 0, none⟩) ∧ t 7 = .pointer (some ⟨tb, 0, none⟩) ∧ t 9 = .pointer (some ⟨HB.size, 0, none⟩) ∧ t 10 = .int .i64 ai ∧ t 11 = .int .i64 (((T.links.take k).map List.length).sum : Nat) ∧ t 20 = .slice B out.length c20 ∧ t 21 = .int .i64 k ∧ t 203 = .bool (decide (parR F (k : Int) = ai ∧ ai ≥ -1))) ?_ ?_
  refine Xc (by kernel_rfl) ?_
  refine Xa (Ye (cs := [.slice _ _ _, .slice _ _ _, .slice _ _ _, .slice _ _ _, .slice _ _ _]) Xj Try.underlying26 Xj inf26.size Yb) ?_
  refine Xa (Xb Xj) ?_
  refine X6 (X2 (ParentR_ref F _ (k : Int) _ (kForest.mono leE1.sees fE) hG.gf (by omega)) rfl Try.func24 rfl rfl rfl ?_)
  rintro v40 H1 ⟨rfl, rfl⟩
  refine Xa (Xb Xj) ?_
  refine Xa (Zx rfl rfl) ?_
  refine Xa (Xs rfl) ?_
  refine Yd rfl rfl rfl ?_ ?_
  intro hg26
  have h1 : parR F (k : Int) = ai := of_decide_eq_true hg26
  refine Xn (Xg rfl rfl rfl hg26) (Xb Xj) ?_
  refine Xn (Xg rfl rfl rfl hg26) (av_ge rfl rfl) ?_
  refine Xa (Xm (congrArg Value.bool hg26) rfl) ?_
  refine ⟨rfl, e3, e7, e9, e10, e11, e20, e21, congrArg Value.bool ?_⟩
  first
    | exact decide_eq_decide.2 ⟨fun h => ⟨h1, h⟩, fun h => h.2⟩
    | exact (decide_eq_false fun h => h1 h.1).symm
  intro hg26
  have h1 : ¬ parR F (k : Int) = ai := of_decide_eq_false hg26
  refine Xe (Xh rfl rfl rfl hg26 rfl) ?_
  refine Xe (Xh rfl rfl rfl hg26 rfl) ?_
  refine Xa (Xm (congrArg Value.bool hg26) Xj) ?_
  refine ⟨rfl, e3, e7, e9, e10, e11, e20, e21, congrArg Value.bool ?_⟩
  first
    | exact decide_eq_decide.2 ⟨fun h => ⟨h1, h⟩, fun h => h.2⟩
    | exact (decide_eq_false fun h => h1 h.1).symm
  rintro t H1 ⟨rfl, e3, e7, e9, e10, e11, e20, e21, e203⟩
  have hnx := belowR_next F ai k
  refine X4 Xj rfl ?_ ?_
  intro hc27
  have hyes : parR F (k : Int) = ai ∧ ai ≥ -1 := of_decide_eq_true hc27
  rw [if_pos hyes, ← hout] at hnx
  refine Xc (by kernel_rfl) ?_
  refine Xa (Xw Xj) ?_
  refine Xa (Xb Xj) ?_
  first | refine X1 (Ya (r := [.int .i64 _]) Try.underlying23 inf3.size inf3.zero rfl (by decide) (by decide) (by decide) rfl) ?_
  refine X6 (OwnP.append (ys := [(k : Int)]) (hown.push _) Try.underlying23 inf3 Xj Xj rfl (Zf (k := Y3 .i64) rfl rfl hown.size rfl) (by simp only [List.length_singleton]; omega) (by simp only [List.length_singleton]; omega) ?_)
  rintro v6 G6 H6 hle6 hownX
  obtain ⟨B', c', e6⟩ := hownX.shape
  subst e6
  have leX : HE.le G6 := Hp.le_trans (Hp.le_push' leG _) hle6
  refine Xa (X3 rfl) ?_
  refine Xf ?_
  have leX1 := Hp.le_trans leX hownX.le
  have gx0 := Xu leX1 (by omega) (by intro e; cases e) E0'
  have gx3 := Xu leX1 (by omega) (by intro e; cases e) E3'
  obtain ⟨b1, o1, e1', hb1, hcell1⟩ := sF1E.int_at (i := (k : Int)) (by omega) (by omega)
  subst e1'
  obtain ⟨hwn, hwv⟩ := hG.gf.vAt_lt (s := k) (by omega)
  rw [Int.toNat_natCast, ← hwv] at hcell1
  have hcell1' := leX1.cell1 hb1 hcell1
  obtain ⟨b2, o2, e2', hb2, hcell2⟩ := sF2E.int_at (i := ((Zj F k : Nat) : Int)) (by omega) (by omega)
  subst e2'
  rw [Int.toNat_natCast] at hcell2
  have hcell2' := leX1.cell1 hb2 hcell2
  have hge := hG.gf.parent_ge hwn
  obtain ⟨bn, on, ks, eN, hbn, ⟨wn, rfl, hwN⟩, hcellN⟩ := xNE.elem_at (i := Zj F k) (by omega)
  subst eN
  have hcellN' := leX1.cell1 hbn hcellN.one
  obtain ⟨An, cn, rfl⟩ := hwN.shape
  obtain ⟨bl, ol, ks, eL, hbl, ⟨wl, rfl, hwL⟩, hcellL⟩ := xLE.elem_at (i := Zj F k) (by omega)
  subst eL
  have hcellL' := leX1.cell1 hbl hcellL.one
  obtain ⟨Al, cl, rfl⟩ := hwL.shape
  have hkT : k < T.links.length := by omega
  have hsn := sum_next hkT
  have hsb := hsumb k
  have hlk : T.links[k] = Yq F X (Zj F k) := by
    have := (hat hkx).2.2
    rw [List.getElem?_eq_getElem hkT] at this
    exact Option.some.inj this
  have hlb := hT.lens _ (List.getElem_mem hkT)
  rw [hlk] at hsn hlb
  refine Xc (by kernel_rfl) ?_
  refine Xa (Xi (off := 1) Xj Try.underlying26 Xj inf23.size (by decide) Xj) ?_
  refine Xa (Xk rfl Try.underlying23 rfl Xr) ?_
  refine Xa (Xb Xj) ?_
  refine Xa (Xo rfl rfl Try.underlying23 inf3.size Xv Xv) ?_
  refine Xa (Xk rfl Try.underlying3 rfl Xr) ?_
  refine Xa (Xl rfl) ?_
  refine Xf ?_
  refine Xc (by kernel_rfl) ?_
  refine Xa (Xi (off := 2) Xj Try.underlying26 Xj inf23.size (by decide) Xj) ?_
  refine Xa (Xk rfl Try.underlying23 rfl Xr) ?_
  refine Xa (Xb rfl) ?_
  refine Xa (Xo rfl rfl Try.underlying23 inf3.size Xv Xv) ?_
  refine Xa (Xk rfl Try.underlying3 rfl Xr) ?_
  refine Xa (Yx rfl rfl) ?_
  refine X4 rfl rfl ?_ ?_
  intro hc28
  have hpar : par F (Zj F k) = -1 := by have h : par F (Zj F k) < 0 := of_decide_eq_true hc28; change -1 ≤ par F (Zj F k) ∧ _ at hge; omega
  have hpk : (Yq F X (Zj F k)).length = (X.nodes[Zj F k]'(by omega)).length := by unfold Yq; rw [if_pos hpar]; unfold nd; rw [Yt]
  rw [hpk] at hsn hlb
  refine Xc (by kernel_rfl) ?_
  refine Xa (Xb Xj) ?_
  refine Xa (Xi (off := 0) Xj Try.underlying29 Xj inf27.size (by decide) Xj) ?_
  refine Xa (Xk rfl Try.underlying27 rfl Xr) ?_
  refine Xa (Xb rfl) ?_
  refine Xa (Xo rfl rfl Try.underlying27 inf50.size Xv Xv) ?_
  refine Xa (Xk rfl Try.underlying50 rfl Xr) ?_
  refine Xa (Yl rfl Try.underlying50) ?_
  refine Xa (Yc rfl rfl Yn) ?_
  refine Xa (Xl rfl) ?_
  refine Xc (by kernel_rfl) ?_
  refine Xa (Xb Xj) ?_
  refine Xa (Yc rfl rfl Yn) ?_
  refine Xa (Xl rfl) ?_
  refine ⟨F.order.length - (k + 1), by omega, k + 1, _, _, _, _, by omega, rfl, leX, hnx.symm, hownX, e3, e7, e9, e10, congrArg (Value.int .i64) ?_, (by first | exact e20 | rfl), rfl⟩
  rw [hsn]
  omega
  intro hc28
  have hpar : ¬ par F (Zj F k) = -1 := by have h : ¬ par F (Zj F k) < 0 := of_decide_eq_false hc28; omega
  have hpk : (Yq F X (Zj F k)).length = (X.links[Zj F k]'(by omega)).length := by unfold Yq; rw [if_neg hpar, List.length_map]; unfold lk; rw [Yt]
  rw [hpk] at hsn hlb
  refine Xc (by kernel_rfl) ?_
  refine Xa (Xb Xj) ?_
  refine Xa (Xi (off := 1) Xj Try.underlying29 Xj inf27.size (by decide) Xj) ?_
  refine Xa (Xk rfl Try.underlying27 rfl Xr) ?_
  refine Xa (Xb rfl) ?_
  refine Xa (Xo rfl rfl Try.underlying27 inf50.size Xv Xv) ?_
  refine Xa (Xk rfl Try.underlying50 rfl Xr) ?_
  refine Xa (Yl rfl Try.underlying50) ?_
  refine Xa (Yc rfl rfl Yn) ?_
  refine Xa (Xl rfl) ?_
  refine Xc (by kernel_rfl) ?_
  refine Xa (Xb Xj) ?_
  refine Xa (Yc rfl rfl Yn) ?_
  refine Xa (Xl rfl) ?_
  refine ⟨F.order.length - (k + 1), by omega, k + 1, _, _, _, _, by omega, rfl, leX, hnx.symm, hownX, e3, e7, e9, e10, congrArg (Value.int .i64) ?_, (by first | exact e20 | rfl), rfl⟩
  rw [hsn]
  omega
  intro hc27
  have hno : ¬ (parR F (k : Int) = ai ∧ ai ≥ -1) := of_decide_eq_false hc27
  rw [if_neg hno, ← hout, List.append_nil] at hnx
  have leX := leG
  have hownX := hown
  refine X8 ?_
  refine Xf ?_
  have leX1 := Hp.le_trans leX hownX.le
  have gx0 := Xu leX1 (by omega) (by intro e; cases e) E0'
  have gx3 := Xu leX1 (by omega) (by intro e; cases e) E3'
  obtain ⟨b1, o1, e1', hb1, hcell1⟩ := sF1E.int_at (i := (k : Int)) (by omega) (by omega)
  subst e1'
  obtain ⟨hwn, hwv⟩ := hG.gf.vAt_lt (s := k) (by omega)
  rw [Int.toNat_natCast, ← hwv] at hcell1
  have hcell1' := leX1.cell1 hb1 hcell1
  obtain ⟨b2, o2, e2', hb2, hcell2⟩ := sF2E.int_at (i := ((Zj F k : Nat) : Int)) (by omega) (by omega)
  subst e2'
  rw [Int.toNat_natCast] at hcell2
  have hcell2' := leX1.cell1 hb2 hcell2
  have hge := hG.gf.parent_ge hwn
  obtain ⟨bn, on, ks, eN, hbn, ⟨wn, rfl, hwN⟩, hcellN⟩ := xNE.elem_at (i := Zj F k) (by omega)
  subst eN
  have hcellN' := leX1.cell1 hbn hcellN.one
  obtain ⟨An, cn, rfl⟩ := hwN.shape
  obtain ⟨bl, ol, ks, eL, hbl, ⟨wl, rfl, hwL⟩, hcellL⟩ := xLE.elem_at (i := Zj F k) (by omega)
  subst eL
  have hcellL' := leX1.cell1 hbl hcellL.one
  obtain ⟨Al, cl, rfl⟩ := hwL.shape
  have hkT : k < T.links.length := by omega
  have hsn := sum_next hkT
  have hsb := hsumb k
  have hlk : T.links[k] = Yq F X (Zj F k) := by
    have := (hat hkx).2.2
    rw [List.getElem?_eq_getElem hkT] at this
    exact Option.some.inj this
  have hlb := hT.lens _ (List.getElem_mem hkT)
  rw [hlk] at hsn hlb
  refine Xc (by kernel_rfl) ?_
  refine Xa (Xi (off := 1) Xj Try.underlying26 Xj inf23.size (by decide) Xj) ?_
  refine Xa (Xk rfl Try.underlying23 rfl Xr) ?_
  refine Xa (Xb Xj) ?_
  refine Xa (Xo rfl rfl Try.underlying23 inf3.size Xv Xv) ?_
  refine Xa (Xk rfl Try.underlying3 rfl Xr) ?_
  refine Xa (Xl rfl) ?_
  refine Xf ?_
  refine Xc (by kernel_rfl) ?_
  refine Xa (Xi (off := 2) Xj Try.underlying26 Xj inf23.size (by decide) Xj) ?_
  refine Xa (Xk rfl Try.underlying23 rfl Xr) ?_
  refine Xa (Xb rfl) ?_
  refine Xa (Xo rfl rfl Try.underlying23 inf3.size Xv Xv) ?_
  refine Xa (Xk rfl Try.underlying3 rfl Xr) ?_
  refine Xa (Yx rfl rfl) ?_
  refine X4 rfl rfl ?_ ?_
  intro hc29
  have hpar : par F (Zj F k) = -1 := by have h : par F (Zj F k) < 0 := of_decide_eq_true hc29; change -1 ≤ par F (Zj F k) ∧ _ at hge; omega
  have hpk : (Yq F X (Zj F k)).length = (X.nodes[Zj F k]'(by omega)).length := by unfold Yq; rw [if_pos hpar]; unfold nd; rw [Yt]
  rw [hpk] at hsn hlb
  refine Xc (by kernel_rfl) ?_
  refine Xa (Xb Xj) ?_
  refine Xa (Xi (off := 0) Xj Try.underlying29 Xj inf27.size (by decide) Xj) ?_
  refine Xa (Xk rfl Try.underlying27 rfl Xr) ?_
  refine Xa (Xb rfl) ?_
  refine Xa (Xo rfl rfl Try.underlying27 inf50.size Xv Xv) ?_
  refine Xa (Xk rfl Try.underlying50 rfl Xr) ?_
  refine Xa (Yl rfl Try.underlying50) ?_
  refine Xa (Yc rfl rfl Yn) ?_
  refine Xa (Xl rfl) ?_
  refine Xc (by kernel_rfl) ?_
  refine Xa (Xb Xj) ?_
  refine Xa (Yc rfl rfl Yn) ?_
  refine Xa (Xl rfl) ?_
  refine ⟨F.order.length - (k + 1), by omega, k + 1, _, _, _, _, by omega, rfl, leX, hnx.symm, hownX, e3, e7, e9, e10, congrArg (Value.int .i64) ?_, (by first | exact e20 | rfl), rfl⟩
  rw [hsn]
  omega
  intro hc29
  have hpar : ¬ par F (Zj F k) = -1 := by have h : ¬ par F (Zj F k) < 0 := of_decide_eq_false hc29; omega
  have hpk : (Yq F X (Zj F k)).length = (X.links[Zj F k]'(by omega)).length := by unfold Yq; rw [if_neg hpar, List.length_map]; unfold lk; rw [Yt]
  rw [hpk] at hsn hlb
  refine Xc (by kernel_rfl) ?_
  refine Xa (Xb Xj) ?_
  refine Xa (Xi (off := 1) Xj Try.underlying29 Xj inf27.size (by decide) Xj) ?_
  refine Xa (Xk rfl Try.underlying27 rfl Xr) ?_
  refine Xa (Xb rfl) ?_
  refine Xa (Xo rfl rfl Try.underlying27 inf50.size Xv Xv) ?_
  refine Xa (Xk rfl Try.underlying50 rfl Xr) ?_
  refine Xa (Yl rfl Try.underlying50) ?_
  refine Xa (Yc rfl rfl Yn) ?_
  refine Xa (Xl rfl) ?_
  refine Xc (by kernel_rfl) ?_
  refine Xa (Xb Xj) ?_
  refine Xa (Yc rfl rfl Yn) ?_
  refine Xa (Xl rfl) ?_
  refine ⟨F.order.length - (k + 1), by omega, k + 1, _, _, _, _, by omega, rfl, leX, hnx.symm, hownX, e3, e7, e9, e10, congrArg (Value.int .i64) ?_, (by first | exact e20 | rfl), rfl⟩
  rw [hsn]
  omega
  intro hc25
  have hkx : ¬ k < F.order.length := by have := of_decide_eq_false hc25; omega
  refine Yo ?_
  refine Xf ?_
  obtain rfl : k = F.order.length := by omega
  refine Xc (by kernel_rfl) ?_
  refine Xa (Yf Xj) ?_
  refine Xa (Xb Xj) ?_
  refine X6 (X2 (Below_tree (trE.mono leE1) (by omega) ai) rfl Try.func28 rfl rfl rfl ?_)
  rintro v50 H5 ⟨G5, hle5, hown5⟩; rw [hbs, ← hout] at hown5; have sl5 := hown5.sl; obtain ⟨A5, c5, rfl⟩ := sl5.shape; have leE5 := Hp.le_trans hle5 hown5.le
  refine Xa (Xw Xj) ?_
  refine X6 (X2 (SameI_ints out out _ _ _ sl5 (hown.sl.mono leE5.sees) (by omega)) rfl Try.func18 rfl rfl rfl ?_)
  rintro v51 H5 ⟨rfl, rfl⟩
  refine Xa (Xs rfl) ?_
  refine Yd rfl rfl rfl ?_ ?_
  intro hg30
  have hp30 := hg30; try simp only [decide_eq_true_eq, decide_eq_false_iff_not, Bool.not_eq_true', Bool.not_eq_false'] at hp30
  refine Xn (Xg rfl rfl rfl hg30) (Yf Xj) ?_
  refine Z1 (Xg rfl rfl rfl hg30) (X2 (Size_tree ((trE.mono leE1).mono leE5) (by omega) hT.lens) rfl Try.func29 rfl rfl rfl ?_)
  rintro v52 H5 ⟨rfl, rfl⟩
  refine Xn (Xg rfl rfl rfl hg30) (Xb Xj) ?_
  refine Xn (Xg rfl rfl rfl hg30) (Zx rfl rfl) ?_
  refine Xa (Xm (congrArg Value.bool hg30) rfl) ?_
  refine Xa (Xs rfl) ?_
  refine Yd rfl rfl rfl ?_ ?_
  intro hg31
  have hp31 := hg31; try simp only [decide_eq_true_eq, decide_eq_false_iff_not, Bool.not_eq_true', Bool.not_eq_false'] at hp31
  refine Z1 (Xg rfl rfl rfl hg31) (X2 (lives29_ok _) rfl Try.func13 rfl rfl rfl ?_)
  rintro v H' ⟨rfl, hlv⟩
  refine Xa (Xm (congrArg Value.bool hg31) rfl) ?_
  refine Xa (Xq rfl) ?_
  refine X7 ?_
  exact ⟨.bool true, Xy (Xx rfl), rfl, Hp.le_trans leC (Hp.le_trans leCE (Hp.le_trans leE1 (Hp.le_trans leE5 hlv)))⟩
  intro hg31
  (have h := of_decide_eq_false hg31; rw [List.take_of_length_le (by omega)] at h; exact absurd rfl h)
  intro hg30
  (have h := hg30; simp at h)
theorem opens_tri : Opens Try.prog kTri 56 (fun _ => True) := fun Hh enc W fuel cs x h => by
  obtain ⟨xs, n, _, _, hl, hxs, hf⟩ := DataW.trod_array Try.underlying56 h
  have c64 : Try.prog.cellsOf 3 = 1 := by kernel_rfl
  rw [show Try.prog.cellsOf 56 = 3 by kernel_rfl] at hl
  match cs, hl with
  | [c0, c1, c2], _ =>
    have f0 := hf 0 (by omega)
    have f1 := hf 1 (by omega)
    have f2 := hf 2 (by omega)
    rw [c64, List.getElem?_eq_getElem (show 0 < xs.length by omega)] at f0
    rw [c64, List.getElem?_eq_getElem (show 1 < xs.length by omega)] at f1
    rw [c64, List.getElem?_eq_getElem (show 2 < xs.length by omega)] at f2
    obtain ⟨y0, r0, b0, v0⟩ := V0 (P := Try.prog) Try.underlying3 Hh enc W n _ _ f0
    obtain ⟨y1, r1, b1, v1⟩ := V0 (P := Try.prog) Try.underlying3 Hh enc W n _ _ f1
    obtain ⟨y2, r2, b2, v2⟩ := V0 (P := Try.prog) Try.underlying3 Hh enc W n _ _ f2
    refine ⟨(y0, y1, y2), ?_, trivial, fun v hv => ?_⟩
    · have e0 : [Vw W c0] = [Value.int .i64 y0] := r0
      have e1 : [Vw W c1] = [Value.int .i64 y1] := r1
      have e2 : [Vw W c2] = [Value.int .i64 y2] := r2
      simp only [List.cons.injEq, and_true] at e0 e1 e2
      simp [kTri, e0, e1, e2]
    · simp at hv
      rcases hv with rfl | rfl | rfl
      · exact v0 _ (List.mem_singleton.2 rfl)
      · exact v1 _ (List.mem_singleton.2 rfl)
      · exact v2 _ (List.mem_singleton.2 rfl)
end Go.Proofs.Ytcaeoebphfjfiaa.Am
