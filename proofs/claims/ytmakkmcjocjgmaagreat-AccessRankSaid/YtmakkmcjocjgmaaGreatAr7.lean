/- Texts that the proof rests on, part 7: lemmas for every heap that is related to a world, no condition beyond each lemma's own. -/
import Derived.Test.YtmakkmcjocjgmaaGreatAr6
import Derived.Test.YtmakkmcjocjgmaaGreatArTreeGroups
import Derived.Test.YtmakkmcjocjgmaaGreatAr5
import Derived.Test.YtmakkmcjocjgmaaGreatAr1
import Derived.Test.YtmakkmcjocjgmaaGreatArRow

/- Ranks; the document's own answers on access. -/
namespace Go.Proofs.YtmakkmcjocjgmaaGreat.Am
open Go Go.RowKit
set_option maxRecDepth 100000
set_option linter.unusedVariables false
set_option linter.unusedSimpArgs false

theorem beh_nil {T : TreeT} (hT : GoodT T) : Vw T [] = Ze (V3 T []) := behT_cnt hT (Nat.zero_le _) (path_nil T)
theorem exact_lt {T : TreeT} (hT : GoodT T) (h : Vw T [] < 4611686018427387904) : (V3 T [] : Int) < 4611686018427387904 := by
  rw [beh_nil hT] at h
  have hmost : Yz = 4611686018427387904 := rfl
  unfold Ze at h
  omega
theorem Rank_acc {T : TreeT} (hT : GoodT T) {H : Hp} {cb tb : Nat} (hc : CntR H cb tb T) (al : List Int) (v : Value) (hs : Sl (Yx .i64) H v al) (hal : al.length ≤ 1000000) :
    ACalls Tryz.prog 29 #[.pointer (some ⟨cb, 0, none⟩), v] H (fun r H' => H.le H' ∧ ∃ (s : Int) (ok : Bool), r = .tuple #[.int .u64 s, .bool ok] ∧ (¬ (Vw T [] < 4611686018427387904 ∧ al.length = T.vars.length) → s = 0 ∧ ok = false) ∧ (Vw T [] < 4611686018427387904 ∧ al.length = T.vars.length → (ok = true ↔ Path T al) ∧ (ok = true → s = (Ua (Vo T T.vars.length [] 1) al : Nat)) ∧ (ok = false → s = 0))) := by
  obtain ⟨A, c, rfl⟩ := hs.shape
  refine Xv Tryz.func29 rfl rfl rfl (by simp) ?_
  refine Xe ?_
  refine Xb (by kernel_rfl) ?_
  refine Xa (Xg rfl) ?_
  refine Xa (Xo rfl) ?_
  refine Xe ?_
  refine Xe ?_
  refine Xb (by kernel_rfl) ?_
  refine Xa (Xz rfl) ?_
  refine X1 (Xy (Exact_cnt hT hc) rfl Tryz.func66 rfl rfl rfl ?_)
  rintro v9 H1 ⟨rfl, le1⟩
  refine Xa (Zy rfl) ?_
  refine X2 rfl rfl ?_ ?_
  intro hc1
  have hno : ¬ Vw T [] < 4611686018427387904 := by have h := hc1; simpa using h
  refine Xe ?_
  refine Xb (by kernel_rfl) ?_
  refine Xa (Xg rfl) ?_
  refine Xa (Xo rfl) ?_
  refine X4 ?_
  exact ⟨_, Zj (Xu rfl) (Xu rfl), le1, 0, false, rfl, fun _ => ⟨rfl, rfl⟩, fun h => absurd h.1 hno⟩
  intro hc1
  have hex : Vw T [] < 4611686018427387904 := by have h := hc1; simpa using h
  refine X7 ?_
  refine Xe ?_
  refine Xb (by kernel_rfl) ?_
  refine Xa (Xz rfl) ?_
  refine Xa (Xw rfl) ?_
  refine X1 (Xy (ahead_acc hT (hc.mono le1) (exact_lt hT hex) al _ (hs.mono le1.sees) hal) rfl Tryz.func67 rfl rfl rfl ?_)
  rintro v14 H2 ⟨le2, s, ok, rfl, h1, h2⟩
  refine Xa (Zn rfl) ?_
  refine Xa (Y0 rfl rfl) ?_
  refine Xa (Y0 rfl rfl) ?_
  refine Xa (Xg rfl) ?_
  refine Xa (Xo rfl) ?_
  refine Xe ?_
  refine Xe ?_
  refine Xb (by kernel_rfl) ?_
  refine Xa (Xp rfl) ?_
  refine Xa (Zy rfl) ?_
  refine X2 rfl rfl ?_ ?_
  intro hc2
  have hok : ok = false := by have h := hc2; simpa using h
  refine Xe ?_
  refine Xb (by kernel_rfl) ?_
  refine Xa (Xg rfl) ?_
  refine Xa (Xo rfl) ?_
  refine X4 ?_
  exact ⟨_, Zj (Xu rfl) (Xu rfl), Hp.le_trans le1 le2, 0, false, rfl, fun _ => ⟨rfl, rfl⟩, fun h => ⟨by have h3 := (h2 h.2).2; rw [hok] at h3; exact h3, fun e => (by cases e), fun _ => rfl⟩⟩
  intro hc2
  have hok : ok = true := by have h := hc2; simpa using h
  refine X7 ?_
  refine Xe ?_
  refine Xb (by kernel_rfl) ?_
  refine Xa (Xc rfl) ?_
  refine Xa (Xg rfl) ?_
  refine Xa (Xo rfl) ?_
  refine X4 ?_
  exact ⟨_, Zj (Xu rfl) (Xu rfl), Hp.le_trans le1 le2, s, true, rfl, fun h => (by
    have := h1 (fun e => h ⟨hex, e⟩)
    rw [hok] at this
    exact absurd this.2 (by decide)), fun h => ⟨by have h3 := (h2 h.2).2; rw [hok] at h3; exact h3, fun _ => (h2 h.2).1, fun e => (by cases e)⟩⟩
theorem Ahead_acc {T : TreeT} (hT : GoodT T) {H : Hp} {cb tb : Nat} (hc : CntR H cb tb T) (al : List Int) (v : Value) (hs : Sl (Yx .i64) H v al) (hal : al.length ≤ 1000000) :
    ACalls Tryz.prog 30 #[.pointer (some ⟨cb, 0, none⟩), v] H (fun r H' => H.le H' ∧ ∃ (s : Int), r = .int .u64 s ∧ (¬ (Vw T [] < 4611686018427387904 ∧ al.length = T.vars.length) → s = 0) ∧ (Vw T [] < 4611686018427387904 ∧ al.length = T.vars.length → s = (Ua (Vo T T.vars.length [] 1) al : Nat))) := by
  obtain ⟨A, c, rfl⟩ := hs.shape
  refine Xv Tryz.func30 rfl rfl rfl (by simp) ?_
  refine Xe ?_
  refine Xb (by kernel_rfl) ?_
  refine Xa (Xg rfl) ?_
  refine Xe ?_
  refine Xe ?_
  refine Xb (by kernel_rfl) ?_
  refine Xa (Xz rfl) ?_
  refine X1 (Xy (Exact_cnt hT hc) rfl Tryz.func66 rfl rfl rfl ?_)
  rintro v8 H1 ⟨rfl, le1⟩
  refine Xa (Zy rfl) ?_
  refine X2 rfl rfl ?_ ?_
  intro hc1
  have hno : ¬ Vw T [] < 4611686018427387904 := by have h := hc1; simpa using h
  refine Xe ?_
  refine Xb (by kernel_rfl) ?_
  refine Xa (Xg rfl) ?_
  refine X4 ?_
  exact ⟨_, Xx (Xu rfl), le1, 0, rfl, fun _ => rfl, fun h => absurd h.1 hno⟩
  intro hc1
  have hex : Vw T [] < 4611686018427387904 := by have h := hc1; simpa using h
  refine X7 ?_
  refine Xe ?_
  refine Xb (by kernel_rfl) ?_
  refine Xa (Xz rfl) ?_
  refine Xa (Xw rfl) ?_
  refine X1 (Xy (ahead_acc hT (hc.mono le1) (exact_lt hT hex) al _ (hs.mono le1.sees) hal) rfl Tryz.func67 rfl rfl rfl ?_)
  rintro v13 H2 ⟨le2, s, ok, rfl, h1, h2⟩
  refine Xa (Zn rfl) ?_
  refine Xa (Y0 rfl rfl) ?_
  refine Xa (Y0 rfl rfl) ?_
  refine Xa (Xg rfl) ?_
  refine Xa (Xo rfl) ?_
  refine Xe ?_
  refine Xb (by kernel_rfl) ?_
  refine Xa (Xc rfl) ?_
  refine Xa (Xg rfl) ?_
  refine X4 ?_
  exact ⟨_, Xx (Xu rfl), Hp.le_trans le1 le2, s, rfl, fun h => (h1 fun e => h ⟨hex, e⟩).1, fun h => (h2 h.2).1⟩
theorem New_no (H : Hp) : ACalls Tryz.prog 26 #[.pointer none] H (fun r H' => r = .pointer none ∧ H' = H) := by
  refine Xv Tryz.func26 rfl rfl rfl (by simp) ?_
  refine Xe ?_
  refine Xb (by kernel_rfl) ?_
  refine Xa (Zg rfl) ?_
  refine Xe ?_
  refine Xe ?_
  refine Xb (by kernel_rfl) ?_
  refine Xa (Xz rfl) ?_
  refine Xa (Z8 rfl t_spot rfl Tryz.underlying37) ?_
  refine X2 rfl rfl ?_ ?_
  intro hc1
  (try simp only [decide_eq_true_eq, decide_eq_false_iff_not, Bool.not_eq_true', Bool.not_eq_false'] at hc1)
  refine Xe ?_
  refine Xb (by kernel_rfl) ?_
  refine Xa (Zg rfl) ?_
  refine X4 ?_
  exact ⟨_, Xx (Xu rfl), rfl, rfl⟩
  intro hc1
  (have h := hc1; simp at h)
theorem New_opt {T : TreeT} (g : Bool) (tv : Value) (H : Hp) (htv : if g = true then TreeR H tv T else tv = .pointer none) (hg : g = true → GoodT T ∧ FewA T ∧ Reach T) :
    ACalls Tryz.prog 26 #[tv] H (fun r H' => H.le H' ∧ (if g = true then ∃ cb tb, tv = .pointer (some ⟨tb, 0, none⟩) ∧ r = .pointer (some ⟨cb, 0, none⟩) ∧ CntR H' cb tb T else r = .pointer none)) := by
  cases g with
  | false =>
    rw [if_neg (by decide)] at htv
    subst htv
    refine (New_no H).mono fun r H' ⟨h1, h2⟩ => ⟨by rw [h2]; exact Hp.le_refl _, ?_⟩
    rw [if_neg (by decide)]; exact h1
  | true =>
    rw [if_pos rfl] at htv
    obtain ⟨h1, h2, h3⟩ := hg rfl
    obtain ⟨tb, _, _, _, _, _, etv, _⟩ := id htv
    subst etv
    refine (New_cnt h1 h2 h3 H htv).mono fun r H' ⟨hle, cb, hr, hc⟩ => ⟨hle, ?_⟩
    rw [if_pos rfl]; exact ⟨cb, tb, rfl, hr, hc⟩
theorem few32_raw (f : Forest) (p : Parts) (cs ds : List Value) (H : Hp) (hp : kForest.rep H f cs) (hq : kParts.rep H p ds) (hsm : Small f p) :
    ACalls Tryz.prog 27 #[.agg cs.toArray, .agg ds.toArray] H (fun r _ => ∃ b, r = .bool b ∧ (b = true ↔ GoodP f p ∧ f.vars.length < 5)) := by
  have hp0 := hp
  have hq0 := hq
  obtain ⟨v0, v1, v2, v3, v4, rfl, hs0, hs1, hs2, hs3, hs4⟩ := hp
  obtain ⟨A0, c0, rfl⟩ := hs0.shape
  obtain ⟨A1, c1, rfl⟩ := hs1.shape
  obtain ⟨A2, c2, rfl⟩ := hs2.shape
  obtain ⟨A3, c3, rfl⟩ := hs3.shape
  obtain ⟨A4, c4, rfl⟩ := hs4.shape
  obtain ⟨u0, u1, rfl, hn0, hn1⟩ := hq
  obtain ⟨B0, d0, rfl⟩ := hn0.shape
  obtain ⟨B1, d1, rfl⟩ := hn1.shape
  refine Xv Tryz.func27 rfl rfl rfl (by simp) ?_
  refine Xe ?_
  refine Xb (by kernel_rfl) ?_
  refine X6 (Yu rfl) ?_
  refine X6 (Yu rfl) ?_
  refine Xa (Xo rfl) ?_
  refine Xe ?_
  refine Xb (by kernel_rfl) ?_
  refine Xa (Yh (cs := [.slice _ _ _, .slice _ _ _, .slice _ _ _, .slice _ _ _, .slice _ _ _]) rfl Tryz.underlying26 rfl inf26.size Yd) ?_
  refine Xa (Yh (cs := [.slice _ _ _, .slice _ _ _]) rfl Tryz.underlying29 rfl inf29.size Yd) ?_
  refine X1 (Xy (GoodP_ref f p _ _ _ (kForest.mono Zp hp0) (kParts.mono Zp hq0) hsm) rfl Tryz.func53 rfl rfl rfl ?_)
  rintro v5 H5 ⟨⟨g, rfl, hg⟩, rfl⟩
  refine Xa (Xp rfl) ?_
  refine Ya rfl rfl rfl ?_ ?_
  intro hg1
  have hgt : g = true := hg1
  have hG := hg.1 hgt
  refine Xm (Xj rfl rfl rfl hg1) (Xh (off := 0) rfl Tryz.underlying26 rfl inf22.size (by decide) rfl) ?_
  refine Xm (Xj rfl rfl rfl hg1) (Xl rfl Tryz.underlying22 rfl Xr) ?_
  refine Xm (Xj rfl rfl rfl hg1) (Yj rfl Tryz.underlying22) ?_
  refine Xm (Xj rfl rfl rfl hg1) (Yy rfl rfl) ?_
  refine Xa (Xn (congrArg Value.bool hg1) rfl) ?_
  refine Xa (Xo rfl) ?_
  refine X4 ?_
  refine ⟨_, Xx (Xu rfl), _, rfl, ?_⟩
  first
    | exact ⟨fun h => ⟨hG, by have := of_decide_eq_true h; omega⟩, fun h => decide_eq_true (by have := h.2; omega)⟩
    | exact ⟨fun h => (by cases h), fun h => (by have := hg.2 h.1; rw [hgf] at this; cases this)⟩
  intro hg1
  have hgf : g = false := hg1
  refine Xf (Xi rfl rfl rfl hg1 rfl) ?_
  refine Xf (Xi rfl rfl rfl hg1 rfl) ?_
  refine Xf (Xi rfl rfl rfl hg1 rfl) ?_
  refine Xf (Xi rfl rfl rfl hg1 rfl) ?_
  refine Xa (Xn (congrArg Value.bool hg1) rfl) ?_
  refine Xa (Xo rfl) ?_
  refine X4 ?_
  refine ⟨_, Xx (Xu rfl), _, rfl, ?_⟩
  first
    | exact ⟨fun h => ⟨hG, by have := of_decide_eq_true h; omega⟩, fun h => decide_eq_true (by have := h.2; omega)⟩
    | exact ⟨fun h => (by cases h), fun h => (by have := hg.2 h.1; rw [hgf] at this; cases this)⟩
theorem few32_ok (f : Forest) (p : Parts) (cs ds : List Value) (H : Hp) (hp : kForest.rep H f cs) (hq : kParts.rep H p ds) (hsm : Small f p) :
    ACalls Tryz.prog 27 #[.agg cs.toArray, .agg ds.toArray] H (fun r H' => (∃ b, r = .bool b ∧ (b = true ↔ GoodP f p ∧ f.vars.length < 5)) ∧ H' = H) :=
  ACalls.pure (fun v ⟨b, h, _⟩ => by rw [h]; rfl) (few32_raw f p cs ds H.ro (kForest.mono H.sees_ro hp) (kParts.mono H.sees_ro hq) hsm)
theorem row_cell {H : Hp} {b o i : Nat} {cs : List Value} (h : Cells H b (o + i * 3) cs) {j : Nat} {v : Value} (hv : cs[j]? = some v) : H.cell? b (o + ((i : Int)).toNat * 3 + j) = some v := h j v hv
theorem All_ref32 (rows : List RowT) (v : Value) (H : Hp) (hs : Sl kRow H v rows) (hl : rows.length ≤ 1000000) (hn : ∀ r ∈ rows, 0 ≤ r.n) :
    ACalls Tryz.prog 31 #[v] H (fun r H' => r = .int .u64 (rows.foldl (fun s r => U3 s r.n) 0) ∧ H' = H) := by
  obtain ⟨A, c, rfl⟩ := hs.shape
  have hfn : ∀ i, 0 ≤ (rows.take i).foldl (fun s r => U3 s r.n) 0 := fun i => by
    have : ∀ (xs : List RowT) (n : Int), 0 ≤ n → (∀ r ∈ xs, 0 ≤ r.n) → 0 ≤ xs.foldl (fun s r => U3 s r.n) n := fun xs => by
      induction xs with
      | nil => intro n h _; exact h
      | cons r xs ih => intro n h hx; exact ih _ (addI_nonneg h (hx r (by simp))) fun y hy => hx y (by simp [hy])
    exact this _ _ (Int.le_refl 0) fun r hr => hn r (List.mem_of_mem_take hr)
  refine Xv Tryz.func31 rfl rfl rfl (by simp) ?_
  refine Xe ?_
  refine Xb (by kernel_rfl) ?_
  refine Xa (Xg rfl) ?_
  refine Xe ?_
  refine Xb (by kernel_rfl) ?_
  refine Xa (Xg rfl) ?_
  refine Xe ?_
  refine Xe ?_
  refine Xb (by kernel_rfl) ?_
  refine Xa (Xg rfl) ?_
  refine X5 ?_
  refine Yw (fun n t H' => ∃ (i : Nat) (D : Option Addr), n = rows.length - i ∧ i ≤ rows.length ∧ H' = H ∧ Sl kRow H (.slice D rows.length c) rows ∧ t 0 = .slice D rows.length c ∧ t 3 = .int .u64 ((rows.take i).foldl (fun s r => U3 s r.n) 0) ∧ t 4 = .int .i64 i) (rows.length) (⟨0, _, rfl, Nat.zero_le _, rfl, hs, rfl, rfl, rfl⟩) ?_
  rintro n t H ⟨i, D, rfl, hi, rfl, hs, e0, e3, e4⟩
  refine Xe ?_
  refine Xe ?_
  refine Xb (by kernel_rfl) ?_
  refine Xa (Xc Xk) ?_
  refine Xa (Xw Xk) ?_
  refine Xa (Yj rfl Tryz.underlying43) ?_
  refine Xa (Yy rfl rfl) ?_
  refine X2 rfl rfl ?_ ?_
  intro hc1
  have hil : i < rows.length := by have := of_decide_eq_true hc1; omega
  obtain ⟨bD, oD, wD, eD, hbD, hcD, hwD⟩ := hs.row_at hil
  have hnn := hn _ (List.getElem_mem hil)
  have hnx : U3 ((rows.take i).foldl (fun s r => U3 s r.n) 0) (rows[i].n) = (rows.take (i + 1)).foldl (fun s r => U3 s r.n) 0 := by rw [← Yr hil, List.foldl_append]; rfl
  generalize rows[i].n = m at *
  have hcell := row_cell (j := 2) hcD rfl
  subst eD
  refine X7 ?_
  refine Xe ?_
  refine X5 ?_
  refine Xb (by kernel_rfl) ?_
  refine Xa (Xc Xk) ?_
  refine Xa (Xw Xk) ?_
  refine Xa (Xc Xk) ?_
  refine Xa (Xs rfl rfl Tryz.underlying43 inf54.size X0 X0) ?_
  refine Xa (Xh (off := 2) rfl Tryz.underlying54 rfl inf30.size (by decide) rfl) ?_
  refine Xa (Xl rfl Tryz.underlying30 rfl Xr) ?_
  refine X1 (Xy (addR_u64 _ _ (hfn i) hnn _) rfl Tryz.func68 rfl rfl rfl ?_)
  rintro v17 H ⟨rfl, rfl⟩; rw [hnx]
  refine Xa (Xg rfl) ?_
  refine Xb (by kernel_rfl) ?_
  refine Xa (Xc Xk) ?_
  refine Xa (Ye rfl rfl Yp) ?_
  refine Xa (Xg rfl) ?_
  exact ⟨rows.length - (i + 1), by omega, i + 1, _, rfl, by omega, rfl, hs, e0, rfl, rfl⟩
  intro hc1
  have hil : i = rows.length := by have := of_decide_eq_false hc1; omega
  rw [hil, List.take_length] at e3
  refine Ym ?_
  refine Xe ?_
  refine Xb (by kernel_rfl) ?_
  refine Xa (Xc Xk) ?_
  refine Xa (Xg rfl) ?_
  refine X4 ?_
  exact ⟨_, Xx (Xu rfl), rfl, rfl⟩
theorem Cmp_r (xs ys : List Int) (v u : Value) (H : Hp) (hs : Sl (Yx .i64) H v xs) (hu : Sl (Yx .i64) H u ys) (hl : xs.length ≤ 1000000000) (hl2 : ys.length ≤ 1000000000) :
    ACalls Tryz.prog 61 #[v, u] H (fun r H' => r = .int .i64 (V8 xs ys) ∧ H' = H) :=
  ACalls.pure (fun v h => by rw [h]; rfl) (Cmp_raw xs ys v u H.ro (hs.mono H.sees_ro) (hu.mono H.sees_ro) hl hl2)
theorem aheadR_drop {rows : List RowT} {ns : List Int} {i : Nat} (h : i < rows.length) : U2 ns (rows.drop i) = if V8 rows[i].nodes ns < 0 then rows[i].n + U2 ns (rows.drop (i + 1)) else 0 := by
  rw [drop_next h, U2]
theorem aheadR_nn {ns : List Int} : ∀ {rows : List RowT}, (∀ r ∈ rows, 0 ≤ r.n) → 0 ≤ U2 ns rows
  | [], _ => Int.le_refl _
  | r :: rows, h => by
    rw [U2]
    split
    · have := h r (by simp)
      have := aheadR_nn (ns := ns) (rows := rows) fun y hy => h y (by simp [hy])
      omega
    · exact Int.le_refl _
set_option maxHeartbeats 1000000 in
theorem Ahead_ref32 (rows : List RowT) (ns : List Int) (v u : Value) (H : Hp) (hs : Sl kRow H v rows) (hu : Sl (Yx .i64) H u ns) (hl : rows.length ≤ 1000000) (hnl : ns.length ≤ 1000000) (hrl : ∀ r ∈ rows, r.nodes.length ≤ 1000000) (hn : ∀ r ∈ rows, 0 ≤ r.n) (hb : U2 ns rows < 18446744073709551616) :
    ACalls Tryz.prog 33 #[v, u] H (fun r H' => r = .int .u64 (U2 ns rows) ∧ H' = H) := by
  obtain ⟨A, c, rfl⟩ := hs.shape
  obtain ⟨B, c2, rfl⟩ := hu.shape
  refine Xv Tryz.func33 rfl rfl rfl (by simp) ?_
  refine Xe ?_
  refine Xb (by kernel_rfl) ?_
  refine Xa (Xg rfl) ?_
  refine Xe ?_
  refine Xb (by kernel_rfl) ?_
  refine Xa (Xg rfl) ?_
  refine Xe ?_
  refine Xe ?_
  refine Xb (by kernel_rfl) ?_
  refine Xa (Xg rfl) ?_
  refine X5 ?_
  refine Yw (fun n t H' => ∃ (i : Nat) (D : Option Addr) (s : Int), n = rows.length - i ∧ i ≤ rows.length ∧ H' = H ∧ Sl kRow H (.slice D rows.length c) rows ∧ s + U2 ns (rows.drop i) = U2 ns rows ∧ 0 ≤ s ∧ t 0 = .slice D rows.length c ∧ t 1 = .slice B ns.length c2 ∧ t 5 = .int .u64 s ∧ t 6 = .int .i64 i) (rows.length) (⟨0, _, 0, rfl, Nat.zero_le _, rfl, hs, by rw [List.drop_zero]; omega, Int.le_refl _, rfl, rfl, rfl, rfl⟩) ?_
  rintro n t H ⟨i, D, s, rfl, hi, rfl, hs, hsum, hs0, e0, e1, e5, e6⟩
  refine Xe ?_
  refine Xe ?_
  refine Xb (by kernel_rfl) ?_
  refine Xa (Xc Xk) ?_
  refine Xa (Xw Xk) ?_
  refine Xa (Yj rfl Tryz.underlying43) ?_
  refine Xa (Yy rfl rfl) ?_
  refine Xa (Xp rfl) ?_
  refine Ya rfl rfl rfl ?_ ?_
  intro hg1
  have hil : i < rows.length := by have := of_decide_eq_true hg1; omega
  obtain ⟨bD, oD, wD, eD, hbD, hcD, hwD⟩ := hs.row_at hil
  have hnn := hn _ (List.getElem_mem hil)
  have hrn := hrl _ (List.getElem_mem hil)
  have hrest := aheadR_nn (ns := ns) (rows := rows.drop (i + 1)) fun r hr => hn r (List.mem_of_mem_drop hr)
  rw [aheadR_drop hil] at hsum
  obtain ⟨r, hrd⟩ : ∃ r, r = rows[i] := ⟨_, rfl⟩
  rw [← hrd] at hcD hwD hnn hrn hsum
  obtain ⟨AD, cD, rfl⟩ := hwD.shape
  have hcell2 := row_cell (j := 2) hcD rfl
  have hcell0 := row_cell (j := 0) hcD rfl
  subst eD
  refine Xm (Xj rfl rfl rfl hg1) (Xw Xk) ?_
  refine Xm (Xj rfl rfl rfl hg1) (Xc Xk) ?_
  refine Xm (Xj rfl rfl rfl hg1) (Xs rfl rfl Tryz.underlying43 inf54.size X0 X0) ?_
  refine Xm (Xj rfl rfl rfl hg1) (Xh (off := 0) rfl Tryz.underlying54 rfl inf23.size (by decide) rfl) ?_
  refine Xm (Xj rfl rfl rfl hg1) (Xl rfl Tryz.underlying23 rfl Xr) ?_
  refine Xm (Xj rfl rfl rfl hg1) (Xw Xk) ?_
  refine Zr (Xj rfl rfl rfl hg1) (Xy (Cmp_r r.nodes ns _ _ _ hwD hu (by omega) (by omega)) rfl Tryz.func61 rfl rfl rfl ?_)
  rintro v18 H ⟨rfl, rfl⟩
  refine Xm (Xj rfl rfl rfl hg1) (Yy rfl rfl) ?_
  refine Xa (Xn (congrArg Value.bool hg1) rfl) ?_
  refine X2 rfl rfl ?_ ?_
  intro hc2
  have hcm : V8 r.nodes ns < 0 := of_decide_eq_true hc2
  rw [if_pos hcm] at hsum
  have hw : IntKind.u64.wrap (s + r.n) = s + r.n := wrap_u64a (by omega) (by omega)
  refine X7 ?_
  refine Xe ?_
  refine X5 ?_
  refine Xb (by kernel_rfl) ?_
  refine Xa (Xc Xk) ?_
  refine Xa (Xw Xk) ?_
  refine Xa (Xc Xk) ?_
  refine Xa (Xs rfl rfl Tryz.underlying43 inf54.size X0 X0) ?_
  refine Xa (Xh (off := 2) rfl Tryz.underlying54 rfl inf30.size (by decide) rfl) ?_
  refine Xa (Xl rfl Tryz.underlying30 rfl Xr) ?_
  refine Xa (av_addn_is hw rfl rfl) ?_
  refine Xa (Xg rfl) ?_
  refine Xb (by kernel_rfl) ?_
  refine Xa (Xc Xk) ?_
  refine Xa (Ye rfl rfl Yp) ?_
  refine Xa (Xg rfl) ?_
  exact ⟨rows.length - (i + 1), by omega, i + 1, _, s + r.n, rfl, by omega, rfl, hs, by omega, by omega, e0, e1, rfl, rfl⟩
  intro hc2
  have hcm : ¬ V8 r.nodes ns < 0 := of_decide_eq_false hc2
  rw [if_neg hcm] at hsum
  have hend : s = U2 ns rows := by omega
  refine Ym ?_
  refine Xe ?_
  refine Xb (by kernel_rfl) ?_
  refine Xa (Xc Xk) ?_
  refine Xa (Xg rfl) ?_
  refine X4 ?_
  exact ⟨.int .u64 s, Xx (Xu rfl), by rw [hend], rfl⟩
  intro hg1
  have hil : i = rows.length := by have := of_decide_eq_false hg1; omega
  have hend : s = U2 ns rows := by rw [← hsum, hil, List.drop_length]; show s = s + 0; omega
  refine Xf (Xi rfl rfl rfl hg1 rfl) ?_
  refine Xf (Xi rfl rfl rfl hg1 rfl) ?_
  refine Xf (Xi rfl rfl rfl hg1 rfl) ?_
  refine Xf (Xi rfl rfl rfl hg1 rfl) ?_
  refine Xf (Xi rfl rfl rfl hg1 rfl) ?_
  refine Xf (Xi rfl rfl rfl hg1 rfl) ?_
  refine Xf (Xi rfl rfl rfl hg1 rfl) ?_
  refine Xf (Xi rfl rfl rfl hg1 rfl) ?_
  refine Xa (Xn (congrArg Value.bool hg1) Xk) ?_
  refine Yv rfl rfl ?_
  refine Ym ?_
  refine Xe ?_
  refine Xb (by kernel_rfl) ?_
  refine Xa (Xc Xk) ?_
  refine Xa (Xg rfl) ?_
  refine X4 ?_
  exact ⟨.int .u64 s, Xx (Xu rfl), by rw [hend], rfl⟩
end Go.Proofs.YtmakkmcjocjgmaaGreat.Am


/- The document's own counts: row by row. -/
namespace Go.Proofs.YtmakkmcjocjgmaaGreat.Am
open Go Go.RowKit
set_option maxRecDepth 100000
set_option linter.unusedVariables false
set_option linter.unusedSimpArgs false

end Go.Proofs.YtmakkmcjocjgmaaGreat.Am


/- The statement CountsBelow, as the abstract machine runs it. -/
namespace Go.Proofs.YtmakkmcjocjgmaaGreat.Am
open Go Go.RowKit
set_option maxRecDepth 100000
set_option linter.unusedVariables false
set_option linter.unusedSimpArgs false

theorem few_links {f : Forest} {p x : Parts} (hs : Sub x p.few4) (hn : ∀ v, (nd p.few4 v).length ≤ 4) : ∀ l ∈ (Y2 f x).links, l.length ≤ 1000 := fun l hl => by
  obtain ⟨v, _, rfl⟩ := List.mem_map.1 hl
  unfold Y4
  split
  · have := (hs v.toNat).1.length_le
    have := hn v.toNat
    omega
  · rw [List.length_map]
    have h1 := (hs v.toNat).2.length_le
    have h2 : (lk p.few4 v.toNat).length ≤ 25 := by
      unfold lk
      rw [List.getD_eq_getElem?_getD]
      cases h : p.few4.links[v.toNat]? with
      | none => simp
      | some l =>
        obtain ⟨y, _, rfl⟩ := List.mem_map.1 (show l ∈ (p.links.take 8).map Z6 from List.mem_of_getElem? h)
        show (Z6 y).length ≤ 25
        unfold Z6
        rw [List.length_map, List.length_take]; omega
    omega
end Go.Proofs.YtmakkmcjocjgmaaGreat.Am


/- The statements AccessRank and AccessAt, as the abstract machine runs them. -/
namespace Go.Proofs.YtmakkmcjocjgmaaGreat.Am
open Go Go.RowKit
set_option maxRecDepth 100000
set_option linter.unusedVariables false
set_option linter.unusedSimpArgs false

theorem four_nodes (p : Parts) (v : Nat) : (nd p.few4 v).length ≤ 4 := by
  unfold nd
  rw [List.getD_eq_getElem?_getD]
  cases h : p.few4.nodes[v]? with
  | none => simp
  | some l =>
    obtain ⟨y, _, rfl⟩ := List.mem_map.1 (show l ∈ p.few.nodes.map (·.take 4) from List.mem_of_getElem? h)
    simp only [Option.getD_some, List.length_take]
    omega
theorem tree_all {f : Forest} {p : Parts} (hG : GoodP f p.few4) (hsm : Small f p.few4) (hch : Cheap p.few4) (hv : f.vars.length ≤ 1000) : GoodT (Y2 f (V7 f p.few4)) ∧ FewA (Y2 f (V7 f p.few4)) ∧ Reach (Y2 f (V7 f p.few4)) := by
  obtain ⟨k1, k2, k3, k4⟩ := V5 hG
  have hT := good_tree (ofP_good hG) (small_sub hsm k1 k2) (hch.sub k2) hv
  exact ⟨hT, fewA_of (few_links k2 (four_nodes p)), reach_tree hG hT⟩
theorem rows_all {T : TreeT} (hT : GoodT T) {rows : List RowT} (hrm : rows.map RowT.nodes = Ux T T.vars.length []) (hrr : ∀ r ∈ rows, rowT T r.nodes = some r) : rows.foldl (fun s r => U3 s r.n) 0 = Vw T [] := by
  have h := sum_rows (n := 0) (extW_rows hT hrm hrr)
  rw [cap_nil, h, extW_sum hT _ _ _ (by simp), beh_nil hT, Nat.one_mul, Nat.zero_add]
theorem rows_nn {T : TreeT} (hT : GoodT T) {rows : List RowT} (hrm : rows.map RowT.nodes = Ux T T.vars.length []) (hrr : ∀ r ∈ rows, rowT T r.nodes = some r) : ∀ r ∈ rows, 0 ≤ r.n := fun r hr => by
  have h : (r.nodes, r.n) ∈ (Vo T T.vars.length [] 1).map fun x => (x.1, Ze x.2) := by
    rw [← extW_rows hT hrm hrr]; exact List.mem_map.2 ⟨r, hr, rfl⟩
  obtain ⟨x, _, he⟩ := List.mem_map.1 h
  simp only [Prod.mk.injEq] at he
  rw [← he.2]
  exact (Ug _).1
theorem rows_path {T : TreeT} (hT : GoodT T) {rows : List RowT} (hrm : rows.map RowT.nodes = Ux T T.vars.length []) {ns : List Int} (hl : ns.length = T.vars.length) : Path T ns ↔ ∃ r ∈ rows, r.nodes = ns := by
  constructor
  · intro hp
    have h : ns ∈ (Ux T T.vars.length []).filter (fun r => decide (r.take ns.length = ns)) := by
      rw [ext_preC hT hp (by omega) ns.length T.vars.length [] (by simp) (by simp) (by simp), show T.vars.length - ns.length = 0 by omega, Ux]
      simp
    have h2 := (List.mem_filter.1 h).1
    rw [← hrm] at h2
    obtain ⟨r, hr, e⟩ := List.mem_map.1 h2
    exact ⟨r, hr, e⟩
  · rintro ⟨r, hr, rfl⟩
    exact ext_pathC hT T.vars.length [] r.nodes (by simp) (path_nil T) (by rw [← hrm]; exact List.mem_map.2 ⟨r, hr, rfl⟩)
theorem find_path {T : TreeT} (hT : GoodT T) {rows : List RowT} (hrm : rows.map RowT.nodes = Ux T T.vars.length []) {ns : List Int} (hl : ns.length = T.vars.length) : U5 rows ns ≥ 0 ↔ Path T ns := by
  rw [rows_path hT hrm hl]
  rcases findRow_cases rows ns with ⟨h1, h2⟩ | ⟨i, h1, hi, h2⟩
  · rw [h1]
    exact ⟨fun h => absurd h (by decide), fun ⟨r, hr, e⟩ => absurd e (h2 r hr)⟩
  · rw [h1]
    exact ⟨fun _ => ⟨_, List.getElem_mem hi, h2⟩, fun _ => by omega⟩
theorem exact_sum {T : TreeT} (hT : GoodT T) (h : Vw T [] < 4611686018427387904) : (Vx (Vo T T.vars.length [] 1) : Int) < Yz := by
  have := exact_lt hT h
  rw [extW_sum hT _ _ _ (by simp), Nat.one_mul]
  exact this
set_option maxHeartbeats 8000000 in
theorem AccessRank_ok (f : Forest) (p : Parts) (ns : List Int) (cs ds : List Value) (vn : Value) (H : Hp) (hp : kForest.rep H f cs) (hq : kParts.rep H p ds) (hn : Sl (Yx .i64) H vn ns) (hbf : BigF f) (hbp : BigP p) (hbn : ns.length ≤ 9223372036854775807) :
    ACalls Tryz.prog 5 #[.agg cs.toArray, .agg ds.toArray, vn] H (fun r H' => r = .bool true ∧ H.le H') := by
  have hp0 := hp
  have hq0 := hq
  obtain ⟨v0, v1, v2, v3, v4, rfl, hs0, hs1, hs2, hs3, hs4⟩ := hp
  obtain ⟨A0, c0, rfl⟩ := hs0.shape
  obtain ⟨A1, c1, rfl⟩ := hs1.shape
  obtain ⟨A2, c2, rfl⟩ := hs2.shape
  obtain ⟨A3, c3, rfl⟩ := hs3.shape
  obtain ⟨A4, c4, rfl⟩ := hs4.shape
  obtain ⟨u0, u1, rfl, hn0, hn1⟩ := hq
  obtain ⟨B0, d0, rfl⟩ := hn0.shape
  obtain ⟨B1, d1, rfl⟩ := hn1.shape
  obtain ⟨An, cn, rfl⟩ := hn.shape
  have hsm := small_few f p
  have hbq := bigP_few p
  have hbg := bigF_few f
  have hpp := few4_few4 p
  have hff := ffew_ffew f
  have htn : GoodP f.few p.few4 → f.few.vars.length < 6 → Tiny f.few p.few4 := tiny_few
  have hch : GoodP f.few p.few4 → Cheap p.few4 := cheap_few
  have hvar := few_vars f
  obtain ⟨F, hF⟩ : ∃ F, F = f.few := ⟨_, rfl⟩
  obtain ⟨Q, hQ⟩ : ∃ Q, Q = p.few4 := ⟨_, rfl⟩
  obtain ⟨N, hN⟩ : ∃ N, N = ns.take 6 := ⟨_, rfl⟩
  have hNl : N.length ≤ 6 := by rw [hN, List.length_take]; omega
  have hNN : N.take 6 = N := List.take_of_length_le hNl
  rw [← hF, ← hQ] at hsm htn hch
  rw [← hQ] at hpp hbq
  rw [← hF] at hff hbg hvar
  refine Xv Tryz.func5 rfl rfl rfl (by simp) ?_
  refine Xe ?_
  refine Xb (by kernel_rfl) ?_
  refine X6 (Yu rfl) ?_
  refine X6 (Yu rfl) ?_
  refine Xa (Xo rfl) ?_
  refine Xe ?_
  refine Ys (by kernel_rfl) (Y3 (B := [0, 1, 0, 7, 0, 31, 63, 127, 255]) (π := [0, 2, 4, 1, 3, 5, 6, 7, 8]) (by kernel_rfl)) ?_
  refine Xd rfl rfl (Yh (cs := [.slice _ _ _, .slice _ _ _, .slice _ _ _, .slice _ _ _, .slice _ _ _]) rfl Tryz.underlying26 rfl inf26.size Yd) Xq ?_
  refine Xd rfl rfl (Yh (cs := [.slice _ _ _, .slice _ _ _]) rfl Tryz.underlying29 rfl inf29.size Yd) Xq ?_
  refine Xd rfl rfl (Xw rfl) Xq ?_
  refine Yg rfl rfl (Xy (Forest_28 f _ _ (kForest.mono Zp hp0) hbf) rfl Tryz.func10 rfl rfl rfl ?_)
  rintro v5 H5 ⟨hle5, es, rfl, hes⟩; rw [← hF] at hes; have hf5 := hes; obtain ⟨a0, a1, a2, a3, a4, rfl, ht0, ht1, ht2, ht3, ht4⟩ := hes; obtain ⟨C0, k0, rfl⟩ := ht0.shape; obtain ⟨C1, k1, rfl⟩ := ht1.shape; obtain ⟨C2, k2, rfl⟩ := ht2.shape; obtain ⟨C3, k3, rfl⟩ := ht3.shape; obtain ⟨C4, k4, rfl⟩ := ht4.shape; have hz5 := hle5.1; simp only [Hp.push_size] at hz5
  refine ⟨Yf, ?_⟩
  refine Yg rfl rfl (Xy (Few4_parts p _ _ (kParts.mono Zp hq0) hbp.l0 hbp.l1 hbp.s0 hbp.s1) rfl Tryz.func11 rfl rfl rfl ?_)
  rintro v6 H6 ⟨hle6, es, rfl, hes⟩; rw [← hQ] at hes; have hq6 := hes; obtain ⟨b0, b1, rfl, hm0, hm1⟩ := hes; obtain ⟨D0, m0, rfl⟩ := hm0.shape; obtain ⟨D1, m1, rfl⟩ := hm1.shape; have hz6 := hle6.1; have hf6 := kForest.mono hle6.sees hf5
  refine ⟨Yf, ?_⟩
  refine Yg rfl rfl (Xy (Uf ns _ 6 _ (hn.mono Zp) hbn (by omega) (by omega)) rfl Tryz.func25 rfl rfl rfl ?_)
  rintro v7 H7 ⟨hle7, hs7⟩; change Sl (Yx .i64) H7 v7 (ns.take 6) at hs7; rw [← hN] at hs7; obtain ⟨E0, n0, rfl⟩ := hs7.shape; have hz7 := hle7.1; have hf7 := kForest.mono hle7.sees hf6; have hq7 := kParts.mono hle7.sees hq6; have h70 : H7.get H.size = .own 0 [.slice A0 f.vars.length c0, .slice A1 f.order.length c1, .slice A2 f.parent.length c2, .slice A3 f.links.length c3, .slice A4 f.loops.length c4] := Xt (Hp.le_trans hle5 (Hp.le_trans hle6 hle7)) (by simp <;> omega) (by intro e; cases e) Yi; have h71 : H7.get (H.size + 1) = .own 0 [.slice B0 p.nodes.length d0, .slice B1 p.links.length d1] := Xt (Hp.le_trans hle5 (Hp.le_trans hle6 hle7)) (by simp <;> omega) (by intro e; cases e) Yi
  refine ⟨Yf, ?_⟩
  refine Yg rfl rfl (Yo (vs := [.slice _ _ _, .slice _ _ _, .slice _ _ _, .slice _ _ _, .slice _ _ _]) rfl rfl inf26.size Yi Yl rfl rfl ?_)
  refine ⟨Yf, ?_⟩
  refine Yg rfl rfl (Yo (vs := [.slice _ _ _, .slice _ _ _]) rfl rfl inf29.size Yi Yl rfl rfl ?_)
  refine ⟨Yf, ?_⟩
  refine Xd rfl rfl (X9 rfl) Xq ?_
  refine Xe ?_
  obtain ⟨HA, hHA⟩ : ∃ HA, HA = (H7.put H.size (.own 0 [.slice C0 F.vars.length k0, .slice C1 F.order.length k1, .slice C2 F.parent.length k2, .slice C3 F.links.length k3, .slice C4 F.loops.length k4])).put (H.size + 1) (.own 0 [.slice D0 Q.nodes.length m0, .slice D1 Q.links.length m1]) := ⟨_, rfl⟩
  have g5 : H7.sees (H7.put H.size (.own 0 [.slice C0 F.vars.length k0, .slice C1 F.order.length k1, .slice C2 F.parent.length k2, .slice C3 F.links.length k3, .slice C4 F.loops.length k4])) := Hp.sees_box _ h70
  have g6 : (H7.put H.size (.own 0 [.slice C0 F.vars.length k0, .slice C1 F.order.length k1, .slice C2 F.parent.length k2, .slice C3 F.links.length k3, .slice C4 F.loops.length k4])).sees HA := by rw [hHA]; exact Hp.sees_box _ (by rw [Hp.put_other _ _ (by omega)]; exact h71)
  have fA := kForest.mono (g5.trans g6) hf7
  have qA := kParts.mono (g5.trans g6) hq7
  have nA := hs7.mono (g5.trans g6)
  have leA : H.le HA := by rw [hHA]; exact Hp.le_put_new (Hp.le_put_new (Hp.le_trans (Hp.le_trans (Hp.le_push' (H.le_push _) _) hle5) (Hp.le_trans hle6 hle7)) (by omega) _) (by omega) _
  have zA : H.size + 2 ≤ HA.size := by rw [hHA]; simp; omega
  have A0' : HA.get H.size = .own 0 [.slice C0 F.vars.length k0, .slice C1 F.order.length k1, .slice C2 F.parent.length k2, .slice C3 F.links.length k3, .slice C4 F.loops.length k4] := by rw [hHA, Hp.put_other _ _ (by omega)]; exact Hp.put_same _ _ _
  have A1' : HA.get (H.size + 1) = .own 0 [.slice D0 Q.nodes.length m0, .slice D1 Q.links.length m1] := by rw [hHA]; exact Hp.put_same _ _ _
  change ACode true _ _ _ _ _ ((H7.put H.size (.own 0 [.slice C0 F.vars.length k0, .slice C1 F.order.length k1, .slice C2 F.parent.length k2, .slice C3 F.links.length k3, .slice C4 F.loops.length k4])).put (H.size + 1) (.own 0 [.slice D0 Q.nodes.length m0, .slice D1 Q.links.length m1]))
  rw [← hHA]
  clear hHA g5 g6 h70 h71 hf7 hq7 hf6 hq6 hle5 hle6 hle7 hz5 hz6 hz7 hf5 hs7
  refine Ys (by kernel_rfl) (Y3 (B := [0, 1, 0, 7, 15, 31, 63, 63, 127, 511]) (π := [0, 2, 1, 3, 4, 5, 6, 7, 8, 9]) (by kernel_rfl)) ?_
  refine Xd rfl rfl (Yh (cs := [.slice _ _ _, .slice _ _ _, .slice _ _ _, .slice _ _ _, .slice _ _ _]) rfl Tryz.underlying26 rfl inf26.size Yd) Xq ?_
  refine Xd rfl rfl (Yh (cs := [.slice _ _ _, .slice _ _ _]) rfl Tryz.underlying29 rfl inf29.size Yd) Xq ?_
  refine Yg rfl rfl (Xy (Forest_28 F _ _ fA hbg) rfl Tryz.func10 rfl rfl rfl ?_)
  rintro v8 H8 ⟨hle8, es, rfl, hes⟩; rw [hff] at hes; have f8 := hes; obtain ⟨a5, a6, a7, a8, a9, rfl, hu0, hu1, hu2, hu3, hu4⟩ := hes; obtain ⟨E1, l1, rfl⟩ := hu0.shape; obtain ⟨E2, l2, rfl⟩ := hu1.shape; obtain ⟨E3, l3, rfl⟩ := hu2.shape; obtain ⟨E4, l4, rfl⟩ := hu3.shape; obtain ⟨E5, l5, rfl⟩ := hu4.shape
  refine ⟨Yf, ?_⟩
  refine Yg rfl rfl (Xy (Few4_parts Q _ _ (kParts.mono hle8.sees qA) hbq.l0 hbq.l1 hbq.s0 hbq.s1) rfl Tryz.func11 rfl rfl rfl ?_)
  rintro v9 H9 ⟨hle9, es, rfl, hes⟩; rw [hpp] at hes; have q9 := hes; obtain ⟨b2, b3, rfl, hm2, hm3⟩ := hes; obtain ⟨D2, m2, rfl⟩ := hm2.shape; obtain ⟨D3, m3, rfl⟩ := hm3.shape
  refine ⟨Yf, ?_⟩
  refine Yg rfl rfl (Xy (New_tree F Q _ _ _ (kForest.mono hle9.sees f8) q9 hsm hch) rfl Tryz.func13 rfl rfl rfl ?_)
  rintro v10 HB ⟨hle10, g, tv, hg, rfl, htv⟩
  refine ⟨Yf, ?_⟩
  refine Xd rfl rfl (Zn rfl) Xq ?_
  refine Xd rfl rfl (Y0 rfl rfl) Xq ?_
  refine Xd rfl rfl (Y0 rfl rfl) Xq ?_
  refine Xd rfl rfl (Z0 rfl) Xq ?_
  refine Xd rfl rfl (Xg rfl) Xq ?_
  refine Xe ?_
  have leAB := Hp.le_trans hle8 (Hp.le_trans hle9 hle10)
  have leB := Hp.le_trans leA leAB
  have zAB := leAB.1
  have fB := kForest.mono leAB.sees fA
  have qB := kParts.mono leAB.sees qA
  have nB := nA.mono leAB.sees
  have B0' := Xt leAB (by omega) (by intro e; cases e) A0'
  have B1' := Xt leAB (by omega) (by intro e; cases e) A1'
  clear hle8 hle9 hle10 f8 q9 hm2 hm3 hu0 hu1 hu2 hu3 hu4
  have hgood : g = true → GoodT (Y2 F (V7 F Q)) ∧ FewA (Y2 F (V7 F Q)) ∧ Reach (Y2 F (V7 F Q)) := fun h => by
    have hGG := hg.1 h
    have hcc := hch hGG
    rw [hQ] at hGG hcc ⊢
    exact tree_all hGG (by rw [← hQ]; exact hsm) hcc (by omega)
  refine Xb (by kernel_rfl) ?_
  refine Xa (Zn rfl) ?_
  refine X1 (Xy (New_opt g tv HB htv hgood) rfl Tryz.func26 rfl rfl rfl ?_)
  rintro v31 HC1 ⟨leC1, hcv⟩; have leC := Hp.le_trans leB leC1; have zC := leC1.1; have fC := kForest.mono leC1.sees fB; have qC := kParts.mono leC1.sees qB; have C0' := Xt leC1 (by omega) (by intro e; cases e) B0'; have C1' := Xt leC1 (by omega) (by intro e; cases e) B1'; have nC := nB.mono leC1.sees
  refine Xa (Z0 rfl) ?_
  refine Xe ?_
  refine Xe ?_
  refine Xb (by kernel_rfl) ?_
  refine Xa (Yh (cs := [.slice _ _ _, .slice _ _ _, .slice _ _ _, .slice _ _ _, .slice _ _ _]) rfl Tryz.underlying26 rfl inf26.size Yd) ?_
  refine Xa (Yh (cs := [.slice _ _ _, .slice _ _ _]) rfl Tryz.underlying29 rfl inf29.size Yd) ?_
  refine X1 (Xy (few32_ok F Q _ _ _ fC qC hsm) rfl Tryz.func27 rfl rfl rfl ?_)
  rintro v34 HC1 ⟨⟨bf, rfl, hbf2⟩, rfl⟩
  refine Xa (Zy rfl) ?_
  refine X2 rfl rfl ?_ ?_
  intro hc1
  obtain rfl : bf = false := by simpa using hc1
  have hbad : ¬ (GoodP F Q ∧ F.vars.length < 5) := fun h => by have := hbf2.2 h; cases this
  refine Xe ?_
  refine Xb (by kernel_rfl) ?_
  refine Xa (Xc rfl) ?_
  refine Xa (Z5 rfl rfl) ?_
  refine Xa (Xp rfl) ?_
  refine Ya rfl rfl rfl ?_ ?_
  intro hg2
  have hgf : True := trivial
  refine Xf (Xi rfl rfl rfl hg2 rfl) ?_
  refine Xf (Xi rfl rfl rfl hg2 rfl) ?_
  refine Xf (Xi rfl rfl rfl hg2 rfl) ?_
  refine Xf (Xi rfl rfl rfl hg2 rfl) ?_
  refine Xa (Xn (congrArg Value.bool hg2) rfl) ?_
  refine Xa (Xp rfl) ?_
  refine Zr (Xj rfl rfl rfl rfl) (Xy (lives32_ok _) rfl Tryz.func28 rfl rfl rfl ?_)
  rintro v H' ⟨rfl, hlv⟩
  refine Xa (Xn (congrArg Value.bool rfl) rfl) ?_
  refine Xa (Xo rfl) ?_
  refine X4 ?_
  exact ⟨.bool true, Xx (Xu rfl), rfl, Hp.le_trans leC hlv⟩
  intro hg2
  have hgt : g = true := by cases g with | true => rfl | false => exact absurd hg2 (by simp)
  have hmany : ¬ F.vars.length < 5 := fun h => hbad ⟨hg.1 hgt, h⟩
  refine Xm (Xj rfl rfl rfl hg2) (Xh (off := 0) rfl Tryz.underlying26 rfl inf22.size (by decide) rfl) ?_
  refine Xm (Xj rfl rfl rfl hg2) (Xl rfl Tryz.underlying22 rfl Xr) ?_
  refine Xm (Xj rfl rfl rfl hg2) (Yj rfl Tryz.underlying22) ?_
  refine Xm (Xj rfl rfl rfl hg2) (av_gt rfl rfl) ?_
  refine Xa (Xn (congrArg Value.bool hg2) rfl) ?_
  refine Xa (Xp rfl) ?_
  refine Ya rfl rfl rfl ?_ ?_
  intro hg3
  have hp3 := hg3; try simp only [decide_eq_true_eq, decide_eq_false_iff_not, Bool.not_eq_true', Bool.not_eq_false'] at hp3
  refine Zr (Xj rfl rfl rfl hg3) (Xy (lives32_ok _) rfl Tryz.func28 rfl rfl rfl ?_)
  rintro v H' ⟨rfl, hlv⟩
  refine Xa (Xn (congrArg Value.bool hg3) rfl) ?_
  refine Xa (Xo rfl) ?_
  refine X4 ?_
  exact ⟨.bool true, Xx (Xu rfl), rfl, Hp.le_trans leC hlv⟩
  intro hg3
  (have h := of_decide_eq_false hg3; omega)
  intro hc1
  obtain rfl : bf = true := by simpa using hc1
  obtain ⟨hG, hfive⟩ := hbf2.1 rfl
  obtain rfl : g = true := hg.2 hG
  rw [if_pos rfl] at htv hcv
  obtain ⟨cb, tb, etv, erc, hcc⟩ := hcv
  subst etv erc
  have ht := htn hG (by omega)
  obtain ⟨hT, hFA, hRE⟩ := hgood rfl
  obtain ⟨hrm, hrr⟩ := rows_ext hG
  have hol : F.order.length = F.vars.length := hG.gf.l1
  obtain ⟨tl1, tl2, tl3⟩ := Ud (f := F) (V7 F Q)
  have hrl : (Ul F Q).length ≤ 256 := Nat.le_trans (rowsK_len ht F.order.length) (Nat.pow_le_pow_right (by omega) (by omega : F.order.length ≤ 4))
  have hrn : ∀ r ∈ Ul F Q, r.nodes.length = F.vars.length := fun r hr => by have := rows_len (f := F) (p := Q) F.order.length r hr; omega
  obtain ⟨T, hTe⟩ : ∃ T, T = Y2 F (V7 F Q) := ⟨_, rfl⟩
  rw [← hTe] at htv hT hRE hFA hrm tl1 tl2 tl3 hcc
  simp only [← hTe] at hrr
  obtain ⟨rows, hrows⟩ : ∃ rows, rows = Ul F Q := ⟨_, rfl⟩
  rw [← hrows] at hrm hrl
  simp only [← hrows] at hrn hrr
  have hvl : T.vars.length = F.vars.length := tl1.trans hol
  rw [← hvl] at hrm
  have hall := rows_all hT hrm hrr
  have hnn := rows_nn hT hrm hrr
  have hxr := extW_rows hT hrm hrr
  have hsrt := rows_sorted hT hrm
  clear hgood
  refine X7 ?_
  refine Xe ?_
  refine Xb (by kernel_rfl) ?_
  refine Xa (Yh (cs := [.slice _ _ _, .slice _ _ _, .slice _ _ _, .slice _ _ _, .slice _ _ _]) rfl Tryz.underlying26 rfl inf26.size Yd) ?_
  refine Xa (Yh (cs := [.slice _ _ _, .slice _ _ _]) rfl Tryz.underlying29 rfl inf29.size Yd) ?_
  refine X1 (Xy (Rows_ref F Q _ _ _ fC qC hG hsm ht) rfl Tryz.func16 rfl rfl rfl ?_)
  rintro v49 HR ⟨hleR, hrR⟩; rw [← hrows] at hrR; obtain ⟨Dr, mr, rfl⟩ := hrR.shape; have nR := nC.mono hleR.sees; have cR := hcc.mono hleR; have zR := hleR.1; have R0' := Xt hleR (by omega) (by intro e; cases e) C0'
  refine Xa (X9 rfl) ?_
  refine Xe ?_
  refine Xb (by kernel_rfl) ?_
  refine Xa (Xz rfl) ?_
  refine Xa (Xw rfl) ?_
  refine X1 (Xy (Uf N _ 6 _ nR (by omega) (by omega) (by omega)) rfl Tryz.func25 rfl rfl rfl ?_)
  rintro v53 H7 ⟨hle7, hs7⟩; change Sl (Yx .i64) H7 v53 (N.take 6) at hs7; rw [hNN] at hs7
  refine X1 (Xy (Rank_acc hT (cR.mono hle7) N _ hs7 (by omega)) rfl Tryz.func29 rfl rfl rfl ?_)
  rintro v54 H8 ⟨hle8, s1, ok1, rfl, hr1, hr2⟩; have leR8 := Hp.le_trans hle7 hle8
  refine Xa (Zn rfl) ?_
  refine Xa (Y0 rfl rfl) ?_
  refine Xa (Y0 rfl rfl) ?_
  refine Xa (Xg rfl) ?_
  refine Xa (Xo rfl) ?_
  refine Xe ?_
  refine Xb (by kernel_rfl) ?_
  refine Xa (Xz rfl) ?_
  refine Xa (Xw rfl) ?_
  refine X1 (Xy (Uf N _ 6 _ (nR.mono leR8.sees) (by omega) (by omega) (by omega)) rfl Tryz.func25 rfl rfl rfl ?_)
  rintro v59 H9 ⟨hle9, hs9⟩; change Sl (Yx .i64) H9 v59 (N.take 6) at hs9; rw [hNN] at hs9; have leR9 := Hp.le_trans leR8 hle9
  refine X1 (Xy (Ahead_acc hT (cR.mono leR9) N _ hs9 (by omega)) rfl Tryz.func30 rfl rfl rfl ?_)
  rintro v60 H10 ⟨hle10, s2, rfl, ha1, ha2⟩; have leR10 := Hp.le_trans leR9 hle10; have n10 := nR.mono leR10.sees; have r10 := hrR.mono leR10.sees; have z10 := leR10.1; have T0' := Xt leR10 (by omega) (by intro e; cases e) R0'; have leH10 := Hp.le_trans (Hp.le_trans leC hleR) leR10
  refine Xa (Xg rfl) ?_
  refine Xe ?_
  refine Xe ?_
  refine Xb (by kernel_rfl) ?_
  refine Xa (Xw rfl) ?_
  refine X1 (Xy (All_ref32 rows _ _ r10 (by omega) hnn) rfl Tryz.func31 rfl rfl rfl ?_)
  rintro v62 H10 ⟨rfl, rfl⟩; rw [hall]
  refine Xa (Zw rfl rfl) ?_
  refine Xa (Xp rfl) ?_
  refine Ya rfl rfl rfl ?_ ?_
  intro hg4
  have hq : Vw T [] = 4611686018427387904 := by have h := hg4; simpa using h
  have hcond : ¬ (Vw T [] < 4611686018427387904 ∧ N.length = T.vars.length) := fun h => by omega
  obtain ⟨rfl, rfl⟩ := hr1 hcond
  obtain rfl := ha1 hcond
  refine Xf (Xi rfl rfl rfl hg4 rfl) ?_
  refine Xf (Xi rfl rfl rfl hg4 rfl) ?_
  refine Xf (Xi rfl rfl rfl hg4 rfl) ?_
  refine Xf (Xi rfl rfl rfl hg4 rfl) ?_
  refine Xf (Xi rfl rfl rfl hg4 rfl) ?_
  refine Xf (Xi rfl rfl rfl hg4 rfl) ?_
  refine Xa (Xn (congrArg Value.bool hg4) rfl) ?_
  refine Yn rfl rfl ?_
  refine Xe ?_
  refine Xb (by kernel_rfl) ?_
  refine Xa (Xc rfl) ?_
  refine Xa (Zw rfl rfl) ?_
  refine Xa (Xp rfl) ?_
  refine Ya rfl rfl rfl ?_ ?_
  intro hg6
  have hp6 := hg6; try simp only [decide_eq_true_eq, decide_eq_false_iff_not, Bool.not_eq_true', Bool.not_eq_false'] at hp6
  refine Xm (Xj rfl rfl rfl hg6) (Xp rfl) ?_
  refine Xm (Xj rfl rfl rfl hg6) (Zy rfl) ?_
  refine Xa (Xn (congrArg Value.bool hg6) rfl) ?_
  refine Xa (Xp rfl) ?_
  refine Ya rfl rfl rfl ?_ ?_
  intro hg7
  have hp7 := hg7; try simp only [decide_eq_true_eq, decide_eq_false_iff_not, Bool.not_eq_true', Bool.not_eq_false'] at hp7
  refine Xm (Xj rfl rfl rfl hg7) (Xc rfl) ?_
  refine Xm (Xj rfl rfl rfl hg7) (Zw rfl rfl) ?_
  refine Xa (Xn (congrArg Value.bool hg7) rfl) ?_
  refine Xa (Xp rfl) ?_
  refine Ya rfl rfl rfl ?_ ?_
  intro hg8
  have hp8 := hg8; try simp only [decide_eq_true_eq, decide_eq_false_iff_not, Bool.not_eq_true', Bool.not_eq_false'] at hp8
  refine Zr (Xj rfl rfl rfl hg8) (Xy (lives32_ok _) rfl Tryz.func28 rfl rfl rfl ?_)
  rintro v H' ⟨rfl, hlv⟩
  refine Xa (Xn (congrArg Value.bool hg8) rfl) ?_
  refine Xa (Xo rfl) ?_
  refine X4 ?_
  exact ⟨.bool true, Xx (Xu rfl), rfl, Hp.le_trans leH10 hlv⟩
  intro hg8
  exact absurd hg8 (by decide)
  intro hg7
  exact absurd hg7 (by decide)
  intro hg6
  exact absurd hg6 (by decide)
  intro hg4
  have hq : Vw T [] ≠ 4611686018427387904 := by have h := hg4; simpa using h
  have hble : Vw T [] ≤ 4611686018427387904 := by rw [beh_nil hT]; exact (Ug _).2
  refine Xm (Xj rfl rfl rfl hg4) (Xw rfl) ?_
  refine Xm (Xj rfl rfl rfl hg4) (Yj rfl Tryz.underlying23) ?_
  refine Xm (Xj rfl rfl rfl hg4) (Xh (off := 0) rfl Tryz.underlying26 rfl inf22.size (by decide) rfl) ?_
  refine Xm (Xj rfl rfl rfl hg4) (Xl rfl Tryz.underlying22 rfl Xr) ?_
  refine Xm (Xj rfl rfl rfl hg4) (Yj rfl Tryz.underlying22) ?_
  refine Xm (Xj rfl rfl rfl hg4) (Z5 rfl rfl) ?_
  refine Xa (Xn (congrArg Value.bool hg4) rfl) ?_
  refine X2 rfl rfl ?_ ?_
  intro hc9
  have hcond : ¬ (Vw T [] < 4611686018427387904 ∧ N.length = T.vars.length) := by
    have h := of_decide_eq_true hc9
    intro h2; omega
  obtain ⟨rfl, rfl⟩ := hr1 hcond
  obtain rfl := ha1 hcond
  refine Xe ?_
  refine Xb (by kernel_rfl) ?_
  refine Xa (Xc rfl) ?_
  refine Xa (Zw rfl rfl) ?_
  refine Xa (Xp rfl) ?_
  refine Ya rfl rfl rfl ?_ ?_
  intro hg10
  have hp10 := hg10; try simp only [decide_eq_true_eq, decide_eq_false_iff_not, Bool.not_eq_true', Bool.not_eq_false'] at hp10
  refine Xm (Xj rfl rfl rfl hg10) (Xp rfl) ?_
  refine Xm (Xj rfl rfl rfl hg10) (Zy rfl) ?_
  refine Xa (Xn (congrArg Value.bool hg10) rfl) ?_
  refine Xa (Xp rfl) ?_
  refine Ya rfl rfl rfl ?_ ?_
  intro hg11
  have hp11 := hg11; try simp only [decide_eq_true_eq, decide_eq_false_iff_not, Bool.not_eq_true', Bool.not_eq_false'] at hp11
  refine Xm (Xj rfl rfl rfl hg11) (Xc rfl) ?_
  refine Xm (Xj rfl rfl rfl hg11) (Zw rfl rfl) ?_
  refine Xa (Xn (congrArg Value.bool hg11) rfl) ?_
  refine Xa (Xp rfl) ?_
  refine Ya rfl rfl rfl ?_ ?_
  intro hg12
  have hp12 := hg12; try simp only [decide_eq_true_eq, decide_eq_false_iff_not, Bool.not_eq_true', Bool.not_eq_false'] at hp12
  refine Zr (Xj rfl rfl rfl hg12) (Xy (lives32_ok _) rfl Tryz.func28 rfl rfl rfl ?_)
  rintro v H' ⟨rfl, hlv⟩
  refine Xa (Xn (congrArg Value.bool hg12) rfl) ?_
  refine Xa (Xo rfl) ?_
  refine X4 ?_
  exact ⟨.bool true, Xx (Xu rfl), rfl, Hp.le_trans leH10 hlv⟩
  intro hg12
  exact absurd hg12 (by decide)
  intro hg11
  exact absurd hg11 (by decide)
  intro hg10
  exact absurd hg10 (by decide)
  intro hc9
  have hcond : Vw T [] < 4611686018427387904 ∧ N.length = T.vars.length := ⟨by omega, by have h := of_decide_eq_false hc9; omega⟩
  obtain ⟨hok, hs1, hs2⟩ := hr2 hcond
  have hs3 := ha2 hcond
  have hfp := find_path hT hrm hcond.2
  have hal := ahead_less (ns := N) hxr (exact_sum hT hcond.1) hsrt (fun r hr => by rw [hrn r hr]; omega)
  have hlw : (Ua (Vo T T.vars.length [] 1) N : Int) < 4611686018427387904 := by
    have h1 := exact_sum hT hcond.1
    have h2 := lessW_le (Vo T T.vars.length [] 1) N
    have hmost : Yz = 4611686018427387904 := rfl
    omega
  have hokd : ok1 = decide (U5 rows N ≥ 0) := by
    rw [Bool.eq_iff_iff, decide_eq_true_eq, hok, hfp]
  rw [← hal] at hs1 hs3
  subst hs3
  refine X7 ?_
  refine Xe ?_
  refine Xb (by kernel_rfl) ?_
  refine Xa (Xw rfl) ?_
  refine Xa (Xw rfl) ?_
  refine X1 (Xy (FindR_ref rows N _ _ _ r10 n10 (by omega) (by omega)) rfl Tryz.func32 rfl rfl rfl ?_)
  rintro v87 H10 ⟨rfl, rfl⟩
  refine Xa (av_ge rfl rfl) ?_
  refine Xa (Xo rfl) ?_
  refine Xe ?_
  refine Xb (by kernel_rfl) ?_
  refine Xa (Xw rfl) ?_
  refine Xa (Xw rfl) ?_
  refine X1 (Xy (Ahead_ref32 rows N _ _ _ r10 n10 (by omega) (by omega) (fun r hr => by rw [hrn r hr]; omega) hnn (by rw [hal]; omega)) rfl Tryz.func33 rfl rfl rfl ?_)
  rintro v91 H10 ⟨rfl, rfl⟩
  refine Xa (Xg rfl) ?_
  refine Xe ?_
  refine Xb (by kernel_rfl) ?_
  refine Xa (Xp rfl) ?_
  refine Xa (Xp rfl) ?_
  refine Xa (av_beq rfl rfl Tryz.underlying4) ?_
  refine Xa (Xp rfl) ?_
  refine Ya rfl rfl rfl ?_ ?_
  intro hg13
  have hp13 := hg13; try simp only [decide_eq_true_eq, decide_eq_false_iff_not, Bool.not_eq_true', Bool.not_eq_false'] at hp13
  refine Xm (Xj rfl rfl rfl hg13) (Xc rfl) ?_
  refine Xm (Xj rfl rfl rfl hg13) (Xc rfl) ?_
  refine Xm (Xj rfl rfl rfl hg13) (Zw rfl rfl) ?_
  refine Xa (Xn (congrArg Value.bool hg13) rfl) ?_
  refine Xa (Xp rfl) ?_
  refine Ya rfl rfl rfl ?_ ?_
  intro hg14
  have hp14 := hg14; try simp only [decide_eq_true_eq, decide_eq_false_iff_not, Bool.not_eq_true', Bool.not_eq_false'] at hp14
  refine Xm (Xj rfl rfl rfl hg14) (Xp rfl) ?_
  refine Xm (Xj rfl rfl rfl hg14) (Xp rfl) ?_
  refine Ya rfl rfl rfl ?_ ?_
  intro hg15
  have his : ok1 = true := by rw [hokd]; exact hg15
  have hsx := hs1 his
  refine Xm (Xj rfl rfl rfl hg15) (Xc rfl) ?_
  refine Xm (Xj rfl rfl rfl hg15) (Xc rfl) ?_
  refine Xm (Xj rfl rfl rfl hg15) (Zw rfl rfl) ?_
  refine Xm (Xj rfl rfl rfl hg14) (Xn (congrArg Value.bool hg15) rfl) ?_
  refine Xm (Xj rfl rfl rfl hg14) (Xp rfl) ?_
  refine Ya rfl rfl rfl ?_ ?_
  intro hg16
  have hp16 := hg16; try simp only [decide_eq_true_eq, decide_eq_false_iff_not, Bool.not_eq_true', Bool.not_eq_false'] at hp16
  refine Xf (Xi rfl rfl rfl hg16 rfl) ?_
  refine Xf (Xi rfl rfl rfl hg16 rfl) ?_
  refine Xf (Xi rfl rfl rfl hg16 rfl) ?_
  refine Xf (X8 rfl rfl rfl) ?_
  refine Xf (X8 rfl rfl rfl) ?_
  refine Xf (Xi rfl rfl rfl hg16 rfl) ?_
  refine Xm (Xj rfl rfl rfl hg14) (Xn (congrArg Value.bool hg16) rfl) ?_
  refine Xa (Xn (congrArg Value.bool hg14) rfl) ?_
  refine Xa (Xp rfl) ?_
  refine Zr (Xj rfl rfl rfl rfl) (Xy (lives32_ok _) rfl Tryz.func28 rfl rfl rfl ?_)
  rintro v H' ⟨rfl, hlv⟩
  refine Xa (Xn (congrArg Value.bool rfl) rfl) ?_
  refine Xa (Xo rfl) ?_
  refine X4 ?_
  exact ⟨.bool true, Xx (Xu rfl), rfl, Hp.le_trans leH10 hlv⟩
  intro hg16
  exact absurd hsx (of_decide_eq_false hg16)
  intro hg15
  have his : ok1 = false := by rw [hokd]; exact hg15
  have hsx := hs2 his
  refine Xf (Xi rfl rfl rfl hg15 rfl) ?_
  refine Xf (Xi rfl rfl rfl hg15 rfl) ?_
  refine Xf (Xi rfl rfl rfl hg15 rfl) ?_
  refine Xm (Xj rfl rfl rfl hg14) (Xn (congrArg Value.bool hg15) rfl) ?_
  refine Xm (Xj rfl rfl rfl hg14) (Xp rfl) ?_
  refine Xm (Xj rfl rfl rfl rfl) (Xp rfl) ?_
  refine Xm (Xj rfl rfl rfl rfl) (Zy rfl) ?_
  refine Xm (Xj rfl rfl rfl rfl) (Xp rfl) ?_
  refine Ya rfl rfl rfl ?_ ?_
  intro hg17
  have hp17 := hg17; try simp only [decide_eq_true_eq, decide_eq_false_iff_not, Bool.not_eq_true', Bool.not_eq_false'] at hp17
  refine Xm (Xj rfl rfl rfl hg17) (Xc rfl) ?_
  refine Xm (Xj rfl rfl rfl hg17) (Zw rfl rfl) ?_
  refine Xm (Xj rfl rfl rfl rfl) (Xn (congrArg Value.bool hg17) rfl) ?_
  refine Xm (Xj rfl rfl rfl hg14) (Xn (congrArg Value.bool rfl) rfl) ?_
  refine Xa (Xn (congrArg Value.bool hg14) rfl) ?_
  refine Xa (Xp rfl) ?_
  refine Ya rfl rfl rfl ?_ ?_
  intro hg18
  have hp18 := hg18; try simp only [decide_eq_true_eq, decide_eq_false_iff_not, Bool.not_eq_true', Bool.not_eq_false'] at hp18
  refine Zr (Xj rfl rfl rfl hg18) (Xy (lives32_ok _) rfl Tryz.func28 rfl rfl rfl ?_)
  rintro v H' ⟨rfl, hlv⟩
  refine Xa (Xn (congrArg Value.bool hg18) rfl) ?_
  refine Xa (Xo rfl) ?_
  refine X4 ?_
  exact ⟨.bool true, Xx (Xu rfl), rfl, Hp.le_trans leH10 hlv⟩
  intro hg18
  (have h := hg18; simp [hsx] at h)
  intro hg17
  (have h := hg17; rw [← hokd, his] at h; exact absurd h (by decide))
  intro hg14
  exact absurd rfl (of_decide_eq_false hg14)
  intro hg13
  exact absurd hokd (of_decide_eq_false hg13)
end Go.Proofs.YtmakkmcjocjgmaaGreat.Am


/- Links among the arguments of a statement. -/
namespace Go.Proofs.YtmakkmcjocjgmaaGreat.Am
open Go Go.RowKit
set_option maxRecDepth 100000
theorem cells_i64 : Tryz.prog.cellsOf 3 = 1 := by kernel_rfl
theorem cells_u64 : Tryz.prog.cellsOf 30 = 1 := by kernel_rfl
theorem cells_link : Tryz.prog.cellsOf 96 = 4 := by kernel_rfl
theorem opens_ints : Opens Tryz.prog (Vu (Yx .i64)) 23 (fun xs => xs.length ≤ maxLen ∧ ∀ x ∈ xs, fits .i64 x) := opens_sl Tryz.underlying23 cells_i64 (opens_int Tryz.underlying3)
theorem opens_link : Opens Tryz.prog kLink 96 (fun x => fits .i64 x.a ∧ fits .i64 x.b ∧ fits .i64 x.cost ∧ fits .u64 x.n) := fun Hh enc W fuel cs x h => by
  obtain ⟨xs, n, _, _, hl, hxs, hf⟩ := DataW.trod_struct Tryz.underlying96 h
  rw [cells_link] at hl
  have hxs : xs.length = 4 := hxs
  match cs, hl with
  | [c0, c1, c2, c3], _ =>
    have f0 : DataW.trod enc Tryz.prog W 0 (fun _ => true) true n 3 (([c0, c1, c2, c3].drop 0).take (Tryz.prog.cellsOf 3)) = xs[0]? := hf 0 _ rfl
    have f1 : DataW.trod enc Tryz.prog W 0 (fun _ => true) true n 3 (([c0, c1, c2, c3].drop 1).take (Tryz.prog.cellsOf 3)) = xs[1]? := hf 1 _ rfl
    have f2 : DataW.trod enc Tryz.prog W 0 (fun _ => true) true n 3 (([c0, c1, c2, c3].drop 2).take (Tryz.prog.cellsOf 3)) = xs[2]? := hf 2 _ rfl
    have f3 : DataW.trod enc Tryz.prog W 0 (fun _ => true) true n 30 (([c0, c1, c2, c3].drop 3).take (Tryz.prog.cellsOf 30)) = xs[3]? := hf 3 _ rfl
    rw [cells_i64, List.getElem?_eq_getElem (show 0 < xs.length by omega)] at f0
    rw [cells_i64, List.getElem?_eq_getElem (show 1 < xs.length by omega)] at f1
    rw [cells_i64, List.getElem?_eq_getElem (show 2 < xs.length by omega)] at f2
    rw [cells_u64, List.getElem?_eq_getElem (show 3 < xs.length by omega)] at f3
    obtain ⟨y0, r0, b0, v0⟩ := opens_int (P := Tryz.prog) Tryz.underlying3 Hh enc W n _ _ f0
    obtain ⟨y1, r1, b1, v1⟩ := opens_int (P := Tryz.prog) Tryz.underlying3 Hh enc W n _ _ f1
    obtain ⟨y2, r2, b2, v2⟩ := opens_int (P := Tryz.prog) Tryz.underlying3 Hh enc W n _ _ f2
    obtain ⟨y3, r3, b3, v3⟩ := opens_int (P := Tryz.prog) Tryz.underlying30 Hh enc W n _ _ f3
    refine ⟨⟨y0, y1, y2, y3⟩, ?_, ⟨b0, b1, b2, b3⟩, fun v hv => ?_⟩
    · have e0 : [Uj W c0] = [Value.int .i64 y0] := r0
      have e1 : [Uj W c1] = [Value.int .i64 y1] := r1
      have e2 : [Uj W c2] = [Value.int .i64 y2] := r2
      have e3 : [Uj W c3] = [Value.int .u64 y3] := r3
      simp only [List.cons.injEq, and_true] at e0 e1 e2 e3
      simp [kLink, e0, e1, e2, e3]
    · simp at hv
      rcases hv with rfl | rfl | rfl | rfl
      · exact v0 _ (List.mem_singleton.2 rfl)
      · exact v1 _ (List.mem_singleton.2 rfl)
      · exact v2 _ (List.mem_singleton.2 rfl)
      · exact v3 _ (List.mem_singleton.2 rfl)
theorem opens_links : Opens Tryz.prog (Vu kLink) 83 (fun xs => xs.length ≤ maxLen ∧ ∀ x ∈ xs, fits .i64 x.a ∧ fits .i64 x.b ∧ fits .i64 x.cost ∧ fits .u64 x.n) := opens_sl Tryz.underlying83 cells_link opens_link
end Go.Proofs.YtmakkmcjocjgmaaGreat.Am


/- Forests and parts among the arguments of a statement. -/
namespace Go.Proofs.YtmakkmcjocjgmaaGreat.Am
open Go Go.RowKit
set_option maxRecDepth 100000
theorem cells_links : Tryz.prog.cellsOf 83 = 1 := by kernel_rfl
theorem cells_ints : Tryz.prog.cellsOf 23 = 1 := by kernel_rfl
theorem cells_str : Tryz.prog.cellsOf 9 = 1 := by kernel_rfl
theorem cells_strs : Tryz.prog.cellsOf 22 = 1 := by kernel_rfl
theorem cells_intss : Tryz.prog.cellsOf 24 = 1 := by kernel_rfl
theorem cells_linkss : Tryz.prog.cellsOf 27 = 1 := by kernel_rfl
theorem cells_parts : Tryz.prog.cellsOf 29 = 2 := by kernel_rfl
theorem cells_forest : Tryz.prog.cellsOf 26 = 5 := by kernel_rfl
theorem opens_strs : Opens Tryz.prog (Vu kStr) 22 (fun xs => xs.length ≤ maxLen ∧ ∀ x ∈ xs, x.size ≤ maxLen) := opens_sl Tryz.underlying22 cells_str (opens_str Tryz.underlying9)
theorem opens_intss : Opens Tryz.prog (Vu (Vu (Yx .i64))) 24 (fun xs => xs.length ≤ maxLen ∧ ∀ x ∈ xs, x.length ≤ maxLen ∧ ∀ n ∈ x, fits .i64 n) := opens_sl Tryz.underlying24 cells_ints opens_ints
theorem opens_linkss : Opens Tryz.prog (Vu (Vu kLink)) 27 (fun xs : List (List Link) => xs.length ≤ maxLen ∧ ∀ l ∈ xs, l.length ≤ maxLen ∧ ∀ x ∈ l, fits .i64 x.a ∧ fits .i64 x.b ∧ fits .i64 x.cost ∧ fits .u64 x.n) := opens_sl Tryz.underlying27 cells_links opens_links
theorem opens_parts : Opens Tryz.prog kParts 29 BigP := fun Hh enc W fuel cs x h => by
  obtain ⟨xs, n, _, _, hl, hxs, hf⟩ := DataW.trod_struct Tryz.underlying29 h
  rw [cells_parts] at hl
  have hxs : xs.length = 2 := hxs
  match cs, hl with
  | [c0, c1], _ =>
    have f0 : DataW.trod enc Tryz.prog W 0 (fun _ => true) true n 27 (([c0, c1].drop 0).take (Tryz.prog.cellsOf 27)) = xs[0]? := hf 0 _ rfl
    have f1 : DataW.trod enc Tryz.prog W 0 (fun _ => true) true n 27 (([c0, c1].drop 1).take (Tryz.prog.cellsOf 27)) = xs[1]? := hf 1 _ rfl
    rw [cells_linkss, List.getElem?_eq_getElem (show 0 < xs.length by omega)] at f0
    rw [cells_linkss, List.getElem?_eq_getElem (show 1 < xs.length by omega)] at f1
    obtain ⟨y0, ⟨w0, r0, s0⟩, b0, v0⟩ := opens_linkss Hh enc W n _ _ f0
    obtain ⟨y1, ⟨w1, r1, s1⟩, b1, v1⟩ := opens_linkss Hh enc W n _ _ f1
    refine ⟨⟨y0, y1⟩, ⟨w0, w1, ?_, s0, s1⟩, ⟨b0.1, b1.1, fun l hl => (b0.2 l hl).1, fun l hl => (b1.2 l hl).1⟩, fun v hv => ?_⟩
    · have e0 : [Uj W c0] = [w0] := r0
      have e1 : [Uj W c1] = [w1] := r1
      simp only [List.cons.injEq, and_true] at e0 e1
      simp [e0, e1]
    · simp at hv
      rcases hv with rfl | rfl
      · exact v0 _ (List.mem_singleton.2 rfl)
      · exact v1 _ (List.mem_singleton.2 rfl)
theorem opens_forest : Opens Tryz.prog kForest 26 BigF := fun Hh enc W fuel cs x h => by
  obtain ⟨xs, n, _, _, hl, hxs, hf⟩ := DataW.trod_struct Tryz.underlying26 h
  rw [cells_forest] at hl
  have hxs : xs.length = 5 := hxs
  match cs, hl with
  | [c0, c1, c2, c3, c4], _ =>
    have f0 : DataW.trod enc Tryz.prog W 0 (fun _ => true) true n 22 (([c0, c1, c2, c3, c4].drop 0).take (Tryz.prog.cellsOf 22)) = xs[0]? := hf 0 _ rfl
    have f1 : DataW.trod enc Tryz.prog W 0 (fun _ => true) true n 23 (([c0, c1, c2, c3, c4].drop 1).take (Tryz.prog.cellsOf 23)) = xs[1]? := hf 1 _ rfl
    have f2 : DataW.trod enc Tryz.prog W 0 (fun _ => true) true n 23 (([c0, c1, c2, c3, c4].drop 2).take (Tryz.prog.cellsOf 23)) = xs[2]? := hf 2 _ rfl
    have f3 : DataW.trod enc Tryz.prog W 0 (fun _ => true) true n 24 (([c0, c1, c2, c3, c4].drop 3).take (Tryz.prog.cellsOf 24)) = xs[3]? := hf 3 _ rfl
    have f4 : DataW.trod enc Tryz.prog W 0 (fun _ => true) true n 24 (([c0, c1, c2, c3, c4].drop 4).take (Tryz.prog.cellsOf 24)) = xs[4]? := hf 4 _ rfl
    rw [cells_strs, List.getElem?_eq_getElem (show 0 < xs.length by omega)] at f0
    rw [cells_ints, List.getElem?_eq_getElem (show 1 < xs.length by omega)] at f1
    rw [cells_ints, List.getElem?_eq_getElem (show 2 < xs.length by omega)] at f2
    rw [cells_intss, List.getElem?_eq_getElem (show 3 < xs.length by omega)] at f3
    rw [cells_intss, List.getElem?_eq_getElem (show 4 < xs.length by omega)] at f4
    obtain ⟨y0, ⟨w0, r0, s0⟩, b0, v0⟩ := opens_strs Hh enc W n _ _ f0
    obtain ⟨y1, ⟨w1, r1, s1⟩, b1, v1⟩ := opens_ints Hh enc W n _ _ f1
    obtain ⟨y2, ⟨w2, r2, s2⟩, b2, v2⟩ := opens_ints Hh enc W n _ _ f2
    obtain ⟨y3, ⟨w3, r3, s3⟩, b3, v3⟩ := opens_intss Hh enc W n _ _ f3
    obtain ⟨y4, ⟨w4, r4, s4⟩, b4, v4⟩ := opens_intss Hh enc W n _ _ f4
    refine ⟨⟨y0, y1, y2, y3, y4⟩, ⟨w0, w1, w2, w3, w4, ?_, s0, s1, s2, s3, s4⟩, ⟨b0.1, b1.1, b2.1, b3.1, b4.1, fun l hl => (b3.2 l hl).1, fun l hl => (b4.2 l hl).1⟩, fun v hv => ?_⟩
    · have e0 : [Uj W c0] = [w0] := r0
      have e1 : [Uj W c1] = [w1] := r1
      have e2 : [Uj W c2] = [w2] := r2
      have e3 : [Uj W c3] = [w3] := r3
      have e4 : [Uj W c4] = [w4] := r4
      simp only [List.cons.injEq, and_true] at e0 e1 e2 e3 e4
      simp [e0, e1, e2, e3, e4]
    · simp at hv
      rcases hv with rfl | rfl | rfl | rfl | rfl
      · exact v0 _ (List.mem_singleton.2 rfl)
      · exact v1 _ (List.mem_singleton.2 rfl)
      · exact v2 _ (List.mem_singleton.2 rfl)
      · exact v3 _ (List.mem_singleton.2 rfl)
      · exact v4 _ (List.mem_singleton.2 rfl)
end Go.Proofs.YtmakkmcjocjgmaaGreat.Am
