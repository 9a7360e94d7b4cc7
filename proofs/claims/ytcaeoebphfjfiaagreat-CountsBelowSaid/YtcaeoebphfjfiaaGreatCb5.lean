/- Texts that the proof rests on, part 5: lemmas for every heap that is related to a world, no condition beyond each lemma's own. -/
import Derived.Test.YtcaeoebphfjfiaaGreatCb4
import Derived.Test.YtcaeoebphfjfiaaGreatCb3
import Derived.Test.YtcaeoebphfjfiaaGreatCbMaps2
import Derived.Test.YtcaeoebphfjfiaaGreatCbTy

/- Places of parents, groups and rows, by the document's words. -/
namespace Go.Proofs.YtcaeoebphfjfiaaGreat.Am
open Go Go.RowKit
set_option maxRecDepth 100000
set_option linter.unusedVariables false
set_option linter.unusedSimpArgs false

def parR (f : Forest) (i : Int) : Int := if 0 ≤ i ∧ i < f.order.length then atI f.order (par f (Zr f i.toNat)) else -1
theorem ParentR_raw (f : Forest) (cs : List Value) (i : Int) (H : Hp) (hp : kForest.rep H f cs) (hg : GoodF f) (hl : f.order.length ≤ 1000000) :
    ACalls Tryz.prog 61 #[.agg cs.toArray, .int .i64 i] H (fun r _ => r = .int .i64 (parR f i)) := by
  obtain ⟨v0, v1, v2, v3, v4, rfl, hs0, hs1, hs2, hs3, hs4⟩ := hp
  obtain ⟨A0, c0, rfl⟩ := hs0.shape
  obtain ⟨A1, c1, rfl⟩ := hs1.shape
  obtain ⟨A2, c2, rfl⟩ := hs2.shape
  obtain ⟨A3, c3, rfl⟩ := hs3.shape
  obtain ⟨A4, c4, rfl⟩ := hs4.shape
  have hol : f.order.length = f.vars.length := hg.l1
  have hpl : f.parent.length = f.vars.length := hg.l2
  refine Xu Tryz.func61 rfl rfl rfl (by simp) ?_
  refine Xf ?_
  refine Xc (by kernel_rfl) ?_
  refine X2 (Ym rfl) ?_
  refine Xa (Xg rfl) ?_
  refine Xf ?_
  refine Xf ?_
  refine Xc (by kernel_rfl) ?_
  refine Xa (Xb rfl) ?_
  refine Xa (Yw rfl rfl) ?_
  refine Xa (Xs rfl) ?_
  refine Ye rfl rfl rfl ?_ ?_
  intro hg1
  have hlow : i < 0 := of_decide_eq_true hg1
  refine Xe (Xj rfl rfl rfl hg1 rfl) ?_
  refine Xe (Xj rfl rfl rfl hg1 rfl) ?_
  refine Xe (Xj rfl rfl rfl hg1 rfl) ?_
  refine Xe (Xj rfl rfl rfl hg1 rfl) ?_
  refine Xe (Xj rfl rfl rfl hg1 rfl) ?_
  refine Xa (Xn (congrArg Value.bool hg1) rfl) ?_
  refine Yn rfl rfl ?_
  refine Xf ?_
  refine Xc (by kernel_rfl) ?_
  refine Xa (Xg rfl) ?_
  refine X8 ?_
  exact ⟨.int .i64 (-1), Xv (Xx rfl), by unfold parR; rw [if_neg (by omega)]⟩
  intro hg1
  have hlow : ¬ i < 0 := of_decide_eq_false hg1
  refine Xm (Xk rfl rfl rfl hg1) (Xb rfl) ?_
  refine Xm (Xk rfl rfl rfl hg1) (Xh (off := 1) rfl Tryz.underlying26 rfl inf23.size (by decide) rfl) ?_
  refine Xm (Xk rfl rfl rfl hg1) (Xl rfl Tryz.underlying23 rfl Xq) ?_
  refine Xm (Xk rfl rfl rfl hg1) (Yl rfl Tryz.underlying23) ?_
  refine Xm (Xk rfl rfl rfl hg1) (av_ge rfl rfl) ?_
  refine Xa (Xn (congrArg Value.bool hg1) rfl) ?_
  refine X1 rfl rfl ?_ ?_
  intro hc3
  have hhi : (f.order.length : Int) ≤ i := of_decide_eq_true hc3
  refine Xf ?_
  refine Xc (by kernel_rfl) ?_
  refine Xa (Xg rfl) ?_
  refine X8 ?_
  exact ⟨.int .i64 (-1), Xv (Xx rfl), by unfold parR; rw [if_neg (by omega)]⟩
  intro hc3
  have hhi : ¬ (f.order.length : Int) ≤ i := of_decide_eq_false hc3
  obtain ⟨m, rfl⟩ : ∃ m : Nat, i = m := ⟨i.toNat, by omega⟩
  have hm : m < f.order.length := by omega
  obtain ⟨hwn, hwv⟩ := hg.vAt_lt (s := m) (by omega)
  have hpr : parR f (m : Int) = atI f.order (par f (Zr f m)) := by unfold parR; rw [if_pos ⟨by omega, by omega⟩, Int.toNat_natCast]
  have leK := H.le_push (.own 0 [.slice A0 f.vars.length c0, .slice A1 f.order.length c1, .slice A2 f.parent.length c2, .slice A3 f.links.length c3, .slice A4 f.loops.length c4])
  have hs1K := hs1.mono leK.sees
  have hs2K := hs2.mono leK.sees
  refine X6 ?_
  refine Xf ?_
  refine Xf ?_
  refine Xc (by kernel_rfl) ?_
  refine Xa (Xg rfl) ?_
  refine X3 ?_
  refine Yt (fun n t H' => ∃ k : Nat, k ≤ f.order.length ∧ n = f.order.length - k ∧ H' = H.push (.own 0 [.slice A0 f.vars.length c0, .slice A1 f.order.length c1, .slice A2 f.parent.length c2, .slice A3 f.links.length c3, .slice A4 f.loops.length c4]) ∧ par f (Zr f m) ∉ f.order.take k ∧ t 1 = .int .i64 m ∧ t 2 = .pointer (some ⟨H.size, 0, none⟩) ∧ t 5 = .int .i64 k) (f.order.length) (⟨0, by omega, rfl, rfl, by simp, rfl, rfl, rfl⟩) ?_
  rintro n t _ ⟨k, hk, rfl, rfl, hno, e1, e2, e5⟩
  refine Xf ?_
  refine Xf ?_
  refine Xc (by kernel_rfl) ?_
  refine Xa (Xb Xi) ?_
  refine Xa (Xh (off := 1) Xi Tryz.underlying26 Xi inf23.size (by decide) Xi) ?_
  refine Xa (Xl rfl Tryz.underlying23 rfl Xq) ?_
  refine Xa (Yl rfl Tryz.underlying23) ?_
  refine Xa (Yw rfl rfl) ?_
  refine X1 rfl rfl ?_ ?_
  intro hc4
  (try simp only [decide_eq_true_eq, decide_eq_false_iff_not, Bool.not_eq_true', Bool.not_eq_false'] at hc4)
  refine X6 ?_
  refine Xf ?_
  refine X3 ?_
  refine Xf ?_
  have hkx : k < f.order.length := by omega
  obtain ⟨b, o, e6, hb, hcell1⟩ := hs1K.int_at (i := (k : Int)) (by omega) (by omega)
  obtain ⟨b', o', e6', hb', hcell1'⟩ := hs1K.int_at (i := (m : Int)) (by omega) (by omega)
  subst e6
  simp only [Option.some.injEq, Addr.mk.injEq, and_true] at e6'
  obtain ⟨rfl, rfl⟩ := e6'
  have hgi : f.order.getD (k : Int).toNat 0 = f.order[k] := by rw [Int.toNat_natCast]; exact Zf hkx
  rw [hgi] at hcell1
  rw [Int.toNat_natCast, ← hwv] at hcell1'
  obtain ⟨b2, o2, e7, hb2, hcell2⟩ := hs2K.int_at (i := ((Zr f m : Nat) : Int)) (by omega) (by omega)
  subst e7
  rw [Int.toNat_natCast] at hcell2
  simp only [Hp.push_size] at hb hb2
  refine Ys (by kernel_rfl) (Y1 (B := [0, 1, 0, 7, 15, 0, 32, 0, 128, 0, 896, 1920, 4064, 8160, 16383]) (π := [0, 1, 2, 3, 4, 5, 6, 7, 8, 9, 10, 11, 12, 13, 14]) (by kernel_rfl)) ?_
  refine Xd rfl rfl (Xh (off := 1) Xi Tryz.underlying26 Xi inf23.size (by decide) Xi) Xp ?_
  refine Xd rfl rfl (Xl rfl Tryz.underlying23 rfl Xq) Xp ?_
  refine Xd rfl rfl (Xb Xi) Xp ?_
  refine Xd rfl rfl (Xo rfl rfl Tryz.underlying23 inf3.size Xy Xy) Xp ?_
  refine Xd rfl rfl (Xl rfl Tryz.underlying3 rfl Xq) Xp ?_
  refine Xd rfl rfl (Xh (off := 2) Xi Tryz.underlying26 Xi inf23.size (by decide) Xi) Xp ?_
  refine Xd rfl rfl (Xl rfl Tryz.underlying23 rfl Xq) Xp ?_
  refine Xd rfl rfl (Xh (off := 1) Xi Tryz.underlying26 Xi inf23.size (by decide) Xi) Xp ?_
  refine Xd rfl rfl (Xl rfl Tryz.underlying23 rfl Xq) Xp ?_
  refine Xd rfl rfl (Xb Xi) Xp ?_
  refine Xd rfl rfl (Xo rfl rfl Tryz.underlying23 inf3.size Xy Xy) Xp ?_
  refine Xd rfl rfl (Xl rfl Tryz.underlying3 rfl Xq) Xp ?_
  refine Xd rfl rfl (Xo rfl rfl Tryz.underlying23 inf3.size Xy Xy) Xp ?_
  refine Xd rfl rfl (Xl rfl Tryz.underlying3 rfl Xq) Xp ?_
  refine Xd rfl rfl (Z0 rfl rfl) Xp ?_
  refine X1 rfl rfl ?_ ?_
  intro hc5
  have he : f.order[k] = par f (Zr f m) := of_decide_eq_true hc5
  refine Xf ?_
  refine Xc (by kernel_rfl) ?_
  refine Xa (Xb Xi) ?_
  refine Xa (Xg rfl) ?_
  refine X8 ?_
  exact ⟨.int .i64 k, Xv (Xx rfl), by rw [hpr, atI_some hkx he hno]⟩
  intro hc5
  have hne : f.order[k] ≠ par f (Zr f m) := of_decide_eq_false hc5
  refine X6 ?_
  refine Xc (by kernel_rfl) ?_
  refine Xa (Xb Xi) ?_
  refine Xa (Yd rfl rfl Yk) ?_
  refine Xa (Xg rfl) ?_
  exact ⟨f.order.length - (k + 1), by omega, k + 1, by omega, rfl, rfl, by rw [← Yr hkx]; simp only [List.mem_append, List.mem_singleton, not_or]; exact ⟨hno, fun e => hne e.symm⟩, e1, e2, rfl⟩
  intro hc4
  (try simp only [decide_eq_true_eq, decide_eq_false_iff_not, Bool.not_eq_true', Bool.not_eq_false'] at hc4)
  refine Yj ?_
  refine Xf ?_
  refine Xc (by kernel_rfl) ?_
  refine Xa (Xg rfl) ?_
  refine X8 ?_
  rw [List.take_of_length_le (by omega)] at hno
  exact ⟨.int .i64 (-1), Xv (Xx rfl), by rw [hpr, atI_none hno]⟩
theorem ParentR_ref (f : Forest) (cs : List Value) (i : Int) (H : Hp) (hp : kForest.rep H f cs) (hg : GoodF f) (hl : f.order.length ≤ 1000000) :
    ACalls Tryz.prog 61 #[.agg cs.toArray, .int .i64 i] H (fun r H' => r = .int .i64 (parR f i) ∧ H' = H) :=
  ACalls.pure (fun v h => by rw [h]; rfl) (ParentR_raw f cs i H.ro (kForest.mono H.sees_ro hp) hg hl)
def findRow (rows : List RowT) (ns : List Int) : Int := match rows.findIdx? (fun r => decide (r.nodes = ns)) with
  | some i => i
  | none => -1
theorem findRow_some {rows : List RowT} {ns : List Int} {i : Nat} (hi : i < rows.length) (h : rows[i].nodes = ns) (hno : ∀ r ∈ rows.take i, r.nodes ≠ ns) : findRow rows ns = i := by
  unfold findRow
  have : rows.findIdx? (fun r => decide (r.nodes = ns)) = some i := by
    rw [List.findIdx?_eq_some_iff_getElem]
    refine ⟨hi, decide_eq_true h, fun j hj => ?_⟩
    have : rows[j].nodes ≠ ns := hno _ (List.mem_take_iff_getElem.2 ⟨j, by omega, rfl⟩)
    simp [this]
  rw [this]
theorem findRow_none {rows : List RowT} {ns : List Int} (hno : ∀ r ∈ rows, r.nodes ≠ ns) : findRow rows ns = -1 := by
  unfold findRow
  have : rows.findIdx? (fun r => decide (r.nodes = ns)) = none := by
    rw [List.findIdx?_eq_none_iff]; intro x hx; simp; exact hno x hx
  rw [this]
theorem FindR_raw (rows : List RowT) (ns : List Int) (v u : Value) (H : Hp) (hs : Sl kRow H v rows) (hu : Sl (Y6 .i64) H u ns) (hl : rows.length ≤ 1000000) (hn : ns.length ≤ 1000000) :
    ACalls Tryz.prog 33 #[v, u] H (fun r _ => r = .int .i64 (findRow rows ns)) := by
  obtain ⟨A, c, rfl⟩ := hs.shape
  obtain ⟨B, c2, rfl⟩ := hu.shape
  refine Xu Tryz.func33 rfl rfl rfl (by simp) ?_
  refine Xf ?_
  refine Xc (by kernel_rfl) ?_
  refine Xa (Xg rfl) ?_
  refine Xf ?_
  refine Xf ?_
  refine Xc (by kernel_rfl) ?_
  refine Xa (Xg rfl) ?_
  refine X3 ?_
  refine Yt (fun n t H' => ∃ (i : Nat), i ≤ rows.length ∧ n = rows.length - i ∧ H' = H ∧ (∀ r ∈ rows.take i, r.nodes ≠ ns) ∧ t 0 = .slice A rows.length c ∧ t 1 = .slice B ns.length c2 ∧ t 5 = .int .i64 i) (rows.length) (⟨0, by omega, rfl, rfl, by simp, rfl, rfl, rfl⟩) ?_
  rintro n t H ⟨i, hi, rfl, rfl, hno, e0, e1, e5⟩
  refine Xf ?_
  refine Xf ?_
  refine Xc (by kernel_rfl) ?_
  refine Xa (Xb Xi) ?_
  refine Xa (Xw Xi) ?_
  refine Xa (Yl rfl Tryz.underlying38) ?_
  refine Xa (Yw rfl rfl) ?_
  refine X1 rfl rfl ?_ ?_
  intro hc1
  (try simp only [decide_eq_true_eq, decide_eq_false_iff_not, Bool.not_eq_true', Bool.not_eq_false'] at hc1)
  refine X6 ?_
  refine Xf ?_
  refine X3 ?_
  refine Xf ?_
  have hix : i < rows.length := by omega
  obtain ⟨b, o, w, eA, hb, hcell, hw⟩ := hs.row_at hix
  subst eA
  have hc0 := hcell 0 _ rfl
  obtain ⟨A3, c3, rfl⟩ := hw.shape
  obtain ⟨R, hR⟩ : ∃ R, R = rows[i] := ⟨_, rfl⟩
  rw [← hR] at hw hc0
  refine Xc (by kernel_rfl) ?_
  refine Xa (Xw Xi) ?_
  refine Xa (Xb Xi) ?_
  refine Xa (Xo rfl rfl Tryz.underlying38 inf49.size Xy Xy) ?_
  refine Xa (Xh (off := 0) rfl Tryz.underlying49 rfl inf23.size (by decide) rfl) ?_
  refine Xa (Xl rfl Tryz.underlying23 rfl Xq) ?_
  refine Xa (Yl rfl Tryz.underlying23) ?_
  refine Xa (Xw Xi) ?_
  refine Xa (Yl rfl Tryz.underlying23) ?_
  refine Xa (Z0 rfl rfl) ?_
  refine Xa (Xr rfl) ?_
  refine Xf ?_
  refine Xf ?_
  refine Xc (by kernel_rfl) ?_
  refine Xa (Xg rfl) ?_
  refine X3 ?_
  refine Yt (fun n t H' => ∃ (k : Nat) (s : Bool), k ≤ ns.length ∧ n = ns.length - k ∧ H' = H ∧ (s = true ↔ R.nodes.length = ns.length ∧ R.nodes.take k = ns.take k) ∧ t 0 = .slice (some ⟨b, o, none⟩) rows.length c ∧ t 1 = .slice B ns.length c2 ∧ t 5 = .int .i64 i ∧ t 6 = .bool s ∧ t 7 = .int .i64 k) (ns.length) (⟨0, decide ((R.nodes.length : Int) = ns.length), by omega, rfl, rfl, by rw [decide_eq_true_eq, List.take_zero, List.take_zero]; exact ⟨fun h => ⟨by omega, rfl⟩, fun h => by have := h.1; omega⟩, e0, e1, e5, rfl, rfl⟩) ?_
  rintro n t H ⟨k, s, hk, rfl, rfl, hsame, e0, e1, e5, e6, e7⟩
  refine Xf ?_
  refine Xf ?_
  refine Xc (by kernel_rfl) ?_
  refine Xa (Xb Xi) ?_
  refine Xa (Xw Xi) ?_
  refine Xa (Yl rfl Tryz.underlying23) ?_
  refine Xa (Yw rfl rfl) ?_
  refine Xa (Xs rfl) ?_
  refine Ye rfl rfl rfl ?_ ?_
  intro hg2
  have hkx : k < ns.length := by have := of_decide_eq_true hg2; omega
  refine Xm (Xk rfl rfl rfl hg2) (Xs Xi) ?_
  refine Xa (Xn (congrArg Value.bool hg2) rfl) ?_
  refine X1 rfl rfl ?_ ?_
  intro hc3
  have hst : s = true := hc3
  obtain ⟨hlen, htake⟩ := hsame.1 hst
  refine X6 ?_
  refine Xf ?_
  refine X3 ?_
  obtain ⟨b5, o5, e5', hb5, hcell5⟩ := hw.int_at (i := (k : Int)) (by omega) (by omega)
  obtain ⟨b6, o6, e6', hb6, hcell6⟩ := hu.int_at (i := (k : Int)) (by omega) (by omega)
  subst e5' e6'
  rw [Int.toNat_natCast] at hcell5 hcell6
  refine Ys (by kernel_rfl) (Y1 (B := [0, 0, 3, 7, 15, 0, 63, 127, 0, 0, 768, 1792, 4095, 8191]) (π := [0, 1, 2, 3, 4, 5, 6, 7, 8, 9, 10, 11, 12, 13]) (by kernel_rfl)) ?_
  refine Xd rfl rfl (Xw Xi) Xp ?_
  refine Xd rfl rfl (Xb Xi) Xp ?_
  refine Xd rfl rfl (Xo rfl rfl Tryz.underlying38 inf49.size Xy Xy) Xp ?_
  refine Xd rfl rfl (Xh (off := 0) rfl Tryz.underlying49 rfl inf23.size (by decide) rfl) Xp ?_
  refine Xd rfl rfl (Xl rfl Tryz.underlying23 rfl Xq) Xp ?_
  refine Xd rfl rfl (Xb Xi) Xp ?_
  refine Xd rfl rfl (Xo rfl rfl Tryz.underlying23 inf3.size Xy Xy) Xp ?_
  refine Xd rfl rfl (Xl rfl Tryz.underlying3 rfl Xq) Xp ?_
  refine Xd rfl rfl (Xw Xi) Xp ?_
  refine Xd rfl rfl (Xb Xi) Xp ?_
  refine Xd rfl rfl (Xo rfl rfl Tryz.underlying23 inf3.size Xy Xy) Xp ?_
  refine Xd rfl rfl (Xl rfl Tryz.underlying3 rfl Xq) Xp ?_
  refine Xd rfl rfl (Z0 rfl rfl) Xp ?_
  refine Xd rfl rfl (Xr rfl) Xp ?_
  refine Xc (by kernel_rfl) ?_
  refine Xa (Xb Xi) ?_
  refine Xa (Yd rfl rfl Yk) ?_
  refine Xa (Xg rfl) ?_
  refine ⟨ns.length - (k + 1), by omega, k + 1, decide (R.nodes.getD k 0 = ns.getD k 0), by omega, rfl, rfl, ?_, e0, e1, e5, rfl, rfl⟩
  have hkr : k < R.nodes.length := by omega
  rw [decide_eq_true_eq, ← Yr hkr, ← Yr hkx, Zf hkr, Zf hkx]
  constructor
  · intro h; exact ⟨hlen, by rw [htake, h]⟩
  · intro ⟨_, h⟩
    have := (List.append_inj' h rfl).2
    simpa using this
  intro hc3
  have hsf : s = false := hc3
  refine Yj ?_
  refine Xf ?_
  have hfin : s = true ↔ R.nodes = ns := by
    constructor
    · intro h
      obtain ⟨h1, h2⟩ := hsame.1 h
      have hk2 : ns.length ≤ k := by first | omega | (exfalso; rw [h] at hsf; cases hsf)
      rwa [List.take_of_length_le (by omega), List.take_of_length_le (by omega)] at h2
    · intro h; exact hsame.2 ⟨by rw [h], by rw [h]⟩
  refine Xc (by kernel_rfl) ?_
  refine Xa (Xs Xi) ?_
  refine X1 rfl rfl ?_ ?_
  intro hc4
  have hyes : R.nodes = ns := hfin.1 hc4
  refine Xf ?_
  refine Xc (by kernel_rfl) ?_
  refine Xa (Xb Xi) ?_
  refine Xa (Xg rfl) ?_
  refine X8 ?_
  exact ⟨.int .i64 i, Xv (Xx rfl), by rw [findRow_some hix (by rw [← hR]; exact hyes) hno]⟩
  intro hc4
  have hnot : R.nodes ≠ ns := fun h => by have h1 := hfin.2 h; have h2 := hc4; rw [h1] at h2; cases h2
  refine X6 ?_
  refine Xc (by kernel_rfl) ?_
  refine Xa (Xb Xi) ?_
  refine Xa (Yd rfl rfl Yk) ?_
  refine Xa (Xg rfl) ?_
  exact ⟨rows.length - (i + 1), by omega, i + 1, by omega, rfl, rfl, fun r hr => by
    rw [← Yr hix] at hr
    rcases List.mem_append.1 hr with hr | hr
    · exact hno r hr
    · rw [List.mem_singleton.1 hr, ← hR]; exact hnot, e0, e1, rfl⟩
  intro hg2
  have hkx : ¬ k < ns.length := by have := of_decide_eq_false hg2; omega
  refine Xe (Xj rfl rfl rfl hg2 rfl) ?_
  refine Xa (Xn (congrArg Value.bool hg2) Xi) ?_
  refine Yx rfl rfl ?_
  refine Yj ?_
  refine Xf ?_
  have hfin : s = true ↔ R.nodes = ns := by
    constructor
    · intro h
      obtain ⟨h1, h2⟩ := hsame.1 h
      have hk2 : ns.length ≤ k := by first | omega | (exfalso; rw [h] at hsf; cases hsf)
      rwa [List.take_of_length_le (by omega), List.take_of_length_le (by omega)] at h2
    · intro h; exact hsame.2 ⟨by rw [h], by rw [h]⟩
  refine Xc (by kernel_rfl) ?_
  refine Xa (Xs Xi) ?_
  refine X1 rfl rfl ?_ ?_
  intro hc6
  have hyes : R.nodes = ns := hfin.1 hc6
  refine Xf ?_
  refine Xc (by kernel_rfl) ?_
  refine Xa (Xb Xi) ?_
  refine Xa (Xg rfl) ?_
  refine X8 ?_
  exact ⟨.int .i64 i, Xv (Xx rfl), by rw [findRow_some hix (by rw [← hR]; exact hyes) hno]⟩
  intro hc6
  have hnot : R.nodes ≠ ns := fun h => by have h1 := hfin.2 h; have h2 := hc6; rw [h1] at h2; cases h2
  refine X6 ?_
  refine Xc (by kernel_rfl) ?_
  refine Xa (Xb Xi) ?_
  refine Xa (Yd rfl rfl Yk) ?_
  refine Xa (Xg rfl) ?_
  exact ⟨rows.length - (i + 1), by omega, i + 1, by omega, rfl, rfl, fun r hr => by
    rw [← Yr hix] at hr
    rcases List.mem_append.1 hr with hr | hr
    · exact hno r hr
    · rw [List.mem_singleton.1 hr, ← hR]; exact hnot, e0, e1, rfl⟩
  intro hc1
  (try simp only [decide_eq_true_eq, decide_eq_false_iff_not, Bool.not_eq_true', Bool.not_eq_false'] at hc1)
  refine Yj ?_
  refine Xf ?_
  refine Xc (by kernel_rfl) ?_
  refine Xa (Xg rfl) ?_
  refine X8 ?_
  rw [List.take_of_length_le (by omega)] at hno
  exact ⟨.int .i64 (-1), Xv (Xx rfl), by rw [findRow_none hno]⟩
theorem FindR_ref (rows : List RowT) (ns : List Int) (v u : Value) (H : Hp) (hs : Sl kRow H v rows) (hu : Sl (Y6 .i64) H u ns) (hl : rows.length ≤ 1000000) (hn : ns.length ≤ 1000000) :
    ACalls Tryz.prog 33 #[v, u] H (fun r H' => r = .int .i64 (findRow rows ns) ∧ H' = H) :=
  ACalls.pure (fun v h => by rw [h]; rfl) (FindR_raw rows ns v u H.ro (hs.mono H.sees_ro) (hu.mono H.sees_ro) hl hn)
def Zg (f : Forest) (x : Parts) (v : Nat) (above : Int) (y : Link) : Option Link :=
  if 0 ≤ par f v then
    if 0 ≤ Vf (lk x v) above y.a then some ⟨above, y.a, y.cost + ((lk x v).getD (Vf (lk x v) above y.a).toNat V6).cost, Yv y.n ((lk x v).getD (Vf (lk x v) above y.a).toNat V6).n⟩ else none
  else some y
def groupR (f : Forest) (x : Parts) (i above : Int) : List Link := if 0 ≤ i ∧ i < f.order.length then (nd x (Zr f i.toNat)).filterMap (Zg f x (Zr f i.toNat) above) else []
set_option maxHeartbeats 2000000 in
theorem GroupR_ref (f : Forest) (x : Parts) (cs ds : List Value) (i above : Int) (H : Hp) (hp : kForest.rep H f cs) (hq : kParts.rep H x ds) (hg : GoodF f) (hlen : Lens f.vars.length x) (hsm : Small f x) (hch : Cheap x) :
    ACalls Tryz.prog 59 #[.agg cs.toArray, .agg ds.toArray, .int .i64 i, .int .i64 above] H (fun r H' => H.le H' ∧ Sl kLink H' r (groupR f x i above)) := by
  obtain ⟨v0, v1, v2, v3, v4, rfl, hs0, hs1, hs2, hs3, hs4⟩ := hp
  obtain ⟨A0, c0, rfl⟩ := hs0.shape
  obtain ⟨A1, c1, rfl⟩ := hs1.shape
  obtain ⟨A2, c2, rfl⟩ := hs2.shape
  obtain ⟨A3, c3, rfl⟩ := hs3.shape
  obtain ⟨A4, c4, rfl⟩ := hs4.shape
  obtain ⟨u0, u1, rfl, hn0, hn1⟩ := hq
  obtain ⟨B0, d0, rfl⟩ := hn0.shape
  obtain ⟨B1, d1, rfl⟩ := hn1.shape
  have hol : f.order.length = f.vars.length := hg.l1
  have hpl : f.parent.length = f.vars.length := hg.l2
  have hx1 := hlen.1
  have hx2 := hlen.2
  have hs0' := hsm.s0
  refine Xu Tryz.func59 rfl rfl rfl (by simp) ?_
  refine Xf ?_
  refine Xc (by kernel_rfl) ?_
  refine X2 (Ym rfl) ?_
  refine X2 (Ym rfl) ?_
  refine Xa (X4 rfl) ?_
  refine Xf ?_
  refine Xc (by kernel_rfl) ?_
  first | refine X2 (Ya (r := []) Tryz.underlying68 inf78.size inf78.zero rfl (by decide) (by decide) (by decide) rfl) ?_
  refine Xa (X4 rfl) ?_
  refine Xf ?_
  refine Xf ?_
  refine Xc (by kernel_rfl) ?_
  refine Xa (Xb rfl) ?_
  refine Xa (Yw rfl rfl) ?_
  refine Xa (Xs rfl) ?_
  refine Ye rfl rfl rfl ?_ ?_
  intro hg1
  have hlow : i < 0 := of_decide_eq_true hg1
  refine Xe (Xj rfl rfl rfl hg1 rfl) ?_
  refine Xe (Xj rfl rfl rfl hg1 rfl) ?_
  refine Xe (Xj rfl rfl rfl hg1 rfl) ?_
  refine Xe (Xj rfl rfl rfl hg1 rfl) ?_
  refine Xe (Xj rfl rfl rfl hg1 rfl) ?_
  refine Xa (Xn (congrArg Value.bool hg1) rfl) ?_
  refine Yn rfl rfl ?_
  refine Xf ?_
  refine Xc (by kernel_rfl) ?_
  refine Xa (Xw rfl) ?_
  refine Xa (X4 rfl) ?_
  refine X8 ?_
  exact ⟨_, Xv (Xx rfl), t_le, by unfold groupR; rw [if_neg (by omega)]; exact (OwnP.lit kLink ((H.push (.own 0 [.slice A0 f.vars.length c0, .slice A1 f.order.length c1, .slice A2 f.parent.length c2, .slice A3 f.links.length c3, .slice A4 f.loops.length c4])).push (.own 0 [.slice B0 x.nodes.length d0, .slice B1 x.links.length d1]))).sl⟩
  intro hg1
  have hlow : ¬ i < 0 := of_decide_eq_false hg1
  refine Xm (Xk rfl rfl rfl hg1) (Xb rfl) ?_
  refine Xm (Xk rfl rfl rfl hg1) (Xh (off := 1) rfl Tryz.underlying26 rfl inf23.size (by decide) rfl) ?_
  refine Xm (Xk rfl rfl rfl hg1) (Xl rfl Tryz.underlying23 rfl Xq) ?_
  refine Xm (Xk rfl rfl rfl hg1) (Yl rfl Tryz.underlying23) ?_
  refine Xm (Xk rfl rfl rfl hg1) (av_ge rfl rfl) ?_
  refine Xa (Xn (congrArg Value.bool hg1) rfl) ?_
  refine X1 rfl rfl ?_ ?_
  intro hc3
  have hhi : (f.order.length : Int) ≤ i := of_decide_eq_true hc3
  refine Xf ?_
  refine Xc (by kernel_rfl) ?_
  refine Xa (Xw rfl) ?_
  refine Xa (X4 rfl) ?_
  refine X8 ?_
  exact ⟨_, Xv (Xx rfl), t_le, by unfold groupR; rw [if_neg (by omega)]; exact (OwnP.lit kLink ((H.push (.own 0 [.slice A0 f.vars.length c0, .slice A1 f.order.length c1, .slice A2 f.parent.length c2, .slice A3 f.links.length c3, .slice A4 f.loops.length c4])).push (.own 0 [.slice B0 x.nodes.length d0, .slice B1 x.links.length d1]))).sl⟩
  intro hc3
  have hhi : ¬ (f.order.length : Int) ≤ i := of_decide_eq_false hc3
  obtain ⟨m, rfl⟩ : ∃ m : Nat, i = m := ⟨i.toNat, by omega⟩
  have hm : m < f.order.length := by omega
  obtain ⟨hwn, hwv⟩ := hg.vAt_lt (s := m) (by omega)
  obtain ⟨w, hw⟩ : ∃ w : Nat, w = Zr f m := ⟨_, rfl⟩
  have hgr : groupR f x (m : Int) above = (nd x w).filterMap (Zg f x w above) := by unfold groupR; rw [if_pos ⟨by omega, by omega⟩, Int.toNat_natCast, ← hw]
  rw [← hw] at hwn hwv
  refine X6 ?_
  refine Xf ?_
  obtain ⟨K, hK⟩ : ∃ K, K = (H.push (.own 0 [.slice A0 f.vars.length c0, .slice A1 f.order.length c1, .slice A2 f.parent.length c2, .slice A3 f.links.length c3, .slice A4 f.loops.length c4])).push (.own 0 [.slice B0 x.nodes.length d0, .slice B1 x.links.length d1]) := ⟨_, rfl⟩
  have leK : H.le K := by rw [hK]; exact Hp.le_push' (H.le_push _) _
  have zK : K.size = H.size + 2 := by rw [hK]; simp
  have gK0 : K.get H.size = .own 0 [.slice A0 f.vars.length c0, .slice A1 f.order.length c1, .slice A2 f.parent.length c2, .slice A3 f.links.length c3, .slice A4 f.loops.length c4] := by rw [hK]; exact Yh
  have gK1 : K.get (H.size + 1) = .own 0 [.slice B0 x.nodes.length d0, .slice B1 x.links.length d1] := by rw [hK]; exact Yh
  have s1K := hs1.mono leK.sees
  have s2K := hs2.mono leK.sees
  have m0K := hn0.mono leK.sees
  have m1K := hn1.mono leK.sees
  change ACode true _ _ _ _ _ (((H.push (.own 0 [.slice A0 f.vars.length c0, .slice A1 f.order.length c1, .slice A2 f.parent.length c2, .slice A3 f.links.length c3, .slice A4 f.loops.length c4])).push (.own 0 [.slice B0 x.nodes.length d0, .slice B1 x.links.length d1])).push (.own 4 []))
  rw [← hK]
  obtain ⟨b1, o1, rfl, hb1, hcell1⟩ := s1K.int_at (i := (m : Int)) (by omega) (by omega)
  rw [Int.toNat_natCast, ← hwv] at hcell1
  have hcell1' := (K.le_push (.own 4 [])).cell1 hb1 hcell1
  have lit0 := OwnP.lit kLink K (cs := [])
  clear hK
  have gK0' := (Hp.push_old K (.own 4 []) (show H.size < K.size by omega)).trans gK0
  have gK1' := (Hp.push_old K (.own 4 []) (show H.size + 1 < K.size by omega)).trans gK1
  obtain ⟨bn, on, ks, eN, hbn, ⟨wn, rfl, hwN⟩, hcellN⟩ := m0K.elem_at (i := w) (by omega)
  subst eN
  have hcellN0 := hcellN.one
  have ndw : nd x w = x.nodes[w]'(by omega) := Yz _
  rw [← ndw] at hwN
  obtain ⟨An, cn, rfl⟩ := hwN.shape
  have hnl : (nd x w).length ≤ 1000000 := Zz hsm.s5 w
  obtain ⟨bl, ol, ks, eL, hbl, ⟨wl, rfl, hwL⟩, hcellL⟩ := m1K.elem_at (i := w) (by omega)
  subst eL
  have hcellL0 := hcellL.one
  have lkw : lk x w = x.links[w]'(by omega) := Yz _
  rw [← lkw] at hwL
  obtain ⟨Al, cl, rfl⟩ := hwL.shape
  have hll : (lk x w).length ≤ 1000000 := Zz hsm.s6 w
  obtain ⟨b2, o2, rfl, hb2, hcell2⟩ := s2K.int_at (i := (w : Int)) (by omega) (by omega)
  rw [Int.toNat_natCast] at hcell2
  have hge := hg.parent_ge hwn
  refine Xc (by kernel_rfl) ?_
  refine Xa (Xh (off := 1) rfl Tryz.underlying26 rfl inf23.size (by decide) rfl) ?_
  refine Xa (Xl rfl Tryz.underlying23 rfl Xq) ?_
  refine Xa (Xb rfl) ?_
  refine Xa (Xo rfl rfl Tryz.underlying23 inf3.size Xy Xy) ?_
  refine Xa (Xl rfl Tryz.underlying3 rfl Xq) ?_
  refine Xa (Xg rfl) ?_
  refine Xf ?_
  refine Xf ?_
  refine Xc (by kernel_rfl) ?_
  refine Xa (Xg rfl) ?_
  refine X3 ?_
  refine Yt (fun n t H' => ∃ (k : Nat) (G : Hp) (C : Option Addr) (c9 : Nat) (out : List Link), k ≤ (nd x w).length ∧ n = (nd x w).length - k ∧ K.le G ∧ out = ((nd x w).take k).filterMap (Zg f x w above) ∧ OwnP kLink G H' (.slice C out.length c9) out ∧ t 3 = .int .i64 above ∧ t 4 = .pointer (some ⟨H.size, 0, none⟩) ∧ t 5 = .pointer (some ⟨H.size + 1, 0, none⟩) ∧ t 9 = .slice C out.length c9 ∧ t 10 = .int .i64 w ∧ t 11 = .int .i64 k) ((nd x w).length) (⟨0, _, _, _, [], by omega, rfl, K.le_push _, by simp, lit0, rfl, rfl, rfl, rfl, rfl, rfl⟩) ?_
  rintro n t H1 ⟨k, G, C, c9, out, hk, rfl, leG, hout, hown, e3, e4, e5, e9, e10, e11⟩
  have leK1 := Hp.le_trans leG hown.le
  have g0 := Xt leK1 (by omega) (by intro e; cases e) gK0
  have g1 := Xt leK1 (by omega) (by intro e; cases e) gK1
  have hcN := leK1.cell1 hbn hcellN0
  have hcL := leK1.cell1 hbl hcellL0
  have hc2 := leK1.cell1 hb2 hcell2
  have zz := hown.size
  have hz := leG.1
  have hol2 : out.length ≤ k := by rw [hout]; exact Nat.le_trans (List.length_filterMap_le _ _) (by rw [List.length_take]; omega)
  refine Xf ?_
  refine Xf ?_
  refine Xc (by kernel_rfl) ?_
  refine Xa (Xb Xi) ?_
  refine Xa (Xh (off := 0) Xi Tryz.underlying29 Xi inf27.size (by decide) Xi) ?_
  refine Xa (Xl rfl Tryz.underlying27 rfl Xq) ?_
  refine Xa (Xb Xi) ?_
  refine Xa (Xo rfl rfl Tryz.underlying27 inf68.size Xy Xy) ?_
  refine Xa (Xl rfl Tryz.underlying68 rfl Xq) ?_
  refine Xa (Yl rfl Tryz.underlying68) ?_
  refine Xa (Yw rfl rfl) ?_
  refine X1 rfl rfl ?_ ?_
  intro hc4
  (try simp only [decide_eq_true_eq, decide_eq_false_iff_not, Bool.not_eq_true', Bool.not_eq_false'] at hc4)
  refine X6 ?_
  refine Xf ?_
  refine X3 ?_
  refine Xf ?_
  have hkx : k < (nd x w).length := by omega
  obtain ⟨bx, ox, eX, hbx, hcx⟩ := hwN.link_at hkx
  subst eX
  have hcx1 := leK1.cells hbx hcx
  obtain ⟨y, hy⟩ : ∃ y, y = (nd x w)[k] := ⟨_, rfl⟩
  rw [← hy] at hcx1
  have hym : y ∈ nd x w := by rw [hy]; exact List.getElem_mem hkx
  obtain ⟨hy0, hy1, hy2⟩ := hch.nodes w y hym
  have hnx := filterMap_next (g := Zg f x w above) hkx
  rw [← hout, ← hy] at hnx
  refine Xc (by kernel_rfl) ?_
  refine Xa (Xh (off := 0) Xi Tryz.underlying29 Xi inf27.size (by decide) Xi) ?_
  refine Xa (Xl rfl Tryz.underlying27 rfl Xq) ?_
  refine Xa (Xb Xi) ?_
  refine Xa (Xo rfl rfl Tryz.underlying27 inf68.size Xy Xy) ?_
  refine Xa (Xl rfl Tryz.underlying68 rfl Xq) ?_
  refine Xa (Xb Xi) ?_
  refine Xa (Xo rfl rfl Tryz.underlying68 inf78.size Xy Xy) ?_
  refine Xa (Yc (cs := [.int .i64 _, .int .i64 _, .int .i64 _, .int .u64 _]) rfl Tryz.underlying78 rfl inf78.size Yb) ?_
  refine X2 (Y9 (l := [.int .i64 0, .int .i64 0, .int .i64 0, .int .u64 0]) inf78.zero rfl (by decide)) ?_
  first | refine X5 (Yq (vs := [.int .i64 _, .int .i64 _, .int .i64 _, .int .u64 _]) rfl rfl inf78.size Yh Yp rfl rfl ?_)
  refine Xf ?_
  refine Xf ?_
  obtain ⟨H2, hH2⟩ : ∃ H2, H2 = (H1.push (.own 0 [.int .i64 0, .int .i64 0, .int .i64 0, .int .u64 0])).put H1.size (.own 0 [.int .i64 y.a, .int .i64 y.b, .int .i64 y.cost, .int .u64 y.n]) := ⟨_, rfl⟩
  obtain ⟨G2, hG2⟩ : ∃ G2, G2 = (G.push (.own 0 [.int .i64 0, .int .i64 0, .int .i64 0, .int .u64 0])).put H1.size (.own 0 [.int .i64 y.a, .int .i64 y.b, .int .i64 y.cost, .int .u64 y.n]) := ⟨_, rfl⟩
  have hown2 : OwnP kLink G2 H2 (.slice C out.length c9) out := by rw [hH2, hG2]; exact hown.boxed _ _
  have leG2 : K.le G2 := by rw [hG2]; exact Hp.le_put_new (Hp.le_push' leG _) (by omega) _
  have g22 : H2.get H1.size = .own 0 [.int .i64 y.a, .int .i64 y.b, .int .i64 y.cost, .int .u64 y.n] := by rw [hH2]; exact Hp.put_same _ _ _
  have kg2 : G2.get H1.size = .own 0 [.int .i64 y.a, .int .i64 y.b, .int .i64 y.cost, .int .u64 y.n] := by rw [hG2]; exact Hp.put_same _ _ _
  have z2 : H2.size = H1.size + 1 := by rw [hH2]; simp
  have zz2 := hown2.size
  have leK2 := Hp.le_trans leG2 hown2.le
  have g20 := Xt leK2 (by omega) (by intro e; cases e) gK0
  have g21 := Xt leK2 (by omega) (by intro e; cases e) gK1
  have hcL2 := leK2.cell1 hbl hcellL0
  have hc22 := leK2.cell1 hb2 hcell2
  change ACode true _ _ _ _ _ ((H1.push (.own 0 [.int .i64 0, .int .i64 0, .int .i64 0, .int .u64 0])).put H1.size (.own 0 [.int .i64 y.a, .int .i64 y.b, .int .i64 y.cost, .int .u64 y.n]))
  rw [← hH2]
  clear hH2 hG2
  refine Xc (by kernel_rfl) ?_
  refine Xa (Xh (off := 2) Xi Tryz.underlying26 Xi inf23.size (by decide) Xi) ?_
  refine Xa (Xl rfl Tryz.underlying23 rfl Xq) ?_
  refine Xa (Xb Xi) ?_
  refine Xa (Xo rfl rfl Tryz.underlying23 inf3.size Xy Xy) ?_
  refine Xa (Xl rfl Tryz.underlying3 rfl Xq) ?_
  refine Xa (av_ge rfl rfl) ?_
  refine X1 rfl rfl ?_ ?_
  intro hc5
  have hpar : 0 ≤ par f w := of_decide_eq_true hc5
  refine Xf ?_
  refine Ys (by kernel_rfl) (Y1 (B := [0, 1, 0, 7, 15, 0, 0, 64, 255, 511]) (π := [0, 1, 2, 3, 4, 5, 6, 7, 8, 9]) (by kernel_rfl)) ?_
  refine Xd rfl rfl (Xh (off := 1) Xi Tryz.underlying29 Xi inf27.size (by decide) Xi) Xp ?_
  refine Xd rfl rfl (Xl rfl Tryz.underlying27 rfl Xq) Xp ?_
  refine Xd rfl rfl (Xb Xi) Xp ?_
  refine Xd rfl rfl (Xo rfl rfl Tryz.underlying27 inf68.size Xy Xy) Xp ?_
  refine Xd rfl rfl (Xl rfl Tryz.underlying68 rfl Xq) Xp ?_
  refine Xd rfl rfl (Xb Xi) Xp ?_
  refine Xd rfl rfl (Xh (off := 0) rfl Tryz.underlying78 rfl inf3.size (by decide) rfl) Xp ?_
  refine Xd rfl rfl (Xl rfl Tryz.underlying3 rfl Xq) Xp ?_
  refine Yg rfl rfl (X0 (Find_links (lk x w) _ above y.a _ (hwL.mono leK2.sees) (by omega)) rfl Tryz.func46 rfl rfl rfl ?_)
  rintro v8 H2 ⟨rfl, rfl⟩
  refine ⟨Yf, ?_⟩
  refine Xd rfl rfl (Xg rfl) Xp ?_
  refine Xf ?_
  refine Xf ?_
  refine Xc (by kernel_rfl) ?_
  refine Xa (Xb rfl) ?_
  refine Xa (Yw rfl rfl) ?_
  refine X1 rfl rfl ?_ ?_
  intro hc6
  have hneg : ¬ 0 ≤ Vf (lk x w) above y.a := by have := of_decide_eq_true hc6; omega
  have hone : Zg f x w above y = none := by unfold Zg; rw [if_pos hpar, if_neg hneg]
  rw [hone, Option.toList_none, List.append_nil] at hnx
  refine Yj ?_
  refine Xc (by kernel_rfl) ?_
  refine Xa (Xb Xi) ?_
  refine Xa (Yd rfl rfl Yk) ?_
  refine Xa (Xg rfl) ?_
  first
    | exact ⟨(nd x w).length - (k + 1), by omega, k + 1, G4, C', c', _, by omega, rfl, leG4, hnx.symm, hown4, e3, e4, e5, rfl, e10, rfl⟩
    | exact ⟨(nd x w).length - (k + 1), by omega, k + 1, G2, C, c9, out, by omega, rfl, leG2, hnx.symm, hown2, e3, e4, e5, e9, e10, rfl⟩
  intro hc6
  have hpos : 0 ≤ Vf (lk x w) above y.a := by have := of_decide_eq_false hc6; omega
  obtain ⟨j, hj, hjl, hja, hjb⟩ := findI_link hpos
  rw [hj]
  obtain ⟨bj, oj, eJ, hbj, hcj⟩ := hwL.link_at hjl
  subst eJ
  have hcj2 := leK2.cells hbj hcj
  obtain ⟨l, hl'⟩ : ∃ l, l = (lk x w)[j] := ⟨_, rfl⟩
  rw [← hl'] at hcj2
  have hlm : l ∈ lk x w := by rw [hl']; exact List.getElem_mem hjl
  obtain ⟨hl0, hl1, hl2⟩ := hch.links w l hlm
  have hone : Zg f x w above y = some ⟨above, y.a, y.cost + l.cost, Yv y.n l.n⟩ := by
    unfold Zg
    rw [if_pos hpar, if_pos hpos, hj, Int.toNat_natCast, List.getD_eq_getElem?_getD, List.getElem?_eq_getElem hjl, hl']; rfl
  rw [hone, Option.toList_some] at hnx
  refine X6 ?_
  refine Xf ?_
  refine Xc (by kernel_rfl) ?_
  refine Xa (Xh (off := 1) Xi Tryz.underlying29 Xi inf27.size (by decide) Xi) ?_
  refine Xa (Xl rfl Tryz.underlying27 rfl Xq) ?_
  refine Xa (Xb Xi) ?_
  refine Xa (Xo rfl rfl Tryz.underlying27 inf68.size Xy Xy) ?_
  refine Xa (Xl rfl Tryz.underlying68 rfl Xq) ?_
  refine Xa (Xb rfl) ?_
  refine Xa (Xo rfl rfl Tryz.underlying68 inf78.size Xy Xy) ?_
  refine Xa (Yc (cs := [.int .i64 _, .int .i64 _, .int .i64 _, .int .u64 _]) rfl Tryz.underlying78 rfl inf78.size Yb) ?_
  refine X2 (Y9 (l := [.int .i64 0, .int .i64 0, .int .i64 0, .int .u64 0]) inf78.zero rfl (by decide)) ?_
  first | refine X5 (Yq (vs := [.int .i64 _, .int .i64 _, .int .i64 _, .int .u64 _]) rfl rfl inf78.size Yh Yp rfl rfl ?_)
  obtain ⟨H3, hH3⟩ : ∃ H3, H3 = (H2.push (.own 0 [.int .i64 0, .int .i64 0, .int .i64 0, .int .u64 0])).put H2.size (.own 0 [.int .i64 l.a, .int .i64 l.b, .int .i64 l.cost, .int .u64 l.n]) := ⟨_, rfl⟩
  obtain ⟨G3, hG3⟩ : ∃ G3, G3 = (G2.push (.own 0 [.int .i64 0, .int .i64 0, .int .i64 0, .int .u64 0])).put H2.size (.own 0 [.int .i64 l.a, .int .i64 l.b, .int .i64 l.cost, .int .u64 l.n]) := ⟨_, rfl⟩
  have hown3 : OwnP kLink G3 H3 (.slice C out.length c9) out := by rw [hH3, hG3]; exact hown2.boxed _ _
  have leG3 : K.le G3 := by rw [hG3]; exact Hp.le_put_new (Hp.le_push' leG2 _) (by omega) _
  have g33 : H3.get H2.size = .own 0 [.int .i64 l.a, .int .i64 l.b, .int .i64 l.cost, .int .u64 l.n] := by rw [hH3]; exact Hp.put_same _ _ _
  have g32 : H3.get H1.size = .own 0 [.int .i64 y.a, .int .i64 y.b, .int .i64 y.cost, .int .u64 y.n] := by rw [hH3, Hp.put_other _ _ (by omega), Hp.push_old _ _ (by omega)]; exact g22
  have kg3 : G3.get H1.size = .own 0 [.int .i64 y.a, .int .i64 y.b, .int .i64 y.cost, .int .u64 y.n] := by rw [hG3, Hp.put_other _ _ (by omega), Hp.push_old _ _ (by omega)]; exact kg2
  have z3 : H3.size = H2.size + 1 := by rw [hH3]; simp
  have zz3 := hown3.size
  change ACode true _ _ _ _ _ ((H2.push (.own 0 [.int .i64 0, .int .i64 0, .int .i64 0, .int .u64 0])).put H2.size (.own 0 [.int .i64 l.a, .int .i64 l.b, .int .i64 l.cost, .int .u64 l.n]))
  rw [← hH3]
  clear hH3 hG3
  refine Ys (by kernel_rfl) (Y1 (B := [0, 0, 2, 0, 8, 0, 32, 120, 0, 256, 0, 1024, 3840, 8191, 16383]) (π := [0, 1, 2, 3, 4, 5, 6, 7, 8, 9, 10, 11, 12, 13, 14]) (by kernel_rfl)) ?_
  refine Xd rfl rfl (Xb Xi) Xp ?_
  refine Xd rfl rfl (Xh (off := 0) rfl Tryz.underlying78 rfl inf3.size (by decide) rfl) Xp ?_
  refine Xd rfl rfl (Xl rfl Tryz.underlying3 rfl Xq) Xp ?_
  refine Xd rfl rfl (Xh (off := 2) rfl Tryz.underlying78 rfl inf3.size (by decide) rfl) Xp ?_
  refine Xd rfl rfl (Xl rfl Tryz.underlying3 rfl Xq) Xp ?_
  refine Xd rfl rfl (Xh (off := 2) rfl Tryz.underlying78 rfl inf3.size (by decide) rfl) Xp ?_
  refine Xd rfl rfl (Xl rfl Tryz.underlying3 rfl Xq) Xp ?_
  refine Xd rfl rfl (Yd rfl rfl Yk) Xp ?_
  refine Xd rfl rfl (Xh (off := 3) rfl Tryz.underlying78 rfl inf42.size (by decide) rfl) Xp ?_
  refine Xd rfl rfl (Xl rfl Tryz.underlying42 rfl Xq) Xp ?_
  refine Xd rfl rfl (Xh (off := 3) rfl Tryz.underlying78 rfl inf42.size (by decide) rfl) Xp ?_
  refine Xd rfl rfl (Xl rfl Tryz.underlying42 rfl Xq) Xp ?_
  refine Yg rfl rfl (X0 (timesR_u64 y.n l.n hy2 hl2 _) rfl Tryz.func48 rfl rfl rfl ?_)
  rintro v9 H3 ⟨rfl, rfl⟩
  refine ⟨Yf, ?_⟩
  refine Xd rfl rfl (Zb (pl := [(0, 1), (1, 1), (2, 1), (3, 1)]) (r := [.int .i64 _, .int .i64 _, .int .i64 _, .int .u64 _]) Tryz.underlying78 inf78.zero (by decide) rfl rfl) Xp ?_
  first | refine Yg rfl rfl (Yq (vs := [.int .i64 _, .int .i64 _, .int .i64 _, .int .u64 _]) rfl rfl inf78.size Yh Yp rfl rfl ?_)
  refine ⟨Yf, ?_⟩
  refine Xc (by kernel_rfl) ?_
  refine Xa (Xw Xi) ?_
  refine Xa (Yc (cs := [.int .i64 _, .int .i64 _, .int .i64 _, .int .u64 _]) rfl Tryz.underlying78 rfl inf78.size Yb) ?_
  first | refine X2 (Ya (r := [.int .i64 _, .int .i64 _, .int .i64 _, .int .u64 _]) Tryz.underlying68 inf78.size inf78.zero rfl (by decide) (by decide) (by decide) rfl) ?_
  first
    | (have hownB := hown3.box_put kg3 [.int .i64 above, .int .i64 y.a, .int .i64 (y.cost + l.cost), .int .u64 (Yv y.n l.n)]
       refine X5 (OwnP.append (ys := [⟨above, y.a, y.cost + l.cost, Yv y.n l.n⟩]) (hownB.push _) Tryz.underlying68 inf78 rfl rfl rfl (Zl (k := kLink) rfl rfl hownB.size rfl) (by simp only [List.length_singleton]; omega) (by simp only [List.length_singleton]; omega) ?_)
       rintro v10 G4 H4 hle4 hown4
       have leG4 : K.le G4 := Hp.le_trans (Hp.le_push' (Hp.le_put_new leG3 (by omega) _) _) hle4)
    | (refine X5 (OwnP.append (ys := [y]) (hown2.push _) Tryz.underlying68 inf78 rfl rfl rfl (Zl (k := kLink) rfl rfl hown2.size rfl) (by simp only [List.length_singleton]; omega) (by simp only [List.length_singleton]; omega) ?_)
       rintro v10 G4 H4 hle4 hown4
       have leG4 : K.le G4 := Hp.le_trans (Hp.le_push' leG2 _) hle4)
  obtain ⟨C', c', e10'⟩ := hown4.shape
  subst e10'
  refine Xa (X4 rfl) ?_
  refine Xc (by kernel_rfl) ?_
  refine Xa (Xb Xi) ?_
  refine Xa (Yd rfl rfl Yk) ?_
  refine Xa (Xg rfl) ?_
  first
    | exact ⟨(nd x w).length - (k + 1), by omega, k + 1, G4, C', c', _, by omega, rfl, leG4, hnx.symm, hown4, e3, e4, e5, rfl, e10, rfl⟩
    | exact ⟨(nd x w).length - (k + 1), by omega, k + 1, G2, C, c9, out, by omega, rfl, leG2, hnx.symm, hown2, e3, e4, e5, e9, e10, rfl⟩
  intro hc5
  have hpar : ¬ 0 ≤ par f w := of_decide_eq_false hc5
  have hone : Zg f x w above y = some y := by unfold Zg; rw [if_neg hpar]
  rw [hone, Option.toList_some] at hnx
  refine X6 ?_
  refine Xc (by kernel_rfl) ?_
  refine Xa (Xw Xi) ?_
  refine Xa (Yc (cs := [.int .i64 _, .int .i64 _, .int .i64 _, .int .u64 _]) rfl Tryz.underlying78 rfl inf78.size Yb) ?_
  first | refine X2 (Ya (r := [.int .i64 _, .int .i64 _, .int .i64 _, .int .u64 _]) Tryz.underlying68 inf78.size inf78.zero rfl (by decide) (by decide) (by decide) rfl) ?_
  first
    | (have hownB := hown3.box_put kg3 [.int .i64 above, .int .i64 y.a, .int .i64 (y.cost + l.cost), .int .u64 (Yv y.n l.n)]
       refine X5 (OwnP.append (ys := [⟨above, y.a, y.cost + l.cost, Yv y.n l.n⟩]) (hownB.push _) Tryz.underlying68 inf78 rfl rfl rfl (Zl (k := kLink) rfl rfl hownB.size rfl) (by simp only [List.length_singleton]; omega) (by simp only [List.length_singleton]; omega) ?_)
       rintro v10 G4 H4 hle4 hown4
       have leG4 : K.le G4 := Hp.le_trans (Hp.le_push' (Hp.le_put_new leG3 (by omega) _) _) hle4)
    | (refine X5 (OwnP.append (ys := [y]) (hown2.push _) Tryz.underlying68 inf78 rfl rfl rfl (Zl (k := kLink) rfl rfl hown2.size rfl) (by simp only [List.length_singleton]; omega) (by simp only [List.length_singleton]; omega) ?_)
       rintro v10 G4 H4 hle4 hown4
       have leG4 : K.le G4 := Hp.le_trans (Hp.le_push' leG2 _) hle4)
  obtain ⟨C', c', e10'⟩ := hown4.shape
  subst e10'
  refine Xa (X4 rfl) ?_
  refine Xc (by kernel_rfl) ?_
  refine Xa (Xb Xi) ?_
  refine Xa (Yd rfl rfl Yk) ?_
  refine Xa (Xg rfl) ?_
  first
    | exact ⟨(nd x w).length - (k + 1), by omega, k + 1, G4, C', c', _, by omega, rfl, leG4, hnx.symm, hown4, e3, e4, e5, rfl, e10, rfl⟩
    | exact ⟨(nd x w).length - (k + 1), by omega, k + 1, G2, C, c9, out, by omega, rfl, leG2, hnx.symm, hown2, e3, e4, e5, e9, e10, rfl⟩
  intro hc4
  (try simp only [decide_eq_true_eq, decide_eq_false_iff_not, Bool.not_eq_true', Bool.not_eq_false'] at hc4)
  refine Yj ?_
  refine Xf ?_
  refine Xc (by kernel_rfl) ?_
  refine Xa (Xw Xi) ?_
  refine Xa (X4 rfl) ?_
  refine X8 ?_
  obtain rfl : k = (nd x w).length := by omega
  rw [List.take_of_length_le (Nat.le_refl _)] at hout
  exact ⟨_, Xv (Xx rfl), Hp.le_trans leK leK1, by rw [hgr, ← hout]; exact hown.sl⟩
end Go.Proofs.YtcaeoebphfjfiaaGreat.Am


/- What is asked of a tree holds of the trees that are made; their groups are those of the document's words. -/
namespace Go.Proofs.YtcaeoebphfjfiaaGreat.Am
open Go Go.RowKit
set_option maxRecDepth 100000
set_option linter.unusedVariables false
set_option linter.unusedSimpArgs false

theorem timesI_comm (a b : Int) : Yv a b = Yv b a := by unfold Yv; rw [Int.mul_comm]
theorem nodeOf_or (ns : List Link) (b : Int) : nodeOf ns b ∈ ns ∨ nodeOf ns b = V6 := by
  unfold nodeOf
  cases h : ns.find? (fun y => decide (y.a = b)) with
  | none => exact .inr rfl
  | some y => exact .inl (List.mem_of_find?_eq_some h)
theorem nodeOf_mem {ns : List Link} {y : Link} (hy : y ∈ ns) (hu : ∀ x ∈ ns, ∀ z ∈ ns, x.a = z.a → x = z) : nodeOf ns y.a = y := by
  unfold nodeOf
  cases h : ns.find? (fun z => decide (z.a = y.a)) with
  | none =>
    rw [List.find?_eq_none] at h
    have := h y hy
    simp at this
  | some z =>
    have h1 := List.find?_some h
    have h2 := List.mem_of_find?_eq_some h
    exact hu z h2 y hy (of_decide_eq_true h1)
theorem rise_ext : ∀ {xs ys : List Link}, xs.Pairwise (fun x y => x.b < y.b) → ys.Pairwise (fun x y => x.b < y.b) → (∀ l, l ∈ xs ↔ l ∈ ys) → xs = ys
  | [], [], _, _, _ => rfl
  | [], y :: ys, _, _, h => by have := (h y).2 (by simp); simp at this
  | x :: xs, [], _, _, h => by have := (h x).1 (by simp); simp at this
  | x :: xs, y :: ys, h1, h2, h => by
    obtain ⟨a1, a2⟩ := List.pairwise_cons.1 h1
    obtain ⟨b1, b2⟩ := List.pairwise_cons.1 h2
    have e : x = y := by
      have hx := (h x).1 (by simp)
      have hy := (h y).2 (by simp)
      rcases List.mem_cons.1 hx with hx | hx
      · exact hx
      · rcases List.mem_cons.1 hy with hy | hy
        · exact hy.symm
        · have := a1 y hy
          have := b1 x hx
          omega
    subst e
    rw [rise_ext a2 b2 fun l => ?_]
    constructor
    · intro hl
      rcases List.mem_cons.1 ((h l).1 (List.mem_cons_of_mem _ hl)) with e | e
      · subst e; have := a1 l hl; omega
      · exact e
    · intro hl
      rcases List.mem_cons.1 ((h l).2 (List.mem_cons_of_mem _ hl)) with e | e
      · subst e; have := b1 l hl; omega
      · exact e
theorem nd_rise {f : Forest} {x : Parts} (h : GoodP f x) {v : Nat} (hv : v < f.vars.length) : (nd x v).Pairwise fun y z => y.b < z.b :=
  List.Pairwise.imp_of_mem (R := fun y z => y.a < z.a) (fun {y z} hy hz hl => by have := (h.ok v hv).2.2.1 y hy; have := (h.ok v hv).2.2.1 z hz; omega) (goodL_strict (h.ok v hv).1 (h.ok v hv).2.2.1)
theorem tree_par {f : Forest} (x : Parts) (hg : GoodF f) {i : Nat} (hi : i < f.vars.length) : (Yy f x).parent.getD i 0 = atI f.order (par f (Zr f i)) := by
  rw [List.getD_eq_getElem?_getD, (treeOf_at x (by rw [hg.l1]; exact hi)).2.1]; rfl
theorem tree_links {f : Forest} (x : Parts) (hg : GoodF f) {i : Nat} (hi : i < f.vars.length) : (Yy f x).links.getD i [] = Y4 f x (Zr f i) := by
  rw [List.getD_eq_getElem?_getD, (treeOf_at x (by rw [hg.l1]; exact hi)).2.2]; rfl
theorem at_root {f : Forest} (hg : GoodF f) {i : Nat} (hi : i < f.vars.length) : (par f (Zr f i) = -1 ∧ atI f.order (par f (Zr f i)) = -1) ∨ (0 ≤ par f (Zr f i) ∧ 0 ≤ atI f.order (par f (Zr f i)) ∧ atI f.order (par f (Zr f i)) = Z9 f (par f (Zr f i)) ∧ Z9 f (par f (Zr f i)) < i) := by
  have hge := hg.parent_ge (hg.vAt_lt hi).1
  change -1 ≤ par f (Zr f i) ∧ par f (Zr f i) < _ at hge
  by_cases h : par f (Zr f i) = -1
  · refine .inl ⟨h, ?_⟩
    rw [h]
    exact atI_none fun hm => by have := hg.order_in hm; omega
  · have h0 : 0 ≤ par f (Zr f i) := by omega
    obtain ⟨p1, p2⟩ := hg.pos_par hi h0
    have hm : par f (Zr f i) ∈ f.order := by
      have := hg.in_order (v := (par f (Zr f i)).toNat) (by omega)
      rwa [Int.toNat_of_nonneg h0] at this
    obtain ⟨q, hq, _⟩ := atI_take (i := f.order.length) (by rw [List.take_length]; exact hm)
    exact .inr ⟨h0, by omega, by unfold Z9; omega, p1⟩
theorem place_row {f : Forest} {x : Parts} (hG : GoodP f x) {i : Nat} (hi : i < f.vars.length) (above : Int) : (Yy f x).row i above = if par f (Zr f i) = -1 then nd x (Zr f i) else ((lk x (Zr f i)).map (Ul (nd x (Zr f i)))).filter fun l => decide (l.a = above) := by
  unfold TreeT.row
  rw [tree_par x hG.gf hi, tree_links x hG.gf hi]
  unfold Y4
  rcases at_root hG.gf hi with ⟨h1, h2⟩ | ⟨h1, h2, _⟩
  · rw [if_pos h2, if_pos h1, if_pos h1]
  · rw [if_neg (by omega), if_neg (by omega), if_neg (by omega)]
theorem row_rise {f : Forest} {x : Parts} (hG : GoodP f x) {i : Nat} (hi : i < f.vars.length) (above : Int) : ((Yy f x).row i above).Pairwise fun y z => y.b < z.b := by
  have hv := (hG.gf.vAt_lt hi).1
  rw [place_row hG hi]
  split
  · exact nd_rise hG hv
  · have h1 := (Ui.1 (hG.ok _ hv).2.1).2
    refine List.Pairwise.imp_of_mem (R := fun y z => Vl y z = true) (fun {y z} hy hz hl => ?_) ((List.Pairwise.map (R := fun y z => Vl y z = true) (Ul (nd x (Zr f i))) (fun a b h => h) h1).filter _)
    have e1 := of_decide_eq_true (List.mem_filter.1 hy).2
    have e2 := of_decide_eq_true (List.mem_filter.1 hz).2
    simp only [Vl, Bool.or_eq_true, Bool.and_eq_true, decide_eq_true_eq] at hl
    omega
theorem weigh_ok {f : Forest} {x : Parts} (hch : Cheap x) {v : Nat} {l : Link} (hl : l ∈ lk x v) : 0 ≤ (Ul (nd x v) l).cost ∧ (Ul (nd x v) l).cost ≤ 2000000000 ∧ 0 ≤ (Ul (nd x v) l).n := by
  obtain ⟨a1, a2, a3⟩ := hch.links v l hl
  have hb : 0 ≤ (nodeOf (nd x v) l.b).cost ∧ (nodeOf (nd x v) l.b).cost ≤ 1000000000 ∧ 0 ≤ (nodeOf (nd x v) l.b).n := by
    rcases nodeOf_or (nd x v) l.b with h | h
    · exact hch.nodes v _ h
    · rw [h]; decide
  exact ⟨by show 0 ≤ _ + _; omega, by show _ + _ ≤ _; omega, (Z2 a3 hb.2.2).1⟩
theorem good_tree {f : Forest} {x : Parts} (hG : GoodP f x) (hs : Small f x) (hch : Cheap x) (hv : f.vars.length ≤ 1000) : GoodT (Yy f x) := by
  obtain ⟨t1, t2, t3⟩ := Vj (f := f) x
  have hol : f.order.length = f.vars.length := hG.gf.l1
  have mem : ∀ l ∈ (Yy f x).links, ∃ v, l = Y4 f x v := fun l hl => by
    obtain ⟨v, _, rfl⟩ := List.mem_map.1 hl
    exact ⟨_, rfl⟩
  refine ⟨by omega, by omega, by omega, fun l hl => ?_, fun i hi => ?_, fun i above => ?_, fun l hl y hy => ?_⟩
  · obtain ⟨v, rfl⟩ := mem l hl
    unfold Y4
    split
    · exact Zz hs.s5 v
    · rw [List.length_map]; exact Zz hs.s6 v
  · rw [tree_par x hG.gf (by omega)]
    rcases at_root hG.gf (i := i) (by omega) with ⟨_, h2⟩ | ⟨_, h2, h3, h4⟩
    · exact .inl h2
    · exact .inr ⟨h2, by omega⟩
  · unfold TreeT.group
    split
    · exact row_rise hG (by omega) _
    · exact List.Pairwise.nil
  · obtain ⟨v, rfl⟩ := mem l hl
    unfold Y4 at hy
    split at hy
    · obtain ⟨a1, a2, a3⟩ := hch.nodes v y hy
      exact ⟨a1, by omega, a3⟩
    · obtain ⟨l, hl, rfl⟩ := List.mem_map.1 hy
      exact weigh_ok (f := f) hch hl
theorem filterMap_id {α : Type} {g : α → Option α} : ∀ {xs : List α}, (∀ y ∈ xs, g y = some y) → xs.filterMap g = xs
  | [], _ => rfl
  | x :: xs, h => by rw [List.filterMap_cons, h x (by simp)]; simp only; rw [filterMap_id fun y hy => h y (by simp [hy])]
theorem group_same {f : Forest} {x : Parts} (hG : GoodP f x) (hF : ∀ v : Nat, v < f.vars.length → par f v ≠ -1 → Full f x v) (i above : Int) : (Yy f x).group i above = groupR f x i above := by
  have hol : f.order.length = f.vars.length := hG.gf.l1
  unfold TreeT.group groupR
  rw [(Vj x).1]
  split
  · rename_i hi
    have hi' : i.toNat < f.vars.length := by omega
    have hv := (hG.gf.vAt_lt hi').1
    rw [place_row hG hi']
    obtain ⟨w, hw⟩ : ∃ w, w = Zr f i.toNat := ⟨_, rfl⟩
    rw [← hw] at hv
    rw [← hw]
    have hge := hG.gf.parent_ge hv
    change -1 ≤ par f w ∧ _ at hge
    by_cases hp : par f w = -1
    · rw [if_pos hp]
      have : ∀ y ∈ nd x w, Zg f x w above y = some y := fun y _ => by unfold Zg; rw [if_neg (by omega)]
      exact (filterMap_id this).symm
    · rw [if_neg hp]
      have hful := hF w hv hp
      have huq : ∀ y ∈ nd x w, ∀ z ∈ nd x w, y.a = z.a → y = z := fun y hy z hz e => nd_uniq hG hv hy hz e
      have hr := row_rise hG hi' above
      rw [place_row hG hi', ← hw, if_neg hp] at hr
      have hone : ∀ y ∈ nd x w, ∀ m ∈ lk x w, m.a = above → m.b = y.a → Zg f x w above y = some (Ul (nd x w) m) := fun y hy m hm ha hb => by
        unfold Zg
        have hpos : 0 ≤ Vf (lk x w) above y.a := findI_ge.2 ⟨m, hm, ha, hb⟩
        obtain ⟨j, hj, hjl, hja, hjb⟩ := findI_link hpos
        have em : (lk x w)[j] = m := lk_uniq hG hv (List.getElem_mem hjl) hm (by omega) (by omega)
        rw [if_pos (by omega), if_pos hpos, hj, Int.toNat_natCast, List.getD_eq_getElem?_getD, List.getElem?_eq_getElem hjl, em]
        unfold Ul
        rw [hb, nodeOf_mem hy huq]
        simp only [Option.getD_some, Option.some.injEq]
        refine Link.ext' ha.symm rfl ?_ (timesI_comm _ _)
        show _ + _ = _ + _
        omega
      refine rise_ext hr ?_ fun l => ?_
      · have h1 := goodL_strict (hG.ok w hv).1 (hG.ok w hv).2.2.1
        refine List.Pairwise.filterMap _ (R := fun y z => y.a < z.a) (fun a a' h b hb b' hb' => ?_) h1
        have key : ∀ (y l : Link), Zg f x w above y = some l → l.b = y.a := fun y l h => by
          unfold Zg at h
          rw [if_pos (by omega)] at h
          split at h
          · injection h with h; rw [← h]
          · cases h
        rw [key _ _ hb, key _ _ hb']; exact h
      · rw [List.mem_filter, List.mem_map, List.mem_filterMap]
        constructor
        · rintro ⟨⟨m, hm, rfl⟩, ha⟩
          have ha : m.a = above := of_decide_eq_true ha
          obtain ⟨_, he⟩ := hful.ends m hm
          obtain ⟨y, hy, hya⟩ := List.mem_map.1 he
          exact ⟨y, hy, hone y hy m hm ha hya.symm⟩
        · rintro ⟨y, hy, h⟩
          have hpos : 0 ≤ Vf (lk x w) above y.a := by
            unfold Zg at h
            rw [if_pos (by omega)] at h
            by_cases hh : 0 ≤ Vf (lk x w) above y.a
            · exact hh
            · rw [if_neg hh] at h; cases h
          obtain ⟨m, hm, ha, hb⟩ := findI_ge.1 hpos
          rw [hone y hy m hm ha hb] at h
          injection h with h
          exact ⟨⟨m, hm, h⟩, by rw [← h]; exact decide_eq_true ha⟩
  · rfl
end Go.Proofs.YtcaeoebphfjfiaaGreat.Am


/- The rows of a tree are all rows; each of a group is in some row. -/
namespace Go.Proofs.YtcaeoebphfjfiaaGreat.Am
open Go Go.RowKit
set_option maxRecDepth 100000
set_option linter.unusedVariables false
set_option linter.unusedSimpArgs false

theorem findB_iff {g : List Link} (hr : g.Pairwise fun x y => x.b < y.b) {node : Int} {z : Link} : Z4 g node = some z ↔ z ∈ g ∧ z.b = node := by
  constructor
  · intro h
    unfold Z4 at h
    exact ⟨List.mem_of_find?_eq_some h, of_decide_eq_true (List.find?_some (p := fun (l : Link) => decide (l.b = node)) h)⟩
  · intro ⟨h1, h2⟩
    obtain ⟨i, hi, rfl⟩ := List.getElem_of_mem h1
    refine findB_some hi h2 fun j hj hl e => ?_
    have := List.pairwise_iff_getElem.1 hr j i hl hi hj
    omega
theorem row_group {f : Forest} {x : Parts} {v : Nat} {r : RowT} {y : Link} {above : Int} (h : 0 ≤ par f v → above = r.nodes.getD (atI f.order (par f v)).toNat 0) :
    Zw f x v r y = (Zg f x v above y).map fun z => ⟨r.nodes ++ [y.a], r.cost + z.cost, Yv r.n z.n⟩ := by
  unfold Zw Zg Vm
  by_cases h1 : 0 ≤ par f v
  · rw [if_pos h1, if_pos h1, ← h h1]
    by_cases h2 : 0 ≤ Vf (lk x v) above y.a
    · rw [if_pos h2, if_pos h2]; rfl
    · rw [if_neg h2, if_neg h2]; rfl
  · rw [if_neg h1, if_neg h1]; rfl
theorem groupOne_b {f : Forest} {x : Parts} (hG : GoodP f x) {v : Nat} (hv : v < f.vars.length) {above : Int} {y z : Link} (hy : y ∈ nd x v) (h : Zg f x v above y = some z) : z.b = y.a := by
  unfold Zg at h
  split at h
  · split at h
    · injection h with h; rw [← h]
    · cases h
  · injection h with h
    rw [← h]; exact ((hG.ok v hv).2.2.1 y hy).symm
theorem group_rise {f : Forest} {x : Parts} (hG : GoodP f x) (i above : Int) : ((Yy f x).group i above).Pairwise fun y z => y.b < z.b := by
  unfold TreeT.group
  split
  · rename_i h
    have := (Vj (f := f) x).1
    have := hG.gf.l1
    exact row_rise hG (by omega) _
  · exact List.Pairwise.nil
theorem above_of {f : Forest} {x : Parts} (hG : GoodP f x) {i : Nat} (hi : i < f.vars.length) {ns : List Int} : Y2 (Yy f x) ns i = if par f (Zr f i) = -1 then -1 else ns.getD (Z9 f (par f (Zr f i))) 0 := by
  unfold Y2
  rw [tree_par x hG.gf hi]
  rcases at_root hG.gf hi with ⟨h1, h2⟩ | ⟨h1, h2, h3, h4⟩
  · rw [if_pos h2, if_pos h1]
  · rw [if_neg (by omega), if_neg (by omega), h3, Int.toNat_natCast]
theorem acc_rows {f : Forest} {x : Parts} (hG : GoodP f x) (hF : ∀ v : Nat, v < f.vars.length → par f v ≠ -1 → Full f x v) {ns : List Int} (hl : ns.length = f.vars.length) : ∀ i, i ≤ f.vars.length → ∀ c m : Int, rowAcc (Yy f x) ns i = some (c, m) ↔ (⟨ns.take i, c, m⟩ : RowT) ∈ Zq f x i
  | 0, _, c, m => by
    simp only [rowAcc, Zq, List.take_zero, List.mem_singleton, Option.some.injEq, Prod.mk.injEq, RowT.mk.injEq, true_and]
    constructor
    · rintro ⟨rfl, rfl⟩; exact ⟨rfl, rfl⟩
    · rintro ⟨rfl, rfl⟩; exact ⟨rfl, rfl⟩
  | i + 1, hi, c, m => by
    have ih := acc_rows hG hF hl i (by omega)
    have hv := (hG.gf.vAt_lt (s := i) (by omega)).1
    have hin : (0 : Int) ≤ (i : Int) ∧ (i : Int) < f.order.length := ⟨by omega, by have := hG.gf.l1; omega⟩
    have hgrp : (Yy f x).group (i : Int) (Y2 (Yy f x) ns i) = (nd x (Zr f i)).filterMap (Zg f x (Zr f i) (Y2 (Yy f x) ns i)) := by
      rw [group_same hG hF]
      unfold groupR
      rw [if_pos hin, Int.toNat_natCast]
    have hri := group_rise hG (i : Int) (Y2 (Yy f x) ns i)
    have habv : ∀ r : RowT, r.nodes = ns.take i → 0 ≤ par f (Zr f i) → Y2 (Yy f x) ns i = r.nodes.getD (atI f.order (par f (Zr f i))).toNat 0 := fun r hr hp => by
      rw [above_of hG (by omega), if_neg (by omega)]
      rcases at_root hG.gf (i := i) (by omega) with ⟨h1, _⟩ | ⟨_, h2, h3, h4⟩
      · omega
      · rw [hr, h3, Int.toNat_natCast, List.getD_eq_getElem?_getD, List.getD_eq_getElem?_getD, List.getElem?_take, if_pos h4]
    have hns : ns.take (i + 1) = ns.take i ++ [ns.getD i 0] := by rw [Zf (by omega)]; exact (Yr (by omega)).symm
    show ((rowAcc (Yy f x) ns i).bind fun cn => (Z4 ((Yy f x).group i (Y2 (Yy f x) ns i)) (ns.getD i 0)).map fun y => (cn.1 + y.cost, Yv cn.2 y.n)) = some (c, m) ↔ _ ∈ (Zq f x i).flatMap fun r => (nd x (Zr f i)).filterMap (Zw f x (Zr f i) r)
    rw [List.mem_flatMap]
    constructor
    · intro h
      obtain ⟨⟨c0, m0⟩, h1, h2⟩ := Option.bind_eq_some_iff.1 h
      obtain ⟨z, h3, h4⟩ := Option.map_eq_some_iff.1 h2
      obtain ⟨h5, h6⟩ := (findB_iff hri).1 h3
      rw [hgrp] at h5
      obtain ⟨y, hy, h7⟩ := List.mem_filterMap.1 h5
      have hya := groupOne_b hG hv hy h7
      refine ⟨_, (ih c0 m0).1 h1, List.mem_filterMap.2 ⟨y, hy, ?_⟩⟩
      rw [row_group (above := Y2 (Yy f x) ns i) (habv _ rfl), h7, hns]
      simp only [Prod.mk.injEq] at h4
      simp only [Option.map_some, Option.some.injEq, RowT.mk.injEq]
      exact ⟨by rw [← hya, h6], h4.1, h4.2⟩
    · rintro ⟨r, hr, hm⟩
      obtain ⟨y, hy, h7⟩ := List.mem_filterMap.1 hm
      have hnod := Un h7
      have hnod : ns.take (i + 1) = r.nodes ++ [y.a] := hnod
      rw [hns] at hnod
      obtain ⟨e1, e2⟩ := List.append_inj' hnod rfl
      have e2 : ns.getD i 0 = y.a := by simpa using e2
      rw [row_group (above := Y2 (Yy f x) ns i) (habv r e1.symm)] at h7
      obtain ⟨z, h8, h9⟩ := Option.map_eq_some_iff.1 h7
      simp only [RowT.mk.injEq] at h9
      have hmem : (⟨ns.take i, r.cost, r.n⟩ : RowT) ∈ Zq f x i := by rw [e1]; exact hr
      have h1 := (ih r.cost r.n).2 hmem
      have hz := groupOne_b hG hv hy h8
      have h3 : Z4 ((Yy f x).group i (Y2 (Yy f x) ns i)) (ns.getD i 0) = some z := (findB_iff hri).2 ⟨by rw [hgrp]; exact List.mem_filterMap.2 ⟨y, hy, h8⟩, by rw [hz, e2]⟩
      rw [h1]
      simp only [Option.bind_some, h3, Option.map_some, Option.some.injEq, Prod.mk.injEq]
      exact ⟨h9.2.1, h9.2.2⟩
theorem findRow_cases (rows : List RowT) (ns : List Int) : (findRow rows ns = -1 ∧ ∀ r ∈ rows, r.nodes ≠ ns) ∨ ∃ i : Nat, findRow rows ns = i ∧ ∃ h : i < rows.length, rows[i].nodes = ns := by
  unfold findRow
  cases hf : rows.findIdx? (fun r => decide (r.nodes = ns)) with
  | none =>
    rw [List.findIdx?_eq_none_iff] at hf
    exact .inl ⟨rfl, fun r hr => by have := hf r hr; simpa using this⟩
  | some i =>
    obtain ⟨hi, h1, _⟩ := List.findIdx?_eq_some_iff_getElem.1 hf
    exact .inr ⟨i, rfl, hi, of_decide_eq_true h1⟩
theorem group_row {f : Forest} {p : Parts} (hG : GoodP f p) {i : Nat} (hi : i < f.vars.length) {above : Int} {l : Link} (hl : l ∈ (Yy f (Uc f p)).group i above) :
    ∃ r ∈ Yu f p, r.nodes.getD i 0 = l.b ∧ ((Yy f (Uc f p)).parent.getD i 0 < 0 ∨ r.nodes.getD ((Yy f (Uc f p)).parent.getD i 0).toNat 0 = above) := by
  obtain ⟨k1, k2, k3, k4⟩ := Vx hG
  have hX := ofP_good hG
  have hol : f.order.length = f.vars.length := hG.gf.l1
  have hv := (hG.gf.vAt_lt hi).1
  rw [tree_par _ hG.gf hi]
  unfold TreeT.group at hl
  rw [(Vj _).1, if_pos ⟨by omega, by omega⟩, Int.toNat_natCast, place_row hX hi] at hl
  have hpos := hG.gf.pos_vAt hi
  rcases at_root hG.gf hi with ⟨h1, h2⟩ | ⟨h1, h2, h3, h4⟩
  · rw [if_pos h1] at hl
    obtain ⟨r, hr, e⟩ := (node_in hG hv ((k2 _).1.subset hl)).2 hl
    rw [hpos] at e
    exact ⟨r, hr, by rw [e]; exact (hX.ok _ hv).2.2.1 l hl, .inl (by omega)⟩
  · rw [if_neg (by omega)] at hl
    obtain ⟨hm0, ha⟩ := List.mem_filter.1 hl
    obtain ⟨m, hm, rfl⟩ := List.mem_map.1 hm0
    obtain ⟨r, hr, e1, e2⟩ := (link_in hG hv ((k2 _).2.subset hm)).2 hm
    rw [hpos] at e1
    refine ⟨r, hr, e1, .inr ?_⟩
    rw [h3, Int.toNat_natCast, e2]
    exact of_decide_eq_true ha
end Go.Proofs.YtcaeoebphfjfiaaGreat.Am


/- Walks over a tree's rows, in plain words. -/
namespace Go.Proofs.YtcaeoebphfjfiaaGreat.Am
open Go Go.RowKit
set_option maxRecDepth 100000
set_option linter.unusedVariables false
set_option linter.unusedSimpArgs false

structure WalkS where
  nodes : List Int
  back : Bool
  over : Bool
  steps : Int
def rowT (T : TreeT) (ns : List Int) : Option RowT := if ns.length = T.vars.length then (rowAcc T ns T.vars.length).map fun cn => ⟨ns, cn.1, cn.2⟩ else none
def extN (T : TreeT) : Nat → List Int → List (List Int)
  | 0, ns => [ns]
  | d + 1, ns => (T.group ns.length (Y2 T ns ns.length)).flatMap fun l => extN T d (ns ++ [l.b])
def Path (T : TreeT) (ns : List Int) : Prop := ∀ i, i < ns.length → ∃ l ∈ T.group i (Y2 T ns i), l.b = ns.getD i 0
theorem getD_take {ns : List Int} {i k : Nat} (h : i < k) : (ns.take k).getD i 0 = ns.getD i 0 := by
  rw [List.getD_eq_getElem?_getD, List.getD_eq_getElem?_getD, List.getElem?_take, if_pos h]
theorem getD_left {ns ms : List Int} {i : Nat} (h : i < ns.length) : (ns ++ ms).getD i 0 = ns.getD i 0 := by
  rw [List.getD_eq_getElem?_getD, List.getD_eq_getElem?_getD, List.getElem?_append_left h]
section
variable {T : TreeT} (hT : GoodT T)
include hT
theorem above_ext {ns ms : List Int} {i : Nat} (hi : i < T.vars.length) (h : ∀ j, j < i → ns.getD j 0 = ms.getD j 0) : Y2 T ns i = Y2 T ms i := by
  unfold Y2
  rcases hT.par i hi with h1 | h1
  · rw [if_pos h1, if_pos h1]
  · rw [if_neg (by omega), if_neg (by omega), h _ (by omega)]
theorem path_take {ns : List Int} {k : Nat} (h : Path T ns) (hl : ns.length ≤ T.vars.length) : Path T (ns.take k) := fun i hi => by
  rw [List.length_take] at hi
  obtain ⟨l, h1, h2⟩ := h i (by omega)
  rw [above_ext hT (ns := ns) (ms := ns.take k) (by omega) (fun j hj => (getD_take (by omega)).symm)] at h1
  exact ⟨l, h1, by rw [h2, getD_take (by omega)]⟩
theorem path_snoc {ns : List Int} (h : Path T ns) (hl : ns.length < T.vars.length) {l : Link} (hm : l ∈ T.group ns.length (Y2 T ns ns.length)) : Path T (ns ++ [l.b]) := fun i hi => by
  rw [List.length_append, List.length_singleton] at hi
  have e : ∀ {i}, i ≤ ns.length → Y2 T (ns ++ [l.b]) i = Y2 T ns i := fun {i} hi => above_ext hT (by omega) (fun j hj => getD_left (by omega))
  rw [e (by omega)]
  by_cases h1 : i < ns.length
  · obtain ⟨l2, h3, h4⟩ := h i h1
    exact ⟨l2, h3, by rw [h4, getD_left h1]⟩
  · obtain rfl : i = ns.length := by omega
    exact ⟨l, hm, by rw [V1]⟩
structure ValS (T : TreeT) (S : WalkS) : Prop where
  len : S.nodes.length ≤ T.vars.length
  path : Path T S.nodes
end
end Go.Proofs.YtcaeoebphfjfiaaGreat.Am


/- Links by the nodes at which they begin. -/
namespace Go.Proofs.YtcaeoebphfjfiaaGreat.Am
open Go Go.RowKit
set_option maxRecDepth 100000
set_option linter.unusedVariables false
set_option linter.unusedSimpArgs false

theorem flatMap_ext {α β : Type} {l : List α} {f g : α → List β} (h : ∀ e ∈ l, f e = g e) : l.flatMap f = l.flatMap g := by
  induction l with
  | nil => rfl
  | cons a l ih => rw [List.flatMap_cons, List.flatMap_cons, h a List.mem_cons_self, ih fun e he => h e (List.mem_cons_of_mem _ he)]
theorem goodL_rise {xs : List Link} (h : GoodL xs) : RiseA xs := by
  intro i j hi hj hij
  obtain ⟨d, rfl⟩ : ∃ d, j = i + d := ⟨j - i, by omega⟩
  clear hij
  induction d with
  | zero => exact Int.le_refl _
  | succ d ih =>
    have h1 := ih (by omega)
    have h2 := (h (i + (d + 1)) hj).2 (by omega)
    have e : i + (d + 1) - 1 = i + d := by omega
    simp only [e] at h2
    simp only [Vl, Bool.or_eq_true, Bool.and_eq_true, decide_eq_true_eq] at h2
    omega
theorem few_few (x : Link) : x.few.few = x.few := by
  unfold Link.few
  split
  · simp
  · first | rfl | (rename_i h; rw [if_neg h])
end Go.Proofs.YtcaeoebphfjfiaaGreat.Am


/- How many steps a walk takes; that its rows are all rows. -/
namespace Go.Proofs.YtcaeoebphfjfiaaGreat.Am
open Go Go.RowKit
set_option maxRecDepth 100000
set_option linter.unusedVariables false
set_option linter.unusedSimpArgs false

theorem filterMap_ext {α β : Type} {g k : α → Option β} : ∀ {xs : List α}, (∀ y ∈ xs, g y = k y) → xs.filterMap g = xs.filterMap k
  | [], _ => rfl
  | x :: xs, h => by rw [List.filterMap_cons, List.filterMap_cons, h x (by simp), filterMap_ext fun y hy => h y (by simp [hy])]
theorem rows_ext {f : Forest} {p : Parts} (hG : GoodP f p) : (Yu f p).map RowT.nodes = extN (Yy f (Uc f p)) f.vars.length [] ∧ ∀ r ∈ Yu f p, rowT (Yy f (Uc f p)) r.nodes = some r := by
  obtain ⟨k1, k2, k3, k4⟩ := Vx hG
  have hX := ofP_good hG
  have hol : f.order.length = f.vars.length := hG.gf.l1
  have hlen : (Yy f (Uc f p)).vars.length = f.vars.length := (Vj _).1.trans hol
  have hsame := rows_same hG
  constructor
  · have key : ∀ i, i ≤ f.vars.length → ((Zq f (Uc f p) i).map RowT.nodes).flatMap (extN (Yy f (Uc f p)) (f.vars.length - i)) = extN (Yy f (Uc f p)) f.vars.length [] := by
      intro i
      induction i with
      | zero => intro _; simp [Zq]
      | succ i ih =>
        intro hi
        rw [← ih (by omega)]
        show (((Zq f (Uc f p) i).flatMap _).map _).flatMap _ = _
        rw [List.map_flatMap, List.flatMap_assoc, List.flatMap_map]
        refine flatMap_ext fun r hr => ?_
        have hrl := rows_len i r hr
        have hv := (hG.gf.vAt_lt (s := i) (by omega)).1
        have habv : 0 ≤ par f (Zr f i) → Y2 (Yy f (Uc f p)) r.nodes i = r.nodes.getD (atI f.order (par f (Zr f i))).toNat 0 := fun hp => by
          rw [above_of hX (by omega), if_neg (by omega)]
          rcases at_root hG.gf (i := i) (by omega) with ⟨h1, _⟩ | ⟨_, h2, h3, h4⟩
          · omega
          · rw [h3, Int.toNat_natCast]
        have e : ((nd (Uc f p) (Zr f i)).filterMap (Zw f (Uc f p) (Zr f i) r)).map RowT.nodes = ((Yy f (Uc f p)).group i (Y2 (Yy f (Uc f p)) r.nodes i)).map fun l => r.nodes ++ [l.b] := by
          rw [group_same hX k3]
          unfold groupR
          rw [if_pos ⟨by omega, by omega⟩, Int.toNat_natCast, List.map_filterMap, List.map_filterMap]
          refine filterMap_ext fun y hy => ?_
          rw [row_group (above := Y2 (Yy f (Uc f p)) r.nodes i) habv]
          cases hg : Zg f (Uc f p) (Zr f i) (Y2 (Yy f (Uc f p)) r.nodes i) y with
          | none => rfl
          | some z => simp [groupOne_b hX hv hy hg]
        rw [e, List.flatMap_map, show f.vars.length - i = (f.vars.length - (i + 1)) + 1 by omega, extN, hrl]
    have h := key f.vars.length (Nat.le_refl _)
    rw [Nat.sub_self] at h
    rw [← h]
    have e0 : extN (Yy f (Uc f p)) 0 = fun ns => [ns] := by funext ns; rfl
    rw [e0]
    unfold Yu at hsame ⊢
    rw [hol] at hsame ⊢
    rw [hsame]; simp
  · intro r hr
    unfold Yu at hr hsame
    rw [hol] at hr hsame
    have hrl := rows_len f.vars.length r hr
    unfold rowT
    rw [if_pos (by omega), hlen]
    have := (acc_rows hX k3 hrl _ (Nat.le_refl _) r.cost r.n).2 (by rw [hsame, List.take_of_length_le (by omega)]; exact hr)
    rw [this]; rfl
end Go.Proofs.YtcaeoebphfjfiaaGreat.Am


/- How many there are, plain. -/
namespace Go.Proofs.YtcaeoebphfjfiaaGreat.Am
open Go Go.RowKit
set_option maxRecDepth 100000
set_option linter.unusedVariables false
set_option linter.unusedSimpArgs false

def kidsT (T : TreeT) (i : Nat) : List Nat := (List.range T.parent.length).filter fun k => decide (T.parent.getD k 0 = (i : Int))
def Vq (T : TreeT) : Nat → Nat → Int → Int
  | 0, _, _ => 0
  | d + 1, i, a => (T.group i a).foldl (fun s x => addI s (Yv x.n ((kidsT T i).foldl (fun n k => Yv n (Vq T d k x.b)) 1))) 0
def Z6 (T : TreeT) (d i : Nat) (b : Int) : Int := (kidsT T i).foldl (fun n k => Yv n (Vq T d k b)) 1
theorem sumT_succ (T : TreeT) (d i : Nat) (a : Int) : Vq T (d + 1) i a = (T.group i a).foldl (fun s x => addI s (Yv x.n (Z6 T d i x.b))) 0 := rfl
def onceT (out : List Int) (xs : List Int) : List Int := xs.foldl (fun out x => if x ∈ out then out else out ++ [x]) out
def Zu (T : TreeT) : Nat → Nat → List Int
  | 0, _ => [-1]
  | d + 1, i => if T.parent.getD i 0 = -1 then [-1] else onceT [] ((Zu T d (T.parent.getD i 0).toNat).flatMap fun a => (T.group (T.parent.getD i 0) a).map (·.b))
theorem onceT_append (out xs ys : List Int) : onceT out (xs ++ ys) = onceT (onceT out xs) ys := List.foldl_append
theorem onceT_len : ∀ (xs out : List Int), (onceT out xs).length ≤ out.length + xs.length
  | [], out => Nat.le_refl _
  | x :: xs, out => by
    have := onceT_len xs (if x ∈ out then out else out ++ [x])
    have h2 : (if x ∈ out then out else out ++ [x]).length ≤ out.length + 1 := by split <;> simp
    show (onceT (if x ∈ out then out else out ++ [x]) xs).length ≤ _
    rw [List.length_cons]
    omega
theorem kids_lt {T : TreeT} (hT : GoodT T) {i k : Nat} (h : k ∈ kidsT T i) : i < k ∧ k < T.vars.length := by
  unfold kidsT at h
  rw [List.mem_filter, List.mem_range, decide_eq_true_eq] at h
  obtain ⟨h1, h2⟩ := h
  rw [hT.l1] at h1
  rcases hT.par k h1 with h3 | h3
  · rw [h2] at h3; omega
  · rw [h2] at h3; exact ⟨by omega, h1⟩
theorem foldl_same {α β : Type} {f g : α → β → α} : ∀ {xs : List β} {a : α}, (∀ a x, x ∈ xs → f a x = g a x) → xs.foldl f a = xs.foldl g a
  | [], _, _ => rfl
  | x :: xs, a, h => by rw [List.foldl_cons, List.foldl_cons, h a x (by simp)]; exact foldl_same fun a y hy => h a y (by simp [hy])
theorem sumT_deep {T : TreeT} (hT : GoodT T) : ∀ (d i : Nat) (a : Int), i < T.vars.length → T.vars.length ≤ d + i → Vq T d i a = Vq T (d + 1) i a
  | 0, i, a, h, h2 => by omega
  | d + 1, i, a, h, h2 => by
    rw [sumT_succ, sumT_succ]
    refine foldl_same fun s x hx => ?_
    have : Z6 T d i x.b = Z6 T (d + 1) i x.b := foldl_same fun n k hk => by
      obtain ⟨h3, h4⟩ := kids_lt hT hk
      rw [sumT_deep hT d k x.b h4 (by omega)]
    rw [this]
end Go.Proofs.YtcaeoebphfjfiaaGreat.Am


/- Whether two parts are one, as the program judges it. -/
namespace Go.Proofs.YtcaeoebphfjfiaaGreat.Am
open Go Go.RowKit
set_option maxRecDepth 100000
set_option linter.unusedVariables false
set_option linter.unusedSimpArgs false

end Go.Proofs.YtcaeoebphfjfiaaGreat.Am


/- The exported functions of reducing. -/
namespace Go.Proofs.YtcaeoebphfjfiaaGreat.Am
open Go Go.RowKit
set_option maxRecDepth 100000
set_option linter.unusedVariables false
set_option linter.unusedSimpArgs false

theorem Small.fits {f : Forest} {p : Parts} (h : Small f p) (hg : GoodP f p) : Fits f.vars.length p := ⟨hg.n1, hg.n2, h.s5, h.s6⟩
def noParts : Parts := ⟨[], []⟩
theorem noParts_rep (H : Hp) : kParts.rep H noParts [.slice none 0 0, .slice none 0 0] := ⟨_, _, rfl, Sl.nil _ _, Sl.nil _ _⟩
theorem Of_parts (f : Forest) (p : Parts) (cs ds : List Value) (H : Hp) (hp : kForest.rep H f cs) (hq : kParts.rep H p ds) (hsm : Small f p) :
    ACalls Tryz.prog 40 #[.agg cs.toArray, .agg ds.toArray] H (fun r H' => ∃ (g : Bool) (es : List Value), (g = true ↔ GoodP f p) ∧ r = .tuple #[.agg es.toArray, .int .i64 (if g = true then 0 else 1)] ∧ kParts.rep H' (if g = true then Uc f p else noParts) es ∧ H.le H') := by
  have hp0 := hp
  have hq0 := hq
  obtain ⟨v0, v1, v2, v3, v4, rfl, hs0, hs1, hs2, hs3, hs4⟩ := hp
  obtain ⟨A0, c0, rfl⟩ := hs0.shape
  obtain ⟨A1, c1, rfl⟩ := hs1.shape
  obtain ⟨A2, c2, rfl⟩ := hs2.shape
  obtain ⟨A3, c3, rfl⟩ := hs3.shape
  obtain ⟨A4, c4, rfl⟩ := hs4.shape
  obtain ⟨u0, u1, rfl, hn0, hn1⟩ := hq
  obtain ⟨B0, d0, rfl⟩ := hn0.shape
  obtain ⟨B1, d1, rfl⟩ := hn1.shape
  refine Xu Tryz.func40 rfl rfl rfl (by simp) ?_
  refine Xf ?_
  refine Xc (by kernel_rfl) ?_
  refine X2 (Ym rfl) ?_
  refine X2 (Ym rfl) ?_
  refine X2 (Y9 (l := [.slice none 0 0, .slice none 0 0]) inf29.zero rfl (by decide)) ?_
  refine Xa (Xg rfl) ?_
  refine Xf ?_
  refine Xf ?_
  refine Xc (by kernel_rfl) ?_
  refine Xa (Yc (cs := [.slice _ _ _, .slice _ _ _, .slice _ _ _, .slice _ _ _, .slice _ _ _]) rfl Tryz.underlying26 rfl inf26.size Yb) ?_
  refine Xa (Yc (cs := [.slice _ _ _, .slice _ _ _]) rfl Tryz.underlying29 rfl inf29.size Yb) ?_
  refine X5 (X0 (GoodP_dom f p _ _ _ (kForest.mono Zo hp0) (kParts.mono Zo hq0) hsm) rfl Tryz.func73 rfl rfl rfl ?_)
  rintro v5 H5 ⟨⟨g, rfl, hg⟩, rfl⟩
  refine Xa (Vo rfl) ?_
  refine X1 rfl rfl ?_ ?_
  intro hc1
  have hgf : g = false := by simpa using hc1
  refine Xf ?_
  refine Xc (by kernel_rfl) ?_
  refine Xa (Zb (pl := [(0, 1), (1, 1)]) (r := [.slice _ _ _, .slice _ _ _]) Tryz.underlying29 inf29.zero (by decide) rfl rfl) ?_
  refine X5 (Yq (vs := [.slice _ _ _, .slice _ _ _]) rfl rfl inf29.size Yh Yp rfl rfl ?_)
  refine Xa (Xg rfl) ?_
  refine X8 ?_
  subst hgf
  exact ⟨_, V0 (Zc Xi (Za (cs := [_, _]) Tryz.underlying29 rfl inf29.size Yb)) (Xx rfl), false, [_, _], hg, rfl, noParts_rep _, Hp.le_put_new (Hp.le_push' (Hp.le_push' (H.le_push _) _) _) (by simp <;> omega) _⟩
  intro hc1
  have hgt : g = true := by simpa using hc1
  refine X6 ?_
  refine Xf ?_
  refine Xc (by kernel_rfl) ?_
  refine Xa (Yc (cs := [.slice _ _ _, .slice _ _ _, .slice _ _ _, .slice _ _ _, .slice _ _ _]) rfl Tryz.underlying26 rfl inf26.size Yb) ?_
  refine Xa (Yc (cs := [.slice _ _ _, .slice _ _ _]) rfl Tryz.underlying29 rfl inf29.size Yb) ?_
  refine X5 (X0 (of_parts f p _ _ _ (kForest.mono Zo hp0) (kParts.mono Zo hq0) (hg.1 hgt).gf (hsm.fits (hg.1 hgt)) hsm.s0) rfl Tryz.func74 rfl rfl rfl ?_)
  rintro v6 H6 ⟨es, rfl, hes, hle6⟩; have hz6 := hle6.1; simp only [Hp.push_size] at hz6; obtain ⟨w0, w1, rfl, hm0, hm1⟩ := hes; obtain ⟨C0, k0, rfl⟩ := hm0.shape; obtain ⟨C1, k1, rfl⟩ := hm1.shape
  refine X5 (Yq (vs := [.slice _ _ _, .slice _ _ _]) rfl rfl inf29.size Yh Yp rfl rfl ?_)
  refine Xa (Xg rfl) ?_
  refine X8 ?_
  subst hgt
  have k2 : H6.get (H.size + 2) = .own 0 [.slice none 0 0, .slice none 0 0] := Xt hle6 (by simp) (by intro e; cases e) Yh
  exact ⟨_, V0 (Zc Xi (Za (cs := [_, _]) Tryz.underlying29 rfl inf29.size Yb)) (Xx rfl), true, [_, _], hg, rfl, ⟨_, _, rfl, hm0.mono (Hp.sees_box _ k2), hm1.mono (Hp.sees_box _ k2)⟩, Hp.le_put_new (Hp.le_trans (Hp.le_push' (Hp.le_push' (H.le_push _) _) _) hle6) (by simp <;> omega) _⟩
end Go.Proofs.YtcaeoebphfjfiaaGreat.Am


/- A tree is made. -/
namespace Go.Proofs.YtcaeoebphfjfiaaGreat.Am
open Go Go.RowKit
set_option maxRecDepth 100000
set_option linter.unusedVariables false
set_option linter.unusedSimpArgs false

set_option maxHeartbeats 4000000 in
theorem New_tree (f : Forest) (p : Parts) (cs ds : List Value) (H : Hp) (hp : kForest.rep H f cs) (hq : kParts.rep H p ds) (hsm : Small f p) (hch : GoodP f p → Cheap p) :
    ACalls Tryz.prog 9 #[.agg cs.toArray, .agg ds.toArray] H (fun r H' => H.le H' ∧ ∃ (g : Bool) (v : Value), (g = true ↔ GoodP f p) ∧ r = .tuple #[v, .int .i64 (if g = true then 0 else 1)] ∧ (if g = true then TreeR H' v (Yy f (Uc f p)) else v = .pointer none)) := by
  have hp0 := hp
  have hq0 := hq
  obtain ⟨v0, v1, v2, v3, v4, rfl, hs0, hs1, hs2, hs3, hs4⟩ := hp
  obtain ⟨A0, c0, rfl⟩ := hs0.shape
  obtain ⟨A1, c1, rfl⟩ := hs1.shape
  obtain ⟨A2, c2, rfl⟩ := hs2.shape
  obtain ⟨A3, c3, rfl⟩ := hs3.shape
  obtain ⟨A4, c4, rfl⟩ := hs4.shape
  obtain ⟨u0, u1, rfl, hn0, hn1⟩ := hq
  obtain ⟨B0, d0, rfl⟩ := hn0.shape
  obtain ⟨B1, d1, rfl⟩ := hn1.shape
  refine Xu Tryz.func9 rfl rfl rfl (by simp) ?_
  refine Xf ?_
  refine Xc (by kernel_rfl) ?_
  refine X2 (Ym rfl) ?_
  refine X2 (Ym rfl) ?_
  refine Xa (Zt rfl) ?_
  refine Xa (Xg rfl) ?_
  refine Xf ?_
  refine Xc (by kernel_rfl) ?_
  refine Xa (Yc (cs := [.slice _ _ _, .slice _ _ _, .slice _ _ _, .slice _ _ _, .slice _ _ _]) rfl Tryz.underlying26 rfl inf26.size Yb) ?_
  refine Xa (Yc (cs := [.slice _ _ _, .slice _ _ _]) rfl Tryz.underlying29 rfl inf29.size Yb) ?_
  refine X5 (X0 (Of_parts f p _ _ _ (kForest.mono Zo hp0) (kParts.mono Zo hq0) hsm) rfl Tryz.func40 rfl rfl rfl ?_)
  rintro v5 H5 ⟨g, es, hg, rfl, hes, hle5⟩; obtain ⟨w0, w1, rfl, hm0, hm1⟩ := hes; obtain ⟨C0, k0, rfl⟩ := hm0.shape; obtain ⟨C1, k1, rfl⟩ := hm1.shape; have hz5 := hle5.1; simp only [Hp.push_size] at hz5; have g51 : H5.get (H.size + 1) = .own 0 [.slice B0 p.nodes.length d0, .slice B1 p.links.length d1] := Xt hle5 (by simp) (by intro e; cases e) Yh
  refine Xa (Va rfl) ?_
  refine Xa (Zi rfl rfl) ?_
  refine Xa (Zi rfl rfl) ?_
  refine X5 (Yq (vs := [.slice _ _ _, .slice _ _ _]) rfl rfl inf29.size Yh Yp rfl rfl ?_)
  refine Xa (Xg rfl) ?_
  refine Xf ?_
  refine Xf ?_
  refine Xc (by kernel_rfl) ?_
  refine Xa (Xb rfl) ?_
  refine Xa (Vk rfl rfl) ?_
  refine X1 rfl rfl ?_ ?_
  intro hc1
  obtain rfl : g = false := by cases g with | false => rfl | true => exact absurd hc1 (by simp)
  refine Xf ?_
  refine Xc (by kernel_rfl) ?_
  refine Xa (Xb rfl) ?_
  refine Xa (Zt rfl) ?_
  refine Xa (Xg rfl) ?_
  refine X8 ?_
  exact ⟨_, V0 (Xx rfl) (Xx rfl), Hp.le_put_new (Hp.le_trans (Hp.le_push' (H.le_push _) _) hle5) (Nat.le_succ _) _, false, .pointer none, hg, rfl, by simp⟩
  intro hc1
  obtain rfl : g = true := by cases g with | true => rfl | false => exact absurd hc1 (by simp)
  refine X6 ?_
  refine Xf ?_
  have hG := hg.1 rfl
  obtain ⟨k1', k2', k3', k4'⟩ := Vx hG
  have hXg := ofP_good hG
  have hcx := (hch hG).sub k2'
  simp only [if_true] at hm0 hm1
  obtain ⟨X, hX⟩ : ∃ X, X = Uc f p := ⟨_, rfl⟩
  rw [← hX] at k1' k2' k3' hXg hcx hm0 hm1
  rw [← hX]
  have hlens5 : ∀ l ∈ X.nodes, l.length ≤ 1000000 := fun l hm => by
    obtain ⟨i, hi, rfl⟩ := List.getElem_of_mem hm
    have h1 := (k2' i).1.length_le
    unfold nd at h1
    rw [Yz hi] at h1
    exact Nat.le_trans h1 (Zz hsm.s5 i)
  have hlens6 : ∀ l ∈ X.links, l.length ≤ 1000000 := fun l hm => by
    obtain ⟨i, hi, rfl⟩ := List.getElem_of_mem hm
    have h1 := (k2' i).2.length_le
    unfold lk at h1
    rw [Yz hi] at h1
    exact Nat.le_trans h1 (Zz hsm.s6 i)
  obtain ⟨T, hT⟩ : ∃ T, T = Yy f X := ⟨_, rfl⟩
  obtain ⟨tl1, tl2, tl3⟩ := Vj (f := f) X
  have tat := fun {i : Nat} (hi : i < f.order.length) => treeOf_at (f := f) X hi
  rw [← hT] at tl1 tl2 tl3
  simp only [← hT] at tat
  rw [← hT]
  obtain ⟨K, hK⟩ : ∃ K, K = H5.put (H.size + 1) (.own 0 [.slice C0 X.nodes.length k0, .slice C1 X.links.length k1]) := ⟨_, rfl⟩
  have s5K : H5.sees K := by rw [hK]; exact Hp.sees_box _ g51
  have leK : H.le K := by rw [hK]; exact Hp.le_put_new (Hp.le_trans (Hp.le_push' (H.le_push _) _) hle5) (by omega) _
  have zK : H.size + 2 ≤ K.size := by rw [hK]; simp; omega
  have gK0 : K.get H.size = .own 0 [.slice A0 f.vars.length c0, .slice A1 f.order.length c1, .slice A2 f.parent.length c2, .slice A3 f.links.length c3, .slice A4 f.loops.length c4] := by rw [hK, Hp.put_other _ _ (by omega)]; exact Xt hle5 (by simp; omega) (by intro e; cases e) Yh
  have gK1 : K.get (H.size + 1) = .own 0 [.slice C0 X.nodes.length k0, .slice C1 X.links.length k1] := by rw [hK]; exact Hp.put_same _ _ _
  have m0K := hm0.mono s5K
  have m1K := hm1.mono s5K
  have s0K := hs0.mono leK.sees
  have s1K := hs1.mono leK.sees
  have s2K := hs2.mono leK.sees
  have hol : f.order.length = f.vars.length := hG.gf.l1
  have hpl : f.parent.length = f.vars.length := hG.gf.l2
  have hs0' := hsm.s0
  have hxn := k1'.1
  have hxl := k1'.2
  change ACode true _ _ _ _ _ (H5.put (H.size + 1) (.own 0 [.slice C0 X.nodes.length k0, .slice C1 X.links.length k1]))
  rw [← hK]
  clear hK s5K hm0 hm1 hle5 g51 hz5 hn0 hn1 hq0 hp0 hs3 hs4
  refine Xc (by kernel_rfl) ?_
  refine X2 (am_makeMap) ?_
  refine Xa (Zb (pl := [(0, 1), (1, 1), (2, 1), (3, 1)]) (r := [.slice _ _ _, .slice _ _ _, .slice _ _ _, .map _]) Tryz.underlying73 inf73.zero (by decide) rfl rfl) ?_
  refine X2 (Ym rfl) ?_
  refine Xa (Zt rfl) ?_
  refine Xf ?_
  refine Xf ?_
  refine Xc (by kernel_rfl) ?_
  refine Xa (Xh (off := 1) rfl Tryz.underlying26 rfl inf23.size (by decide) rfl) ?_
  refine Xa (Xl rfl Tryz.underlying23 rfl Xq) ?_
  refine Xa (Yl rfl Tryz.underlying23) ?_
  refine Xa (Xb rfl) ?_
  refine X3 ?_
  refine Yt (fun n t H' => ∃ (i : Nat) (G : Hp) (A B C : Value) (es : List (Value × Value)), i ≤ f.order.length ∧ n = f.order.length - i ∧ K.le G ∧ K.size + 2 ≤ G.size ∧ G.get K.size = .map es ∧ G.get (K.size + 1) = .own 0 [A, B, C, .map (some K.size)] ∧ Own3 kStr (Y6 .i64) (Vs kLink) G H' A B C (T.vars.take i) (T.parent.take i) (T.links.take i) ∧ Spots T i es ∧ t 2 = .pointer (some ⟨H.size, 0, none⟩) ∧ t 3 = .pointer (some ⟨H.size + 1, 0, none⟩) ∧ t 7 = .pointer (some ⟨K.size + 1, 0, none⟩) ∧ t 24 = .slice A1 f.order.length c1 ∧ t 25 = .int .i64 f.order.length ∧ t 26 = .int .i64 i) (f.order.length) (⟨0, _, _, _, _, [], by omega, rfl, Hp.le_push' (K.le_push _) _, by simp, Yh, Yh, ⟨_, _, OwnP.nil _ _, OwnP.nil _ _, OwnP.nil _ _⟩, Spots.zero T, rfl, rfl, rfl, rfl, rfl, rfl⟩) ?_
  rintro n t H1 ⟨i, G, A, B, C, es, hi, rfl, leG, zG, gm, gt, hown, hsp, e2, e3, e7, e24, e25, e26⟩
  have leK1 := Hp.le_trans leG hown.le
  have zH1 := hown.size
  have zK1 := leK1.1
  refine Xf ?_
  refine Xc (by kernel_rfl) ?_
  refine Xa (Yw Xi Xi) ?_
  refine Xf ?_
  refine X1 rfl rfl ?_ ?_
  intro hc2
  (try simp only [decide_eq_true_eq, decide_eq_false_iff_not, Bool.not_eq_true', Bool.not_eq_false'] at hc2)
  refine X6 ?_
  refine Xf ?_
  refine X3 ?_
  refine Xf ?_
  have hix : i < f.order.length := by omega
  obtain ⟨b1, o1, rfl, hb1, hcell1⟩ := s1K.int_at (i := (i : Int)) (by omega) (by omega)
  rw [Int.toNat_natCast] at hcell1
  have hcell1' := leK1.cell1 hb1 hcell1
  obtain ⟨hwn, hwv⟩ := hG.gf.vAt_lt (s := i) (by omega)
  obtain ⟨w, hw⟩ : ∃ w : Nat, w = Zr f i := ⟨_, rfl⟩
  rw [← hw] at hwn hwv
  rw [← hwv] at hcell1'
  obtain ⟨tv, tp, tl⟩ := tat hix
  rw [← hw] at tv tp tl
  refine Xc (by kernel_rfl) ?_
  refine Xa (Xb Xi) ?_
  refine Xa (Xo Xi Xi Tryz.underlying23 inf3.size Xy Xy) ?_
  refine Xa (Xl rfl Tryz.underlying3 rfl Xq) ?_
  refine Xa (Xg rfl) ?_
  refine Xa (Xg rfl) ?_
  refine Xf ?_
  obtain ⟨bn, on, ks, eN, hbn, ⟨wn, rfl, hwN⟩, hcellN⟩ := m0K.elem_at (i := w) (by have := k1'.1; omega)
  subst eN
  have hcellN' := leK1.cell1 hbn hcellN.one
  have ndw : nd X w = X.nodes[w]'(by have := k1'.1; omega) := Yz _
  rw [← ndw] at hwN
  obtain ⟨An, cn, rfl⟩ := hwN.shape
  have hnl : (nd X w).length ≤ 1000000 := by rw [ndw]; exact hlens5 _ (List.getElem_mem _)
  have gH0 := Xt leK1 (by omega) (by intro e; cases e) gK0
  have gH1 := Xt leK1 (by omega) (by intro e; cases e) gK1
  refine Xc (by kernel_rfl) ?_
  refine Xa (Xh (off := 0) Xi Tryz.underlying29 Xi inf27.size (by decide) Xi) ?_
  refine Xa (Xl rfl Tryz.underlying27 rfl Xq) ?_
  refine Xa (Xb rfl) ?_
  refine Xa (Xo rfl rfl Tryz.underlying27 inf68.size Xy Xy) ?_
  refine Xa (Xl rfl Tryz.underlying68 rfl Xq) ?_
  refine Xa (X4 rfl) ?_
  refine Xf ?_
  refine Xf ?_
  obtain ⟨b2, o2, rfl, hb2, hcell2⟩ := s2K.int_at (i := (w : Int)) (by omega) (by omega)
  rw [Int.toNat_natCast] at hcell2
  have hcell2' := leK1.cell1 hb2 hcell2
  refine Xc (by kernel_rfl) ?_
  refine Xa (Xh (off := 2) Xi Tryz.underlying26 Xi inf23.size (by decide) Xi) ?_
  refine Xa (Xl rfl Tryz.underlying23 rfl Xq) ?_
  refine Xa (Xb rfl) ?_
  refine Xa (Xo rfl rfl Tryz.underlying23 inf3.size Xy Xy) ?_
  refine Xa (Xl rfl Tryz.underlying3 rfl Xq) ?_
  refine Xa (Vk rfl rfl) ?_
  refine X1 rfl rfl ?_ ?_
  intro hc3
  have hpar : par f w ≠ -1 := of_decide_eq_true hc3
  obtain ⟨bl, ol, ks, eL, hbl, ⟨wl, rfl, hwL⟩, hcellL⟩ := m1K.elem_at (i := w) (by have := k1'.2; omega)
  subst eL
  have hcellL' := leK1.cell1 hbl hcellL.one
  have lkw : lk X w = X.links[w]'(by have := k1'.2; omega) := Yz _
  rw [← lkw] at hwL
  obtain ⟨Al, cl, rfl⟩ := hwL.shape
  have hll : (lk X w).length ≤ 1000000 := by rw [lkw]; exact hlens6 _ (List.getElem_mem _)
  have hpk : Y4 f X w = (lk X w).map (Ul (nd X w)) := by unfold Y4; rw [if_neg hpar]
  have hpll : (Y4 f X w).length ≤ 1000000 := by rw [hpk, List.length_map]; exact hll
  have hrise : RiseA (Y4 f X w) := by rw [hpk]; exact rise_weigh (goodL_rise (hXg.ok w hwn).2.1)
  refine Ys (by kernel_rfl) (Y1 (B := [0, 1, 0, 7, 15, 0, 32, 0, 224, 480, 1023, 2047]) (π := [0, 1, 2, 3, 4, 5, 6, 7, 8, 9, 10, 11]) (by kernel_rfl)) ?_
  refine Xd rfl rfl (Xh (off := 1) Xi Tryz.underlying29 Xi inf27.size (by decide) Xi) Xp ?_
  refine Xd rfl rfl (Xl rfl Tryz.underlying27 rfl Xq) Xp ?_
  refine Xd rfl rfl (Xb rfl) Xp ?_
  refine Xd rfl rfl (Xo rfl rfl Tryz.underlying27 inf68.size Xy Xy) Xp ?_
  refine Xd rfl rfl (Xl rfl Tryz.underlying68 rfl Xq) Xp ?_
  refine Xd rfl rfl (Xh (off := 0) Xi Tryz.underlying29 Xi inf27.size (by decide) Xi) Xp ?_
  refine Xd rfl rfl (Xl rfl Tryz.underlying27 rfl Xq) Xp ?_
  refine Xd rfl rfl (Xb rfl) Xp ?_
  refine Xd rfl rfl (Xo rfl rfl Tryz.underlying27 inf68.size Xy Xy) Xp ?_
  refine Xd rfl rfl (Xl rfl Tryz.underlying68 rfl Xq) Xp ?_
  refine Yg rfl rfl (X0 (weighed_links (lk X w) (nd X w) _ _ _ (hwL.mono leK1.sees) (hwN.mono leK1.sees) hll hnl (goodL_strict (hXg.ok w hwn).1 (hXg.ok w hwn).2.2.1) (fun l hl => ((k3' w hwn hpar).ends l hl).2) (fun l hl => hcx.links w l hl) (fun l hl => hcx.nodes w l hl)) rfl Tryz.func41 rfl rfl rfl ?_)
  rintro v10 H2 ⟨Gw, hleW, hownW⟩; rw [← hpk] at hownW; obtain ⟨Aw, cw, rfl⟩ := hownW.shape; have hsl2 := hownW.sl; have hle2 := Hp.le_trans hleW hownW.le
  refine ⟨Yf, ?_⟩
  refine Xd rfl rfl (X4 rfl) Xp ?_
  refine Xf ?_
  obtain ⟨G2, hleG2, hown2⟩ := hown.later hle2
  have leG2 := Hp.le_trans leG hleG2
  have leK2 := Hp.le_trans leK1 hle2
  have g2m := Xt hleG2 (by omega) (by intro e; cases e) gm
  have g2t := Xt hleG2 (by omega) (by intro e; cases e) gt
  have z2 := hleG2.1
  have zz2 := hown2.size
  obtain ⟨Ga, hleGa, hoA, backA⟩ := (hown2.rot (stable_ints _) stable_lists).open3
  obtain ⟨AA, cA, rfl⟩ := hoA.shape
  obtain ⟨slA, slB, slC⟩ := hown2.sls
  obtain ⟨AB, cB, rfl⟩ := slB.shape
  obtain ⟨AC, cC, rfl⟩ := slC.shape
  have lenA : (T.vars.take i).length = i := by rw [List.length_take]; omega
  have lenB : (T.parent.take i).length = i := by rw [List.length_take]; omega
  have lenC : (T.links.take i).length = i := by rw [List.length_take]; omega
  have h2t := Xt hown2.le (by omega) (by intro e; cases e) g2t
  have h20 := Xt leK2 (by omega) (by intro e; cases e) gK0
  obtain ⟨bs, os, ks, eS, hbs, rfl, hcellS⟩ := s0K.elem_at (i := w) hwn
  subst eS
  have hcellS' := leK2.cell1 hbs hcellS.one
  have zoA := hoA.size
  have za := hleGa.1
  have slG2 := hown2.below (Zh _) (Zh _) (Zh _) (by decide) (by decide) (by decide) hsl2
  refine Ys (by kernel_rfl) (Y1 (B := [0, 0, 2, 6, 14, 0, 32, 0, 224, 480, 992, 2046, 4095, 8191, 16383]) (π := [0, 1, 2, 3, 4, 5, 6, 7, 8, 9, 10, 11, 12, 13, 14]) (by kernel_rfl)) ?_
  refine Xd rfl rfl (X9 Xi) Xp ?_
  refine Xd rfl rfl (X9 Xi) Xp ?_
  refine Xd rfl rfl (Yo rfl) Xp ?_
  refine Xd rfl rfl (Xh (off := 0) rfl Tryz.underlying73 rfl inf22.size (by decide) rfl) Xp ?_
  refine Xd rfl rfl (Xl rfl Tryz.underlying22 rfl Xq) Xp ?_
  refine Xd rfl rfl (Xh (off := 0) Xi Tryz.underlying26 Xi inf22.size (by decide) Xi) Xp ?_
  refine Xd rfl rfl (Xl rfl Tryz.underlying22 rfl Xq) Xp ?_
  refine Xd rfl rfl (Xb rfl) Xp ?_
  refine Xd rfl rfl (Xo rfl rfl Tryz.underlying22 inf9.size Xy Xy) Xp ?_
  refine Xd rfl rfl (Xl rfl Tryz.underlying9 rfl Xq) Xp ?_
  first | refine Y5 rfl rfl (Ya (r := [.string _]) Tryz.underlying22 inf9.size inf9.zero rfl (by decide) (by decide) (by decide) rfl) ?_
  refine Yg rfl rfl (OwnP.append (ys := [f.vars[w]]) (hoA.push _) Tryz.underlying22 inf9 rfl rfl rfl (Zl (k := kStr) rfl rfl hoA.size rfl) (by rw [lenA]; simp only [List.length_singleton]; omega) (by rw [lenA]; simp only [List.length_singleton]; omega) ?_)
  rintro v3 G3 H3 hle3 hown3
  have hsameO := OwnP.sameO (hoA.push _) hle3 hown3
  have ev : f.vars.getD w ⟨#[]⟩ = f.vars[w] := by rw [List.getD_eq_getElem?_getD, List.getElem?_eq_getElem hwn]; rfl
  rw [← ev, take_at tv] at hown3
  obtain ⟨AA', cA', rfl⟩ := hown3.shape
  have hle3' := Hp.le_trans (Hp.le_push _ _) hle3
  obtain ⟨G4, hleG4, hown4⟩ := backA G3 H3 _ _ hle3' hown3
  have g4t := Xt hleG4 (by omega) (by intro e; cases e) g2t
  have h3t := Xt hown4.le (by have := hleG4.1; omega) (by intro e; cases e) g4t
  refine ⟨Yf, ?_⟩
  refine Xd rfl rfl (Yo rfl) Xp ?_
  refine Xd rfl rfl (Xh (off := 0) rfl Tryz.underlying73 rfl inf22.size (by decide) rfl) Xp ?_
  first | refine Yg rfl rfl (Y8 rfl rfl rfl inf22.size Yh Yp rfl ?_)
  refine ⟨Yf, ?_⟩
  refine Xf ?_
  obtain ⟨H5, hH5⟩ : ∃ H5, H5 = H3.put (K.size + 1) (.own 0 [.slice AA' (T.vars.take (i + 1)).length cA', .slice AB (T.parent.take i).length cB, .slice AC (T.links.take i).length cC, .map (some K.size)]) := ⟨_, rfl⟩
  obtain ⟨G5, hG5⟩ : ∃ G5, G5 = G4.put (K.size + 1) (.own 0 [.slice AA' (T.vars.take (i + 1)).length cA', .slice AB (T.parent.take i).length cB, .slice AC (T.links.take i).length cC, .map (some K.size)]) := ⟨_, rfl⟩
  have z4 := hleG4.1
  have hown5 := hown4.put_box (by omega) g4t [.slice AA' (T.vars.take (i + 1)).length cA', .slice AB (T.parent.take i).length cB, .slice AC (T.links.take i).length cC, .map (some K.size)]
  rw [← hG5, ← hH5] at hown5
  have leG5 : K.le G5 := by rw [hG5]; exact Hp.le_put_new (Hp.le_trans leG2 hleG4) (by omega) _
  have g5m : G5.get K.size = .map es := by rw [hG5, Hp.put_other _ _ (by omega)]; exact Xt hleG4 (by omega) (by intro e; cases e) g2m
  have g5t : G5.get (K.size + 1) = .own 0 [.slice AA' (T.vars.take (i + 1)).length cA', .slice AB (T.parent.take i).length cB, .slice AC (T.links.take i).length cC, .map (some K.size)] := by rw [hG5]; exact Hp.put_same _ _ _
  have z5 : K.size + 2 ≤ G5.size := by rw [hG5]; simp; omega
  change ACode true _ _ _ _ _ (H3.put (K.size + 1) (.own 0 [.slice AA' (T.vars.take (i + 1)).length cA', .slice AB (T.parent.take i).length cB, .slice AC (T.links.take i).length cC, .map (some K.size)]))
  rw [← hH5]
  have slG5 : Sl kLink G5 (.slice Aw (Y4 f X w).length cw) (Y4 f X w) := by
    rw [hG5]
    exact (slG2.mono hleG4.sees).mono (Hp.sees_box _ g4t)
  obtain ⟨Gb, hleGb, hoB, backB⟩ := (hown5.rot stable_lists (stable_strs _)).open3
  have leK5 := Hp.le_trans leG5 hown5.le
  have h5t := Xt hown5.le (by omega) (by intro e; cases e) g5t
  have h50 := Xt leK5 (by omega) (by intro e; cases e) gK0
  have hcell25 := leK5.cell1 hb2 hcell2
  have zoB := hoB.size
  have zz5 := hown5.size
  have zb := hleGb.1
  clear hH5 hG5 hsameO
  refine Ys (by kernel_rfl) (Y1 (B := [0, 0, 2, 6, 14, 0, 32, 0, 128, 0, 896, 1920, 4064, 8160, 16382, 32767, 65535, 131071]) (π := [0, 1, 2, 3, 4, 5, 6, 7, 8, 9, 10, 11, 12, 13, 14, 15, 16, 17]) (by kernel_rfl)) ?_
  refine Xd rfl rfl (X9 Xi) Xp ?_
  refine Xd rfl rfl (X9 Xi) Xp ?_
  refine Xd rfl rfl (Yo rfl) Xp ?_
  refine Xd rfl rfl (Xh (off := 1) rfl Tryz.underlying73 rfl inf23.size (by decide) rfl) Xp ?_
  refine Xd rfl rfl (Xl rfl Tryz.underlying23 rfl Xq) Xp ?_
  refine Xd rfl rfl (Xh (off := 1) Xi Tryz.underlying26 Xi inf23.size (by decide) Xi) Xp ?_
  refine Xd rfl rfl (Xl rfl Tryz.underlying23 rfl Xq) Xp ?_
  refine Xd rfl rfl (Xh (off := 2) Xi Tryz.underlying26 Xi inf23.size (by decide) Xi) Xp ?_
  refine Xd rfl rfl (Xl rfl Tryz.underlying23 rfl Xq) Xp ?_
  refine Xd rfl rfl (Xb rfl) Xp ?_
  refine Xd rfl rfl (Xo rfl rfl Tryz.underlying23 inf3.size Xy Xy) Xp ?_
  refine Xd rfl rfl (Xl rfl Tryz.underlying3 rfl Xq) Xp ?_
  refine Yg rfl rfl (X0 (Index_ints f.order _ (par f w) _ (s1K.mono leK5.sees) (by omega)) rfl Tryz.func42 rfl rfl rfl ?_)
  rintro v6 H5 ⟨rfl, rfl⟩
  refine ⟨Yf, ?_⟩
  first | refine Y5 rfl rfl (Ya (r := [.int .i64 _]) Tryz.underlying23 inf3.size inf3.zero rfl (by decide) (by decide) (by decide) rfl) ?_
  refine Yg rfl rfl (OwnP.append (ys := [atI f.order (par f w)]) (hoB.push _) Tryz.underlying23 inf3 rfl rfl rfl (Zl (k := Y6 .i64) rfl rfl hoB.size rfl) (by rw [lenB]; simp only [List.length_singleton]; omega) (by rw [lenB]; simp only [List.length_singleton]; omega) ?_)
  rintro v7 G7 H7 hle7 hown7
  have hsameO := OwnP.sameO (hoB.push _) hle7 hown7
  rw [take_at tp] at hown7
  obtain ⟨AB', cB', rfl⟩ := hown7.shape
  have hle7' := Hp.le_trans (Hp.le_push _ _) hle7
  obtain ⟨G8, hleG8, hown8⟩ := backB G7 H7 _ _ hle7' hown7
  have g8t := Xt hleG8 (by omega) (by intro e; cases e) g5t
  have h7t := Xt hown8.le (by have := hleG8.1; omega) (by intro e; cases e) g8t
  refine ⟨Yf, ?_⟩
  refine Xd rfl rfl (Yo rfl) Xp ?_
  refine Xd rfl rfl (Xh (off := 1) rfl Tryz.underlying73 rfl inf23.size (by decide) rfl) Xp ?_
  first | refine Yg rfl rfl (Y8 rfl rfl rfl inf23.size Yh Yp rfl ?_)
  refine ⟨Yf, ?_⟩
  refine Xf ?_
  obtain ⟨H9, hH9⟩ : ∃ H9, H9 = H7.put (K.size + 1) (.own 0 [.slice AA' (T.vars.take (i + 1)).length cA', .slice AB' (T.parent.take (i + 1)).length cB', .slice AC (T.links.take i).length cC, .map (some K.size)]) := ⟨_, rfl⟩
  obtain ⟨G9, hG9⟩ : ∃ G9, G9 = G8.put (K.size + 1) (.own 0 [.slice AA' (T.vars.take (i + 1)).length cA', .slice AB' (T.parent.take (i + 1)).length cB', .slice AC (T.links.take i).length cC, .map (some K.size)]) := ⟨_, rfl⟩
  have z8 := hleG8.1
  have hown9 := hown8.put_box (by omega) g8t [.slice AA' (T.vars.take (i + 1)).length cA', .slice AB' (T.parent.take (i + 1)).length cB', .slice AC (T.links.take i).length cC, .map (some K.size)]
  rw [← hG9, ← hH9] at hown9
  have leG9 : K.le G9 := by rw [hG9]; exact Hp.le_put_new (Hp.le_trans leG5 hleG8) (by omega) _
  have g9m : G9.get K.size = .map es := by rw [hG9, Hp.put_other _ _ (by omega)]; exact Xt hleG8 (by omega) (by intro e; cases e) g5m
  have g9t : G9.get (K.size + 1) = .own 0 [.slice AA' (T.vars.take (i + 1)).length cA', .slice AB' (T.parent.take (i + 1)).length cB', .slice AC (T.links.take i).length cC, .map (some K.size)] := by rw [hG9]; exact Hp.put_same _ _ _
  have z9 : K.size + 2 ≤ G9.size := by rw [hG9]; simp; omega
  change ACode true _ _ _ _ _ (H7.put (K.size + 1) (.own 0 [.slice AA' (T.vars.take (i + 1)).length cA', .slice AB' (T.parent.take (i + 1)).length cB', .slice AC (T.links.take i).length cC, .map (some K.size)]))
  rw [← hH9]
  have slG9 : Sl kLink G9 (.slice Aw (Y4 f X w).length cw) (Y4 f X w) := by
    rw [hG9]
    exact (slG5.mono hleG8.sees).mono (Hp.sees_box _ g8t)
  have hsl9 := slG9.mono hown9.le.sees
  have h9t := Xt hown9.le (by omega) (by intro e; cases e) g9t
  have zz9 := hown9.size
  clear hH9 hG9 hsameO
  refine Ys (by kernel_rfl) (Y1 (B := [0, 0, 2, 6, 14, 0, 32, 96, 254, 511, 1023, 2047]) (π := [0, 1, 2, 3, 4, 5, 6, 7, 8, 9, 10, 11]) (by kernel_rfl)) ?_
  refine Xd rfl rfl (X9 Xi) Xp ?_
  refine Xd rfl rfl (X9 Xi) Xp ?_
  refine Xd rfl rfl (Yo rfl) Xp ?_
  refine Xd rfl rfl (Xh (off := 2) rfl Tryz.underlying73 rfl inf27.size (by decide) rfl) Xp ?_
  refine Xd rfl rfl (Xl rfl Tryz.underlying27 rfl Xq) Xp ?_
  refine Xd rfl rfl (Xw rfl) Xp ?_
  refine Yg rfl rfl (X0 (Clone_links _ _ _ hsl9 hpll) rfl Tryz.func43 rfl rfl rfl ?_)
  rintro v10 H10 ⟨G10', hle10, hownL⟩; obtain ⟨AL, cL, rfl⟩ := hownL.shape; have hle10' := Hp.le_trans hle10 hownL.le; obtain ⟨G10, hleG10, hown10⟩ := hown9.later hle10'; have slL := hown10.below (Zh _) (Zh _) (Zh _) (by decide) (by decide) (by decide) hownL.sl; obtain ⟨Gc, hleGc, hoC, backC⟩ := (hown10.rot (stable_strs _) (stable_ints _)).open3; have slLc := slL.mono hleGc.sees; have zoC := hoC.size; have h10t := Xt hle10' (by omega) (by intro e; cases e) h9t; have z10 := hleG10.1; have zc := hleGc.1
  refine ⟨Yf, ?_⟩
  refine Y5 rfl rfl (Ya (r := [.slice _ _ _]) Tryz.underlying27 inf68.size inf68.zero rfl (by decide) (by decide) (by decide) rfl) ?_
  refine Yg rfl rfl (OwnP.append (ys := [Y4 f X w]) (hoC.push _) Tryz.underlying27 inf68 rfl rfl rfl (Zl (k := Vs kLink) ⟨_, rfl, slLc⟩ rfl hoC.size rfl) (by rw [lenC]; simp only [List.length_singleton]; omega) (by rw [lenC]; simp only [List.length_singleton]; omega) ?_)
  rintro v11 G11 H11 hle11 hown11
  have hsameO := OwnP.sameO (hoC.push _) hle11 hown11
  rw [take_at tl] at hown11
  obtain ⟨AC', cC', rfl⟩ := hown11.shape
  have hle11' := Hp.le_trans (Hp.le_push _ _) hle11
  obtain ⟨G12, hleG12, hown12⟩ := backC G11 H11 _ _ hle11' hown11
  have g10t := Xt hleG10 (by omega) (by intro e; cases e) g9t
  have g12t := Xt hleG12 (by omega) (by intro e; cases e) g10t
  have h11t := Xt hown12.le (by have := hleG12.1; omega) (by intro e; cases e) g12t
  refine ⟨Yf, ?_⟩
  refine Xd rfl rfl (Yo rfl) Xp ?_
  refine Xd rfl rfl (Xh (off := 2) rfl Tryz.underlying73 rfl inf27.size (by decide) rfl) Xp ?_
  first | refine Yg rfl rfl (Y8 rfl rfl rfl inf27.size Yh Yp rfl ?_)
  refine ⟨Yf, ?_⟩
  obtain ⟨H13, hH13⟩ : ∃ H13, H13 = H11.put (K.size + 1) (.own 0 [.slice AA' (T.vars.take (i + 1)).length cA', .slice AB' (T.parent.take (i + 1)).length cB', .slice AC' (T.links.take (i + 1)).length cC', .map (some K.size)]) := ⟨_, rfl⟩
  obtain ⟨G13, hG13⟩ : ∃ G13, G13 = G12.put (K.size + 1) (.own 0 [.slice AA' (T.vars.take (i + 1)).length cA', .slice AB' (T.parent.take (i + 1)).length cB', .slice AC' (T.links.take (i + 1)).length cC', .map (some K.size)]) := ⟨_, rfl⟩
  have z12 := hleG12.1
  have hown13 := hown12.put_box (by omega) g12t [.slice AA' (T.vars.take (i + 1)).length cA', .slice AB' (T.parent.take (i + 1)).length cB', .slice AC' (T.links.take (i + 1)).length cC', .map (some K.size)]
  rw [← hG13, ← hH13] at hown13
  have leG13 : K.le G13 := by rw [hG13]; exact Hp.le_put_new (Hp.le_trans leG9 (Hp.le_trans hleG10 hleG12)) (by omega) _
  have g13m : G13.get K.size = .map es := by rw [hG13, Hp.put_other _ _ (by omega)]; exact Xt (Hp.le_trans hleG10 hleG12) (by omega) (by intro e; cases e) g9m
  have g13t : G13.get (K.size + 1) = .own 0 [.slice AA' (T.vars.take (i + 1)).length cA', .slice AB' (T.parent.take (i + 1)).length cB', .slice AC' (T.links.take (i + 1)).length cC', .map (some K.size)] := by rw [hG13]; exact Hp.put_same _ _ _
  have z13 : K.size + 2 ≤ G13.size := by rw [hG13]; simp; omega
  change ACode true _ _ _ _ _ (H11.put (K.size + 1) (.own 0 [.slice AA' (T.vars.take (i + 1)).length cA', .slice AB' (T.parent.take (i + 1)).length cB', .slice AC' (T.links.take (i + 1)).length cC', .map (some K.size)]))
  rw [← hH13]
  have h13t := Xt hown13.le (by omega) (by intro e; cases e) g13t
  have h13m := Xt hown13.le (by omega) (by intro e; cases e) g13m
  have zz13 := hown13.size
  obtain ⟨sl1, sl2, sl3⟩ := hown13.sls
  clear hH13 hG13 hsameO
  have eP : (T.parent.take (i + 1)).getD i 0 = T.parent.getD i 0 := by rw [List.getD_eq_getElem?_getD, List.getD_eq_getElem?_getD, List.getElem?_take, if_pos (by omega)]
  have hiL : i < (T.links.take (i + 1)).length := by rw [List.length_take]; omega
  have eL : (T.links.take (i + 1))[i]'hiL = Y4 f X w := by
    rw [List.getElem_take]
    exact (List.getElem?_eq_some_iff.1 tl).2
  have eL2 : T.links.getD i [] = Y4 f X w := by rw [List.getD_eq_getElem?_getD, tl]; rfl
  refine Xc (by kernel_rfl) ?_
  refine Xa (X9 Xi) ?_
  refine Xa (Xb rfl) ?_
  refine X5 (X0 (group_tree (b := K.size + 1) (mb := K.size) (by omega) (by omega) h13t sl2 sl3 h13m i hiL (by rw [List.length_take]; omega) (by rw [eL]; exact hpll) (fun _ => by rw [eL]; exact hrise) hsp.keys (fun a => hsp.none i a (Nat.le_refl _))) rfl Tryz.func44 rfl rfl rfl ?_)
  rintro v14 H14 ⟨es', rfl, hes'⟩
  refine Xc (by kernel_rfl) ?_
  refine Xa (Yd Xi Xi Yk) ?_
  refine Xa (Xb rfl) ?_
  refine ⟨f.order.length - (i + 1), by omega, i + 1, G13.put K.size (.map es'), _, _, _, es', by omega, rfl, Hp.le_put_new leG13 (Nat.le_refl _) _, by simp; omega, Hp.put_same _ _ _, by rw [Hp.put_other _ _ (by omega)]; exact g13t, hown13.put_map (by omega) g13m es', hsp.step ?_, e2, e3, e7, e24, e25, rfl⟩
  rw [eP, eL] at hes'
  rw [eL2]
  exact hes'
  intro hc3
  have hpar : par f w = -1 := Decidable.not_not.1 (of_decide_eq_false hc3)
  have hpk : Y4 f X w = nd X w := by unfold Y4; rw [if_pos hpar]
  have hpll : (Y4 f X w).length ≤ 1000000 := by rw [hpk]; exact hnl
  have hrise : RiseA (Y4 f X w) := by rw [hpk]; exact goodL_rise (hXg.ok w hwn).1
  obtain ⟨w10, hw10⟩ : ∃ w10, w10 = Value.slice An (nd X w).length cn := ⟨_, rfl⟩
  have hle2 := Hp.le_refl H1
  have hsl2 : Sl kLink H1 (.slice An (Y4 f X w).length cn) (Y4 f X w) := by rw [hpk]; exact hwN.mono leK1.sees
  rw [← hpk]
  obtain ⟨H2, e2'⟩ : ∃ H2, H2 = H1 := ⟨_, rfl⟩
  subst e2'
  obtain ⟨Aw, cw, eAw, eCw⟩ : ∃ Aw cw, Aw = An ∧ cw = cn := ⟨_, _, rfl, rfl⟩
  subst eAw
  subst eCw
  refine X6 ?_
  refine Xf ?_
  obtain ⟨G2, hleG2, hown2⟩ := hown.later hle2
  have leG2 := Hp.le_trans leG hleG2
  have leK2 := Hp.le_trans leK1 hle2
  have g2m := Xt hleG2 (by omega) (by intro e; cases e) gm
  have g2t := Xt hleG2 (by omega) (by intro e; cases e) gt
  have z2 := hleG2.1
  have zz2 := hown2.size
  obtain ⟨Ga, hleGa, hoA, backA⟩ := (hown2.rot (stable_ints _) stable_lists).open3
  obtain ⟨AA, cA, rfl⟩ := hoA.shape
  obtain ⟨slA, slB, slC⟩ := hown2.sls
  obtain ⟨AB, cB, rfl⟩ := slB.shape
  obtain ⟨AC, cC, rfl⟩ := slC.shape
  have lenA : (T.vars.take i).length = i := by rw [List.length_take]; omega
  have lenB : (T.parent.take i).length = i := by rw [List.length_take]; omega
  have lenC : (T.links.take i).length = i := by rw [List.length_take]; omega
  have h2t := Xt hown2.le (by omega) (by intro e; cases e) g2t
  have h20 := Xt leK2 (by omega) (by intro e; cases e) gK0
  obtain ⟨bs, os, ks, eS, hbs, rfl, hcellS⟩ := s0K.elem_at (i := w) hwn
  subst eS
  have hcellS' := leK2.cell1 hbs hcellS.one
  have zoA := hoA.size
  have za := hleGa.1
  have slG2 := hown2.below (Zh _) (Zh _) (Zh _) (by decide) (by decide) (by decide) hsl2
  refine Ys (by kernel_rfl) (Y1 (B := [0, 0, 2, 6, 14, 0, 32, 0, 224, 480, 992, 2046, 4095, 8191, 16383]) (π := [0, 1, 2, 3, 4, 5, 6, 7, 8, 9, 10, 11, 12, 13, 14]) (by kernel_rfl)) ?_
  refine Xd rfl rfl (X9 Xi) Xp ?_
  refine Xd rfl rfl (X9 Xi) Xp ?_
  refine Xd rfl rfl (Yo rfl) Xp ?_
  refine Xd rfl rfl (Xh (off := 0) rfl Tryz.underlying73 rfl inf22.size (by decide) rfl) Xp ?_
  refine Xd rfl rfl (Xl rfl Tryz.underlying22 rfl Xq) Xp ?_
  refine Xd rfl rfl (Xh (off := 0) Xi Tryz.underlying26 Xi inf22.size (by decide) Xi) Xp ?_
  refine Xd rfl rfl (Xl rfl Tryz.underlying22 rfl Xq) Xp ?_
  refine Xd rfl rfl (Xb rfl) Xp ?_
  refine Xd rfl rfl (Xo rfl rfl Tryz.underlying22 inf9.size Xy Xy) Xp ?_
  refine Xd rfl rfl (Xl rfl Tryz.underlying9 rfl Xq) Xp ?_
  first | refine Y5 rfl rfl (Ya (r := [.string _]) Tryz.underlying22 inf9.size inf9.zero rfl (by decide) (by decide) (by decide) rfl) ?_
  refine Yg rfl rfl (OwnP.append (ys := [f.vars[w]]) (hoA.push _) Tryz.underlying22 inf9 rfl rfl rfl (Zl (k := kStr) rfl rfl hoA.size rfl) (by rw [lenA]; simp only [List.length_singleton]; omega) (by rw [lenA]; simp only [List.length_singleton]; omega) ?_)
  rintro v3 G3 H3 hle3 hown3
  have hsameO := OwnP.sameO (hoA.push _) hle3 hown3
  have ev : f.vars.getD w ⟨#[]⟩ = f.vars[w] := by rw [List.getD_eq_getElem?_getD, List.getElem?_eq_getElem hwn]; rfl
  rw [← ev, take_at tv] at hown3
  obtain ⟨AA', cA', rfl⟩ := hown3.shape
  have hle3' := Hp.le_trans (Hp.le_push _ _) hle3
  obtain ⟨G4, hleG4, hown4⟩ := backA G3 H3 _ _ hle3' hown3
  have g4t := Xt hleG4 (by omega) (by intro e; cases e) g2t
  have h3t := Xt hown4.le (by have := hleG4.1; omega) (by intro e; cases e) g4t
  refine ⟨Yf, ?_⟩
  refine Xd rfl rfl (Yo rfl) Xp ?_
  refine Xd rfl rfl (Xh (off := 0) rfl Tryz.underlying73 rfl inf22.size (by decide) rfl) Xp ?_
  first | refine Yg rfl rfl (Y8 rfl rfl rfl inf22.size Yh Yp rfl ?_)
  refine ⟨Yf, ?_⟩
  refine Xf ?_
  obtain ⟨H5, hH5⟩ : ∃ H5, H5 = H3.put (K.size + 1) (.own 0 [.slice AA' (T.vars.take (i + 1)).length cA', .slice AB (T.parent.take i).length cB, .slice AC (T.links.take i).length cC, .map (some K.size)]) := ⟨_, rfl⟩
  obtain ⟨G5, hG5⟩ : ∃ G5, G5 = G4.put (K.size + 1) (.own 0 [.slice AA' (T.vars.take (i + 1)).length cA', .slice AB (T.parent.take i).length cB, .slice AC (T.links.take i).length cC, .map (some K.size)]) := ⟨_, rfl⟩
  have z4 := hleG4.1
  have hown5 := hown4.put_box (by omega) g4t [.slice AA' (T.vars.take (i + 1)).length cA', .slice AB (T.parent.take i).length cB, .slice AC (T.links.take i).length cC, .map (some K.size)]
  rw [← hG5, ← hH5] at hown5
  have leG5 : K.le G5 := by rw [hG5]; exact Hp.le_put_new (Hp.le_trans leG2 hleG4) (by omega) _
  have g5m : G5.get K.size = .map es := by rw [hG5, Hp.put_other _ _ (by omega)]; exact Xt hleG4 (by omega) (by intro e; cases e) g2m
  have g5t : G5.get (K.size + 1) = .own 0 [.slice AA' (T.vars.take (i + 1)).length cA', .slice AB (T.parent.take i).length cB, .slice AC (T.links.take i).length cC, .map (some K.size)] := by rw [hG5]; exact Hp.put_same _ _ _
  have z5 : K.size + 2 ≤ G5.size := by rw [hG5]; simp; omega
  change ACode true _ _ _ _ _ (H3.put (K.size + 1) (.own 0 [.slice AA' (T.vars.take (i + 1)).length cA', .slice AB (T.parent.take i).length cB, .slice AC (T.links.take i).length cC, .map (some K.size)]))
  rw [← hH5]
  have slG5 : Sl kLink G5 (.slice Aw (Y4 f X w).length cw) (Y4 f X w) := by
    rw [hG5]
    exact (slG2.mono hleG4.sees).mono (Hp.sees_box _ g4t)
  obtain ⟨Gb, hleGb, hoB, backB⟩ := (hown5.rot stable_lists (stable_strs _)).open3
  have leK5 := Hp.le_trans leG5 hown5.le
  have h5t := Xt hown5.le (by omega) (by intro e; cases e) g5t
  have h50 := Xt leK5 (by omega) (by intro e; cases e) gK0
  have hcell25 := leK5.cell1 hb2 hcell2
  have zoB := hoB.size
  have zz5 := hown5.size
  have zb := hleGb.1
  clear hH5 hG5 hsameO
  refine Ys (by kernel_rfl) (Y1 (B := [0, 0, 2, 6, 14, 0, 32, 0, 128, 0, 896, 1920, 4064, 8160, 16382, 32767, 65535, 131071]) (π := [0, 1, 2, 3, 4, 5, 6, 7, 8, 9, 10, 11, 12, 13, 14, 15, 16, 17]) (by kernel_rfl)) ?_
  refine Xd rfl rfl (X9 Xi) Xp ?_
  refine Xd rfl rfl (X9 Xi) Xp ?_
  refine Xd rfl rfl (Yo rfl) Xp ?_
  refine Xd rfl rfl (Xh (off := 1) rfl Tryz.underlying73 rfl inf23.size (by decide) rfl) Xp ?_
  refine Xd rfl rfl (Xl rfl Tryz.underlying23 rfl Xq) Xp ?_
  refine Xd rfl rfl (Xh (off := 1) Xi Tryz.underlying26 Xi inf23.size (by decide) Xi) Xp ?_
  refine Xd rfl rfl (Xl rfl Tryz.underlying23 rfl Xq) Xp ?_
  refine Xd rfl rfl (Xh (off := 2) Xi Tryz.underlying26 Xi inf23.size (by decide) Xi) Xp ?_
  refine Xd rfl rfl (Xl rfl Tryz.underlying23 rfl Xq) Xp ?_
  refine Xd rfl rfl (Xb rfl) Xp ?_
  refine Xd rfl rfl (Xo rfl rfl Tryz.underlying23 inf3.size Xy Xy) Xp ?_
  refine Xd rfl rfl (Xl rfl Tryz.underlying3 rfl Xq) Xp ?_
  refine Yg rfl rfl (X0 (Index_ints f.order _ (par f w) _ (s1K.mono leK5.sees) (by omega)) rfl Tryz.func42 rfl rfl rfl ?_)
  rintro v6 H5 ⟨rfl, rfl⟩
  refine ⟨Yf, ?_⟩
  first | refine Y5 rfl rfl (Ya (r := [.int .i64 _]) Tryz.underlying23 inf3.size inf3.zero rfl (by decide) (by decide) (by decide) rfl) ?_
  refine Yg rfl rfl (OwnP.append (ys := [atI f.order (par f w)]) (hoB.push _) Tryz.underlying23 inf3 rfl rfl rfl (Zl (k := Y6 .i64) rfl rfl hoB.size rfl) (by rw [lenB]; simp only [List.length_singleton]; omega) (by rw [lenB]; simp only [List.length_singleton]; omega) ?_)
  rintro v7 G7 H7 hle7 hown7
  have hsameO := OwnP.sameO (hoB.push _) hle7 hown7
  rw [take_at tp] at hown7
  obtain ⟨AB', cB', rfl⟩ := hown7.shape
  have hle7' := Hp.le_trans (Hp.le_push _ _) hle7
  obtain ⟨G8, hleG8, hown8⟩ := backB G7 H7 _ _ hle7' hown7
  have g8t := Xt hleG8 (by omega) (by intro e; cases e) g5t
  have h7t := Xt hown8.le (by have := hleG8.1; omega) (by intro e; cases e) g8t
  refine ⟨Yf, ?_⟩
  refine Xd rfl rfl (Yo rfl) Xp ?_
  refine Xd rfl rfl (Xh (off := 1) rfl Tryz.underlying73 rfl inf23.size (by decide) rfl) Xp ?_
  first | refine Yg rfl rfl (Y8 rfl rfl rfl inf23.size Yh Yp rfl ?_)
  refine ⟨Yf, ?_⟩
  refine Xf ?_
  obtain ⟨H9, hH9⟩ : ∃ H9, H9 = H7.put (K.size + 1) (.own 0 [.slice AA' (T.vars.take (i + 1)).length cA', .slice AB' (T.parent.take (i + 1)).length cB', .slice AC (T.links.take i).length cC, .map (some K.size)]) := ⟨_, rfl⟩
  obtain ⟨G9, hG9⟩ : ∃ G9, G9 = G8.put (K.size + 1) (.own 0 [.slice AA' (T.vars.take (i + 1)).length cA', .slice AB' (T.parent.take (i + 1)).length cB', .slice AC (T.links.take i).length cC, .map (some K.size)]) := ⟨_, rfl⟩
  have z8 := hleG8.1
  have hown9 := hown8.put_box (by omega) g8t [.slice AA' (T.vars.take (i + 1)).length cA', .slice AB' (T.parent.take (i + 1)).length cB', .slice AC (T.links.take i).length cC, .map (some K.size)]
  rw [← hG9, ← hH9] at hown9
  have leG9 : K.le G9 := by rw [hG9]; exact Hp.le_put_new (Hp.le_trans leG5 hleG8) (by omega) _
  have g9m : G9.get K.size = .map es := by rw [hG9, Hp.put_other _ _ (by omega)]; exact Xt hleG8 (by omega) (by intro e; cases e) g5m
  have g9t : G9.get (K.size + 1) = .own 0 [.slice AA' (T.vars.take (i + 1)).length cA', .slice AB' (T.parent.take (i + 1)).length cB', .slice AC (T.links.take i).length cC, .map (some K.size)] := by rw [hG9]; exact Hp.put_same _ _ _
  have z9 : K.size + 2 ≤ G9.size := by rw [hG9]; simp; omega
  change ACode true _ _ _ _ _ (H7.put (K.size + 1) (.own 0 [.slice AA' (T.vars.take (i + 1)).length cA', .slice AB' (T.parent.take (i + 1)).length cB', .slice AC (T.links.take i).length cC, .map (some K.size)]))
  rw [← hH9]
  have slG9 : Sl kLink G9 (.slice Aw (Y4 f X w).length cw) (Y4 f X w) := by
    rw [hG9]
    exact (slG5.mono hleG8.sees).mono (Hp.sees_box _ g8t)
  have hsl9 := slG9.mono hown9.le.sees
  have h9t := Xt hown9.le (by omega) (by intro e; cases e) g9t
  have zz9 := hown9.size
  clear hH9 hG9 hsameO
  refine Ys (by kernel_rfl) (Y1 (B := [0, 0, 2, 6, 14, 0, 32, 96, 254, 511, 1023, 2047]) (π := [0, 1, 2, 3, 4, 5, 6, 7, 8, 9, 10, 11]) (by kernel_rfl)) ?_
  refine Xd rfl rfl (X9 Xi) Xp ?_
  refine Xd rfl rfl (X9 Xi) Xp ?_
  refine Xd rfl rfl (Yo rfl) Xp ?_
  refine Xd rfl rfl (Xh (off := 2) rfl Tryz.underlying73 rfl inf27.size (by decide) rfl) Xp ?_
  refine Xd rfl rfl (Xl rfl Tryz.underlying27 rfl Xq) Xp ?_
  refine Xd rfl rfl (Xw rfl) Xp ?_
  refine Yg rfl rfl (X0 (Clone_links _ _ _ hsl9 hpll) rfl Tryz.func43 rfl rfl rfl ?_)
  rintro v10 H10 ⟨G10', hle10, hownL⟩; obtain ⟨AL, cL, rfl⟩ := hownL.shape; have hle10' := Hp.le_trans hle10 hownL.le; obtain ⟨G10, hleG10, hown10⟩ := hown9.later hle10'; have slL := hown10.below (Zh _) (Zh _) (Zh _) (by decide) (by decide) (by decide) hownL.sl; obtain ⟨Gc, hleGc, hoC, backC⟩ := (hown10.rot (stable_strs _) (stable_ints _)).open3; have slLc := slL.mono hleGc.sees; have zoC := hoC.size; have h10t := Xt hle10' (by omega) (by intro e; cases e) h9t; have z10 := hleG10.1; have zc := hleGc.1
  refine ⟨Yf, ?_⟩
  refine Y5 rfl rfl (Ya (r := [.slice _ _ _]) Tryz.underlying27 inf68.size inf68.zero rfl (by decide) (by decide) (by decide) rfl) ?_
  refine Yg rfl rfl (OwnP.append (ys := [Y4 f X w]) (hoC.push _) Tryz.underlying27 inf68 rfl rfl rfl (Zl (k := Vs kLink) ⟨_, rfl, slLc⟩ rfl hoC.size rfl) (by rw [lenC]; simp only [List.length_singleton]; omega) (by rw [lenC]; simp only [List.length_singleton]; omega) ?_)
  rintro v11 G11 H11 hle11 hown11
  have hsameO := OwnP.sameO (hoC.push _) hle11 hown11
  rw [take_at tl] at hown11
  obtain ⟨AC', cC', rfl⟩ := hown11.shape
  have hle11' := Hp.le_trans (Hp.le_push _ _) hle11
  obtain ⟨G12, hleG12, hown12⟩ := backC G11 H11 _ _ hle11' hown11
  have g10t := Xt hleG10 (by omega) (by intro e; cases e) g9t
  have g12t := Xt hleG12 (by omega) (by intro e; cases e) g10t
  have h11t := Xt hown12.le (by have := hleG12.1; omega) (by intro e; cases e) g12t
  refine ⟨Yf, ?_⟩
  refine Xd rfl rfl (Yo rfl) Xp ?_
  refine Xd rfl rfl (Xh (off := 2) rfl Tryz.underlying73 rfl inf27.size (by decide) rfl) Xp ?_
  first | refine Yg rfl rfl (Y8 rfl rfl rfl inf27.size Yh Yp rfl ?_)
  refine ⟨Yf, ?_⟩
  obtain ⟨H13, hH13⟩ : ∃ H13, H13 = H11.put (K.size + 1) (.own 0 [.slice AA' (T.vars.take (i + 1)).length cA', .slice AB' (T.parent.take (i + 1)).length cB', .slice AC' (T.links.take (i + 1)).length cC', .map (some K.size)]) := ⟨_, rfl⟩
  obtain ⟨G13, hG13⟩ : ∃ G13, G13 = G12.put (K.size + 1) (.own 0 [.slice AA' (T.vars.take (i + 1)).length cA', .slice AB' (T.parent.take (i + 1)).length cB', .slice AC' (T.links.take (i + 1)).length cC', .map (some K.size)]) := ⟨_, rfl⟩
  have z12 := hleG12.1
  have hown13 := hown12.put_box (by omega) g12t [.slice AA' (T.vars.take (i + 1)).length cA', .slice AB' (T.parent.take (i + 1)).length cB', .slice AC' (T.links.take (i + 1)).length cC', .map (some K.size)]
  rw [← hG13, ← hH13] at hown13
  have leG13 : K.le G13 := by rw [hG13]; exact Hp.le_put_new (Hp.le_trans leG9 (Hp.le_trans hleG10 hleG12)) (by omega) _
  have g13m : G13.get K.size = .map es := by rw [hG13, Hp.put_other _ _ (by omega)]; exact Xt (Hp.le_trans hleG10 hleG12) (by omega) (by intro e; cases e) g9m
  have g13t : G13.get (K.size + 1) = .own 0 [.slice AA' (T.vars.take (i + 1)).length cA', .slice AB' (T.parent.take (i + 1)).length cB', .slice AC' (T.links.take (i + 1)).length cC', .map (some K.size)] := by rw [hG13]; exact Hp.put_same _ _ _
  have z13 : K.size + 2 ≤ G13.size := by rw [hG13]; simp; omega
  change ACode true _ _ _ _ _ (H11.put (K.size + 1) (.own 0 [.slice AA' (T.vars.take (i + 1)).length cA', .slice AB' (T.parent.take (i + 1)).length cB', .slice AC' (T.links.take (i + 1)).length cC', .map (some K.size)]))
  rw [← hH13]
  have h13t := Xt hown13.le (by omega) (by intro e; cases e) g13t
  have h13m := Xt hown13.le (by omega) (by intro e; cases e) g13m
  have zz13 := hown13.size
  obtain ⟨sl1, sl2, sl3⟩ := hown13.sls
  clear hH13 hG13 hsameO
  have eP : (T.parent.take (i + 1)).getD i 0 = T.parent.getD i 0 := by rw [List.getD_eq_getElem?_getD, List.getD_eq_getElem?_getD, List.getElem?_take, if_pos (by omega)]
  have hiL : i < (T.links.take (i + 1)).length := by rw [List.length_take]; omega
  have eL : (T.links.take (i + 1))[i]'hiL = Y4 f X w := by
    rw [List.getElem_take]
    exact (List.getElem?_eq_some_iff.1 tl).2
  have eL2 : T.links.getD i [] = Y4 f X w := by rw [List.getD_eq_getElem?_getD, tl]; rfl
  refine Xc (by kernel_rfl) ?_
  refine Xa (X9 Xi) ?_
  refine Xa (Xb rfl) ?_
  refine X5 (X0 (group_tree (b := K.size + 1) (mb := K.size) (by omega) (by omega) h13t sl2 sl3 h13m i hiL (by rw [List.length_take]; omega) (by rw [eL]; exact hpll) (fun _ => by rw [eL]; exact hrise) hsp.keys (fun a => hsp.none i a (Nat.le_refl _))) rfl Tryz.func44 rfl rfl rfl ?_)
  rintro v14 H14 ⟨es', rfl, hes'⟩
  refine Xc (by kernel_rfl) ?_
  refine Xa (Yd Xi Xi Yk) ?_
  refine Xa (Xb rfl) ?_
  refine ⟨f.order.length - (i + 1), by omega, i + 1, G13.put K.size (.map es'), _, _, _, es', by omega, rfl, Hp.le_put_new leG13 (Nat.le_refl _) _, by simp; omega, Hp.put_same _ _ _, by rw [Hp.put_other _ _ (by omega)]; exact g13t, hown13.put_map (by omega) g13m es', hsp.step ?_, e2, e3, e7, e24, e25, rfl⟩
  rw [eP, eL] at hes'
  rw [eL2]
  exact hes'
  intro hc2
  (try simp only [decide_eq_true_eq, decide_eq_false_iff_not, Bool.not_eq_true', Bool.not_eq_false'] at hc2)
  refine Yj ?_
  refine Xf ?_
  refine Xc (by kernel_rfl) ?_
  refine Xa (X9 Xi) ?_
  refine Xa (Zt rfl) ?_
  refine Xa (Xg rfl) ?_
  refine X8 ?_
  obtain rfl : i = f.order.length := by omega
  obtain ⟨sl1, sl2, sl3⟩ := hown.sls
  rw [List.take_of_length_le (by omega)] at sl1 sl2 sl3
  have zz := hown.size
  exact ⟨_, V0 (Xx rfl) (Xx rfl), Hp.le_trans leK leK1, true, .pointer (some ⟨K.size + 1, 0, none⟩), hg, rfl, by
    rw [if_pos rfl]
    exact ⟨K.size + 1, K.size, A, B, C, es, rfl, by omega, by omega, Xt hown.le (by omega) (by intro e; cases e) gt, sl1, sl2, sl3, Xt hown.le (by omega) (by intro e; cases e) gm, by rw [tl3]; exact hsp⟩⟩
end Go.Proofs.YtcaeoebphfjfiaaGreat.Am


/- Two variables, of which one link leads from the one to the other; the small living call of the statements on reducing. -/
namespace Go.Proofs.YtcaeoebphfjfiaaGreat.Am
open Go Go.RowKit
set_option maxRecDepth 100000
set_option linter.unusedVariables false
set_option linter.unusedSimpArgs false

theorem sl_two {α : Type} {k : Kd α} {H : Hp} {b c st : Nat} {x y : α} {u v : Value} (hg : H.get b = .own st [u, v]) (hb : b < H.size) (h1 : k.rep H x [u]) (h2 : k.rep H y [v]) (hst : k.sz = st) : Sl k H (.slice (some ⟨b, 0, none⟩) 2 c) [x, y] :=
  Els.sl (xs := [x, y]) (cs := [u, v]) (Els.cons (c := [u]) h1 (Els.cons (c := [v]) h2 (Els.nil _ _ []))) (Hp.sees.refl _) hb hg hst
theorem sl_one1 {α : Type} {k : Kd α} {H : Hp} {b c st : Nat} {x : α} {u : Value} (hg : H.get b = .own st [u]) (hb : b < H.size) (h1 : k.rep H x [u]) (hst : k.sz = st) : Sl k H (.slice (some ⟨b, 0, none⟩) 1 c) [x] :=
  Els.sl (xs := [x]) (cs := [u]) (Els.cons (c := [u]) h1 (Els.nil _ _ [])) (Hp.sees.refl _) hb hg hst
end Go.Proofs.YtcaeoebphfjfiaaGreat.Am


/- Whether two lists of rows are one; whether a forest is small. -/
namespace Go.Proofs.YtcaeoebphfjfiaaGreat.Am
open Go Go.RowKit
set_option maxRecDepth 100000
set_option linter.unusedVariables false
set_option linter.unusedSimpArgs false

end Go.Proofs.YtcaeoebphfjfiaaGreat.Am


/- The small living call of the statements on trees. -/
namespace Go.Proofs.YtcaeoebphfjfiaaGreat.Am
open Go Go.RowKit
set_option maxRecDepth 100000
set_option linter.unusedVariables false
set_option linter.unusedSimpArgs false

theorem New_good (f : Forest) (p : Parts) (cs ds : List Value) (H : Hp) (hp : kForest.rep H f cs) (hq : kParts.rep H p ds) (hsm : Small f p) (hch : Cheap p) (hG : GoodP f p) :
    ACalls Tryz.prog 9 #[.agg cs.toArray, .agg ds.toArray] H (fun r H' => H.le H' ∧ ∃ b, r = .tuple #[.pointer (some ⟨b, 0, none⟩), .int .i64 0] ∧ TreeR H' (.pointer (some ⟨b, 0, none⟩)) (Yy f (Uc f p))) :=
  (New_tree f p cs ds H hp hq hsm fun _ => hch).mono fun r H' ⟨hle, g, v, hg, hr, hv⟩ => by
    obtain rfl : g = true := hg.2 hG
    rw [if_pos rfl] at hv
    obtain ⟨b, _, _, _, _, _, rfl, _⟩ := id hv
    exact ⟨hle, b, hr, hv⟩
end Go.Proofs.YtcaeoebphfjfiaaGreat.Am


/- Walks in memory: made, asked. -/
namespace Go.Proofs.YtcaeoebphfjfiaaGreat.Am
open Go Go.RowKit
set_option maxRecDepth 100000
set_option linter.unusedVariables false
set_option linter.unusedSimpArgs false

def Away (wb : Nat) (G G' : Hp) : Prop := (G.put wb .dead).le (G'.put wb .dead)
theorem Away.refl (wb : Nat) (G : Hp) : Away wb G G := Hp.le_refl _
theorem Away.trans {wb : Nat} {G G1 G2 : Hp} (h : Away wb G G1) (k : Away wb G1 G2) : Away wb G G2 := Hp.le_trans h k
theorem Away.of_le {wb : Nat} {G G' : Hp} (h : G.le G') : Away wb G G' := Hp.le_put_both h wb .dead
theorem Away.put {wb : Nat} {G G' : Hp} (h : Away wb G G') (x : Blk) : Away wb G (G'.put wb x) := by
  unfold Away at h ⊢
  rw [Hp.put_put]; exact h
theorem Away.size {wb : Nat} {G G' : Hp} (h : Away wb G G') : G.size ≤ G'.size := h.1
theorem Away.keep {wb : Nat} {G G' : Hp} (h : Away wb G G') {b : Nat} {x : Blk} (hb : b < G.size) (hne : b ≠ wb) (hd : x ≠ .dead) (hg : G.get b = x) : G'.get b = x := by
  have := h.2 b hb (by rw [Hp.put_other _ _ hne, hg]; exact hd)
  rw [Hp.put_other _ _ hne, Hp.put_other _ _ hne] at this
  rw [this, hg]
theorem Away.base {wb : Nat} {K G G' : Hp} (h : Away wb G G') (hk : K.le G) (hw : K.size ≤ wb) : K.le G' :=
  ⟨Nat.le_trans hk.1 h.1, fun b hb hd => h.keep (Nat.lt_of_lt_of_le hb hk.1) (by omega) hd (hk.2 b hb hd)⟩
theorem Away.sees {wb : Nat} {G G' : Hp} (h : Away wb G G') {cs : List Value} (hg : G.get wb = .own 0 cs) : G.sees G' := by
  have h1 := (Hp.sees_any G hg .dead).trans (Hp.le.sees h)
  have h2 := h1.dead (Hp.put_same _ _ _) (G'.get wb)
  rwa [Hp.put_put, Hp.put_self _ rfl] at h2
theorem Away.tree {wb : Nat} {G G' : Hp} (h : Away wb G G') {a b c d e : Value} (hg : G.get wb = .own 0 [a, b, c, d, e]) {v : Value} {T : TreeT} (ht : TreeR G v T) : TreeR G' v T := by
  have hs := h.sees hg
  obtain ⟨tb, mb, s0, s1, s2, es, rfl, h1, h2, h3, h4, h5, h6, h7, h8⟩ := ht
  have n1 : tb ≠ wb := fun e => by rw [e, hg] at h3; simp at h3
  have n2 : mb ≠ wb := fun e => by rw [e, hg] at h7; cases h7
  exact ⟨tb, mb, s0, s1, s2, es, rfl, Nat.lt_of_lt_of_le h1 h.size, Nat.lt_of_lt_of_le h2 h.size, h.keep h1 n1 (by intro e; cases e) h3, h4.mono hs, h5.mono hs, h6.mono hs, h.keep h2 n2 (by intro e; cases e) h7, h8⟩
end Go.Proofs.YtcaeoebphfjfiaaGreat.Am


/- A walk goes one place on. -/
namespace Go.Proofs.YtcaeoebphfjfiaaGreat.Am
open Go Go.RowKit
set_option maxRecDepth 100000
set_option linter.unusedVariables false
set_option linter.unusedSimpArgs false

theorem Away.push {wb : Nat} {G G' : Hp} (h : Away wb G G') (hw : wb < G'.size) (x : Blk) : Away wb G (G'.push x) := h.trans (.of_le (G'.le_push x))
end Go.Proofs.YtcaeoebphfjfiaaGreat.Am


/- Who may be above a place. -/
namespace Go.Proofs.YtcaeoebphfjfiaaGreat.Am
open Go Go.RowKit
set_option maxRecDepth 100000
set_option linter.unusedVariables false
set_option linter.unusedSimpArgs false

theorem Away.sees_map {wb : Nat} {G G' : Hp} (h : Away wb G G') {es : List (Value × Value)} (hg : G.get wb = .map es) : G.sees G' := by
  have h1 := (Hp.sees_map G hg .dead).trans (Hp.le.sees h)
  have h2 := h1.dead (Hp.put_same _ _ _) (G'.get wb)
  rwa [Hp.put_put, Hp.put_self _ rfl] at h2
structure SeenM (es : List (Value × Value)) (out : List Int) : Prop where
  keys : ∀ e ∈ es, MapKept.IsKey (.int .i64) e.1
  at_ : ∀ x : Int, Y0 es (.int .i64 x) = if x ∈ out then some (.int .i64 1) else none
theorem SeenM.nil : SeenM [] [] := ⟨fun e h => (by cases h), fun x => by rw [if_neg (by simp)]; rfl⟩
theorem SeenM.put {es : List (Value × Value)} {out : List Int} (h : SeenM es out) (x : Int) : SeenM (Z8 es (.int .i64 x) (.int .i64 1)) (out ++ [x]) :=
  ⟨mapPut_keys h.keys rfl, fun y => by
    by_cases he : y = x
    · subst he
      rw [Vv, if_pos (by simp)]
    · rw [Zp (fun e => he (by injection e)), h.at_]
      simp [he]⟩
theorem Ur {P : Program} {t : Fr} {H : Hp} {d : Option Tmp} {ty : TypeId} {pos : String} {after : Array Edge} {guard : Option (Nat × Bool)} {mt kt et : TypeId} {K : Value → Prop} {x y : Operand} {b : Nat} {es : List (Value × Value)} {k z v : Value} (hv : (Y0 es k).getD z = v) (hu : P.underlying mt = some (.map kt et)) (hK : KeyTy P kt K) (hz : (P.info? et).map (·.zero) = some (some z)) (hp : ∀ φ : Inj, VRel φ z z)
    (hx : t.eval x = .map (some b)) (hy : t.eval y = k) (hk : K k) (hb : H.get b = .map es ∨ H.get b = .romap es) (hes : ∀ e ∈ es, K e.1) :
    AVal P ⟨d, .lookup mt x y false, ty, pos, after, guard⟩ t [b] H v := by
  subst hv
  exact av_lookup hu hK hz hp hx hy hk hb hes
def FewA (T : TreeT) : Prop := ∀ (d i : Nat), ((Zu T d (T.parent.getD i 0).toNat).flatMap fun a => (T.group (T.parent.getD i 0) a).map (·.b)).length ≤ 1000000 ∧ (Zu T d i).length ≤ 1000000
set_option maxHeartbeats 2000000 in
theorem above_cnt {T : TreeT} (hT : GoodT T) (hF : FewA T) {tb cb mb ms : Nat} (d : Nat) : ∀ (i : Nat), i < d → i < T.vars.length → ∀ H : Hp, H.get cb = .own 0 [.pointer (some ⟨tb, 0, none⟩), .map (some mb), .map (some ms)] → cb < H.size → TreeR H (.pointer (some ⟨tb, 0, none⟩)) T →
    ACalls Tryz.prog 82 #[.pointer (some ⟨cb, 0, none⟩), .int .i64 i] H (fun r H' => H.le H' ∧ Sl (Y6 .i64) H' r (Zu T d i)) := by
  induction d with
  | zero => intro i h; omega
  | succ d ih =>
  intro i hid hiv H hc hcb ht
  have hpar := hT.par i hiv
  refine Xu Tryz.func82 rfl rfl rfl (by simp) ?_
  refine Xf ?_
  refine Xc (by kernel_rfl) ?_
  refine Xa (X4 rfl) ?_
  refine Xf ?_
  refine Xc (by kernel_rfl) ?_
  refine Xa (X9 rfl) ?_
  refine Xa (Yo rfl) ?_
  refine Xa (Xh (off := 0) rfl Tryz.underlying92 rfl inf32.size (by decide) rfl) ?_
  refine Xa (Xl rfl Tryz.underlying32 rfl Xq) ?_
  refine Xa (Xb rfl) ?_
  refine X5 (X0 (Parent_tree ht hT.l1 (i : Int)) rfl Tryz.func85 rfl rfl rfl ?_)
  rintro v6 H ⟨rfl, rfl⟩; rw [if_pos ⟨by omega, by omega⟩, Int.toNat_natCast]
  refine Xa (Xg rfl) ?_
  refine Xf ?_
  refine Xf ?_
  refine Xc (by kernel_rfl) ?_
  refine Xa (Xb rfl) ?_
  refine Xa (Z0 rfl rfl) ?_
  refine X1 rfl rfl ?_ ?_
  intro hc1
  have hroot : T.parent.getD i 0 = -1 := of_decide_eq_true hc1
  refine Xf ?_
  refine Xc (by kernel_rfl) ?_
  first | refine X2 (Ya (r := [.int .i64 _]) Tryz.underlying23 inf3.size inf3.zero rfl (by decide) (by decide) (by decide) rfl) ?_
  refine Xa (X4 rfl) ?_
  refine X8 ?_
  exact ⟨_, Xv (Xx rfl), Hp.le_push _ _, by rw [Zu, if_pos hroot]; exact sl_int1⟩
  intro hc1
  have hroot : T.parent.getD i 0 ≠ -1 := of_decide_eq_false hc1
  obtain ⟨p, hp⟩ : ∃ p : Nat, T.parent.getD i 0 = p := ⟨(T.parent.getD i 0).toNat, by omega⟩
  rw [hp]
  refine X6 ?_
  refine Xf ?_
  refine Xc (by kernel_rfl) ?_
  refine Xa (X4 rfl) ?_
  refine Xf ?_
  refine Xc (by kernel_rfl) ?_
  refine X2 (am_makeMap) ?_
  refine Xa (av_assign_map rfl) ?_
  refine Xf ?_
  refine Xf ?_
  refine Xc (by kernel_rfl) ?_
  refine Xa (X9 rfl) ?_
  refine Xa (Xb rfl) ?_
  refine X5 (X0 (ih p (by omega) (by omega) _ ((Hp.push_old _ _ hcb).trans hc) (by simp; omega) (ht.mono (H.le_push _))) rfl Tryz.func82 rfl rfl rfl ?_)
  rintro v24 H2 ⟨le2, sl2⟩; obtain ⟨L, hL⟩ : ∃ L, L = Zu T d p := ⟨_, rfl⟩; rw [← hL] at sl2; obtain ⟨AA, cA, rfl⟩ := sl2.shape; have hm2 : H2.get H.size = .map [] := Xt le2 (by simp) (by intro e; cases e) (Hp.push_new _ _); have z2 := le2.1; simp only [Hp.push_size] at z2; have leH2 := Hp.le_trans (H.le_push _) le2; have hfl := (hF d i).1; rw [hp, Int.toNat_natCast, ← hL] at hfl; have hLl := (hF d p).2; rw [← hL] at hLl
  refine Xa (Yl rfl Tryz.underlying23) ?_
  refine Xa (Xb rfl) ?_
  refine X3 ?_
  refine Yt (fun n t H' => ∃ (j : Nat) (G : Hp) (es : List (Value × Value)) (A6 : Option Addr) (c6 : Nat) (out : List Int), n = L.length - j ∧ j ≤ L.length ∧ Away H.size H2 G ∧ G.get H.size = .map es ∧ OwnP (Y6 .i64) G H' (.slice A6 out.length c6) out ∧ out = onceT [] ((L.take j).flatMap fun a => (T.group p a).map (·.b)) ∧ SeenM es out ∧ t 0 = .pointer (some ⟨cb, 0, none⟩) ∧ t 5 = .int .i64 p ∧ t 6 = .slice A6 out.length c6 ∧ t 7 = .map (some H.size) ∧ t 24 = .slice AA L.length cA ∧ t 25 = .int .i64 L.length ∧ t 26 = .int .i64 j) (L.length) (⟨0, H2, [], none, 0, [], rfl, Nat.zero_le _, .refl _ _, hm2, OwnP.nil _ _, rfl, .nil, rfl, rfl, rfl, rfl, rfl, rfl, rfl⟩) ?_
  rintro n t H3 ⟨j, G, es, A6, c6, out, rfl, hj, aw, gm, hown, hout, hseen, e0, e5, e6, e7, e24, e25, e26⟩
  have slG := sl2.mono (aw.sees_map hm2)
  have leG : H.le G := aw.base leH2 (Nat.le_refl _)
  have hcG := Xt leG hcb (by intro e; cases e) hc
  have htG := ht.mono leG
  have hcH := Xt hown.le (Nat.lt_of_lt_of_le hcb leG.1) (by intro e; cases e) hcG
  have zG := aw.size
  refine Xf ?_
  refine Xc (by kernel_rfl) ?_
  refine Xa (Yw Xi Xi) ?_
  refine Xf ?_
  refine X1 rfl rfl ?_ ?_
  intro hc2
  have hjl : j < L.length := by have := of_decide_eq_true hc2; omega
  obtain ⟨bA, oA, eA, hbA, hcA⟩ := (slG.mono hown.le.sees).int_at (i := (j : Int)) (by omega) (by omega)
  rw [Int.toNat_natCast] at hcA
  obtain ⟨a, ha⟩ : ∃ a, a = L.getD j 0 := ⟨_, rfl⟩
  rw [← ha] at hcA
  subst eA
  refine X6 ?_
  refine Xf ?_
  refine X3 ?_
  refine Xf ?_
  refine Xc (by kernel_rfl) ?_
  refine Xa (Xo Xi Xi Tryz.underlying23 inf3.size Xy Xy) ?_
  refine Xa (Xl rfl Tryz.underlying3 rfl Xq) ?_
  refine Xa (Xg rfl) ?_
  refine Xf ?_
  refine Xc (by kernel_rfl) ?_
  refine Xa (X9 Xi) ?_
  refine Xa (Yo rfl) ?_
  refine Xa (Xh (off := 0) rfl Tryz.underlying92 rfl inf32.size (by decide) rfl) ?_
  refine Xa (Xl rfl Tryz.underlying32 rfl Xq) ?_
  refine Xa (Xb Xi) ?_
  refine Xa (Xb rfl) ?_
  refine X5 (X0 (Group_tree (htG.mono hown.le) hT.l1 hT.l2 hT.lens (p : Int) _) rfl Tryz.func66 rfl rfl rfl ?_)
  rintro v36 H5 ⟨GL, leL, hownL⟩; obtain ⟨g, hg⟩ : ∃ g, g = T.group p a := ⟨_, rfl⟩; rw [← hg] at hownL; have slL := hownL.sl; obtain ⟨AG, cG, rfl⟩ := slL.shape; have le35 := Hp.le_trans leL hownL.le; obtain ⟨G5, le5, hown5⟩ := hown.later le35; have slg := hown5.below (Zh _) (by decide) slL; have aw5 := aw.trans (.of_le le5); have gm5 := Xt le5 (by omega) (by intro e; cases e) gm; have z5 := le5.1; have hgl := group_len hT.lens (p : Int) a; rw [← hg] at hgl
  refine Xa (Yl rfl Tryz.underlying68) ?_
  refine Xa (Xb rfl) ?_
  refine X3 ?_
  refine Yt (fun n t H' => ∃ (m : Nat) (G : Hp) (es : List (Value × Value)) (A6 : Option Addr) (c6 : Nat) (out2 : List Int), n = g.length - m ∧ m ≤ g.length ∧ Away H.size G5 G ∧ G.get H.size = .map es ∧ OwnP (Y6 .i64) G H' (.slice A6 out2.length c6) out2 ∧ out2 = onceT out ((g.take m).map (·.b)) ∧ SeenM es out2 ∧ t 0 = .pointer (some ⟨cb, 0, none⟩) ∧ t 5 = .int .i64 p ∧ t 6 = .slice A6 out2.length c6 ∧ t 7 = .map (some H.size) ∧ t 24 = .slice (some ⟨bA, oA, none⟩) L.length cA ∧ t 25 = .int .i64 L.length ∧ t 26 = .int .i64 j ∧ t 36 = .slice AG g.length cG ∧ t 37 = .int .i64 g.length ∧ t 38 = .int .i64 m) (g.length) (⟨0, G5, es, A6, c6, out, rfl, Nat.zero_le _, .refl _ _, gm5, hown5, rfl, hseen, e0, e5, e6, e7, e24, e25, e26, rfl, rfl, rfl⟩) ?_
  rintro n t H6 ⟨m, G6, es6, A7, c7, out6, rfl, hm, aw6, gm6, hown6, hout6, hseen6, e0, e5, e6, e7, e24, e25, e26, e36, e37, e38⟩
  have slg6 := slg.mono (aw6.sees_map gm5)
  have z6 := aw6.size
  have zz6 := hown6.size
  have hol : out6.length ≤ 2000000 := by
    have h1 := onceT_len ((g.take m).map (·.b)) out
    have h2 := onceT_len ((L.take j).flatMap fun a => (T.group p a).map (·.b)) []
    have h3 : ((L.take j).flatMap fun a => (T.group p a).map (·.b)).length ≤ (L.flatMap fun a => (T.group p a).map (·.b)).length := by
      conv => rhs; rw [← List.take_append_drop j L, List.flatMap_append, List.length_append]
      omega
    rw [← hout6, List.length_map, List.length_take] at h1
    rw [← hout] at h2
    simp only [List.length_nil] at h2
    omega
  refine Xf ?_
  refine Xc (by kernel_rfl) ?_
  refine Xa (Yw Xi Xi) ?_
  refine Xf ?_
  refine X1 rfl rfl ?_ ?_
  intro hc3
  have hml : m < g.length := by have := of_decide_eq_true hc3; omega
  obtain ⟨bg, og, eg, hbg, hcg⟩ := (slg6.mono hown6.le.sees).link_at hml
  obtain ⟨l, hl⟩ : ∃ l, l = g[m] := ⟨_, rfl⟩
  rw [← hl] at hcg
  subst eg
  refine X6 ?_
  refine Xf ?_
  refine X3 ?_
  refine Xf ?_
  refine Xc (by kernel_rfl) ?_
  refine Xa (Xo Xi Xi Tryz.underlying68 inf78.size Xy Xy) ?_
  refine Xa (Yc (cs := [.int .i64 _, .int .i64 _, .int .i64 _, .int .u64 _]) rfl Tryz.underlying78 rfl inf78.size Yb) ?_
  refine X2 (Y9 (l := [.int .i64 0, .int .i64 0, .int .i64 0, .int .u64 0]) inf78.zero rfl (by decide)) ?_
  first | refine X5 (Yq (vs := [.int .i64 _, .int .i64 _, .int .i64 _, .int .u64 _]) rfl rfl inf78.size Yh Yp rfl rfl ?_)
  refine Xf ?_
  obtain ⟨H7, hH7⟩ : ∃ H7, H7 = (H6.push (.own 0 [.int .i64 0, .int .i64 0, .int .i64 0, .int .u64 0])).put H6.size (.own 0 [.int .i64 l.a, .int .i64 l.b, .int .i64 l.cost, .int .u64 l.n]) := ⟨_, rfl⟩
  obtain ⟨G7, hG7⟩ : ∃ G7, G7 = (G6.push (.own 0 [.int .i64 0, .int .i64 0, .int .i64 0, .int .u64 0])).put H6.size (.own 0 [.int .i64 l.a, .int .i64 l.b, .int .i64 l.cost, .int .u64 l.n]) := ⟨_, rfl⟩
  have hown7 := hown6.boxed [.int .i64 0, .int .i64 0, .int .i64 0, .int .u64 0] [.int .i64 l.a, .int .i64 l.b, .int .i64 l.cost, .int .u64 l.n]
  rw [← hH7, ← hG7] at hown7
  have le67 : G6.le G7 := by rw [hG7]; exact Hp.le_put_new (G6.le_push _) (by omega) _
  have gb7 : G7.get H6.size = .own 0 [.int .i64 l.a, .int .i64 l.b, .int .i64 l.cost, .int .u64 l.n] := by rw [hG7]; exact Hp.put_same _ _ _
  have z7 : G7.size = G6.size + 1 := by rw [hG7]; simp
  have gm7 := Xt le67 (by omega) (by intro e; cases e) gm6
  have hb7 := Xt hown7.le (by omega) (by intro e; cases e) gb7
  have hm7 := Xt hown7.le (by omega) (by intro e; cases e) gm7
  have zz7 := hown7.size
  change ACode true _ _ _ _ _ ((H6.push (.own 0 [.int .i64 0, .int .i64 0, .int .i64 0, .int .u64 0])).put H6.size (.own 0 [.int .i64 l.a, .int .i64 l.b, .int .i64 l.cost, .int .u64 l.n]))
  rw [← hH7]
  clear hH7 hG7
  have aw7 := aw6.trans (.of_le le67)
  have hget : (Y0 es6 (.int .i64 l.b)).getD (.int .i64 0) = .int .i64 (if l.b ∈ out6 then 1 else 0) := by rw [hseen6.at_]; split <;> rfl
  have hnext : onceT out ((g.take (m + 1)).map (·.b)) = if l.b ∈ out6 then out6 else out6 ++ [l.b] := by
    rw [← Yr hml, List.map_append, onceT_append, ← hout6, ← hl]; rfl
  refine Xc (by kernel_rfl) ?_
  refine Xa (av_move_map Xi) ?_
  refine Xa (Xh (off := 1) rfl Tryz.underlying78 rfl inf3.size (by decide) rfl) ?_
  refine Xa (Xl rfl Tryz.underlying3 rfl Xq) ?_
  refine Xa (Ur hget Tryz.underlying121 (keyTy_plain Tryz.underlying3) inf3.zero (fun φ => .int _ _) Xi Xi rfl (.inl hm7) hseen6.keys) ?_
  refine Xa (Z0 rfl rfl) ?_
  refine X1 rfl rfl ?_ ?_
  intro hc4
  have hnew : ¬ l.b ∈ out6 := fun h => by have h2 := of_decide_eq_true hc4; rw [if_pos h] at h2; exact absurd h2 (by decide)
  rw [if_neg hnew] at hnext
  refine Ys (by kernel_rfl) (Y1 (B := [0, 0, 2, 0, 0, 16, 48, 120, 255, 511]) (π := [0, 1, 2, 3, 4, 5, 6, 7, 8, 9]) (by kernel_rfl)) ?_
  refine Xd rfl rfl (av_move_map Xi) Xp ?_
  refine Xd rfl rfl (Xh (off := 1) rfl Tryz.underlying78 rfl inf3.size (by decide) rfl) Xp ?_
  refine Xd rfl rfl (Xl rfl Tryz.underlying3 rfl Xq) Xp ?_
  refine Xd rfl rfl (Xw Xi) Xp ?_
  refine Xd rfl rfl (Xh (off := 1) rfl Tryz.underlying78 rfl inf3.size (by decide) rfl) Xp ?_
  refine Xd rfl rfl (Xl rfl Tryz.underlying3 rfl Xq) Xp ?_
  first | refine Y5 rfl rfl (Ya (r := [.int .i64 _]) Tryz.underlying23 inf3.size inf3.zero rfl (by decide) (by decide) (by decide) rfl) ?_
  refine Yg rfl rfl (OwnP.append (ys := [l.b]) (hown7.push _) Tryz.underlying23 inf3 rfl rfl rfl (Zl (k := Y6 .i64) rfl rfl hown7.size rfl) (by simp only [List.length_singleton]; omega) (by simp only [List.length_singleton]; omega) ?_)
  rintro v8 G8 H8 hle8 hown8
  have hsameO := OwnP.sameO (hown7.push _) hle8 hown8
  obtain ⟨B8, c8, rfl⟩ := hown8.shape
  have le78 := Hp.le_trans (Hp.le_push _ _) hle8
  have z8 := le78.1
  have zz8 := hown8.size
  have gm8 := Xt le78 (by omega) (by intro e; cases e) gm7
  have gb8 := Xt le78 (by omega) (by intro e; cases e) gb7
  have hm8 := Xt hown8.le (by omega) (by intro e; cases e) gm8
  have hb8 := Xt hown8.le (by omega) (by intro e; cases e) gb8
  refine ⟨Yf, ?_⟩
  refine Yg rfl rfl (V3 Tryz.underlying121 (keyTy_plain Tryz.underlying3) rfl rfl rfl rfl hm8 hseen6.keys ?_)
  refine ⟨Yf, ?_⟩
  refine Xd rfl rfl (X4 rfl) Xp ?_
  refine Xc (by kernel_rfl) ?_
  refine Xa (Yd Xi Xi Yk) ?_
  refine Xa (Xb rfl) ?_
  first
    | exact ⟨g.length - (m + 1), by omega, m + 1, G7, es6, A7, c7, out6, rfl, by omega, aw7, gm7, hown7, hnext.symm, hseen6, e0, e5, e6, e7, e24, e25, e26, e36, e37, rfl⟩
    | exact ⟨g.length - (m + 1), by omega, m + 1, G8.put H.size (.map (Z8 es6 (.int .i64 l.b) (.int .i64 1))), _, B8, c8, out6 ++ [l.b], rfl, by omega, (aw7.trans (.of_le le78)).put _, Hp.put_same _ _ _, hown8.put (by rw [gm8]; intro e; cases e) _ (Hp.sees_map _ gm8 _), hnext.symm, hseen6.put l.b, e0, e5, rfl, e7, e24, e25, e26, e36, e37, rfl⟩
  intro hc4
  have hold : l.b ∈ out6 := Decidable.byContradiction fun h => by have h2 := of_decide_eq_false hc4; rw [if_neg h] at h2; exact h2 rfl
  rw [if_pos hold] at hnext
  refine X6 ?_
  refine Xc (by kernel_rfl) ?_
  refine Xa (Yd Xi Xi Yk) ?_
  refine Xa (Xb rfl) ?_
  first
    | exact ⟨g.length - (m + 1), by omega, m + 1, G7, es6, A7, c7, out6, rfl, by omega, aw7, gm7, hown7, hnext.symm, hseen6, e0, e5, e6, e7, e24, e25, e26, e36, e37, rfl⟩
    | exact ⟨g.length - (m + 1), by omega, m + 1, G8.put H.size (.map (Z8 es6 (.int .i64 l.b) (.int .i64 1))), _, B8, c8, out6 ++ [l.b], rfl, by omega, (aw7.trans (.of_le le78)).put _, Hp.put_same _ _ _, hown8.put (by rw [gm8]; intro e; cases e) _ (Hp.sees_map _ gm8 _), hnext.symm, hseen6.put l.b, e0, e5, rfl, e7, e24, e25, e26, e36, e37, rfl⟩
  intro hc3
  have hml : ¬ m < g.length := by have := of_decide_eq_false hc3; omega
  rw [List.take_of_length_le (by omega)] at hout6
  refine Yj ?_
  refine Xc (by kernel_rfl) ?_
  refine Xa (Yd Xi Xi Yk) ?_
  refine Xa (Xb rfl) ?_
  exact ⟨L.length - (j + 1), by omega, j + 1, G6, es6, A7, c7, out6, rfl, by omega, aw5.trans aw6, gm6, hown6, by rw [hout6, hout, ← Yr hjl, List.flatMap_append, onceT_append, List.flatMap_cons, List.flatMap_nil, List.append_nil, hg, ha, Zf hjl], hseen6, e0, e5, e6, e7, e24, e25, rfl⟩
  intro hc2
  have hjl : ¬ j < L.length := by have := of_decide_eq_false hc2; omega
  refine Yj ?_
  refine Xf ?_
  refine Xc (by kernel_rfl) ?_
  refine Xa (Xw Xi) ?_
  refine Xa (X4 rfl) ?_
  refine X8 ?_
  exact ⟨_, Xv (Xx rfl), Hp.le_trans leG hown.le, by rw [Zu, if_neg (by rw [hp]; omega), hp, Int.toNat_natCast, ← hL]; rw [List.take_of_length_le (by omega)] at hout; rw [← hout]; exact hown.sl⟩
end Go.Proofs.YtcaeoebphfjfiaaGreat.Am


/- Places and nodes, as keys. -/
namespace Go.Proofs.YtcaeoebphfjfiaaGreat.Am
open Go Go.RowKit
set_option maxRecDepth 100000
set_option linter.unusedVariables false
set_option linter.unusedSimpArgs false

theorem cspot_eq (i a i' a' : Int) (w : World) : (Op.equal 95 (Y7 i a) (Y7 i' a')).run Tryz.prog w = .ok (decide (i = i') && decide (a = a')) w := by
  have h := run_struct_eq (P := Tryz.prog) (xs := [.int .i64 i, .int .i64 a]) (ys := [.int .i64 i', .int .i64 a']) Tryz.underlying95 (by kernel_rfl) (fun f hf => by
    simp at hf
    rcases hf with rfl | rfl
    · exact ⟨by simp, by simp, .int Tryz.underlying3 (by decide)⟩
    · exact ⟨by simp, by simp, .int Tryz.underlying3 (by decide)⟩) w
  refine h.trans ?_
  congr 1
  rw [Bool.eq_iff_iff]
  simp [allEq, scalEq]
theorem V8 : KeyTy Tryz.prog 95 IsSpot := keyTy_struct Tryz.underlying95
  (fun {φ v v'} ⟨i, a, e⟩ h => by
    subst e
    exact VRel.agg_scal (xs := [.int .i64 i, .int .i64 a]) h (by intro v hv; simp at hv; rcases hv with rfl | rfl <;> rfl))
  (fun w em {v} ⟨i, a, e⟩ => by
    subst e
    have c : ∀ b, (Instr.checkKey em 9999 3 (.int .i64 b)).run Tryz.prog w = .ok () w := fun b => by
      show (Instr.checkKey em (9998 + 1) _ _).run _ _ = _
      unfold Instr.checkKey
      simp [run_underlying Tryz.underlying3]
    show (Instr.checkKey em (9999 + 1) _ _).run _ _ = _
    unfold Instr.checkKey
    simp [Y7, run_underlying Tryz.underlying95]
    rw [Ue Tryz.underlying3 rfl (v := .int .i64 i) rfl]
    simp only [Result.andThen_ok, c]
    rw [Ue Tryz.underlying3 rfl (v := .int .i64 a) rfl]
    simp only [Result.andThen_ok, c])
  (fun w {v} ⟨i, a, e⟩ => by
    subst e
    simp [Instr.keyThatStays, Instr.sameBits, Y7])
  (fun w {x y} ⟨i, a, e⟩ ⟨i', a', e'⟩ => by
    subst e e'
    refine ⟨_, cspot_eq i a i' a' w, ?_⟩
    rw [Bool.and_eq_true, decide_eq_true_eq, decide_eq_true_eq]
    exact ⟨fun ⟨h1, h2⟩ => by rw [h1, h2], fun h => by obtain ⟨h1, h2⟩ := Z7 h; exact ⟨h1.symm, h2.symm⟩⟩)
end Go.Proofs.YtcaeoebphfjfiaaGreat.Am


/- What counts tell of a place. -/
namespace Go.Proofs.YtcaeoebphfjfiaaGreat.Am
open Go Go.RowKit
set_option maxRecDepth 100000
set_option linter.unusedVariables false
set_option linter.unusedSimpArgs false

structure IntsM (es : List (Value × Value)) : Prop where
  keys : ∀ e ∈ es, IsSpot e.1
  vals : ∀ k v, Y0 es k = some v → ∃ n : Int, v = .int .u64 n ∧ 0 ≤ n
noncomputable def cntAt (es : List (Value × Value)) (i a : Int) : Int := match Y0 es (Y7 i a) with
  | some (.int _ n) => n
  | _ => 0
theorem IntsM.get {es : List (Value × Value)} (h : IntsM es) (i a : Int) : (Y0 es (Y7 i a)).getD (.int .u64 0) = .int .u64 (cntAt es i a) ∧ 0 ≤ cntAt es i a := by
  unfold cntAt
  cases hg : Y0 es (Y7 i a) with
  | none => exact ⟨rfl, Int.le_refl _⟩
  | some v =>
    obtain ⟨n, rfl, hn⟩ := h.vals _ _ hg
    exact ⟨rfl, hn⟩
theorem IntsM.nil : IntsM [] := ⟨fun e h => (by cases h), fun k v h => (by cases h)⟩
theorem IntsM.put {es : List (Value × Value)} (h : IntsM es) (i a n : Int) (hn : 0 ≤ n) : IntsM (Z8 es (Y7 i a) (.int .u64 n)) :=
  ⟨mapPut_keys h.keys ⟨_, _, rfl⟩, fun k v hv => by
    by_cases he : k = Y7 i a
    · subst he
      rw [Vv] at hv
      injection hv with hv
      exact ⟨n, hv.symm, hn⟩
    · rw [Zp he] at hv
      exact h.vals k v hv⟩
theorem sum_cnt {T : TreeT} (hT : GoodT T) {tb cb mb ms : Nat} {es : List (Value × Value)} {H : Hp} (hc : H.get cb = .own 0 [.pointer (some ⟨tb, 0, none⟩), .map (some mb), .map (some ms)]) (ht : TreeR H (.pointer (some ⟨tb, 0, none⟩)) T) (hm : H.get ms = .map es) (he : IntsM es) (i : Nat) (hi : i < T.vars.length) (a : Int) :
    ACalls Tryz.prog 62 #[.pointer (some ⟨cb, 0, none⟩), .int .i64 i, .int .i64 a] H (fun r H' => r = .int .u64 (cntAt es i (if T.parent.getD i 0 = -1 then -1 else a)) ∧ H' = H) := by
  refine Xu Tryz.func62 rfl rfl rfl (by simp) ?_
  refine Xf ?_
  refine Xc (by kernel_rfl) ?_
  refine Xa (Xg rfl) ?_
  refine Xf ?_
  refine Xf ?_
  refine Xc (by kernel_rfl) ?_
  refine Xa (X9 rfl) ?_
  refine Xa (Yo rfl) ?_
  refine Xa (Xh (off := 0) rfl Tryz.underlying92 rfl inf32.size (by decide) rfl) ?_
  refine Xa (Xl rfl Tryz.underlying32 rfl Xq) ?_
  refine Xa (Xb rfl) ?_
  refine X5 (X0 (Parent_tree ht hT.l1 (i : Int)) rfl Tryz.func85 rfl rfl rfl ?_)
  rintro v6 H ⟨rfl, rfl⟩; rw [if_pos ⟨by omega, by omega⟩, Int.toNat_natCast]
  refine Xa (Z0 rfl rfl) ?_
  refine X1 rfl rfl ?_ ?_
  intro hc1
  have hroot : T.parent.getD i 0 = -1 := of_decide_eq_true hc1
  have hget := (he.get i (-1)).1
  refine Xc (by kernel_rfl) ?_
  refine Xa (Xg rfl) ?_
  refine Xf ?_
  refine Xc (by kernel_rfl) ?_
  refine Xa (X9 rfl) ?_
  refine Xa (Yo rfl) ?_
  refine Xa (Xh (off := 2) rfl Tryz.underlying92 rfl inf90.size (by decide) rfl) ?_
  refine Xa (Xl rfl Tryz.underlying90 rfl Xq) ?_
  refine Xa (Xb rfl) ?_
  refine Xa (Xb rfl) ?_
  refine Xa (Zb (pl := [(0, 1), (1, 1)]) (r := [.int .i64 _, .int .i64 _]) Tryz.underlying95 inf95.zero (by decide) rfl rfl) ?_
  refine Xa (Ur hget Tryz.underlying90 V8 inf42.zero (fun φ => .int _ _) rfl rfl ⟨_, _, rfl⟩ (.inl hm) he.keys) ?_
  refine Xa (Xg rfl) ?_
  refine X8 ?_
  first
    | exact ⟨.int .u64 (cntAt es i (-1)), Xv (Xx rfl), by rw [if_pos hroot], rfl⟩
    | exact ⟨.int .u64 (cntAt es i a), Xv (Xx rfl), by rw [if_neg hroot], rfl⟩
  intro hc1
  have hroot : T.parent.getD i 0 ≠ -1 := of_decide_eq_false hc1
  have hget := (he.get i a).1
  refine X6 ?_
  refine Xf ?_
  refine Xc (by kernel_rfl) ?_
  refine Xa (X9 rfl) ?_
  refine Xa (Yo rfl) ?_
  refine Xa (Xh (off := 2) rfl Tryz.underlying92 rfl inf90.size (by decide) rfl) ?_
  refine Xa (Xl rfl Tryz.underlying90 rfl Xq) ?_
  refine Xa (Xb rfl) ?_
  refine Xa (Xb rfl) ?_
  refine Xa (Zb (pl := [(0, 1), (1, 1)]) (r := [.int .i64 _, .int .i64 _]) Tryz.underlying95 inf95.zero (by decide) rfl rfl) ?_
  refine Xa (Ur hget Tryz.underlying90 V8 inf42.zero (fun φ => .int _ _) rfl rfl ⟨_, _, rfl⟩ (.inl hm) he.keys) ?_
  refine Xa (Xg rfl) ?_
  refine X8 ?_
  first
    | exact ⟨.int .u64 (cntAt es i (-1)), Xv (Xx rfl), by rw [if_pos hroot], rfl⟩
    | exact ⟨.int .u64 (cntAt es i a), Xv (Xx rfl), by rw [if_neg hroot], rfl⟩
theorem mem_once : ∀ (xs out : List Int) (x : Int), x ∈ onceT out xs ↔ x ∈ out ∨ x ∈ xs
  | [], out, x => ⟨.inl, fun h => h.resolve_right (List.not_mem_nil)⟩
  | y :: xs, out, x => by
    show x ∈ onceT (if y ∈ out then out else out ++ [y]) xs ↔ _
    rw [mem_once xs, List.mem_cons]
    by_cases hy : y ∈ out
    · rw [if_pos hy]
      exact ⟨fun h => h.elim .inl fun h => .inr (.inr h), fun h => h.elim .inl fun h => h.elim (fun e => .inl (e ▸ hy)) .inr⟩
    · rw [if_neg hy, List.mem_append, List.mem_singleton, or_assoc]
theorem above_child {T : TreeT} (d : Nat) {i k : Nat} (hk : T.parent.getD k 0 = (i : Int)) (b : Int) : b ∈ Zu T (d + 1) k ↔ ∃ a ∈ Zu T d i, ∃ x ∈ T.group i a, x.b = b := by
  rw [Zu, if_neg (by rw [hk]; omega), hk, Int.toNat_natCast, mem_once]
  simp only [List.not_mem_nil, false_or, List.mem_flatMap, List.mem_map]
end Go.Proofs.YtcaeoebphfjfiaaGreat.Am


/- A place is counted. -/
namespace Go.Proofs.YtcaeoebphfjfiaaGreat.Am
open Go Go.RowKit
set_option maxRecDepth 100000
set_option linter.unusedVariables false
set_option linter.unusedSimpArgs false

structure FillS (T : TreeT) (K : Hp) (tb cb mb ms i : Nat) (es10 es20 : List (Value × Value)) (H : Hp) (es1 es2 : List (Value × Value)) : Prop where
  le : K.le H
  hc : H.get cb = .own 0 [.pointer (some ⟨tb, 0, none⟩), .map (some mb), .map (some ms)]
  lc : cb < H.size
  hb : H.get mb = .map es1
  lb : mb < H.size
  hs : H.get ms = .map es2
  ls : ms < H.size
  i1 : IntsM es1
  i2 : IntsM es2
  o1 : ∀ (k : Int) b, k ≠ i → Y0 es1 (Y7 k b) = Y0 es10 (Y7 k b)
  o2 : ∀ (k : Int) b, k ≠ i → Y0 es2 (Y7 k b) = Y0 es20 (Y7 k b)
  v1 : ∀ b, Y0 es1 (Y7 i b) = none ∨ (Y0 es1 (Y7 i b) = some (.int .u64 (Z6 T T.vars.length i b)) ∧ ∃ a, ∃ x ∈ T.group i a, x.b = b)
  v2 : ∀ a, Y0 es2 (Y7 i a) = none ∨ Y0 es2 (Y7 i a) = some (.int .u64 (Vq T T.vars.length i a))
theorem FillS.later {T : TreeT} {K : Hp} {tb cb mb ms i : Nat} {es10 es20 es1 es2 : List (Value × Value)} {H H' : Hp} (h : FillS T K tb cb mb ms i es10 es20 H es1 es2) (hle : H.le H') : FillS T K tb cb mb ms i es10 es20 H' es1 es2 :=
  ⟨Hp.le_trans h.le hle, Xt hle h.lc (by intro e; cases e) h.hc, Nat.lt_of_lt_of_le h.lc hle.1, Xt hle h.lb (by intro e; cases e) h.hb, Nat.lt_of_lt_of_le h.lb hle.1, Xt hle h.ls (by intro e; cases e) h.hs, Nat.lt_of_lt_of_le h.ls hle.1, h.i1, h.i2, h.o1, h.o2, h.v1, h.v2⟩
theorem bel_deep {T : TreeT} (hT : GoodT T) {d i : Nat} (h : T.vars.length ≤ d + i + 1) (b : Int) : Z6 T d i b = Z6 T (d + 1) i b :=
  foldl_same fun n k hk => by
    obtain ⟨h3, h4⟩ := kids_lt hT hk
    rw [sumT_deep hT d k b h4 (by omega)]
theorem sum_is {T : TreeT} (hT : GoodT T) {i : Nat} (hi : i < T.vars.length) (a : Int) : Vq T T.vars.length i a = (T.group i a).foldl (fun s x => addI s (Yv x.n (Z6 T T.vars.length i x.b))) 0 := by
  obtain ⟨n, hn⟩ : ∃ n, T.vars.length = n + 1 := ⟨T.vars.length - 1, by omega⟩
  rw [hn, sumT_succ]
  exact foldl_same fun s x _ => by rw [bel_deep hT (by omega)]
theorem FillS.put1 {T : TreeT} {K : Hp} {tb cb mb ms i : Nat} {es10 es20 es1 es2 : List (Value × Value)} {H : Hp} (h : FillS T K tb cb mb ms i es10 es20 H es1 es2) (zb : K.size ≤ mb) (hne : mb ≠ ms) (b : Int) (hn : 0 ≤ Z6 T T.vars.length i b) (hx : ∃ a, ∃ x ∈ T.group i a, x.b = b) : FillS T K tb cb mb ms i es10 es20 (H.put mb (.map (Z8 es1 (Y7 i b) (.int .u64 (Z6 T T.vars.length i b))))) (Z8 es1 (Y7 i b) (.int .u64 (Z6 T T.vars.length i b))) es2 := by
  have hcm : cb ≠ mb := fun e => by have := h.hc; rw [e, h.hb] at this; cases this
  refine ⟨Hp.le_put_new h.le zb _, by rw [Hp.put_other _ _ hcm]; exact h.hc, by simpa using h.lc, Hp.put_same _ _ _, by simpa using h.lb, by rw [Hp.put_other _ _ (Ne.symm hne)]; exact h.hs, by simpa using h.ls, h.i1.put _ _ _ hn, h.i2, fun k c hk => ?_, h.o2, fun c => ?_, h.v2⟩
  · rw [Zp (fun e => hk (Z7 e).1)]; exact h.o1 k c hk
  · by_cases hc : c = b
    · subst hc; exact .inr ⟨Vv, hx⟩
    · rw [Zp (fun e => hc (Z7 e).2)]; exact h.v1 c
theorem FillS.put2 {T : TreeT} {K : Hp} {tb cb mb ms i : Nat} {es10 es20 es1 es2 : List (Value × Value)} {H : Hp} (h : FillS T K tb cb mb ms i es10 es20 H es1 es2) (zs : K.size ≤ ms) (hne : mb ≠ ms) (a n : Int) (hn : 0 ≤ n) (hv : n = Vq T T.vars.length i a) : FillS T K tb cb mb ms i es10 es20 (H.put ms (.map (Z8 es2 (Y7 i a) (.int .u64 n)))) es1 (Z8 es2 (Y7 i a) (.int .u64 n)) := by
  have hcm : cb ≠ ms := fun e => by have := h.hc; rw [e, h.hs] at this; cases this
  refine ⟨Hp.le_put_new h.le zs _, by rw [Hp.put_other _ _ hcm]; exact h.hc, by simpa using h.lc, by rw [Hp.put_other _ _ hne]; exact h.hb, by simpa using h.lb, Hp.put_same _ _ _, by simpa using h.ls, h.i1, h.i2.put _ _ _ hn, h.o1, fun k c hk => ?_, h.v1, fun c => ?_⟩
  · rw [Zp (fun e => hk (Z7 e).1)]; exact h.o2 k c hk
  · by_cases hc : c = a
    · subst hc hv; exact .inr Vv
    · rw [Zp (fun e => hc (Z7 e).2)]; exact h.v2 c
theorem fold_times {α : Type} {f : α → Int} : ∀ {ks : List α} {n : Int}, 0 ≤ n → (∀ k ∈ ks, 0 ≤ f k) → 0 ≤ ks.foldl (fun n k => Yv n (f k)) n
  | [], _, h, _ => h
  | k :: ks, n, h, hf => fold_times (ks := ks) (n := Yv n (f k)) (Z2 h (hf k (by simp))).1 (fun k hk => hf k (by simp [hk]))
theorem fold_add {α : Type} {f : α → Int} : ∀ {ks : List α} {n : Int}, 0 ≤ n → (∀ k ∈ ks, 0 ≤ f k) → 0 ≤ ks.foldl (fun n k => addI n (f k)) n
  | [], _, h, _ => h
  | k :: ks, n, h, hf => fold_add (ks := ks) (n := addI n (f k)) (addI_nonneg h (hf k (by simp))) (fun k hk => hf k (by simp [hk]))
theorem Ve {T : TreeT} (hT : GoodT T) : ∀ (d i : Nat) (a : Int), 0 ≤ Vq T d i a
  | 0, _, _ => Int.le_refl _
  | d + 1, i, a => by
    rw [sumT_succ]
    exact fold_add (Int.le_refl 0) fun x hx => (Z2 (hT.group_mem hx).2.2 (fold_times (by decide) fun k _ => Ve hT d k x.b)).1
theorem belT_nonneg {T : TreeT} (hT : GoodT T) (d i : Nat) (b : Int) : 0 ≤ Z6 T d i b := fold_times (by decide) fun k _ => Ve hT d k b
end Go.Proofs.YtcaeoebphfjfiaaGreat.Am
