/- Texts that the proof rests on, part 5: lemmas for every heap that is related to a world, no condition beyond each lemma's own. -/
import Derived.Test.YtcaeoebphfjfiaaTg4
import Derived.Test.YtcaeoebphfjfiaaTg3
import Derived.Test.YtcaeoebphfjfiaaTgGrow
import Derived.Test.YtcaeoebphfjfiaaTg1
import Derived.Test.YtcaeoebphfjfiaaTgRow

/- Places of parents, groups and rows, by the document's words. -/
namespace Go.Proofs.Ytcaeoebphfjfiaa.Am
open Go Go.RowKit
set_option maxRecDepth 100000
set_option linter.unusedVariables false
set_option linter.unusedSimpArgs false

def parR (f : Forest) (i : Int) : Int := if 0 ≤ i ∧ i < f.order.length then atI f.order (par f (Zj f i.toNat)) else -1
theorem ParentR_raw (f : Forest) (cs : List Value) (i : Int) (H : Hp) (hp : kForest.rep H f cs) (hg : GoodF f) (hl : f.order.length ≤ 1000000) :
    ACalls Try.prog 24 #[.agg cs.toArray, .int .i64 i] H (fun r _ => r = .int .i64 (parR f i)) := by
  obtain ⟨v0, v1, v2, v3, v4, rfl, hs0, hs1, hs2, hs3, hs4⟩ := hp
  obtain ⟨A0, c0, rfl⟩ := hs0.shape
  obtain ⟨A1, c1, rfl⟩ := hs1.shape
  obtain ⟨A2, c2, rfl⟩ := hs2.shape
  obtain ⟨A3, c3, rfl⟩ := hs3.shape
  obtain ⟨A4, c4, rfl⟩ := hs4.shape
  have hol : f.order.length = f.vars.length := hg.l1
  have hpl : f.parent.length = f.vars.length := hg.l2
  refine Xz Try.func24 rfl rfl rfl (by simp) ?_
  refine Xf ?_
  refine Xc (by kernel_rfl) ?_
  refine X1 (Yp rfl) ?_
  refine Xa (Xl rfl) ?_
  refine Xf ?_
  refine Xf ?_
  refine Xc (by kernel_rfl) ?_
  refine Xa (Xb rfl) ?_
  refine Xa (Yx rfl rfl) ?_
  refine Xa (Xs rfl) ?_
  refine Yd rfl rfl rfl ?_ ?_
  intro hg1
  have hlow : i < 0 := of_decide_eq_true hg1
  refine Xe (Xh rfl rfl rfl hg1 rfl) ?_
  refine Xe (Xh rfl rfl rfl hg1 rfl) ?_
  refine Xe (Xh rfl rfl rfl hg1 rfl) ?_
  refine Xe (Xh rfl rfl rfl hg1 rfl) ?_
  refine Xe (Xh rfl rfl rfl hg1 rfl) ?_
  refine Xa (Xm (congrArg Value.bool hg1) rfl) ?_
  refine Yj rfl rfl ?_
  refine Xf ?_
  refine Xc (by kernel_rfl) ?_
  refine Xa (Xl rfl) ?_
  refine X7 ?_
  exact ⟨.int .i64 (-1), Xy (Xx rfl), by unfold parR; rw [if_neg (by omega)]⟩
  intro hg1
  have hlow : ¬ i < 0 := of_decide_eq_false hg1
  refine Xn (Xg rfl rfl rfl hg1) (Xb rfl) ?_
  refine Xn (Xg rfl rfl rfl hg1) (Xi (off := 1) rfl Try.underlying26 rfl inf23.size (by decide) rfl) ?_
  refine Xn (Xg rfl rfl rfl hg1) (Xk rfl Try.underlying23 rfl Xr) ?_
  refine Xn (Xg rfl rfl rfl hg1) (Yl rfl Try.underlying23) ?_
  refine Xn (Xg rfl rfl rfl hg1) (av_ge rfl rfl) ?_
  refine Xa (Xm (congrArg Value.bool hg1) rfl) ?_
  refine X4 rfl rfl ?_ ?_
  intro hc3
  have hhi : (f.order.length : Int) ≤ i := of_decide_eq_true hc3
  refine Xf ?_
  refine Xc (by kernel_rfl) ?_
  refine Xa (Xl rfl) ?_
  refine X7 ?_
  exact ⟨.int .i64 (-1), Xy (Xx rfl), by unfold parR; rw [if_neg (by omega)]⟩
  intro hc3
  have hhi : ¬ (f.order.length : Int) ≤ i := of_decide_eq_false hc3
  obtain ⟨m, rfl⟩ : ∃ m : Nat, i = m := ⟨i.toNat, by omega⟩
  have hm : m < f.order.length := by omega
  obtain ⟨hwn, hwv⟩ := hg.vAt_lt (s := m) (by omega)
  have hpr : parR f (m : Int) = atI f.order (par f (Zj f m)) := by unfold parR; rw [if_pos ⟨by omega, by omega⟩, Int.toNat_natCast]
  have leK := H.le_push (.own 0 [.slice A0 f.vars.length c0, .slice A1 f.order.length c1, .slice A2 f.parent.length c2, .slice A3 f.links.length c3, .slice A4 f.loops.length c4])
  have hs1K := hs1.mono leK.sees
  have hs2K := hs2.mono leK.sees
  refine X8 ?_
  refine Xf ?_
  refine Xf ?_
  refine Xc (by kernel_rfl) ?_
  refine Xa (Xl rfl) ?_
  refine X9 ?_
  refine Yy (fun n t H' => ∃ k : Nat, k ≤ f.order.length ∧ n = f.order.length - k ∧ H' = H.push (.own 0 [.slice A0 f.vars.length c0, .slice A1 f.order.length c1, .slice A2 f.parent.length c2, .slice A3 f.links.length c3, .slice A4 f.loops.length c4]) ∧ par f (Zj f m) ∉ f.order.take k ∧ t 1 = .int .i64 m ∧ t 2 = .pointer (some ⟨H.size, 0, none⟩) ∧ t 5 = .int .i64 k) (f.order.length) (⟨0, by omega, rfl, rfl, by simp, rfl, rfl, rfl⟩) ?_
  rintro n t _ ⟨k, hk, rfl, rfl, hno, e1, e2, e5⟩
  refine Xf ?_
  refine Xf ?_
  refine Xc (by kernel_rfl) ?_
  refine Xa (Xb Xj) ?_
  refine Xa (Xi (off := 1) Xj Try.underlying26 Xj inf23.size (by decide) Xj) ?_
  refine Xa (Xk rfl Try.underlying23 rfl Xr) ?_
  refine Xa (Yl rfl Try.underlying23) ?_
  refine Xa (Yx rfl rfl) ?_
  refine X4 rfl rfl ?_ ?_
  intro hc4
  (try simp only [decide_eq_true_eq, decide_eq_false_iff_not, Bool.not_eq_true', Bool.not_eq_false'] at hc4)
  refine X8 ?_
  refine Xf ?_
  refine X9 ?_
  refine Xf ?_
  have hkx : k < f.order.length := by omega
  obtain ⟨b, o, e6, hb, hcell1⟩ := hs1K.int_at (i := (k : Int)) (by omega) (by omega)
  obtain ⟨b', o', e6', hb', hcell1'⟩ := hs1K.int_at (i := (m : Int)) (by omega) (by omega)
  subst e6
  simp only [Option.some.injEq, Addr.mk.injEq, and_true] at e6'
  obtain ⟨rfl, rfl⟩ := e6'
  have hgi : f.order.getD (k : Int).toNat 0 = f.order[k] := by rw [Int.toNat_natCast]; exact Zg hkx
  rw [hgi] at hcell1
  rw [Int.toNat_natCast, ← hwv] at hcell1'
  obtain ⟨b2, o2, e7, hb2, hcell2⟩ := hs2K.int_at (i := ((Zj f m : Nat) : Int)) (by omega) (by omega)
  subst e7
  rw [Int.toNat_natCast] at hcell2
  simp only [Hp.push_size] at hb hb2
  refine Ys (by kernel_rfl) (Yz (B := [0, 1, 0, 7, 15, 0, 32, 0, 128, 0, 896, 1920, 4064, 8160, 16383]) (π := [0, 1, 2, 3, 4, 5, 6, 7, 8, 9, 10, 11, 12, 13, 14]) (by kernel_rfl)) ?_
  refine Xd rfl rfl (Xi (off := 1) Xj Try.underlying26 Xj inf23.size (by decide) Xj) Xp ?_
  refine Xd rfl rfl (Xk rfl Try.underlying23 rfl Xr) Xp ?_
  refine Xd rfl rfl (Xb Xj) Xp ?_
  refine Xd rfl rfl (Xo rfl rfl Try.underlying23 inf3.size Xv Xv) Xp ?_
  refine Xd rfl rfl (Xk rfl Try.underlying3 rfl Xr) Xp ?_
  refine Xd rfl rfl (Xi (off := 2) Xj Try.underlying26 Xj inf23.size (by decide) Xj) Xp ?_
  refine Xd rfl rfl (Xk rfl Try.underlying23 rfl Xr) Xp ?_
  refine Xd rfl rfl (Xi (off := 1) Xj Try.underlying26 Xj inf23.size (by decide) Xj) Xp ?_
  refine Xd rfl rfl (Xk rfl Try.underlying23 rfl Xr) Xp ?_
  refine Xd rfl rfl (Xb Xj) Xp ?_
  refine Xd rfl rfl (Xo rfl rfl Try.underlying23 inf3.size Xv Xv) Xp ?_
  refine Xd rfl rfl (Xk rfl Try.underlying3 rfl Xr) Xp ?_
  refine Xd rfl rfl (Xo rfl rfl Try.underlying23 inf3.size Xv Xv) Xp ?_
  refine Xd rfl rfl (Xk rfl Try.underlying3 rfl Xr) Xp ?_
  refine Xd rfl rfl (Zx rfl rfl) Xp ?_
  refine X4 rfl rfl ?_ ?_
  intro hc5
  have he : f.order[k] = par f (Zj f m) := of_decide_eq_true hc5
  refine Xf ?_
  refine Xc (by kernel_rfl) ?_
  refine Xa (Xb Xj) ?_
  refine Xa (Xl rfl) ?_
  refine X7 ?_
  exact ⟨.int .i64 k, Xy (Xx rfl), by rw [hpr, atI_some hkx he hno]⟩
  intro hc5
  have hne : f.order[k] ≠ par f (Zj f m) := of_decide_eq_false hc5
  refine X8 ?_
  refine Xc (by kernel_rfl) ?_
  refine Xa (Xb Xj) ?_
  refine Xa (Yc rfl rfl Yn) ?_
  refine Xa (Xl rfl) ?_
  exact ⟨f.order.length - (k + 1), by omega, k + 1, by omega, rfl, rfl, by rw [← Yv hkx]; simp only [List.mem_append, List.mem_singleton, not_or]; exact ⟨hno, fun e => hne e.symm⟩, e1, e2, rfl⟩
  intro hc4
  (try simp only [decide_eq_true_eq, decide_eq_false_iff_not, Bool.not_eq_true', Bool.not_eq_false'] at hc4)
  refine Yo ?_
  refine Xf ?_
  refine Xc (by kernel_rfl) ?_
  refine Xa (Xl rfl) ?_
  refine X7 ?_
  rw [List.take_of_length_le (by omega)] at hno
  exact ⟨.int .i64 (-1), Xy (Xx rfl), by rw [hpr, atI_none hno]⟩
theorem ParentR_ref (f : Forest) (cs : List Value) (i : Int) (H : Hp) (hp : kForest.rep H f cs) (hg : GoodF f) (hl : f.order.length ≤ 1000000) :
    ACalls Try.prog 24 #[.agg cs.toArray, .int .i64 i] H (fun r H' => r = .int .i64 (parR f i) ∧ H' = H) :=
  ACalls.pure (fun v h => by rw [h]; rfl) (ParentR_raw f cs i H.ro (kForest.mono H.sees_ro hp) hg hl)
def Zm (f : Forest) (x : Parts) (v : Nat) (above : Int) (y : Link) : Option Link :=
  if 0 ≤ par f v then
    if 0 ≤ Vf (lk x v) above y.a then some ⟨above, y.a, y.cost + ((lk x v).getD (Vf (lk x v) above y.a).toNat Zu).cost, Zb y.n ((lk x v).getD (Vf (lk x v) above y.a).toNat Zu).n⟩ else none
  else some y
def groupR (f : Forest) (x : Parts) (i above : Int) : List Link := if 0 ≤ i ∧ i < f.order.length then (nd x (Zj f i.toNat)).filterMap (Zm f x (Zj f i.toNat) above) else []
set_option maxHeartbeats 2000000 in
theorem GroupR_ref (f : Forest) (x : Parts) (cs ds : List Value) (i above : Int) (H : Hp) (hp : kForest.rep H f cs) (hq : kParts.rep H x ds) (hg : GoodF f) (hlen : Lens f.vars.length x) (hsm : Small f x) (hch : Cheap x) :
    ACalls Try.prog 25 #[.agg cs.toArray, .agg ds.toArray, .int .i64 i, .int .i64 above] H (fun r H' => H.le H' ∧ Sl kLink H' r (groupR f x i above)) := by
  obtain ⟨v0, v1, v2, v3, v4, rfl, hs0, hs1, hs2, hs3, hs4⟩ := hp
  obtain ⟨A0, c0, rfl⟩ := hs0.shape
  obtain ⟨A1, c1, rfl⟩ := hs1.shape
  obtain ⟨A2, c2, rfl⟩ := hs2.shape
  obtain ⟨A3, c3, rfl⟩ := hs3.shape
  obtain ⟨A4, c4, rfl⟩ := hs4.shape
  obtain ⟨u0, u1, rfl, hn0, hn1⟩ := hq
  obtain ⟨B0, d0, rfl⟩ := hn0.shape
  obtain ⟨B1, d1, rfl⟩ := hn1.shape
  have hol : f.order.length = f.vars.length := hg.l1
  have hpl : f.parent.length = f.vars.length := hg.l2
  have hx1 := hlen.1
  have hx2 := hlen.2
  have hs0' := hsm.s0
  refine Xz Try.func25 rfl rfl rfl (by simp) ?_
  refine Xf ?_
  refine Xc (by kernel_rfl) ?_
  refine X1 (Yp rfl) ?_
  refine X1 (Yp rfl) ?_
  refine Xa (X3 rfl) ?_
  refine Xf ?_
  refine Xc (by kernel_rfl) ?_
  first | refine X1 (Ya (r := []) Try.underlying50 inf54.size inf54.zero rfl (by decide) (by decide) (by decide) rfl) ?_
  refine Xa (X3 rfl) ?_
  refine Xf ?_
  refine Xf ?_
  refine Xc (by kernel_rfl) ?_
  refine Xa (Xb rfl) ?_
  refine Xa (Yx rfl rfl) ?_
  refine Xa (Xs rfl) ?_
  refine Yd rfl rfl rfl ?_ ?_
  intro hg1
  have hlow : i < 0 := of_decide_eq_true hg1
  refine Xe (Xh rfl rfl rfl hg1 rfl) ?_
  refine Xe (Xh rfl rfl rfl hg1 rfl) ?_
  refine Xe (Xh rfl rfl rfl hg1 rfl) ?_
  refine Xe (Xh rfl rfl rfl hg1 rfl) ?_
  refine Xe (Xh rfl rfl rfl hg1 rfl) ?_
  refine Xa (Xm (congrArg Value.bool hg1) rfl) ?_
  refine Yj rfl rfl ?_
  refine Xf ?_
  refine Xc (by kernel_rfl) ?_
  refine Xa (Xw rfl) ?_
  refine Xa (X3 rfl) ?_
  refine X7 ?_
  exact ⟨_, Xy (Xx rfl), t_le, by unfold groupR; rw [if_neg (by omega)]; exact (OwnP.lit kLink ((H.push (.own 0 [.slice A0 f.vars.length c0, .slice A1 f.order.length c1, .slice A2 f.parent.length c2, .slice A3 f.links.length c3, .slice A4 f.loops.length c4])).push (.own 0 [.slice B0 x.nodes.length d0, .slice B1 x.links.length d1]))).sl⟩
  intro hg1
  have hlow : ¬ i < 0 := of_decide_eq_false hg1
  refine Xn (Xg rfl rfl rfl hg1) (Xb rfl) ?_
  refine Xn (Xg rfl rfl rfl hg1) (Xi (off := 1) rfl Try.underlying26 rfl inf23.size (by decide) rfl) ?_
  refine Xn (Xg rfl rfl rfl hg1) (Xk rfl Try.underlying23 rfl Xr) ?_
  refine Xn (Xg rfl rfl rfl hg1) (Yl rfl Try.underlying23) ?_
  refine Xn (Xg rfl rfl rfl hg1) (av_ge rfl rfl) ?_
  refine Xa (Xm (congrArg Value.bool hg1) rfl) ?_
  refine X4 rfl rfl ?_ ?_
  intro hc3
  have hhi : (f.order.length : Int) ≤ i := of_decide_eq_true hc3
  refine Xf ?_
  refine Xc (by kernel_rfl) ?_
  refine Xa (Xw rfl) ?_
  refine Xa (X3 rfl) ?_
  refine X7 ?_
  exact ⟨_, Xy (Xx rfl), t_le, by unfold groupR; rw [if_neg (by omega)]; exact (OwnP.lit kLink ((H.push (.own 0 [.slice A0 f.vars.length c0, .slice A1 f.order.length c1, .slice A2 f.parent.length c2, .slice A3 f.links.length c3, .slice A4 f.loops.length c4])).push (.own 0 [.slice B0 x.nodes.length d0, .slice B1 x.links.length d1]))).sl⟩
  intro hc3
  have hhi : ¬ (f.order.length : Int) ≤ i := of_decide_eq_false hc3
  obtain ⟨m, rfl⟩ : ∃ m : Nat, i = m := ⟨i.toNat, by omega⟩
  have hm : m < f.order.length := by omega
  obtain ⟨hwn, hwv⟩ := hg.vAt_lt (s := m) (by omega)
  obtain ⟨w, hw⟩ : ∃ w : Nat, w = Zj f m := ⟨_, rfl⟩
  have hgr : groupR f x (m : Int) above = (nd x w).filterMap (Zm f x w above) := by unfold groupR; rw [if_pos ⟨by omega, by omega⟩, Int.toNat_natCast, ← hw]
  rw [← hw] at hwn hwv
  refine X8 ?_
  refine Xf ?_
  obtain ⟨K, hK⟩ : ∃ K, K = (H.push (.own 0 [.slice A0 f.vars.length c0, .slice A1 f.order.length c1, .slice A2 f.parent.length c2, .slice A3 f.links.length c3, .slice A4 f.loops.length c4])).push (.own 0 [.slice B0 x.nodes.length d0, .slice B1 x.links.length d1]) := ⟨_, rfl⟩
  have leK : H.le K := by rw [hK]; exact Hp.le_push' (H.le_push _) _
  have zK : K.size = H.size + 2 := by rw [hK]; simp
  have gK0 : K.get H.size = .own 0 [.slice A0 f.vars.length c0, .slice A1 f.order.length c1, .slice A2 f.parent.length c2, .slice A3 f.links.length c3, .slice A4 f.loops.length c4] := by rw [hK]; exact Yh
  have gK1 : K.get (H.size + 1) = .own 0 [.slice B0 x.nodes.length d0, .slice B1 x.links.length d1] := by rw [hK]; exact Yh
  have s1K := hs1.mono leK.sees
  have s2K := hs2.mono leK.sees
  have m0K := hn0.mono leK.sees
  have m1K := hn1.mono leK.sees
  change ACode true _ _ _ _ _ (((H.push (.own 0 [.slice A0 f.vars.length c0, .slice A1 f.order.length c1, .slice A2 f.parent.length c2, .slice A3 f.links.length c3, .slice A4 f.loops.length c4])).push (.own 0 [.slice B0 x.nodes.length d0, .slice B1 x.links.length d1])).push (.own 4 []))
  rw [← hK]
  obtain ⟨b1, o1, rfl, hb1, hcell1⟩ := s1K.int_at (i := (m : Int)) (by omega) (by omega)
  rw [Int.toNat_natCast, ← hwv] at hcell1
  have hcell1' := (K.le_push (.own 4 [])).cell1 hb1 hcell1
  have lit0 := OwnP.lit kLink K (cs := [])
  clear hK
  have gK0' := (Hp.push_old K (.own 4 []) (show H.size < K.size by omega)).trans gK0
  have gK1' := (Hp.push_old K (.own 4 []) (show H.size + 1 < K.size by omega)).trans gK1
  obtain ⟨bn, on, ks, eN, hbn, ⟨wn, rfl, hwN⟩, hcellN⟩ := m0K.elem_at (i := w) (by omega)
  subst eN
  have hcellN0 := hcellN.one
  have ndw : nd x w = x.nodes[w]'(by omega) := Yt _
  rw [← ndw] at hwN
  obtain ⟨An, cn, rfl⟩ := hwN.shape
  have hnl : (nd x w).length ≤ 1000000 := Zq hsm.s5 w
  obtain ⟨bl, ol, ks, eL, hbl, ⟨wl, rfl, hwL⟩, hcellL⟩ := m1K.elem_at (i := w) (by omega)
  subst eL
  have hcellL0 := hcellL.one
  have lkw : lk x w = x.links[w]'(by omega) := Yt _
  rw [← lkw] at hwL
  obtain ⟨Al, cl, rfl⟩ := hwL.shape
  have hll : (lk x w).length ≤ 1000000 := Zq hsm.s6 w
  obtain ⟨b2, o2, rfl, hb2, hcell2⟩ := s2K.int_at (i := (w : Int)) (by omega) (by omega)
  rw [Int.toNat_natCast] at hcell2
  have hge := hg.parent_ge hwn
  refine Xc (by kernel_rfl) ?_
  refine Xa (Xi (off := 1) rfl Try.underlying26 rfl inf23.size (by decide) rfl) ?_
  refine Xa (Xk rfl Try.underlying23 rfl Xr) ?_
  refine Xa (Xb rfl) ?_
  refine Xa (Xo rfl rfl Try.underlying23 inf3.size Xv Xv) ?_
  refine Xa (Xk rfl Try.underlying3 rfl Xr) ?_
  refine Xa (Xl rfl) ?_
  refine Xf ?_
  refine Xf ?_
  refine Xc (by kernel_rfl) ?_
  refine Xa (Xl rfl) ?_
  refine X9 ?_
  refine Yy (fun n t H' => ∃ (k : Nat) (G : Hp) (C : Option Addr) (c9 : Nat) (out : List Link), k ≤ (nd x w).length ∧ n = (nd x w).length - k ∧ K.le G ∧ out = ((nd x w).take k).filterMap (Zm f x w above) ∧ OwnP kLink G H' (.slice C out.length c9) out ∧ t 3 = .int .i64 above ∧ t 4 = .pointer (some ⟨H.size, 0, none⟩) ∧ t 5 = .pointer (some ⟨H.size + 1, 0, none⟩) ∧ t 9 = .slice C out.length c9 ∧ t 10 = .int .i64 w ∧ t 11 = .int .i64 k) ((nd x w).length) (⟨0, _, _, _, [], by omega, rfl, K.le_push _, by simp, lit0, rfl, rfl, rfl, rfl, rfl, rfl⟩) ?_
  rintro n t H1 ⟨k, G, C, c9, out, hk, rfl, leG, hout, hown, e3, e4, e5, e9, e10, e11⟩
  have leK1 := Hp.le_trans leG hown.le
  have g0 := Xu leK1 (by omega) (by intro e; cases e) gK0
  have g1 := Xu leK1 (by omega) (by intro e; cases e) gK1
  have hcN := leK1.cell1 hbn hcellN0
  have hcL := leK1.cell1 hbl hcellL0
  have hc2 := leK1.cell1 hb2 hcell2
  have zz := hown.size
  have hz := leG.1
  have hol2 : out.length ≤ k := by rw [hout]; exact Nat.le_trans (List.length_filterMap_le _ _) (by rw [List.length_take]; omega)
  refine Xf ?_
  refine Xf ?_
  refine Xc (by kernel_rfl) ?_
  refine Xa (Xb Xj) ?_
  refine Xa (Xi (off := 0) Xj Try.underlying29 Xj inf27.size (by decide) Xj) ?_
  refine Xa (Xk rfl Try.underlying27 rfl Xr) ?_
  refine Xa (Xb Xj) ?_
  refine Xa (Xo rfl rfl Try.underlying27 inf50.size Xv Xv) ?_
  refine Xa (Xk rfl Try.underlying50 rfl Xr) ?_
  refine Xa (Yl rfl Try.underlying50) ?_
  refine Xa (Yx rfl rfl) ?_
  refine X4 rfl rfl ?_ ?_
  intro hc4
  (try simp only [decide_eq_true_eq, decide_eq_false_iff_not, Bool.not_eq_true', Bool.not_eq_false'] at hc4)
  refine X8 ?_
  refine Xf ?_
  refine X9 ?_
  refine Xf ?_
  have hkx : k < (nd x w).length := by omega
  obtain ⟨bx, ox, eX, hbx, hcx⟩ := hwN.link_at hkx
  subst eX
  have hcx1 := leK1.cells hbx hcx
  obtain ⟨y, hy⟩ : ∃ y, y = (nd x w)[k] := ⟨_, rfl⟩
  rw [← hy] at hcx1
  have hym : y ∈ nd x w := by rw [hy]; exact List.getElem_mem hkx
  obtain ⟨hy0, hy1, hy2⟩ := hch.nodes w y hym
  have hnx := filterMap_next (g := Zm f x w above) hkx
  rw [← hout, ← hy] at hnx
  refine Xc (by kernel_rfl) ?_
  refine Xa (Xi (off := 0) Xj Try.underlying29 Xj inf27.size (by decide) Xj) ?_
  refine Xa (Xk rfl Try.underlying27 rfl Xr) ?_
  refine Xa (Xb Xj) ?_
  refine Xa (Xo rfl rfl Try.underlying27 inf50.size Xv Xv) ?_
  refine Xa (Xk rfl Try.underlying50 rfl Xr) ?_
  refine Xa (Xb Xj) ?_
  refine Xa (Xo rfl rfl Try.underlying50 inf54.size Xv Xv) ?_
  refine Xa (Ye (cs := [.int .i64 _, .int .i64 _, .int .i64 _, .int .u64 _]) rfl Try.underlying54 rfl inf54.size Yb) ?_
  refine X1 (Y2 (l := [.int .i64 0, .int .i64 0, .int .i64 0, .int .u64 0]) inf54.zero rfl (by decide)) ?_
  first | refine X6 (Yk (vs := [.int .i64 _, .int .i64 _, .int .i64 _, .int .u64 _]) rfl rfl inf54.size Yh Ym rfl rfl ?_)
  refine Xf ?_
  refine Xf ?_
  obtain ⟨H2, hH2⟩ : ∃ H2, H2 = (H1.push (.own 0 [.int .i64 0, .int .i64 0, .int .i64 0, .int .u64 0])).put H1.size (.own 0 [.int .i64 y.a, .int .i64 y.b, .int .i64 y.cost, .int .u64 y.n]) := ⟨_, rfl⟩
  obtain ⟨G2, hG2⟩ : ∃ G2, G2 = (G.push (.own 0 [.int .i64 0, .int .i64 0, .int .i64 0, .int .u64 0])).put H1.size (.own 0 [.int .i64 y.a, .int .i64 y.b, .int .i64 y.cost, .int .u64 y.n]) := ⟨_, rfl⟩
  have hown2 : OwnP kLink G2 H2 (.slice C out.length c9) out := by rw [hH2, hG2]; exact hown.boxed _ _
  have leG2 : K.le G2 := by rw [hG2]; exact Hp.le_put_new (Hp.le_push' leG _) (by omega) _
  have g22 : H2.get H1.size = .own 0 [.int .i64 y.a, .int .i64 y.b, .int .i64 y.cost, .int .u64 y.n] := by rw [hH2]; exact Hp.put_same _ _ _
  have kg2 : G2.get H1.size = .own 0 [.int .i64 y.a, .int .i64 y.b, .int .i64 y.cost, .int .u64 y.n] := by rw [hG2]; exact Hp.put_same _ _ _
  have z2 : H2.size = H1.size + 1 := by rw [hH2]; simp
  have zz2 := hown2.size
  have leK2 := Hp.le_trans leG2 hown2.le
  have g20 := Xu leK2 (by omega) (by intro e; cases e) gK0
  have g21 := Xu leK2 (by omega) (by intro e; cases e) gK1
  have hcL2 := leK2.cell1 hbl hcellL0
  have hc22 := leK2.cell1 hb2 hcell2
  change ACode true _ _ _ _ _ ((H1.push (.own 0 [.int .i64 0, .int .i64 0, .int .i64 0, .int .u64 0])).put H1.size (.own 0 [.int .i64 y.a, .int .i64 y.b, .int .i64 y.cost, .int .u64 y.n]))
  rw [← hH2]
  clear hH2 hG2
  refine Xc (by kernel_rfl) ?_
  refine Xa (Xi (off := 2) Xj Try.underlying26 Xj inf23.size (by decide) Xj) ?_
  refine Xa (Xk rfl Try.underlying23 rfl Xr) ?_
  refine Xa (Xb Xj) ?_
  refine Xa (Xo rfl rfl Try.underlying23 inf3.size Xv Xv) ?_
  refine Xa (Xk rfl Try.underlying3 rfl Xr) ?_
  refine Xa (av_ge rfl rfl) ?_
  refine X4 rfl rfl ?_ ?_
  intro hc5
  have hpar : 0 ≤ par f w := of_decide_eq_true hc5
  refine Xf ?_
  refine Ys (by kernel_rfl) (Yz (B := [0, 1, 0, 7, 15, 0, 0, 64, 255, 511]) (π := [0, 1, 2, 3, 4, 5, 6, 7, 8, 9]) (by kernel_rfl)) ?_
  refine Xd rfl rfl (Xi (off := 1) Xj Try.underlying29 Xj inf27.size (by decide) Xj) Xp ?_
  refine Xd rfl rfl (Xk rfl Try.underlying27 rfl Xr) Xp ?_
  refine Xd rfl rfl (Xb Xj) Xp ?_
  refine Xd rfl rfl (Xo rfl rfl Try.underlying27 inf50.size Xv Xv) Xp ?_
  refine Xd rfl rfl (Xk rfl Try.underlying50 rfl Xr) Xp ?_
  refine Xd rfl rfl (Xb Xj) Xp ?_
  refine Xd rfl rfl (Xi (off := 0) rfl Try.underlying54 rfl inf3.size (by decide) rfl) Xp ?_
  refine Xd rfl rfl (Xk rfl Try.underlying3 rfl Xr) Xp ?_
  refine Yi rfl rfl (X2 (Find_links (lk x w) _ above y.a _ (hwL.mono leK2.sees) (by omega)) rfl Try.func57 rfl rfl rfl ?_)
  rintro v8 H2 ⟨rfl, rfl⟩
  refine ⟨Yg, ?_⟩
  refine Xd rfl rfl (Xl rfl) Xp ?_
  refine Xf ?_
  refine Xf ?_
  refine Xc (by kernel_rfl) ?_
  refine Xa (Xb rfl) ?_
  refine Xa (Yx rfl rfl) ?_
  refine X4 rfl rfl ?_ ?_
  intro hc6
  have hneg : ¬ 0 ≤ Vf (lk x w) above y.a := by have := of_decide_eq_true hc6; omega
  have hone : Zm f x w above y = none := by unfold Zm; rw [if_pos hpar, if_neg hneg]
  rw [hone, Option.toList_none, List.append_nil] at hnx
  refine Yo ?_
  refine Xc (by kernel_rfl) ?_
  refine Xa (Xb Xj) ?_
  refine Xa (Yc rfl rfl Yn) ?_
  refine Xa (Xl rfl) ?_
  first
    | exact ⟨(nd x w).length - (k + 1), by omega, k + 1, G4, C', c', _, by omega, rfl, leG4, hnx.symm, hown4, e3, e4, e5, rfl, e10, rfl⟩
    | exact ⟨(nd x w).length - (k + 1), by omega, k + 1, G2, C, c9, out, by omega, rfl, leG2, hnx.symm, hown2, e3, e4, e5, e9, e10, rfl⟩
  intro hc6
  have hpos : 0 ≤ Vf (lk x w) above y.a := by have := of_decide_eq_false hc6; omega
  obtain ⟨j, hj, hjl, hja, hjb⟩ := findI_link hpos
  rw [hj]
  obtain ⟨bj, oj, eJ, hbj, hcj⟩ := hwL.link_at hjl
  subst eJ
  have hcj2 := leK2.cells hbj hcj
  obtain ⟨l, hl'⟩ : ∃ l, l = (lk x w)[j] := ⟨_, rfl⟩
  rw [← hl'] at hcj2
  have hlm : l ∈ lk x w := by rw [hl']; exact List.getElem_mem hjl
  obtain ⟨hl0, hl1, hl2⟩ := hch.links w l hlm
  have hone : Zm f x w above y = some ⟨above, y.a, y.cost + l.cost, Zb y.n l.n⟩ := by
    unfold Zm
    rw [if_pos hpar, if_pos hpos, hj, Int.toNat_natCast, List.getD_eq_getElem?_getD, List.getElem?_eq_getElem hjl, hl']; rfl
  rw [hone, Option.toList_some] at hnx
  refine X8 ?_
  refine Xf ?_
  refine Xc (by kernel_rfl) ?_
  refine Xa (Xi (off := 1) Xj Try.underlying29 Xj inf27.size (by decide) Xj) ?_
  refine Xa (Xk rfl Try.underlying27 rfl Xr) ?_
  refine Xa (Xb Xj) ?_
  refine Xa (Xo rfl rfl Try.underlying27 inf50.size Xv Xv) ?_
  refine Xa (Xk rfl Try.underlying50 rfl Xr) ?_
  refine Xa (Xb rfl) ?_
  refine Xa (Xo rfl rfl Try.underlying50 inf54.size Xv Xv) ?_
  refine Xa (Ye (cs := [.int .i64 _, .int .i64 _, .int .i64 _, .int .u64 _]) rfl Try.underlying54 rfl inf54.size Yb) ?_
  refine X1 (Y2 (l := [.int .i64 0, .int .i64 0, .int .i64 0, .int .u64 0]) inf54.zero rfl (by decide)) ?_
  first | refine X6 (Yk (vs := [.int .i64 _, .int .i64 _, .int .i64 _, .int .u64 _]) rfl rfl inf54.size Yh Ym rfl rfl ?_)
  obtain ⟨H3, hH3⟩ : ∃ H3, H3 = (H2.push (.own 0 [.int .i64 0, .int .i64 0, .int .i64 0, .int .u64 0])).put H2.size (.own 0 [.int .i64 l.a, .int .i64 l.b, .int .i64 l.cost, .int .u64 l.n]) := ⟨_, rfl⟩
  obtain ⟨G3, hG3⟩ : ∃ G3, G3 = (G2.push (.own 0 [.int .i64 0, .int .i64 0, .int .i64 0, .int .u64 0])).put H2.size (.own 0 [.int .i64 l.a, .int .i64 l.b, .int .i64 l.cost, .int .u64 l.n]) := ⟨_, rfl⟩
  have hown3 : OwnP kLink G3 H3 (.slice C out.length c9) out := by rw [hH3, hG3]; exact hown2.boxed _ _
  have leG3 : K.le G3 := by rw [hG3]; exact Hp.le_put_new (Hp.le_push' leG2 _) (by omega) _
  have g33 : H3.get H2.size = .own 0 [.int .i64 l.a, .int .i64 l.b, .int .i64 l.cost, .int .u64 l.n] := by rw [hH3]; exact Hp.put_same _ _ _
  have g32 : H3.get H1.size = .own 0 [.int .i64 y.a, .int .i64 y.b, .int .i64 y.cost, .int .u64 y.n] := by rw [hH3, Hp.put_other _ _ (by omega), Hp.push_old _ _ (by omega)]; exact g22
  have kg3 : G3.get H1.size = .own 0 [.int .i64 y.a, .int .i64 y.b, .int .i64 y.cost, .int .u64 y.n] := by rw [hG3, Hp.put_other _ _ (by omega), Hp.push_old _ _ (by omega)]; exact kg2
  have z3 : H3.size = H2.size + 1 := by rw [hH3]; simp
  have zz3 := hown3.size
  change ACode true _ _ _ _ _ ((H2.push (.own 0 [.int .i64 0, .int .i64 0, .int .i64 0, .int .u64 0])).put H2.size (.own 0 [.int .i64 l.a, .int .i64 l.b, .int .i64 l.cost, .int .u64 l.n]))
  rw [← hH3]
  clear hH3 hG3
  refine Ys (by kernel_rfl) (Yz (B := [0, 0, 2, 0, 8, 0, 32, 120, 0, 256, 0, 1024, 3840, 8191, 16383]) (π := [0, 1, 2, 3, 4, 5, 6, 7, 8, 9, 10, 11, 12, 13, 14]) (by kernel_rfl)) ?_
  refine Xd rfl rfl (Xb Xj) Xp ?_
  refine Xd rfl rfl (Xi (off := 0) rfl Try.underlying54 rfl inf3.size (by decide) rfl) Xp ?_
  refine Xd rfl rfl (Xk rfl Try.underlying3 rfl Xr) Xp ?_
  refine Xd rfl rfl (Xi (off := 2) rfl Try.underlying54 rfl inf3.size (by decide) rfl) Xp ?_
  refine Xd rfl rfl (Xk rfl Try.underlying3 rfl Xr) Xp ?_
  refine Xd rfl rfl (Xi (off := 2) rfl Try.underlying54 rfl inf3.size (by decide) rfl) Xp ?_
  refine Xd rfl rfl (Xk rfl Try.underlying3 rfl Xr) Xp ?_
  refine Xd rfl rfl (Yc rfl rfl Yn) Xp ?_
  refine Xd rfl rfl (Xi (off := 3) rfl Try.underlying54 rfl inf42.size (by decide) rfl) Xp ?_
  refine Xd rfl rfl (Xk rfl Try.underlying42 rfl Xr) Xp ?_
  refine Xd rfl rfl (Xi (off := 3) rfl Try.underlying54 rfl inf42.size (by decide) rfl) Xp ?_
  refine Xd rfl rfl (Xk rfl Try.underlying42 rfl Xr) Xp ?_
  refine Yi rfl rfl (X2 (timesR_u64 y.n l.n hy2 hl2 _) rfl Try.func33 rfl rfl rfl ?_)
  rintro v9 H3 ⟨rfl, rfl⟩
  refine ⟨Yg, ?_⟩
  refine Xd rfl rfl (Y6 (pl := [(0, 1), (1, 1), (2, 1), (3, 1)]) (r := [.int .i64 _, .int .i64 _, .int .i64 _, .int .u64 _]) Try.underlying54 inf54.zero (by decide) rfl rfl) Xp ?_
  first | refine Yi rfl rfl (Yk (vs := [.int .i64 _, .int .i64 _, .int .i64 _, .int .u64 _]) rfl rfl inf54.size Yh Ym rfl rfl ?_)
  refine ⟨Yg, ?_⟩
  refine Xc (by kernel_rfl) ?_
  refine Xa (Xw Xj) ?_
  refine Xa (Ye (cs := [.int .i64 _, .int .i64 _, .int .i64 _, .int .u64 _]) rfl Try.underlying54 rfl inf54.size Yb) ?_
  first | refine X1 (Ya (r := [.int .i64 _, .int .i64 _, .int .i64 _, .int .u64 _]) Try.underlying50 inf54.size inf54.zero rfl (by decide) (by decide) (by decide) rfl) ?_
  first
    | (have hownB := hown3.box_put kg3 [.int .i64 above, .int .i64 y.a, .int .i64 (y.cost + l.cost), .int .u64 (Zb y.n l.n)]
       refine X6 (OwnP.append (ys := [⟨above, y.a, y.cost + l.cost, Zb y.n l.n⟩]) (hownB.push _) Try.underlying50 inf54 rfl rfl rfl (Zf (k := kLink) rfl rfl hownB.size rfl) (by simp only [List.length_singleton]; omega) (by simp only [List.length_singleton]; omega) ?_)
       rintro v10 G4 H4 hle4 hown4
       have leG4 : K.le G4 := Hp.le_trans (Hp.le_push' (Hp.le_put_new leG3 (by omega) _) _) hle4)
    | (refine X6 (OwnP.append (ys := [y]) (hown2.push _) Try.underlying50 inf54 rfl rfl rfl (Zf (k := kLink) rfl rfl hown2.size rfl) (by simp only [List.length_singleton]; omega) (by simp only [List.length_singleton]; omega) ?_)
       rintro v10 G4 H4 hle4 hown4
       have leG4 : K.le G4 := Hp.le_trans (Hp.le_push' leG2 _) hle4)
  obtain ⟨C', c', e10'⟩ := hown4.shape
  subst e10'
  refine Xa (X3 rfl) ?_
  refine Xc (by kernel_rfl) ?_
  refine Xa (Xb Xj) ?_
  refine Xa (Yc rfl rfl Yn) ?_
  refine Xa (Xl rfl) ?_
  first
    | exact ⟨(nd x w).length - (k + 1), by omega, k + 1, G4, C', c', _, by omega, rfl, leG4, hnx.symm, hown4, e3, e4, e5, rfl, e10, rfl⟩
    | exact ⟨(nd x w).length - (k + 1), by omega, k + 1, G2, C, c9, out, by omega, rfl, leG2, hnx.symm, hown2, e3, e4, e5, e9, e10, rfl⟩
  intro hc5
  have hpar : ¬ 0 ≤ par f w := of_decide_eq_false hc5
  have hone : Zm f x w above y = some y := by unfold Zm; rw [if_neg hpar]
  rw [hone, Option.toList_some] at hnx
  refine X8 ?_
  refine Xc (by kernel_rfl) ?_
  refine Xa (Xw Xj) ?_
  refine Xa (Ye (cs := [.int .i64 _, .int .i64 _, .int .i64 _, .int .u64 _]) rfl Try.underlying54 rfl inf54.size Yb) ?_
  first | refine X1 (Ya (r := [.int .i64 _, .int .i64 _, .int .i64 _, .int .u64 _]) Try.underlying50 inf54.size inf54.zero rfl (by decide) (by decide) (by decide) rfl) ?_
  first
    | (have hownB := hown3.box_put kg3 [.int .i64 above, .int .i64 y.a, .int .i64 (y.cost + l.cost), .int .u64 (Zb y.n l.n)]
       refine X6 (OwnP.append (ys := [⟨above, y.a, y.cost + l.cost, Zb y.n l.n⟩]) (hownB.push _) Try.underlying50 inf54 rfl rfl rfl (Zf (k := kLink) rfl rfl hownB.size rfl) (by simp only [List.length_singleton]; omega) (by simp only [List.length_singleton]; omega) ?_)
       rintro v10 G4 H4 hle4 hown4
       have leG4 : K.le G4 := Hp.le_trans (Hp.le_push' (Hp.le_put_new leG3 (by omega) _) _) hle4)
    | (refine X6 (OwnP.append (ys := [y]) (hown2.push _) Try.underlying50 inf54 rfl rfl rfl (Zf (k := kLink) rfl rfl hown2.size rfl) (by simp only [List.length_singleton]; omega) (by simp only [List.length_singleton]; omega) ?_)
       rintro v10 G4 H4 hle4 hown4
       have leG4 : K.le G4 := Hp.le_trans (Hp.le_push' leG2 _) hle4)
  obtain ⟨C', c', e10'⟩ := hown4.shape
  subst e10'
  refine Xa (X3 rfl) ?_
  refine Xc (by kernel_rfl) ?_
  refine Xa (Xb Xj) ?_
  refine Xa (Yc rfl rfl Yn) ?_
  refine Xa (Xl rfl) ?_
  first
    | exact ⟨(nd x w).length - (k + 1), by omega, k + 1, G4, C', c', _, by omega, rfl, leG4, hnx.symm, hown4, e3, e4, e5, rfl, e10, rfl⟩
    | exact ⟨(nd x w).length - (k + 1), by omega, k + 1, G2, C, c9, out, by omega, rfl, leG2, hnx.symm, hown2, e3, e4, e5, e9, e10, rfl⟩
  intro hc4
  (try simp only [decide_eq_true_eq, decide_eq_false_iff_not, Bool.not_eq_true', Bool.not_eq_false'] at hc4)
  refine Yo ?_
  refine Xf ?_
  refine Xc (by kernel_rfl) ?_
  refine Xa (Xw Xj) ?_
  refine Xa (X3 rfl) ?_
  refine X7 ?_
  obtain rfl : k = (nd x w).length := by omega
  rw [List.take_of_length_le (Nat.le_refl _)] at hout
  exact ⟨_, Xy (Xx rfl), Hp.le_trans leK leK1, by rw [hgr, ← hout]; exact hown.sl⟩
end Go.Proofs.Ytcaeoebphfjfiaa.Am


/- What is asked of a tree holds of the trees that are made; their groups are those of the document's words. -/
namespace Go.Proofs.Ytcaeoebphfjfiaa.Am
open Go Go.RowKit
set_option maxRecDepth 100000
set_option linter.unusedVariables false
set_option linter.unusedSimpArgs false

theorem timesI_comm (a b : Int) : Zb a b = Zb b a := by unfold Zb; rw [Int.mul_comm]
theorem nodeOf_or (ns : List Link) (b : Int) : nodeOf ns b ∈ ns ∨ nodeOf ns b = Zu := by
  unfold nodeOf
  cases h : ns.find? (fun y => decide (y.a = b)) with
  | none => exact .inr rfl
  | some y => exact .inl (List.mem_of_find?_eq_some h)
theorem nodeOf_mem {ns : List Link} {y : Link} (hy : y ∈ ns) (hu : ∀ x ∈ ns, ∀ z ∈ ns, x.a = z.a → x = z) : nodeOf ns y.a = y := by
  unfold nodeOf
  cases h : ns.find? (fun z => decide (z.a = y.a)) with
  | none =>
    rw [List.find?_eq_none] at h
    have := h y hy
    simp at this
  | some z =>
    have h1 := List.find?_some h
    have h2 := List.mem_of_find?_eq_some h
    exact hu z h2 y hy (of_decide_eq_true h1)
theorem rise_ext : ∀ {xs ys : List Link}, xs.Pairwise (fun x y => x.b < y.b) → ys.Pairwise (fun x y => x.b < y.b) → (∀ l, l ∈ xs ↔ l ∈ ys) → xs = ys
  | [], [], _, _, _ => rfl
  | [], y :: ys, _, _, h => by have := (h y).2 (by simp); simp at this
  | x :: xs, [], _, _, h => by have := (h x).1 (by simp); simp at this
  | x :: xs, y :: ys, h1, h2, h => by
    obtain ⟨a1, a2⟩ := List.pairwise_cons.1 h1
    obtain ⟨b1, b2⟩ := List.pairwise_cons.1 h2
    have e : x = y := by
      have hx := (h x).1 (by simp)
      have hy := (h y).2 (by simp)
      rcases List.mem_cons.1 hx with hx | hx
      · exact hx
      · rcases List.mem_cons.1 hy with hy | hy
        · exact hy.symm
        · have := a1 y hy
          have := b1 x hx
          omega
    subst e
    rw [rise_ext a2 b2 fun l => ?_]
    constructor
    · intro hl
      rcases List.mem_cons.1 ((h l).1 (List.mem_cons_of_mem _ hl)) with e | e
      · subst e; have := a1 l hl; omega
      · exact e
    · intro hl
      rcases List.mem_cons.1 ((h l).2 (List.mem_cons_of_mem _ hl)) with e | e
      · subst e; have := b1 l hl; omega
      · exact e
theorem nd_rise {f : Forest} {x : Parts} (h : GoodP f x) {v : Nat} (hv : v < f.vars.length) : (nd x v).Pairwise fun y z => y.b < z.b :=
  List.Pairwise.imp_of_mem (R := fun y z => y.a < z.a) (fun {y z} hy hz hl => by have := (h.ok v hv).2.2.1 y hy; have := (h.ok v hv).2.2.1 z hz; omega) (goodL_strict (h.ok v hv).1 (h.ok v hv).2.2.1)
theorem tree_par {f : Forest} (x : Parts) (hg : GoodF f) {i : Nat} (hi : i < f.vars.length) : (Zp f x).parent.getD i 0 = atI f.order (par f (Zj f i)) := by
  rw [List.getD_eq_getElem?_getD, (treeOf_at x (by rw [hg.l1]; exact hi)).2.1]; rfl
theorem tree_links {f : Forest} (x : Parts) (hg : GoodF f) {i : Nat} (hi : i < f.vars.length) : (Zp f x).links.getD i [] = Yq f x (Zj f i) := by
  rw [List.getD_eq_getElem?_getD, (treeOf_at x (by rw [hg.l1]; exact hi)).2.2]; rfl
theorem at_root {f : Forest} (hg : GoodF f) {i : Nat} (hi : i < f.vars.length) : (par f (Zj f i) = -1 ∧ atI f.order (par f (Zj f i)) = -1) ∨ (0 ≤ par f (Zj f i) ∧ 0 ≤ atI f.order (par f (Zj f i)) ∧ atI f.order (par f (Zj f i)) = Zy f (par f (Zj f i)) ∧ Zy f (par f (Zj f i)) < i) := by
  have hge := hg.parent_ge (hg.vAt_lt hi).1
  change -1 ≤ par f (Zj f i) ∧ par f (Zj f i) < _ at hge
  by_cases h : par f (Zj f i) = -1
  · refine .inl ⟨h, ?_⟩
    rw [h]
    exact atI_none fun hm => by have := hg.order_in hm; omega
  · have h0 : 0 ≤ par f (Zj f i) := by omega
    obtain ⟨p1, p2⟩ := hg.pos_par hi h0
    have hm : par f (Zj f i) ∈ f.order := by
      have := hg.in_order (v := (par f (Zj f i)).toNat) (by omega)
      rwa [Int.toNat_of_nonneg h0] at this
    obtain ⟨q, hq, _⟩ := atI_take (i := f.order.length) (by rw [List.take_length]; exact hm)
    exact .inr ⟨h0, by omega, by unfold Zy; omega, p1⟩
theorem place_row {f : Forest} {x : Parts} (hG : GoodP f x) {i : Nat} (hi : i < f.vars.length) (above : Int) : (Zp f x).row i above = if par f (Zj f i) = -1 then nd x (Zj f i) else ((lk x (Zj f i)).map (Vy (nd x (Zj f i)))).filter fun l => decide (l.a = above) := by
  unfold TreeT.row
  rw [tree_par x hG.gf hi, tree_links x hG.gf hi]
  unfold Yq
  rcases at_root hG.gf hi with ⟨h1, h2⟩ | ⟨h1, h2, _⟩
  · rw [if_pos h2, if_pos h1, if_pos h1]
  · rw [if_neg (by omega), if_neg (by omega), if_neg (by omega)]
theorem row_rise {f : Forest} {x : Parts} (hG : GoodP f x) {i : Nat} (hi : i < f.vars.length) (above : Int) : ((Zp f x).row i above).Pairwise fun y z => y.b < z.b := by
  have hv := (hG.gf.vAt_lt hi).1
  rw [place_row hG hi]
  split
  · exact nd_rise hG hv
  · have h1 := (Vj.1 (hG.ok _ hv).2.1).2
    refine List.Pairwise.imp_of_mem (R := fun y z => Z7 y z = true) (fun {y z} hy hz hl => ?_) ((List.Pairwise.map (R := fun y z => Z7 y z = true) (Vy (nd x (Zj f i))) (fun a b h => h) h1).filter _)
    have e1 := of_decide_eq_true (List.mem_filter.1 hy).2
    have e2 := of_decide_eq_true (List.mem_filter.1 hz).2
    simp only [Z7, Bool.or_eq_true, Bool.and_eq_true, decide_eq_true_eq] at hl
    omega
theorem weigh_ok {f : Forest} {x : Parts} (hch : Cheap x) {v : Nat} {l : Link} (hl : l ∈ lk x v) : 0 ≤ (Vy (nd x v) l).cost ∧ (Vy (nd x v) l).cost ≤ 2000000000 ∧ 0 ≤ (Vy (nd x v) l).n := by
  obtain ⟨a1, a2, a3⟩ := hch.links v l hl
  have hb : 0 ≤ (nodeOf (nd x v) l.b).cost ∧ (nodeOf (nd x v) l.b).cost ≤ 1000000000 ∧ 0 ≤ (nodeOf (nd x v) l.b).n := by
    rcases nodeOf_or (nd x v) l.b with h | h
    · exact hch.nodes v _ h
    · rw [h]; decide
  exact ⟨by show 0 ≤ _ + _; omega, by show _ + _ ≤ _; omega, (Vz a3 hb.2.2).1⟩
theorem good_tree {f : Forest} {x : Parts} (hG : GoodP f x) (hs : Small f x) (hch : Cheap x) (hv : f.vars.length ≤ 1000) : GoodT (Zp f x) := by
  obtain ⟨t1, t2, t3⟩ := Vl (f := f) x
  have hol : f.order.length = f.vars.length := hG.gf.l1
  have mem : ∀ l ∈ (Zp f x).links, ∃ v, l = Yq f x v := fun l hl => by
    obtain ⟨v, _, rfl⟩ := List.mem_map.1 hl
    exact ⟨_, rfl⟩
  refine ⟨by omega, by omega, by omega, fun l hl => ?_, fun i hi => ?_, fun i above => ?_, fun l hl y hy => ?_⟩
  · obtain ⟨v, rfl⟩ := mem l hl
    unfold Yq
    split
    · exact Zq hs.s5 v
    · rw [List.length_map]; exact Zq hs.s6 v
  · rw [tree_par x hG.gf (by omega)]
    rcases at_root hG.gf (i := i) (by omega) with ⟨_, h2⟩ | ⟨_, h2, h3, h4⟩
    · exact .inl h2
    · exact .inr ⟨h2, by omega⟩
  · unfold TreeT.group
    split
    · exact row_rise hG (by omega) _
    · exact List.Pairwise.nil
  · obtain ⟨v, rfl⟩ := mem l hl
    unfold Yq at hy
    split at hy
    · obtain ⟨a1, a2, a3⟩ := hch.nodes v y hy
      exact ⟨a1, by omega, a3⟩
    · obtain ⟨l, hl, rfl⟩ := List.mem_map.1 hy
      exact weigh_ok (f := f) hch hl
theorem filterMap_id {α : Type} {g : α → Option α} : ∀ {xs : List α}, (∀ y ∈ xs, g y = some y) → xs.filterMap g = xs
  | [], _ => rfl
  | x :: xs, h => by rw [List.filterMap_cons, h x (by simp)]; simp only; rw [filterMap_id fun y hy => h y (by simp [hy])]
theorem group_same {f : Forest} {x : Parts} (hG : GoodP f x) (hF : ∀ v : Nat, v < f.vars.length → par f v ≠ -1 → Full f x v) (i above : Int) : (Zp f x).group i above = groupR f x i above := by
  have hol : f.order.length = f.vars.length := hG.gf.l1
  unfold TreeT.group groupR
  rw [(Vl x).1]
  split
  · rename_i hi
    have hi' : i.toNat < f.vars.length := by omega
    have hv := (hG.gf.vAt_lt hi').1
    rw [place_row hG hi']
    obtain ⟨w, hw⟩ : ∃ w, w = Zj f i.toNat := ⟨_, rfl⟩
    rw [← hw] at hv
    rw [← hw]
    have hge := hG.gf.parent_ge hv
    change -1 ≤ par f w ∧ _ at hge
    by_cases hp : par f w = -1
    · rw [if_pos hp]
      have : ∀ y ∈ nd x w, Zm f x w above y = some y := fun y _ => by unfold Zm; rw [if_neg (by omega)]
      exact (filterMap_id this).symm
    · rw [if_neg hp]
      have hful := hF w hv hp
      have huq : ∀ y ∈ nd x w, ∀ z ∈ nd x w, y.a = z.a → y = z := fun y hy z hz e => nd_uniq hG hv hy hz e
      have hr := row_rise hG hi' above
      rw [place_row hG hi', ← hw, if_neg hp] at hr
      have hone : ∀ y ∈ nd x w, ∀ m ∈ lk x w, m.a = above → m.b = y.a → Zm f x w above y = some (Vy (nd x w) m) := fun y hy m hm ha hb => by
        unfold Zm
        have hpos : 0 ≤ Vf (lk x w) above y.a := findI_ge.2 ⟨m, hm, ha, hb⟩
        obtain ⟨j, hj, hjl, hja, hjb⟩ := findI_link hpos
        have em : (lk x w)[j] = m := lk_uniq hG hv (List.getElem_mem hjl) hm (by omega) (by omega)
        rw [if_pos (by omega), if_pos hpos, hj, Int.toNat_natCast, List.getD_eq_getElem?_getD, List.getElem?_eq_getElem hjl, em]
        unfold Vy
        rw [hb, nodeOf_mem hy huq]
        simp only [Option.getD_some, Option.some.injEq]
        refine Link.ext' ha.symm rfl ?_ (timesI_comm _ _)
        show _ + _ = _ + _
        omega
      refine rise_ext hr ?_ fun l => ?_
      · have h1 := goodL_strict (hG.ok w hv).1 (hG.ok w hv).2.2.1
        refine List.Pairwise.filterMap _ (R := fun y z => y.a < z.a) (fun a a' h b hb b' hb' => ?_) h1
        have key : ∀ (y l : Link), Zm f x w above y = some l → l.b = y.a := fun y l h => by
          unfold Zm at h
          rw [if_pos (by omega)] at h
          split at h
          · injection h with h; rw [← h]
          · cases h
        rw [key _ _ hb, key _ _ hb']; exact h
      · rw [List.mem_filter, List.mem_map, List.mem_filterMap]
        constructor
        · rintro ⟨⟨m, hm, rfl⟩, ha⟩
          have ha : m.a = above := of_decide_eq_true ha
          obtain ⟨_, he⟩ := hful.ends m hm
          obtain ⟨y, hy, hya⟩ := List.mem_map.1 he
          exact ⟨y, hy, hone y hy m hm ha hya.symm⟩
        · rintro ⟨y, hy, h⟩
          have hpos : 0 ≤ Vf (lk x w) above y.a := by
            unfold Zm at h
            rw [if_pos (by omega)] at h
            by_cases hh : 0 ≤ Vf (lk x w) above y.a
            · exact hh
            · rw [if_neg hh] at h; cases h
          obtain ⟨m, hm, ha, hb⟩ := findI_ge.1 hpos
          rw [hone y hy m hm ha hb] at h
          injection h with h
          exact ⟨⟨m, hm, h⟩, by rw [← h]; exact decide_eq_true ha⟩
  · rfl
end Go.Proofs.Ytcaeoebphfjfiaa.Am


/- The rows of a tree are all rows; each of a group is in some row. -/
namespace Go.Proofs.Ytcaeoebphfjfiaa.Am
open Go Go.RowKit
set_option maxRecDepth 100000
set_option linter.unusedVariables false
set_option linter.unusedSimpArgs false

theorem findB_iff {g : List Link} (hr : g.Pairwise fun x y => x.b < y.b) {node : Int} {z : Link} : Vd g node = some z ↔ z ∈ g ∧ z.b = node := by
  constructor
  · intro h
    unfold Vd at h
    exact ⟨List.mem_of_find?_eq_some h, of_decide_eq_true (List.find?_some (p := fun (l : Link) => decide (l.b = node)) h)⟩
  · intro ⟨h1, h2⟩
    obtain ⟨i, hi, rfl⟩ := List.getElem_of_mem h1
    refine findB_some hi h2 fun j hj hl e => ?_
    have := List.pairwise_iff_getElem.1 hr j i hl hi hj
    omega
theorem group_rise {f : Forest} {x : Parts} (hG : GoodP f x) (i above : Int) : ((Zp f x).group i above).Pairwise fun y z => y.b < z.b := by
  unfold TreeT.group
  split
  · rename_i h
    have := (Vl (f := f) x).1
    have := hG.gf.l1
    exact row_rise hG (by omega) _
  · exact List.Pairwise.nil
end Go.Proofs.Ytcaeoebphfjfiaa.Am


/- Whether two parts are one, as the program judges it. -/
namespace Go.Proofs.Ytcaeoebphfjfiaa.Am
open Go Go.RowKit
set_option maxRecDepth 100000
set_option linter.unusedVariables false
set_option linter.unusedSimpArgs false

end Go.Proofs.Ytcaeoebphfjfiaa.Am


/- The exported functions of reducing. -/
namespace Go.Proofs.Ytcaeoebphfjfiaa.Am
open Go Go.RowKit
set_option maxRecDepth 100000
set_option linter.unusedVariables false
set_option linter.unusedSimpArgs false

theorem Small.fits {f : Forest} {p : Parts} (h : Small f p) (hg : GoodP f p) : Fits f.vars.length p := ⟨hg.n1, hg.n2, h.s5, h.s6⟩
def noParts : Parts := ⟨[], []⟩
theorem noParts_rep (H : Hp) : kParts.rep H noParts [.slice none 0 0, .slice none 0 0] := ⟨_, _, rfl, Sl.nil _ _, Sl.nil _ _⟩
theorem Of_parts (f : Forest) (p : Parts) (cs ds : List Value) (H : Hp) (hp : kForest.rep H f cs) (hq : kParts.rep H p ds) (hsm : Small f p) :
    ACalls Try.prog 49 #[.agg cs.toArray, .agg ds.toArray] H (fun r H' => ∃ (g : Bool) (es : List Value), (g = true ↔ GoodP f p) ∧ r = .tuple #[.agg es.toArray, .int .i64 (if g = true then 0 else 1)] ∧ kParts.rep H' (if g = true then ofP f p else noParts) es ∧ H.le H') := by
  have hp0 := hp
  have hq0 := hq
  obtain ⟨v0, v1, v2, v3, v4, rfl, hs0, hs1, hs2, hs3, hs4⟩ := hp
  obtain ⟨A0, c0, rfl⟩ := hs0.shape
  obtain ⟨A1, c1, rfl⟩ := hs1.shape
  obtain ⟨A2, c2, rfl⟩ := hs2.shape
  obtain ⟨A3, c3, rfl⟩ := hs3.shape
  obtain ⟨A4, c4, rfl⟩ := hs4.shape
  obtain ⟨u0, u1, rfl, hn0, hn1⟩ := hq
  obtain ⟨B0, d0, rfl⟩ := hn0.shape
  obtain ⟨B1, d1, rfl⟩ := hn1.shape
  refine Xz Try.func49 rfl rfl rfl (by simp) ?_
  refine Xf ?_
  refine Xc (by kernel_rfl) ?_
  refine X1 (Yp rfl) ?_
  refine X1 (Yp rfl) ?_
  refine X1 (Y2 (l := [.slice none 0 0, .slice none 0 0]) inf29.zero rfl (by decide)) ?_
  refine Xa (Xl rfl) ?_
  refine Xf ?_
  refine Xf ?_
  refine Xc (by kernel_rfl) ?_
  refine Xa (Ye (cs := [.slice _ _ _, .slice _ _ _, .slice _ _ _, .slice _ _ _, .slice _ _ _]) rfl Try.underlying26 rfl inf26.size Yb) ?_
  refine Xa (Ye (cs := [.slice _ _ _, .slice _ _ _]) rfl Try.underlying29 rfl inf29.size Yb) ?_
  refine X6 (X2 (GoodP_dom f p _ _ _ (kForest.mono Zh hp0) (kParts.mono Zh hq0) hsm) rfl Try.func77 rfl rfl rfl ?_)
  rintro v5 H5 ⟨⟨g, rfl, hg⟩, rfl⟩
  refine Xa (Zo rfl) ?_
  refine X4 rfl rfl ?_ ?_
  intro hc1
  have hgf : g = false := by simpa using hc1
  refine Xf ?_
  refine Xc (by kernel_rfl) ?_
  refine Xa (Y6 (pl := [(0, 1), (1, 1)]) (r := [.slice _ _ _, .slice _ _ _]) Try.underlying29 inf29.zero (by decide) rfl rfl) ?_
  refine X6 (Yk (vs := [.slice _ _ _, .slice _ _ _]) rfl rfl inf29.size Yh Ym rfl rfl ?_)
  refine Xa (Xl rfl) ?_
  refine X7 ?_
  subst hgf
  exact ⟨_, Zk (Y1 Xj (Y0 (cs := [_, _]) Try.underlying29 rfl inf29.size Yb)) (Xx rfl), false, [_, _], hg, rfl, noParts_rep _, Hp.le_put_new (Hp.le_push' (Hp.le_push' (H.le_push _) _) _) (by simp <;> omega) _⟩
  intro hc1
  have hgt : g = true := by simpa using hc1
  refine X8 ?_
  refine Xf ?_
  refine Xc (by kernel_rfl) ?_
  refine Xa (Ye (cs := [.slice _ _ _, .slice _ _ _, .slice _ _ _, .slice _ _ _, .slice _ _ _]) rfl Try.underlying26 rfl inf26.size Yb) ?_
  refine Xa (Ye (cs := [.slice _ _ _, .slice _ _ _]) rfl Try.underlying29 rfl inf29.size Yb) ?_
  refine X6 (X2 (of_parts f p _ _ _ (kForest.mono Zh hp0) (kParts.mono Zh hq0) (hg.1 hgt).gf (hsm.fits (hg.1 hgt)) hsm.s0) rfl Try.func78 rfl rfl rfl ?_)
  rintro v6 H6 ⟨es, rfl, hes, hle6⟩; have hz6 := hle6.1; simp only [Hp.push_size] at hz6; obtain ⟨w0, w1, rfl, hm0, hm1⟩ := hes; obtain ⟨C0, k0, rfl⟩ := hm0.shape; obtain ⟨C1, k1, rfl⟩ := hm1.shape
  refine X6 (Yk (vs := [.slice _ _ _, .slice _ _ _]) rfl rfl inf29.size Yh Ym rfl rfl ?_)
  refine Xa (Xl rfl) ?_
  refine X7 ?_
  subst hgt
  have k2 : H6.get (H.size + 2) = .own 0 [.slice none 0 0, .slice none 0 0] := Xu hle6 (by simp) (by intro e; cases e) Yh
  exact ⟨_, Zk (Y1 Xj (Y0 (cs := [_, _]) Try.underlying29 rfl inf29.size Yb)) (Xx rfl), true, [_, _], hg, rfl, ⟨_, _, rfl, hm0.mono (Hp.sees_box _ k2), hm1.mono (Hp.sees_box _ k2)⟩, Hp.le_put_new (Hp.le_trans (Hp.le_push' (Hp.le_push' (H.le_push _) _) _) hle6) (by simp <;> omega) _⟩
end Go.Proofs.Ytcaeoebphfjfiaa.Am


/- Links by the nodes at which they begin. -/
namespace Go.Proofs.Ytcaeoebphfjfiaa.Am
open Go Go.RowKit
set_option maxRecDepth 100000
set_option linter.unusedVariables false
set_option linter.unusedSimpArgs false

theorem goodL_rise {xs : List Link} (h : GoodL xs) : RiseA xs := by
  intro i j hi hj hij
  obtain ⟨d, rfl⟩ : ∃ d, j = i + d := ⟨j - i, by omega⟩
  clear hij
  induction d with
  | zero => exact Int.le_refl _
  | succ d ih =>
    have h1 := ih (by omega)
    have h2 := (h (i + (d + 1)) hj).2 (by omega)
    have e : i + (d + 1) - 1 = i + d := by omega
    simp only [e] at h2
    simp only [Z7, Bool.or_eq_true, Bool.and_eq_true, decide_eq_true_eq] at h2
    omega
theorem few_few (x : Link) : x.few.few = x.few := by
  unfold Link.few
  split
  · simp
  · first | rfl | (rename_i h; rw [if_neg h])
end Go.Proofs.Ytcaeoebphfjfiaa.Am


/- A tree is made. -/
namespace Go.Proofs.Ytcaeoebphfjfiaa.Am
open Go Go.RowKit
set_option maxRecDepth 100000
set_option linter.unusedVariables false
set_option linter.unusedSimpArgs false

set_option maxHeartbeats 4000000 in
theorem New_tree (f : Forest) (p : Parts) (cs ds : List Value) (H : Hp) (hp : kForest.rep H f cs) (hq : kParts.rep H p ds) (hsm : Small f p) (hch : GoodP f p → Cheap p) :
    ACalls Try.prog 11 #[.agg cs.toArray, .agg ds.toArray] H (fun r H' => H.le H' ∧ ∃ (g : Bool) (v : Value), (g = true ↔ GoodP f p) ∧ r = .tuple #[v, .int .i64 (if g = true then 0 else 1)] ∧ (if g = true then TreeR H' v (Zp f (ofP f p)) else v = .pointer none)) := by
  have hp0 := hp
  have hq0 := hq
  obtain ⟨v0, v1, v2, v3, v4, rfl, hs0, hs1, hs2, hs3, hs4⟩ := hp
  obtain ⟨A0, c0, rfl⟩ := hs0.shape
  obtain ⟨A1, c1, rfl⟩ := hs1.shape
  obtain ⟨A2, c2, rfl⟩ := hs2.shape
  obtain ⟨A3, c3, rfl⟩ := hs3.shape
  obtain ⟨A4, c4, rfl⟩ := hs4.shape
  obtain ⟨u0, u1, rfl, hn0, hn1⟩ := hq
  obtain ⟨B0, d0, rfl⟩ := hn0.shape
  obtain ⟨B1, d1, rfl⟩ := hn1.shape
  refine Xz Try.func11 rfl rfl rfl (by simp) ?_
  refine Xf ?_
  refine Xc (by kernel_rfl) ?_
  refine X1 (Yp rfl) ?_
  refine X1 (Yp rfl) ?_
  refine Xa (Vu rfl) ?_
  refine Xa (Xl rfl) ?_
  refine Xf ?_
  refine Xc (by kernel_rfl) ?_
  refine Xa (Ye (cs := [.slice _ _ _, .slice _ _ _, .slice _ _ _, .slice _ _ _, .slice _ _ _]) rfl Try.underlying26 rfl inf26.size Yb) ?_
  refine Xa (Ye (cs := [.slice _ _ _, .slice _ _ _]) rfl Try.underlying29 rfl inf29.size Yb) ?_
  refine X6 (X2 (Of_parts f p _ _ _ (kForest.mono Zh hp0) (kParts.mono Zh hq0) hsm) rfl Try.func49 rfl rfl rfl ?_)
  rintro v5 H5 ⟨g, es, hg, rfl, hes, hle5⟩; obtain ⟨w0, w1, rfl, hm0, hm1⟩ := hes; obtain ⟨C0, k0, rfl⟩ := hm0.shape; obtain ⟨C1, k1, rfl⟩ := hm1.shape; have hz5 := hle5.1; simp only [Hp.push_size] at hz5; have g51 : H5.get (H.size + 1) = .own 0 [.slice B0 p.nodes.length d0, .slice B1 p.links.length d1] := Xu hle5 (by simp) (by intro e; cases e) Yh
  refine Xa (Zn rfl) ?_
  refine Xa (Y4 rfl rfl) ?_
  refine Xa (Y4 rfl rfl) ?_
  refine X6 (Yk (vs := [.slice _ _ _, .slice _ _ _]) rfl rfl inf29.size Yh Ym rfl rfl ?_)
  refine Xa (Xl rfl) ?_
  refine Xf ?_
  refine Xf ?_
  refine Xc (by kernel_rfl) ?_
  refine Xa (Xb rfl) ?_
  refine Xa (Zr rfl rfl) ?_
  refine X4 rfl rfl ?_ ?_
  intro hc1
  obtain rfl : g = false := by cases g with | false => rfl | true => exact absurd hc1 (by simp)
  refine Xf ?_
  refine Xc (by kernel_rfl) ?_
  refine Xa (Xb rfl) ?_
  refine Xa (Vu rfl) ?_
  refine Xa (Xl rfl) ?_
  refine X7 ?_
  exact ⟨_, Zk (Xx rfl) (Xx rfl), Hp.le_put_new (Hp.le_trans (Hp.le_push' (H.le_push _) _) hle5) (Nat.le_succ _) _, false, .pointer none, hg, rfl, by simp⟩
  intro hc1
  obtain rfl : g = true := by cases g with | true => rfl | false => exact absurd hc1 (by simp)
  refine X8 ?_
  refine Xf ?_
  have hG := hg.1 rfl
  obtain ⟨k1', k2', k3', k4'⟩ := ofP_all hG
  have hXg := ofP_good hG
  have hcx := (hch hG).sub k2'
  simp only [if_true] at hm0 hm1
  obtain ⟨X, hX⟩ : ∃ X, X = ofP f p := ⟨_, rfl⟩
  rw [← hX] at k1' k2' k3' hXg hcx hm0 hm1
  rw [← hX]
  have hlens5 : ∀ l ∈ X.nodes, l.length ≤ 1000000 := fun l hm => by
    obtain ⟨i, hi, rfl⟩ := List.getElem_of_mem hm
    have h1 := (k2' i).1.length_le
    unfold nd at h1
    rw [Yt hi] at h1
    exact Nat.le_trans h1 (Zq hsm.s5 i)
  have hlens6 : ∀ l ∈ X.links, l.length ≤ 1000000 := fun l hm => by
    obtain ⟨i, hi, rfl⟩ := List.getElem_of_mem hm
    have h1 := (k2' i).2.length_le
    unfold lk at h1
    rw [Yt hi] at h1
    exact Nat.le_trans h1 (Zq hsm.s6 i)
  obtain ⟨T, hT⟩ : ∃ T, T = Zp f X := ⟨_, rfl⟩
  obtain ⟨tl1, tl2, tl3⟩ := Vl (f := f) X
  have tat := fun {i : Nat} (hi : i < f.order.length) => treeOf_at (f := f) X hi
  rw [← hT] at tl1 tl2 tl3
  simp only [← hT] at tat
  rw [← hT]
  obtain ⟨K, hK⟩ : ∃ K, K = H5.put (H.size + 1) (.own 0 [.slice C0 X.nodes.length k0, .slice C1 X.links.length k1]) := ⟨_, rfl⟩
  have s5K : H5.sees K := by rw [hK]; exact Hp.sees_box _ g51
  have leK : H.le K := by rw [hK]; exact Hp.le_put_new (Hp.le_trans (Hp.le_push' (H.le_push _) _) hle5) (by omega) _
  have zK : H.size + 2 ≤ K.size := by rw [hK]; simp; omega
  have gK0 : K.get H.size = .own 0 [.slice A0 f.vars.length c0, .slice A1 f.order.length c1, .slice A2 f.parent.length c2, .slice A3 f.links.length c3, .slice A4 f.loops.length c4] := by rw [hK, Hp.put_other _ _ (by omega)]; exact Xu hle5 (by simp; omega) (by intro e; cases e) Yh
  have gK1 : K.get (H.size + 1) = .own 0 [.slice C0 X.nodes.length k0, .slice C1 X.links.length k1] := by rw [hK]; exact Hp.put_same _ _ _
  have m0K := hm0.mono s5K
  have m1K := hm1.mono s5K
  have s0K := hs0.mono leK.sees
  have s1K := hs1.mono leK.sees
  have s2K := hs2.mono leK.sees
  have hol : f.order.length = f.vars.length := hG.gf.l1
  have hpl : f.parent.length = f.vars.length := hG.gf.l2
  have hs0' := hsm.s0
  have hxn := k1'.1
  have hxl := k1'.2
  change ACode true _ _ _ _ _ (H5.put (H.size + 1) (.own 0 [.slice C0 X.nodes.length k0, .slice C1 X.links.length k1]))
  rw [← hK]
  clear hK s5K hm0 hm1 hle5 g51 hz5 hn0 hn1 hq0 hp0 hs3 hs4
  refine Xc (by kernel_rfl) ?_
  refine X1 (am_makeMap) ?_
  refine Xa (Y6 (pl := [(0, 1), (1, 1), (2, 1), (3, 1)]) (r := [.slice _ _ _, .slice _ _ _, .slice _ _ _, .map _]) Try.underlying89 inf89.zero (by decide) rfl rfl) ?_
  refine X1 (Yp rfl) ?_
  refine Xa (Vu rfl) ?_
  refine Xf ?_
  refine Xf ?_
  refine Xc (by kernel_rfl) ?_
  refine Xa (Xi (off := 1) rfl Try.underlying26 rfl inf23.size (by decide) rfl) ?_
  refine Xa (Xk rfl Try.underlying23 rfl Xr) ?_
  refine Xa (Yl rfl Try.underlying23) ?_
  refine Xa (Xb rfl) ?_
  refine X9 ?_
  refine Yy (fun n t H' => ∃ (i : Nat) (G : Hp) (A B C : Value) (es : List (Value × Value)), i ≤ f.order.length ∧ n = f.order.length - i ∧ K.le G ∧ K.size + 2 ≤ G.size ∧ G.get K.size = .map es ∧ G.get (K.size + 1) = .own 0 [A, B, C, .map (some K.size)] ∧ Own3 kStr (Y3 .i64) (Z9 kLink) G H' A B C (T.vars.take i) (T.parent.take i) (T.links.take i) ∧ Spots T i es ∧ t 2 = .pointer (some ⟨H.size, 0, none⟩) ∧ t 3 = .pointer (some ⟨H.size + 1, 0, none⟩) ∧ t 7 = .pointer (some ⟨K.size + 1, 0, none⟩) ∧ t 24 = .slice A1 f.order.length c1 ∧ t 25 = .int .i64 f.order.length ∧ t 26 = .int .i64 i) (f.order.length) (⟨0, _, _, _, _, [], by omega, rfl, Hp.le_push' (K.le_push _) _, by simp, Yh, Yh, ⟨_, _, OwnP.nil _ _, OwnP.nil _ _, OwnP.nil _ _⟩, Spots.zero T, rfl, rfl, rfl, rfl, rfl, rfl⟩) ?_
  rintro n t H1 ⟨i, G, A, B, C, es, hi, rfl, leG, zG, gm, gt, hown, hsp, e2, e3, e7, e24, e25, e26⟩
  have leK1 := Hp.le_trans leG hown.le
  have zH1 := hown.size
  have zK1 := leK1.1
  refine Xf ?_
  refine Xc (by kernel_rfl) ?_
  refine Xa (Yx Xj Xj) ?_
  refine Xf ?_
  refine X4 rfl rfl ?_ ?_
  intro hc2
  (try simp only [decide_eq_true_eq, decide_eq_false_iff_not, Bool.not_eq_true', Bool.not_eq_false'] at hc2)
  refine X8 ?_
  refine Xf ?_
  refine X9 ?_
  refine Xf ?_
  have hix : i < f.order.length := by omega
  obtain ⟨b1, o1, rfl, hb1, hcell1⟩ := s1K.int_at (i := (i : Int)) (by omega) (by omega)
  rw [Int.toNat_natCast] at hcell1
  have hcell1' := leK1.cell1 hb1 hcell1
  obtain ⟨hwn, hwv⟩ := hG.gf.vAt_lt (s := i) (by omega)
  obtain ⟨w, hw⟩ : ∃ w : Nat, w = Zj f i := ⟨_, rfl⟩
  rw [← hw] at hwn hwv
  rw [← hwv] at hcell1'
  obtain ⟨tv, tp, tl⟩ := tat hix
  rw [← hw] at tv tp tl
  refine Xc (by kernel_rfl) ?_
  refine Xa (Xb Xj) ?_
  refine Xa (Xo Xj Xj Try.underlying23 inf3.size Xv Xv) ?_
  refine Xa (Xk rfl Try.underlying3 rfl Xr) ?_
  refine Xa (Xl rfl) ?_
  refine Xa (Xl rfl) ?_
  refine Xf ?_
  obtain ⟨bn, on, ks, eN, hbn, ⟨wn, rfl, hwN⟩, hcellN⟩ := m0K.elem_at (i := w) (by have := k1'.1; omega)
  subst eN
  have hcellN' := leK1.cell1 hbn hcellN.one
  have ndw : nd X w = X.nodes[w]'(by have := k1'.1; omega) := Yt _
  rw [← ndw] at hwN
  obtain ⟨An, cn, rfl⟩ := hwN.shape
  have hnl : (nd X w).length ≤ 1000000 := by rw [ndw]; exact hlens5 _ (List.getElem_mem _)
  have gH0 := Xu leK1 (by omega) (by intro e; cases e) gK0
  have gH1 := Xu leK1 (by omega) (by intro e; cases e) gK1
  refine Xc (by kernel_rfl) ?_
  refine Xa (Xi (off := 0) Xj Try.underlying29 Xj inf27.size (by decide) Xj) ?_
  refine Xa (Xk rfl Try.underlying27 rfl Xr) ?_
  refine Xa (Xb rfl) ?_
  refine Xa (Xo rfl rfl Try.underlying27 inf50.size Xv Xv) ?_
  refine Xa (Xk rfl Try.underlying50 rfl Xr) ?_
  refine Xa (X3 rfl) ?_
  refine Xf ?_
  refine Xf ?_
  obtain ⟨b2, o2, rfl, hb2, hcell2⟩ := s2K.int_at (i := (w : Int)) (by omega) (by omega)
  rw [Int.toNat_natCast] at hcell2
  have hcell2' := leK1.cell1 hb2 hcell2
  refine Xc (by kernel_rfl) ?_
  refine Xa (Xi (off := 2) Xj Try.underlying26 Xj inf23.size (by decide) Xj) ?_
  refine Xa (Xk rfl Try.underlying23 rfl Xr) ?_
  refine Xa (Xb rfl) ?_
  refine Xa (Xo rfl rfl Try.underlying23 inf3.size Xv Xv) ?_
  refine Xa (Xk rfl Try.underlying3 rfl Xr) ?_
  refine Xa (Zr rfl rfl) ?_
  refine X4 rfl rfl ?_ ?_
  intro hc3
  have hpar : par f w ≠ -1 := of_decide_eq_true hc3
  obtain ⟨bl, ol, ks, eL, hbl, ⟨wl, rfl, hwL⟩, hcellL⟩ := m1K.elem_at (i := w) (by have := k1'.2; omega)
  subst eL
  have hcellL' := leK1.cell1 hbl hcellL.one
  have lkw : lk X w = X.links[w]'(by have := k1'.2; omega) := Yt _
  rw [← lkw] at hwL
  obtain ⟨Al, cl, rfl⟩ := hwL.shape
  have hll : (lk X w).length ≤ 1000000 := by rw [lkw]; exact hlens6 _ (List.getElem_mem _)
  have hpk : Yq f X w = (lk X w).map (Vy (nd X w)) := by unfold Yq; rw [if_neg hpar]
  have hpll : (Yq f X w).length ≤ 1000000 := by rw [hpk, List.length_map]; exact hll
  have hrise : RiseA (Yq f X w) := by rw [hpk]; exact rise_weigh (goodL_rise (hXg.ok w hwn).2.1)
  refine Ys (by kernel_rfl) (Yz (B := [0, 1, 0, 7, 15, 0, 32, 0, 224, 480, 1023, 2047]) (π := [0, 1, 2, 3, 4, 5, 6, 7, 8, 9, 10, 11]) (by kernel_rfl)) ?_
  refine Xd rfl rfl (Xi (off := 1) Xj Try.underlying29 Xj inf27.size (by decide) Xj) Xp ?_
  refine Xd rfl rfl (Xk rfl Try.underlying27 rfl Xr) Xp ?_
  refine Xd rfl rfl (Xb rfl) Xp ?_
  refine Xd rfl rfl (Xo rfl rfl Try.underlying27 inf50.size Xv Xv) Xp ?_
  refine Xd rfl rfl (Xk rfl Try.underlying50 rfl Xr) Xp ?_
  refine Xd rfl rfl (Xi (off := 0) Xj Try.underlying29 Xj inf27.size (by decide) Xj) Xp ?_
  refine Xd rfl rfl (Xk rfl Try.underlying27 rfl Xr) Xp ?_
  refine Xd rfl rfl (Xb rfl) Xp ?_
  refine Xd rfl rfl (Xo rfl rfl Try.underlying27 inf50.size Xv Xv) Xp ?_
  refine Xd rfl rfl (Xk rfl Try.underlying50 rfl Xr) Xp ?_
  refine Yi rfl rfl (X2 (weighed_links (lk X w) (nd X w) _ _ _ (hwL.mono leK1.sees) (hwN.mono leK1.sees) hll hnl (goodL_strict (hXg.ok w hwn).1 (hXg.ok w hwn).2.2.1) (fun l hl => ((k3' w hwn hpar).ends l hl).2) (fun l hl => hcx.links w l hl) (fun l hl => hcx.nodes w l hl)) rfl Try.func50 rfl rfl rfl ?_)
  rintro v10 H2 ⟨Gw, hleW, hownW⟩; rw [← hpk] at hownW; obtain ⟨Aw, cw, rfl⟩ := hownW.shape; have hsl2 := hownW.sl; have hle2 := Hp.le_trans hleW hownW.le
  refine ⟨Yg, ?_⟩
  refine Xd rfl rfl (X3 rfl) Xp ?_
  refine Xf ?_
  obtain ⟨G2, hleG2, hown2⟩ := hown.later hle2
  have leG2 := Hp.le_trans leG hleG2
  have leK2 := Hp.le_trans leK1 hle2
  have g2m := Xu hleG2 (by omega) (by intro e; cases e) gm
  have g2t := Xu hleG2 (by omega) (by intro e; cases e) gt
  have z2 := hleG2.1
  have zz2 := hown2.size
  obtain ⟨Ga, hleGa, hoA, backA⟩ := (hown2.rot (stable_ints _) stable_lists).open3
  obtain ⟨AA, cA, rfl⟩ := hoA.shape
  obtain ⟨slA, slB, slC⟩ := hown2.sls
  obtain ⟨AB, cB, rfl⟩ := slB.shape
  obtain ⟨AC, cC, rfl⟩ := slC.shape
  have lenA : (T.vars.take i).length = i := by rw [List.length_take]; omega
  have lenB : (T.parent.take i).length = i := by rw [List.length_take]; omega
  have lenC : (T.links.take i).length = i := by rw [List.length_take]; omega
  have h2t := Xu hown2.le (by omega) (by intro e; cases e) g2t
  have h20 := Xu leK2 (by omega) (by intro e; cases e) gK0
  obtain ⟨bs, os, ks, eS, hbs, rfl, hcellS⟩ := s0K.elem_at (i := w) hwn
  subst eS
  have hcellS' := leK2.cell1 hbs hcellS.one
  have zoA := hoA.size
  have za := hleGa.1
  have slG2 := hown2.below (Zi _) (Zi _) (Zi _) (by decide) (by decide) (by decide) hsl2
  refine Ys (by kernel_rfl) (Yz (B := [0, 0, 2, 6, 14, 0, 32, 0, 224, 480, 992, 2046, 4095, 8191, 16383]) (π := [0, 1, 2, 3, 4, 5, 6, 7, 8, 9, 10, 11, 12, 13, 14]) (by kernel_rfl)) ?_
  refine Xd rfl rfl (Yf Xj) Xp ?_
  refine Xd rfl rfl (Yf Xj) Xp ?_
  refine Xd rfl rfl (Yu rfl) Xp ?_
  refine Xd rfl rfl (Xi (off := 0) rfl Try.underlying89 rfl inf22.size (by decide) rfl) Xp ?_
  refine Xd rfl rfl (Xk rfl Try.underlying22 rfl Xr) Xp ?_
  refine Xd rfl rfl (Xi (off := 0) Xj Try.underlying26 Xj inf22.size (by decide) Xj) Xp ?_
  refine Xd rfl rfl (Xk rfl Try.underlying22 rfl Xr) Xp ?_
  refine Xd rfl rfl (Xb rfl) Xp ?_
  refine Xd rfl rfl (Xo rfl rfl Try.underlying22 inf9.size Xv Xv) Xp ?_
  refine Xd rfl rfl (Xk rfl Try.underlying9 rfl Xr) Xp ?_
  first | refine Y8 rfl rfl (Ya (r := [.string _]) Try.underlying22 inf9.size inf9.zero rfl (by decide) (by decide) (by decide) rfl) ?_
  refine Yi rfl rfl (OwnP.append (ys := [f.vars[w]]) (hoA.push _) Try.underlying22 inf9 rfl rfl rfl (Zf (k := kStr) rfl rfl hoA.size rfl) (by rw [lenA]; simp only [List.length_singleton]; omega) (by rw [lenA]; simp only [List.length_singleton]; omega) ?_)
  rintro v3 G3 H3 hle3 hown3
  have hsameO := OwnP.sameO (hoA.push _) hle3 hown3
  have ev : f.vars.getD w ⟨#[]⟩ = f.vars[w] := by rw [List.getD_eq_getElem?_getD, List.getElem?_eq_getElem hwn]; rfl
  rw [← ev, take_at tv] at hown3
  obtain ⟨AA', cA', rfl⟩ := hown3.shape
  have hle3' := Hp.le_trans (Hp.le_push _ _) hle3
  obtain ⟨G4, hleG4, hown4⟩ := backA G3 H3 _ _ hle3' hown3
  have g4t := Xu hleG4 (by omega) (by intro e; cases e) g2t
  have h3t := Xu hown4.le (by have := hleG4.1; omega) (by intro e; cases e) g4t
  refine ⟨Yg, ?_⟩
  refine Xd rfl rfl (Yu rfl) Xp ?_
  refine Xd rfl rfl (Xi (off := 0) rfl Try.underlying89 rfl inf22.size (by decide) rfl) Xp ?_
  first | refine Yi rfl rfl (Y5 rfl rfl rfl inf22.size Yh Ym rfl ?_)
  refine ⟨Yg, ?_⟩
  refine Xf ?_
  obtain ⟨H5, hH5⟩ : ∃ H5, H5 = H3.put (K.size + 1) (.own 0 [.slice AA' (T.vars.take (i + 1)).length cA', .slice AB (T.parent.take i).length cB, .slice AC (T.links.take i).length cC, .map (some K.size)]) := ⟨_, rfl⟩
  obtain ⟨G5, hG5⟩ : ∃ G5, G5 = G4.put (K.size + 1) (.own 0 [.slice AA' (T.vars.take (i + 1)).length cA', .slice AB (T.parent.take i).length cB, .slice AC (T.links.take i).length cC, .map (some K.size)]) := ⟨_, rfl⟩
  have z4 := hleG4.1
  have hown5 := hown4.put_box (by omega) g4t [.slice AA' (T.vars.take (i + 1)).length cA', .slice AB (T.parent.take i).length cB, .slice AC (T.links.take i).length cC, .map (some K.size)]
  rw [← hG5, ← hH5] at hown5
  have leG5 : K.le G5 := by rw [hG5]; exact Hp.le_put_new (Hp.le_trans leG2 hleG4) (by omega) _
  have g5m : G5.get K.size = .map es := by rw [hG5, Hp.put_other _ _ (by omega)]; exact Xu hleG4 (by omega) (by intro e; cases e) g2m
  have g5t : G5.get (K.size + 1) = .own 0 [.slice AA' (T.vars.take (i + 1)).length cA', .slice AB (T.parent.take i).length cB, .slice AC (T.links.take i).length cC, .map (some K.size)] := by rw [hG5]; exact Hp.put_same _ _ _
  have z5 : K.size + 2 ≤ G5.size := by rw [hG5]; simp; omega
  change ACode true _ _ _ _ _ (H3.put (K.size + 1) (.own 0 [.slice AA' (T.vars.take (i + 1)).length cA', .slice AB (T.parent.take i).length cB, .slice AC (T.links.take i).length cC, .map (some K.size)]))
  rw [← hH5]
  have slG5 : Sl kLink G5 (.slice Aw (Yq f X w).length cw) (Yq f X w) := by
    rw [hG5]
    exact (slG2.mono hleG4.sees).mono (Hp.sees_box _ g4t)
  obtain ⟨Gb, hleGb, hoB, backB⟩ := (hown5.rot stable_lists (stable_strs _)).open3
  have leK5 := Hp.le_trans leG5 hown5.le
  have h5t := Xu hown5.le (by omega) (by intro e; cases e) g5t
  have h50 := Xu leK5 (by omega) (by intro e; cases e) gK0
  have hcell25 := leK5.cell1 hb2 hcell2
  have zoB := hoB.size
  have zz5 := hown5.size
  have zb := hleGb.1
  clear hH5 hG5 hsameO
  refine Ys (by kernel_rfl) (Yz (B := [0, 0, 2, 6, 14, 0, 32, 0, 128, 0, 896, 1920, 4064, 8160, 16382, 32767, 65535, 131071]) (π := [0, 1, 2, 3, 4, 5, 6, 7, 8, 9, 10, 11, 12, 13, 14, 15, 16, 17]) (by kernel_rfl)) ?_
  refine Xd rfl rfl (Yf Xj) Xp ?_
  refine Xd rfl rfl (Yf Xj) Xp ?_
  refine Xd rfl rfl (Yu rfl) Xp ?_
  refine Xd rfl rfl (Xi (off := 1) rfl Try.underlying89 rfl inf23.size (by decide) rfl) Xp ?_
  refine Xd rfl rfl (Xk rfl Try.underlying23 rfl Xr) Xp ?_
  refine Xd rfl rfl (Xi (off := 1) Xj Try.underlying26 Xj inf23.size (by decide) Xj) Xp ?_
  refine Xd rfl rfl (Xk rfl Try.underlying23 rfl Xr) Xp ?_
  refine Xd rfl rfl (Xi (off := 2) Xj Try.underlying26 Xj inf23.size (by decide) Xj) Xp ?_
  refine Xd rfl rfl (Xk rfl Try.underlying23 rfl Xr) Xp ?_
  refine Xd rfl rfl (Xb rfl) Xp ?_
  refine Xd rfl rfl (Xo rfl rfl Try.underlying23 inf3.size Xv Xv) Xp ?_
  refine Xd rfl rfl (Xk rfl Try.underlying3 rfl Xr) Xp ?_
  refine Yi rfl rfl (X2 (Index_ints f.order _ (par f w) _ (s1K.mono leK5.sees) (by omega)) rfl Try.func51 rfl rfl rfl ?_)
  rintro v6 H5 ⟨rfl, rfl⟩
  refine ⟨Yg, ?_⟩
  first | refine Y8 rfl rfl (Ya (r := [.int .i64 _]) Try.underlying23 inf3.size inf3.zero rfl (by decide) (by decide) (by decide) rfl) ?_
  refine Yi rfl rfl (OwnP.append (ys := [atI f.order (par f w)]) (hoB.push _) Try.underlying23 inf3 rfl rfl rfl (Zf (k := Y3 .i64) rfl rfl hoB.size rfl) (by rw [lenB]; simp only [List.length_singleton]; omega) (by rw [lenB]; simp only [List.length_singleton]; omega) ?_)
  rintro v7 G7 H7 hle7 hown7
  have hsameO := OwnP.sameO (hoB.push _) hle7 hown7
  rw [take_at tp] at hown7
  obtain ⟨AB', cB', rfl⟩ := hown7.shape
  have hle7' := Hp.le_trans (Hp.le_push _ _) hle7
  obtain ⟨G8, hleG8, hown8⟩ := backB G7 H7 _ _ hle7' hown7
  have g8t := Xu hleG8 (by omega) (by intro e; cases e) g5t
  have h7t := Xu hown8.le (by have := hleG8.1; omega) (by intro e; cases e) g8t
  refine ⟨Yg, ?_⟩
  refine Xd rfl rfl (Yu rfl) Xp ?_
  refine Xd rfl rfl (Xi (off := 1) rfl Try.underlying89 rfl inf23.size (by decide) rfl) Xp ?_
  first | refine Yi rfl rfl (Y5 rfl rfl rfl inf23.size Yh Ym rfl ?_)
  refine ⟨Yg, ?_⟩
  refine Xf ?_
  obtain ⟨H9, hH9⟩ : ∃ H9, H9 = H7.put (K.size + 1) (.own 0 [.slice AA' (T.vars.take (i + 1)).length cA', .slice AB' (T.parent.take (i + 1)).length cB', .slice AC (T.links.take i).length cC, .map (some K.size)]) := ⟨_, rfl⟩
  obtain ⟨G9, hG9⟩ : ∃ G9, G9 = G8.put (K.size + 1) (.own 0 [.slice AA' (T.vars.take (i + 1)).length cA', .slice AB' (T.parent.take (i + 1)).length cB', .slice AC (T.links.take i).length cC, .map (some K.size)]) := ⟨_, rfl⟩
  have z8 := hleG8.1
  have hown9 := hown8.put_box (by omega) g8t [.slice AA' (T.vars.take (i + 1)).length cA', .slice AB' (T.parent.take (i + 1)).length cB', .slice AC (T.links.take i).length cC, .map (some K.size)]
  rw [← hG9, ← hH9] at hown9
  have leG9 : K.le G9 := by rw [hG9]; exact Hp.le_put_new (Hp.le_trans leG5 hleG8) (by omega) _
  have g9m : G9.get K.size = .map es := by rw [hG9, Hp.put_other _ _ (by omega)]; exact Xu hleG8 (by omega) (by intro e; cases e) g5m
  have g9t : G9.get (K.size + 1) = .own 0 [.slice AA' (T.vars.take (i + 1)).length cA', .slice AB' (T.parent.take (i + 1)).length cB', .slice AC (T.links.take i).length cC, .map (some K.size)] := by rw [hG9]; exact Hp.put_same _ _ _
  have z9 : K.size + 2 ≤ G9.size := by rw [hG9]; simp; omega
  change ACode true _ _ _ _ _ (H7.put (K.size + 1) (.own 0 [.slice AA' (T.vars.take (i + 1)).length cA', .slice AB' (T.parent.take (i + 1)).length cB', .slice AC (T.links.take i).length cC, .map (some K.size)]))
  rw [← hH9]
  have slG9 : Sl kLink G9 (.slice Aw (Yq f X w).length cw) (Yq f X w) := by
    rw [hG9]
    exact (slG5.mono hleG8.sees).mono (Hp.sees_box _ g8t)
  have hsl9 := slG9.mono hown9.le.sees
  have h9t := Xu hown9.le (by omega) (by intro e; cases e) g9t
  have zz9 := hown9.size
  clear hH9 hG9 hsameO
  refine Ys (by kernel_rfl) (Yz (B := [0, 0, 2, 6, 14, 0, 32, 96, 254, 511, 1023, 2047]) (π := [0, 1, 2, 3, 4, 5, 6, 7, 8, 9, 10, 11]) (by kernel_rfl)) ?_
  refine Xd rfl rfl (Yf Xj) Xp ?_
  refine Xd rfl rfl (Yf Xj) Xp ?_
  refine Xd rfl rfl (Yu rfl) Xp ?_
  refine Xd rfl rfl (Xi (off := 2) rfl Try.underlying89 rfl inf27.size (by decide) rfl) Xp ?_
  refine Xd rfl rfl (Xk rfl Try.underlying27 rfl Xr) Xp ?_
  refine Xd rfl rfl (Xw rfl) Xp ?_
  refine Yi rfl rfl (X2 (Clone_links _ _ _ hsl9 hpll) rfl Try.func52 rfl rfl rfl ?_)
  rintro v10 H10 ⟨G10', hle10, hownL⟩; obtain ⟨AL, cL, rfl⟩ := hownL.shape; have hle10' := Hp.le_trans hle10 hownL.le; obtain ⟨G10, hleG10, hown10⟩ := hown9.later hle10'; have slL := hown10.below (Zi _) (Zi _) (Zi _) (by decide) (by decide) (by decide) hownL.sl; obtain ⟨Gc, hleGc, hoC, backC⟩ := (hown10.rot (stable_strs _) (stable_ints _)).open3; have slLc := slL.mono hleGc.sees; have zoC := hoC.size; have h10t := Xu hle10' (by omega) (by intro e; cases e) h9t; have z10 := hleG10.1; have zc := hleGc.1
  refine ⟨Yg, ?_⟩
  refine Y8 rfl rfl (Ya (r := [.slice _ _ _]) Try.underlying27 inf50.size inf50.zero rfl (by decide) (by decide) (by decide) rfl) ?_
  refine Yi rfl rfl (OwnP.append (ys := [Yq f X w]) (hoC.push _) Try.underlying27 inf50 rfl rfl rfl (Zf (k := Z9 kLink) ⟨_, rfl, slLc⟩ rfl hoC.size rfl) (by rw [lenC]; simp only [List.length_singleton]; omega) (by rw [lenC]; simp only [List.length_singleton]; omega) ?_)
  rintro v11 G11 H11 hle11 hown11
  have hsameO := OwnP.sameO (hoC.push _) hle11 hown11
  rw [take_at tl] at hown11
  obtain ⟨AC', cC', rfl⟩ := hown11.shape
  have hle11' := Hp.le_trans (Hp.le_push _ _) hle11
  obtain ⟨G12, hleG12, hown12⟩ := backC G11 H11 _ _ hle11' hown11
  have g10t := Xu hleG10 (by omega) (by intro e; cases e) g9t
  have g12t := Xu hleG12 (by omega) (by intro e; cases e) g10t
  have h11t := Xu hown12.le (by have := hleG12.1; omega) (by intro e; cases e) g12t
  refine ⟨Yg, ?_⟩
  refine Xd rfl rfl (Yu rfl) Xp ?_
  refine Xd rfl rfl (Xi (off := 2) rfl Try.underlying89 rfl inf27.size (by decide) rfl) Xp ?_
  first | refine Yi rfl rfl (Y5 rfl rfl rfl inf27.size Yh Ym rfl ?_)
  refine ⟨Yg, ?_⟩
  obtain ⟨H13, hH13⟩ : ∃ H13, H13 = H11.put (K.size + 1) (.own 0 [.slice AA' (T.vars.take (i + 1)).length cA', .slice AB' (T.parent.take (i + 1)).length cB', .slice AC' (T.links.take (i + 1)).length cC', .map (some K.size)]) := ⟨_, rfl⟩
  obtain ⟨G13, hG13⟩ : ∃ G13, G13 = G12.put (K.size + 1) (.own 0 [.slice AA' (T.vars.take (i + 1)).length cA', .slice AB' (T.parent.take (i + 1)).length cB', .slice AC' (T.links.take (i + 1)).length cC', .map (some K.size)]) := ⟨_, rfl⟩
  have z12 := hleG12.1
  have hown13 := hown12.put_box (by omega) g12t [.slice AA' (T.vars.take (i + 1)).length cA', .slice AB' (T.parent.take (i + 1)).length cB', .slice AC' (T.links.take (i + 1)).length cC', .map (some K.size)]
  rw [← hG13, ← hH13] at hown13
  have leG13 : K.le G13 := by rw [hG13]; exact Hp.le_put_new (Hp.le_trans leG9 (Hp.le_trans hleG10 hleG12)) (by omega) _
  have g13m : G13.get K.size = .map es := by rw [hG13, Hp.put_other _ _ (by omega)]; exact Xu (Hp.le_trans hleG10 hleG12) (by omega) (by intro e; cases e) g9m
  have g13t : G13.get (K.size + 1) = .own 0 [.slice AA' (T.vars.take (i + 1)).length cA', .slice AB' (T.parent.take (i + 1)).length cB', .slice AC' (T.links.take (i + 1)).length cC', .map (some K.size)] := by rw [hG13]; exact Hp.put_same _ _ _
  have z13 : K.size + 2 ≤ G13.size := by rw [hG13]; simp; omega
  change ACode true _ _ _ _ _ (H11.put (K.size + 1) (.own 0 [.slice AA' (T.vars.take (i + 1)).length cA', .slice AB' (T.parent.take (i + 1)).length cB', .slice AC' (T.links.take (i + 1)).length cC', .map (some K.size)]))
  rw [← hH13]
  have h13t := Xu hown13.le (by omega) (by intro e; cases e) g13t
  have h13m := Xu hown13.le (by omega) (by intro e; cases e) g13m
  have zz13 := hown13.size
  obtain ⟨sl1, sl2, sl3⟩ := hown13.sls
  clear hH13 hG13 hsameO
  have eP : (T.parent.take (i + 1)).getD i 0 = T.parent.getD i 0 := by rw [List.getD_eq_getElem?_getD, List.getD_eq_getElem?_getD, List.getElem?_take, if_pos (by omega)]
  have hiL : i < (T.links.take (i + 1)).length := by rw [List.length_take]; omega
  have eL : (T.links.take (i + 1))[i]'hiL = Yq f X w := by
    rw [List.getElem_take]
    exact (List.getElem?_eq_some_iff.1 tl).2
  have eL2 : T.links.getD i [] = Yq f X w := by rw [List.getD_eq_getElem?_getD, tl]; rfl
  refine Xc (by kernel_rfl) ?_
  refine Xa (Yf Xj) ?_
  refine Xa (Xb rfl) ?_
  refine X6 (X2 (group_tree (b := K.size + 1) (mb := K.size) (by omega) (by omega) h13t sl2 sl3 h13m i hiL (by rw [List.length_take]; omega) (by rw [eL]; exact hpll) (fun _ => by rw [eL]; exact hrise) hsp.keys (fun a => hsp.none i a (Nat.le_refl _))) rfl Try.func53 rfl rfl rfl ?_)
  rintro v14 H14 ⟨es', rfl, hes'⟩
  refine Xc (by kernel_rfl) ?_
  refine Xa (Yc Xj Xj Yn) ?_
  refine Xa (Xb rfl) ?_
  refine ⟨f.order.length - (i + 1), by omega, i + 1, G13.put K.size (.map es'), _, _, _, es', by omega, rfl, Hp.le_put_new leG13 (Nat.le_refl _) _, by simp; omega, Hp.put_same _ _ _, by rw [Hp.put_other _ _ (by omega)]; exact g13t, hown13.put_map (by omega) g13m es', hsp.step ?_, e2, e3, e7, e24, e25, rfl⟩
  rw [eP, eL] at hes'
  rw [eL2]
  exact hes'
  intro hc3
  have hpar : par f w = -1 := Decidable.not_not.1 (of_decide_eq_false hc3)
  have hpk : Yq f X w = nd X w := by unfold Yq; rw [if_pos hpar]
  have hpll : (Yq f X w).length ≤ 1000000 := by rw [hpk]; exact hnl
  have hrise : RiseA (Yq f X w) := by rw [hpk]; exact goodL_rise (hXg.ok w hwn).1
  obtain ⟨w10, hw10⟩ : ∃ w10, w10 = Value.slice An (nd X w).length cn := ⟨_, rfl⟩
  have hle2 := Hp.le_refl H1
  have hsl2 : Sl kLink H1 (.slice An (Yq f X w).length cn) (Yq f X w) := by rw [hpk]; exact hwN.mono leK1.sees
  rw [← hpk]
  obtain ⟨H2, e2'⟩ : ∃ H2, H2 = H1 := ⟨_, rfl⟩
  subst e2'
  obtain ⟨Aw, cw, eAw, eCw⟩ : ∃ Aw cw, Aw = An ∧ cw = cn := ⟨_, _, rfl, rfl⟩
  subst eAw
  subst eCw
  refine X8 ?_
  refine Xf ?_
  obtain ⟨G2, hleG2, hown2⟩ := hown.later hle2
  have leG2 := Hp.le_trans leG hleG2
  have leK2 := Hp.le_trans leK1 hle2
  have g2m := Xu hleG2 (by omega) (by intro e; cases e) gm
  have g2t := Xu hleG2 (by omega) (by intro e; cases e) gt
  have z2 := hleG2.1
  have zz2 := hown2.size
  obtain ⟨Ga, hleGa, hoA, backA⟩ := (hown2.rot (stable_ints _) stable_lists).open3
  obtain ⟨AA, cA, rfl⟩ := hoA.shape
  obtain ⟨slA, slB, slC⟩ := hown2.sls
  obtain ⟨AB, cB, rfl⟩ := slB.shape
  obtain ⟨AC, cC, rfl⟩ := slC.shape
  have lenA : (T.vars.take i).length = i := by rw [List.length_take]; omega
  have lenB : (T.parent.take i).length = i := by rw [List.length_take]; omega
  have lenC : (T.links.take i).length = i := by rw [List.length_take]; omega
  have h2t := Xu hown2.le (by omega) (by intro e; cases e) g2t
  have h20 := Xu leK2 (by omega) (by intro e; cases e) gK0
  obtain ⟨bs, os, ks, eS, hbs, rfl, hcellS⟩ := s0K.elem_at (i := w) hwn
  subst eS
  have hcellS' := leK2.cell1 hbs hcellS.one
  have zoA := hoA.size
  have za := hleGa.1
  have slG2 := hown2.below (Zi _) (Zi _) (Zi _) (by decide) (by decide) (by decide) hsl2
  refine Ys (by kernel_rfl) (Yz (B := [0, 0, 2, 6, 14, 0, 32, 0, 224, 480, 992, 2046, 4095, 8191, 16383]) (π := [0, 1, 2, 3, 4, 5, 6, 7, 8, 9, 10, 11, 12, 13, 14]) (by kernel_rfl)) ?_
  refine Xd rfl rfl (Yf Xj) Xp ?_
  refine Xd rfl rfl (Yf Xj) Xp ?_
  refine Xd rfl rfl (Yu rfl) Xp ?_
  refine Xd rfl rfl (Xi (off := 0) rfl Try.underlying89 rfl inf22.size (by decide) rfl) Xp ?_
  refine Xd rfl rfl (Xk rfl Try.underlying22 rfl Xr) Xp ?_
  refine Xd rfl rfl (Xi (off := 0) Xj Try.underlying26 Xj inf22.size (by decide) Xj) Xp ?_
  refine Xd rfl rfl (Xk rfl Try.underlying22 rfl Xr) Xp ?_
  refine Xd rfl rfl (Xb rfl) Xp ?_
  refine Xd rfl rfl (Xo rfl rfl Try.underlying22 inf9.size Xv Xv) Xp ?_
  refine Xd rfl rfl (Xk rfl Try.underlying9 rfl Xr) Xp ?_
  first | refine Y8 rfl rfl (Ya (r := [.string _]) Try.underlying22 inf9.size inf9.zero rfl (by decide) (by decide) (by decide) rfl) ?_
  refine Yi rfl rfl (OwnP.append (ys := [f.vars[w]]) (hoA.push _) Try.underlying22 inf9 rfl rfl rfl (Zf (k := kStr) rfl rfl hoA.size rfl) (by rw [lenA]; simp only [List.length_singleton]; omega) (by rw [lenA]; simp only [List.length_singleton]; omega) ?_)
  rintro v3 G3 H3 hle3 hown3
  have hsameO := OwnP.sameO (hoA.push _) hle3 hown3
  have ev : f.vars.getD w ⟨#[]⟩ = f.vars[w] := by rw [List.getD_eq_getElem?_getD, List.getElem?_eq_getElem hwn]; rfl
  rw [← ev, take_at tv] at hown3
  obtain ⟨AA', cA', rfl⟩ := hown3.shape
  have hle3' := Hp.le_trans (Hp.le_push _ _) hle3
  obtain ⟨G4, hleG4, hown4⟩ := backA G3 H3 _ _ hle3' hown3
  have g4t := Xu hleG4 (by omega) (by intro e; cases e) g2t
  have h3t := Xu hown4.le (by have := hleG4.1; omega) (by intro e; cases e) g4t
  refine ⟨Yg, ?_⟩
  refine Xd rfl rfl (Yu rfl) Xp ?_
  refine Xd rfl rfl (Xi (off := 0) rfl Try.underlying89 rfl inf22.size (by decide) rfl) Xp ?_
  first | refine Yi rfl rfl (Y5 rfl rfl rfl inf22.size Yh Ym rfl ?_)
  refine ⟨Yg, ?_⟩
  refine Xf ?_
  obtain ⟨H5, hH5⟩ : ∃ H5, H5 = H3.put (K.size + 1) (.own 0 [.slice AA' (T.vars.take (i + 1)).length cA', .slice AB (T.parent.take i).length cB, .slice AC (T.links.take i).length cC, .map (some K.size)]) := ⟨_, rfl⟩
  obtain ⟨G5, hG5⟩ : ∃ G5, G5 = G4.put (K.size + 1) (.own 0 [.slice AA' (T.vars.take (i + 1)).length cA', .slice AB (T.parent.take i).length cB, .slice AC (T.links.take i).length cC, .map (some K.size)]) := ⟨_, rfl⟩
  have z4 := hleG4.1
  have hown5 := hown4.put_box (by omega) g4t [.slice AA' (T.vars.take (i + 1)).length cA', .slice AB (T.parent.take i).length cB, .slice AC (T.links.take i).length cC, .map (some K.size)]
  rw [← hG5, ← hH5] at hown5
  have leG5 : K.le G5 := by rw [hG5]; exact Hp.le_put_new (Hp.le_trans leG2 hleG4) (by omega) _
  have g5m : G5.get K.size = .map es := by rw [hG5, Hp.put_other _ _ (by omega)]; exact Xu hleG4 (by omega) (by intro e; cases e) g2m
  have g5t : G5.get (K.size + 1) = .own 0 [.slice AA' (T.vars.take (i + 1)).length cA', .slice AB (T.parent.take i).length cB, .slice AC (T.links.take i).length cC, .map (some K.size)] := by rw [hG5]; exact Hp.put_same _ _ _
  have z5 : K.size + 2 ≤ G5.size := by rw [hG5]; simp; omega
  change ACode true _ _ _ _ _ (H3.put (K.size + 1) (.own 0 [.slice AA' (T.vars.take (i + 1)).length cA', .slice AB (T.parent.take i).length cB, .slice AC (T.links.take i).length cC, .map (some K.size)]))
  rw [← hH5]
  have slG5 : Sl kLink G5 (.slice Aw (Yq f X w).length cw) (Yq f X w) := by
    rw [hG5]
    exact (slG2.mono hleG4.sees).mono (Hp.sees_box _ g4t)
  obtain ⟨Gb, hleGb, hoB, backB⟩ := (hown5.rot stable_lists (stable_strs _)).open3
  have leK5 := Hp.le_trans leG5 hown5.le
  have h5t := Xu hown5.le (by omega) (by intro e; cases e) g5t
  have h50 := Xu leK5 (by omega) (by intro e; cases e) gK0
  have hcell25 := leK5.cell1 hb2 hcell2
  have zoB := hoB.size
  have zz5 := hown5.size
  have zb := hleGb.1
  clear hH5 hG5 hsameO
  refine Ys (by kernel_rfl) (Yz (B := [0, 0, 2, 6, 14, 0, 32, 0, 128, 0, 896, 1920, 4064, 8160, 16382, 32767, 65535, 131071]) (π := [0, 1, 2, 3, 4, 5, 6, 7, 8, 9, 10, 11, 12, 13, 14, 15, 16, 17]) (by kernel_rfl)) ?_
  refine Xd rfl rfl (Yf Xj) Xp ?_
  refine Xd rfl rfl (Yf Xj) Xp ?_
  refine Xd rfl rfl (Yu rfl) Xp ?_
  refine Xd rfl rfl (Xi (off := 1) rfl Try.underlying89 rfl inf23.size (by decide) rfl) Xp ?_
  refine Xd rfl rfl (Xk rfl Try.underlying23 rfl Xr) Xp ?_
  refine Xd rfl rfl (Xi (off := 1) Xj Try.underlying26 Xj inf23.size (by decide) Xj) Xp ?_
  refine Xd rfl rfl (Xk rfl Try.underlying23 rfl Xr) Xp ?_
  refine Xd rfl rfl (Xi (off := 2) Xj Try.underlying26 Xj inf23.size (by decide) Xj) Xp ?_
  refine Xd rfl rfl (Xk rfl Try.underlying23 rfl Xr) Xp ?_
  refine Xd rfl rfl (Xb rfl) Xp ?_
  refine Xd rfl rfl (Xo rfl rfl Try.underlying23 inf3.size Xv Xv) Xp ?_
  refine Xd rfl rfl (Xk rfl Try.underlying3 rfl Xr) Xp ?_
  refine Yi rfl rfl (X2 (Index_ints f.order _ (par f w) _ (s1K.mono leK5.sees) (by omega)) rfl Try.func51 rfl rfl rfl ?_)
  rintro v6 H5 ⟨rfl, rfl⟩
  refine ⟨Yg, ?_⟩
  first | refine Y8 rfl rfl (Ya (r := [.int .i64 _]) Try.underlying23 inf3.size inf3.zero rfl (by decide) (by decide) (by decide) rfl) ?_
  refine Yi rfl rfl (OwnP.append (ys := [atI f.order (par f w)]) (hoB.push _) Try.underlying23 inf3 rfl rfl rfl (Zf (k := Y3 .i64) rfl rfl hoB.size rfl) (by rw [lenB]; simp only [List.length_singleton]; omega) (by rw [lenB]; simp only [List.length_singleton]; omega) ?_)
  rintro v7 G7 H7 hle7 hown7
  have hsameO := OwnP.sameO (hoB.push _) hle7 hown7
  rw [take_at tp] at hown7
  obtain ⟨AB', cB', rfl⟩ := hown7.shape
  have hle7' := Hp.le_trans (Hp.le_push _ _) hle7
  obtain ⟨G8, hleG8, hown8⟩ := backB G7 H7 _ _ hle7' hown7
  have g8t := Xu hleG8 (by omega) (by intro e; cases e) g5t
  have h7t := Xu hown8.le (by have := hleG8.1; omega) (by intro e; cases e) g8t
  refine ⟨Yg, ?_⟩
  refine Xd rfl rfl (Yu rfl) Xp ?_
  refine Xd rfl rfl (Xi (off := 1) rfl Try.underlying89 rfl inf23.size (by decide) rfl) Xp ?_
  first | refine Yi rfl rfl (Y5 rfl rfl rfl inf23.size Yh Ym rfl ?_)
  refine ⟨Yg, ?_⟩
  refine Xf ?_
  obtain ⟨H9, hH9⟩ : ∃ H9, H9 = H7.put (K.size + 1) (.own 0 [.slice AA' (T.vars.take (i + 1)).length cA', .slice AB' (T.parent.take (i + 1)).length cB', .slice AC (T.links.take i).length cC, .map (some K.size)]) := ⟨_, rfl⟩
  obtain ⟨G9, hG9⟩ : ∃ G9, G9 = G8.put (K.size + 1) (.own 0 [.slice AA' (T.vars.take (i + 1)).length cA', .slice AB' (T.parent.take (i + 1)).length cB', .slice AC (T.links.take i).length cC, .map (some K.size)]) := ⟨_, rfl⟩
  have z8 := hleG8.1
  have hown9 := hown8.put_box (by omega) g8t [.slice AA' (T.vars.take (i + 1)).length cA', .slice AB' (T.parent.take (i + 1)).length cB', .slice AC (T.links.take i).length cC, .map (some K.size)]
  rw [← hG9, ← hH9] at hown9
  have leG9 : K.le G9 := by rw [hG9]; exact Hp.le_put_new (Hp.le_trans leG5 hleG8) (by omega) _
  have g9m : G9.get K.size = .map es := by rw [hG9, Hp.put_other _ _ (by omega)]; exact Xu hleG8 (by omega) (by intro e; cases e) g5m
  have g9t : G9.get (K.size + 1) = .own 0 [.slice AA' (T.vars.take (i + 1)).length cA', .slice AB' (T.parent.take (i + 1)).length cB', .slice AC (T.links.take i).length cC, .map (some K.size)] := by rw [hG9]; exact Hp.put_same _ _ _
  have z9 : K.size + 2 ≤ G9.size := by rw [hG9]; simp; omega
  change ACode true _ _ _ _ _ (H7.put (K.size + 1) (.own 0 [.slice AA' (T.vars.take (i + 1)).length cA', .slice AB' (T.parent.take (i + 1)).length cB', .slice AC (T.links.take i).length cC, .map (some K.size)]))
  rw [← hH9]
  have slG9 : Sl kLink G9 (.slice Aw (Yq f X w).length cw) (Yq f X w) := by
    rw [hG9]
    exact (slG5.mono hleG8.sees).mono (Hp.sees_box _ g8t)
  have hsl9 := slG9.mono hown9.le.sees
  have h9t := Xu hown9.le (by omega) (by intro e; cases e) g9t
  have zz9 := hown9.size
  clear hH9 hG9 hsameO
  refine Ys (by kernel_rfl) (Yz (B := [0, 0, 2, 6, 14, 0, 32, 96, 254, 511, 1023, 2047]) (π := [0, 1, 2, 3, 4, 5, 6, 7, 8, 9, 10, 11]) (by kernel_rfl)) ?_
  refine Xd rfl rfl (Yf Xj) Xp ?_
  refine Xd rfl rfl (Yf Xj) Xp ?_
  refine Xd rfl rfl (Yu rfl) Xp ?_
  refine Xd rfl rfl (Xi (off := 2) rfl Try.underlying89 rfl inf27.size (by decide) rfl) Xp ?_
  refine Xd rfl rfl (Xk rfl Try.underlying27 rfl Xr) Xp ?_
  refine Xd rfl rfl (Xw rfl) Xp ?_
  refine Yi rfl rfl (X2 (Clone_links _ _ _ hsl9 hpll) rfl Try.func52 rfl rfl rfl ?_)
  rintro v10 H10 ⟨G10', hle10, hownL⟩; obtain ⟨AL, cL, rfl⟩ := hownL.shape; have hle10' := Hp.le_trans hle10 hownL.le; obtain ⟨G10, hleG10, hown10⟩ := hown9.later hle10'; have slL := hown10.below (Zi _) (Zi _) (Zi _) (by decide) (by decide) (by decide) hownL.sl; obtain ⟨Gc, hleGc, hoC, backC⟩ := (hown10.rot (stable_strs _) (stable_ints _)).open3; have slLc := slL.mono hleGc.sees; have zoC := hoC.size; have h10t := Xu hle10' (by omega) (by intro e; cases e) h9t; have z10 := hleG10.1; have zc := hleGc.1
  refine ⟨Yg, ?_⟩
  refine Y8 rfl rfl (Ya (r := [.slice _ _ _]) Try.underlying27 inf50.size inf50.zero rfl (by decide) (by decide) (by decide) rfl) ?_
  refine Yi rfl rfl (OwnP.append (ys := [Yq f X w]) (hoC.push _) Try.underlying27 inf50 rfl rfl rfl (Zf (k := Z9 kLink) ⟨_, rfl, slLc⟩ rfl hoC.size rfl) (by rw [lenC]; simp only [List.length_singleton]; omega) (by rw [lenC]; simp only [List.length_singleton]; omega) ?_)
  rintro v11 G11 H11 hle11 hown11
  have hsameO := OwnP.sameO (hoC.push _) hle11 hown11
  rw [take_at tl] at hown11
  obtain ⟨AC', cC', rfl⟩ := hown11.shape
  have hle11' := Hp.le_trans (Hp.le_push _ _) hle11
  obtain ⟨G12, hleG12, hown12⟩ := backC G11 H11 _ _ hle11' hown11
  have g10t := Xu hleG10 (by omega) (by intro e; cases e) g9t
  have g12t := Xu hleG12 (by omega) (by intro e; cases e) g10t
  have h11t := Xu hown12.le (by have := hleG12.1; omega) (by intro e; cases e) g12t
  refine ⟨Yg, ?_⟩
  refine Xd rfl rfl (Yu rfl) Xp ?_
  refine Xd rfl rfl (Xi (off := 2) rfl Try.underlying89 rfl inf27.size (by decide) rfl) Xp ?_
  first | refine Yi rfl rfl (Y5 rfl rfl rfl inf27.size Yh Ym rfl ?_)
  refine ⟨Yg, ?_⟩
  obtain ⟨H13, hH13⟩ : ∃ H13, H13 = H11.put (K.size + 1) (.own 0 [.slice AA' (T.vars.take (i + 1)).length cA', .slice AB' (T.parent.take (i + 1)).length cB', .slice AC' (T.links.take (i + 1)).length cC', .map (some K.size)]) := ⟨_, rfl⟩
  obtain ⟨G13, hG13⟩ : ∃ G13, G13 = G12.put (K.size + 1) (.own 0 [.slice AA' (T.vars.take (i + 1)).length cA', .slice AB' (T.parent.take (i + 1)).length cB', .slice AC' (T.links.take (i + 1)).length cC', .map (some K.size)]) := ⟨_, rfl⟩
  have z12 := hleG12.1
  have hown13 := hown12.put_box (by omega) g12t [.slice AA' (T.vars.take (i + 1)).length cA', .slice AB' (T.parent.take (i + 1)).length cB', .slice AC' (T.links.take (i + 1)).length cC', .map (some K.size)]
  rw [← hG13, ← hH13] at hown13
  have leG13 : K.le G13 := by rw [hG13]; exact Hp.le_put_new (Hp.le_trans leG9 (Hp.le_trans hleG10 hleG12)) (by omega) _
  have g13m : G13.get K.size = .map es := by rw [hG13, Hp.put_other _ _ (by omega)]; exact Xu (Hp.le_trans hleG10 hleG12) (by omega) (by intro e; cases e) g9m
  have g13t : G13.get (K.size + 1) = .own 0 [.slice AA' (T.vars.take (i + 1)).length cA', .slice AB' (T.parent.take (i + 1)).length cB', .slice AC' (T.links.take (i + 1)).length cC', .map (some K.size)] := by rw [hG13]; exact Hp.put_same _ _ _
  have z13 : K.size + 2 ≤ G13.size := by rw [hG13]; simp; omega
  change ACode true _ _ _ _ _ (H11.put (K.size + 1) (.own 0 [.slice AA' (T.vars.take (i + 1)).length cA', .slice AB' (T.parent.take (i + 1)).length cB', .slice AC' (T.links.take (i + 1)).length cC', .map (some K.size)]))
  rw [← hH13]
  have h13t := Xu hown13.le (by omega) (by intro e; cases e) g13t
  have h13m := Xu hown13.le (by omega) (by intro e; cases e) g13m
  have zz13 := hown13.size
  obtain ⟨sl1, sl2, sl3⟩ := hown13.sls
  clear hH13 hG13 hsameO
  have eP : (T.parent.take (i + 1)).getD i 0 = T.parent.getD i 0 := by rw [List.getD_eq_getElem?_getD, List.getD_eq_getElem?_getD, List.getElem?_take, if_pos (by omega)]
  have hiL : i < (T.links.take (i + 1)).length := by rw [List.length_take]; omega
  have eL : (T.links.take (i + 1))[i]'hiL = Yq f X w := by
    rw [List.getElem_take]
    exact (List.getElem?_eq_some_iff.1 tl).2
  have eL2 : T.links.getD i [] = Yq f X w := by rw [List.getD_eq_getElem?_getD, tl]; rfl
  refine Xc (by kernel_rfl) ?_
  refine Xa (Yf Xj) ?_
  refine Xa (Xb rfl) ?_
  refine X6 (X2 (group_tree (b := K.size + 1) (mb := K.size) (by omega) (by omega) h13t sl2 sl3 h13m i hiL (by rw [List.length_take]; omega) (by rw [eL]; exact hpll) (fun _ => by rw [eL]; exact hrise) hsp.keys (fun a => hsp.none i a (Nat.le_refl _))) rfl Try.func53 rfl rfl rfl ?_)
  rintro v14 H14 ⟨es', rfl, hes'⟩
  refine Xc (by kernel_rfl) ?_
  refine Xa (Yc Xj Xj Yn) ?_
  refine Xa (Xb rfl) ?_
  refine ⟨f.order.length - (i + 1), by omega, i + 1, G13.put K.size (.map es'), _, _, _, es', by omega, rfl, Hp.le_put_new leG13 (Nat.le_refl _) _, by simp; omega, Hp.put_same _ _ _, by rw [Hp.put_other _ _ (by omega)]; exact g13t, hown13.put_map (by omega) g13m es', hsp.step ?_, e2, e3, e7, e24, e25, rfl⟩
  rw [eP, eL] at hes'
  rw [eL2]
  exact hes'
  intro hc2
  (try simp only [decide_eq_true_eq, decide_eq_false_iff_not, Bool.not_eq_true', Bool.not_eq_false'] at hc2)
  refine Yo ?_
  refine Xf ?_
  refine Xc (by kernel_rfl) ?_
  refine Xa (Yf Xj) ?_
  refine Xa (Vu rfl) ?_
  refine Xa (Xl rfl) ?_
  refine X7 ?_
  obtain rfl : i = f.order.length := by omega
  obtain ⟨sl1, sl2, sl3⟩ := hown.sls
  rw [List.take_of_length_le (by omega)] at sl1 sl2 sl3
  have zz := hown.size
  exact ⟨_, Zk (Xx rfl) (Xx rfl), Hp.le_trans leK leK1, true, .pointer (some ⟨K.size + 1, 0, none⟩), hg, rfl, by
    rw [if_pos rfl]
    exact ⟨K.size + 1, K.size, A, B, C, es, rfl, by omega, by omega, Xu hown.le (by omega) (by intro e; cases e) gt, sl1, sl2, sl3, Xu hown.le (by omega) (by intro e; cases e) gm, by rw [tl3]; exact hsp⟩⟩
end Go.Proofs.Ytcaeoebphfjfiaa.Am


/- Two variables, of which one link leads from the one to the other; the small living call of the statements on reducing. -/
namespace Go.Proofs.Ytcaeoebphfjfiaa.Am
open Go Go.RowKit
set_option maxRecDepth 100000
set_option linter.unusedVariables false
set_option linter.unusedSimpArgs false

def twoF : Forest := ⟨[⟨#[120]⟩, ⟨#[121]⟩], [0, 1], [-1, 0], [[], [0]], [[], []]⟩
theorem rep_link (G : Hp) (x : Link) : kLink.rep G x [.int .i64 x.a, .int .i64 x.b, .int .i64 x.cost, .int .u64 x.n] := rfl
theorem sl_two {α : Type} {k : Kd α} {H : Hp} {b c st : Nat} {x y : α} {u v : Value} (hg : H.get b = .own st [u, v]) (hb : b < H.size) (h1 : k.rep H x [u]) (h2 : k.rep H y [v]) (hst : k.sz = st) : Sl k H (.slice (some ⟨b, 0, none⟩) 2 c) [x, y] :=
  Els.sl (xs := [x, y]) (cs := [u, v]) (Els.cons (c := [u]) h1 (Els.cons (c := [v]) h2 (Els.nil _ _ []))) (Hp.sees.refl _) hb hg hst
theorem sl_one1 {α : Type} {k : Kd α} {H : Hp} {b c st : Nat} {x : α} {u : Value} (hg : H.get b = .own st [u]) (hb : b < H.size) (h1 : k.rep H x [u]) (hst : k.sz = st) : Sl k H (.slice (some ⟨b, 0, none⟩) 1 c) [x] :=
  Els.sl (xs := [x]) (cs := [u]) (Els.cons (c := [u]) h1 (Els.nil _ _ [])) (Hp.sees.refl _) hb hg hst
theorem sl_link1 {H : Hp} {b c : Nat} {x : Link} (hg : H.get b = .own 4 [.int .i64 x.a, .int .i64 x.b, .int .i64 x.cost, .int .u64 x.n]) (hb : b < H.size) : Sl kLink H (.slice (some ⟨b, 0, none⟩) 1 c) [x] :=
  Els.sl (xs := [x]) (cs := _) (Els.cons (c := _) (rep_link H x) (Els.nil _ _ [])) (Hp.sees.refl _) hb hg rfl
theorem sl_link2 {H : Hp} {b c : Nat} {x y : Link} (hg : H.get b = .own 4 [.int .i64 x.a, .int .i64 x.b, .int .i64 x.cost, .int .u64 x.n, .int .i64 y.a, .int .i64 y.b, .int .i64 y.cost, .int .u64 y.n]) (hb : b < H.size) : Sl kLink H (.slice (some ⟨b, 0, none⟩) 2 c) [x, y] :=
  Els.sl (xs := [x, y]) (cs := _) (Els.cons (c := _) (rep_link H x) (Els.cons (c := _) (rep_link H y) (Els.nil _ _ []))) (Hp.sees.refl _) hb hg rfl
end Go.Proofs.Ytcaeoebphfjfiaa.Am


/- Whether two lists of rows are one; whether a forest is small. -/
namespace Go.Proofs.Ytcaeoebphfjfiaa.Am
open Go Go.RowKit
set_option maxRecDepth 100000
set_option linter.unusedVariables false
set_option linter.unusedSimpArgs false

end Go.Proofs.Ytcaeoebphfjfiaa.Am


/- The small living call of the statements on trees. -/
namespace Go.Proofs.Ytcaeoebphfjfiaa.Am
open Go Go.RowKit
set_option maxRecDepth 100000
set_option linter.unusedVariables false
set_option linter.unusedSimpArgs false

theorem New_good (f : Forest) (p : Parts) (cs ds : List Value) (H : Hp) (hp : kForest.rep H f cs) (hq : kParts.rep H p ds) (hsm : Small f p) (hch : Cheap p) (hG : GoodP f p) :
    ACalls Try.prog 11 #[.agg cs.toArray, .agg ds.toArray] H (fun r H' => H.le H' ∧ ∃ b, r = .tuple #[.pointer (some ⟨b, 0, none⟩), .int .i64 0] ∧ TreeR H' (.pointer (some ⟨b, 0, none⟩)) (Zp f (ofP f p))) :=
  (New_tree f p cs ds H hp hq hsm fun _ => hch).mono fun r H' ⟨hle, g, v, hg, hr, hv⟩ => by
    obtain rfl : g = true := hg.2 hG
    rw [if_pos rfl] at hv
    obtain ⟨b, _, _, _, _, _, rfl, _⟩ := id hv
    exact ⟨hle, b, hr, hv⟩
def twoQ : Parts := ⟨[[⟨0, 0, 1, 1⟩, ⟨1, 1, 2, 3⟩], [⟨0, 0, 1, 1⟩, ⟨1, 1, 2, 3⟩]], [[], [⟨0, 1, 4, 2⟩]]⟩
def twoS : Parts := ⟨[[⟨0, 0, 1, 1⟩], [⟨1, 1, 2, 3⟩]], [[], [⟨0, 1, 4, 2⟩]]⟩
def twoT : TreeT := ⟨[⟨#[120]⟩, ⟨#[121]⟩], [-1, 0], [[⟨0, 0, 1, 1⟩], [⟨0, 1, 6, 6⟩]]⟩
theorem good_two29 : GoodP twoF twoQ := by
  refine ⟨⟨rfl, rfl, rfl, rfl, fun i hi => ?_⟩, rfl, rfl, fun v hv => ?_⟩
  · have hi' : i < 2 := hi
    rcases (by omega : i = 0 ∨ i = 1) with rfl | rfl <;> (unfold OkF; decide)
  · have hv' : v < 2 := hv
    rcases (by omega : v = 0 ∨ v = 1) with rfl | rfl <;> (unfold OkP; rw [Vj, Vj]; unfold OkL; decide)
theorem small_two29 : Small twoF twoQ := ⟨by decide, by decide, by decide, by decide, by decide, by decide, by decide⟩
theorem cheap_two29 : Cheap twoQ := by
  refine ⟨fun v => ?_, fun v => ?_⟩
  · match v with
    | 0 => decide
    | 1 => decide
    | v + 2 => intro x hx; cases hx
  · match v with
    | 0 => decide
    | 1 => decide
    | v + 2 => intro x hx; cases hx
theorem of_two29 : ofP twoF twoQ = twoS := by
  have h := good_two29
  obtain ⟨k1, k2, k3, k4⟩ := up_all h.gf twoF.order.reverse [] twoQ rfl h.lens h.nb (fun v hv => by simp at hv)
  have e1 : upP twoF twoQ = twoF.order.reverse.foldl (fun p v => upC twoF p v.toNat) twoQ := k4
  rw [← e1] at k1 k2
  have e2 : downP twoF (upP twoF twoQ) = twoF.order.foldl (fun p v => Zz twoF p v.toNat) (upP twoF twoQ) := down_fold _ _ (fun v hv => by have := h.gf.order_in hv; omega) k1 (h.nb.sub k2)
  unfold ofP
  rw [e2, e1]
  rfl
theorem tree_two29 : Zp twoF (ofP twoF twoQ) = twoT := by rw [of_two29]; rfl
theorem goodT_two29 : GoodT twoT := by
  have h := ofP_all good_two29
  have := good_tree (ofP_good good_two29) (by rw [of_two29]; exact ⟨by decide, by decide, by decide, by decide, by decide, by decide, by decide⟩) (cheap_two29.sub h.2.1) (by decide)
  rwa [tree_two29] at this
set_option maxHeartbeats 1000000 in
theorem two29_ok (H : Hp) : ACalls Try.prog 56 #[] H (fun r H' => ∃ cs ds, r = .tuple #[.agg cs.toArray, .agg ds.toArray] ∧ kForest.rep H' twoF cs ∧ kParts.rep H' twoQ ds ∧ H.le H') := by
  refine Xz Try.func56 rfl rfl rfl (by simp) ?_
  refine Xf ?_
  refine Xc (by kernel_rfl) ?_
  refine X1 (Y2 (l := [.slice none 0 0, .slice none 0 0, .slice none 0 0, .slice none 0 0, .slice none 0 0]) inf26.zero rfl (by decide)) ?_
  refine X1 (Y2 (l := [.slice none 0 0, .slice none 0 0]) inf29.zero rfl (by decide)) ?_
  refine Xf ?_
  refine Xc (by kernel_rfl) ?_
  first | refine X1 (Ya (r := [.string _, .string _]) Try.underlying22 inf9.size inf9.zero rfl (by decide) (by decide) (by decide) rfl) ?_
  first | refine X1 (Ya (r := [.int .i64 _, .int .i64 _]) Try.underlying23 inf3.size inf3.zero rfl (by decide) (by decide) (by decide) rfl) ?_
  first | refine X1 (Ya (r := [.int .i64 _, .int .i64 _]) Try.underlying23 inf3.size inf3.zero rfl (by decide) (by decide) (by decide) rfl) ?_
  first | refine X1 (Ya (r := [.int .i64 _]) Try.underlying23 inf3.size inf3.zero rfl (by decide) (by decide) (by decide) rfl) ?_
  refine X1 (Ya (r := [.slice _ _ _, .slice _ _ _]) Try.underlying24 inf23.size inf23.zero rfl (by decide) (by decide) (by decide) rfl) ?_
  refine X1 (Ya (r := [.slice _ _ _, .slice _ _ _]) Try.underlying24 inf23.size inf23.zero rfl (by decide) (by decide) (by decide) rfl) ?_
  refine Xa (Y6 (pl := [(0, 1), (1, 1), (2, 1), (3, 1), (4, 1)]) (r := [.slice _ _ _, .slice _ _ _, .slice _ _ _, .slice _ _ _, .slice _ _ _]) Try.underlying26 inf26.zero (by decide) rfl rfl) ?_
  refine X1 (Y2 (l := [.slice none 0 0, .slice none 0 0, .slice none 0 0, .slice none 0 0, .slice none 0 0]) inf26.zero rfl (by decide)) ?_
  refine X6 (Yk (vs := [.slice _ _ _, .slice _ _ _, .slice _ _ _, .slice _ _ _, .slice _ _ _]) rfl rfl inf26.size Yh Ym rfl rfl ?_)
  refine Xf ?_
  refine Xc (by kernel_rfl) ?_
  refine Xa (Y6 (pl := [(0, 1), (1, 1), (2, 1), (3, 1)]) (r := [.int .i64 _, .int .i64 _, .int .i64 _, .int .u64 _]) Try.underlying54 inf54.zero (by decide) rfl rfl) ?_
  refine Xa (Y6 (pl := [(0, 1), (1, 1), (2, 1), (3, 1)]) (r := [.int .i64 _, .int .i64 _, .int .i64 _, .int .u64 _]) Try.underlying54 inf54.zero (by decide) rfl rfl) ?_
  first | refine X1 (Ya (r := [.int .i64 _, .int .i64 _, .int .i64 _, .int .u64 _, .int .i64 _, .int .i64 _, .int .i64 _, .int .u64 _]) Try.underlying50 inf54.size inf54.zero rfl (by decide) (by decide) (by decide) rfl) ?_
  refine Xa (X3 rfl) ?_
  refine Xf ?_
  refine Xc (by kernel_rfl) ?_
  refine Xa (Ye (cs := [.slice _ _ _, .slice _ _ _, .slice _ _ _, .slice _ _ _, .slice _ _ _]) rfl Try.underlying26 rfl inf26.size Yb) ?_
  refine Xa (Xw rfl) ?_
  refine Xa (Xw rfl) ?_
  refine X1 (Ya (r := [.slice _ _ _, .slice _ _ _]) Try.underlying27 inf50.size inf50.zero rfl (by decide) (by decide) (by decide) rfl) ?_
  refine Xa (Y6 (pl := [(0, 1), (1, 1), (2, 1), (3, 1)]) (r := [.int .i64 _, .int .i64 _, .int .i64 _, .int .u64 _]) Try.underlying54 inf54.zero (by decide) rfl rfl) ?_
  first | refine X1 (Ya (r := [.int .i64 _, .int .i64 _, .int .i64 _, .int .u64 _]) Try.underlying50 inf54.size inf54.zero rfl (by decide) (by decide) (by decide) rfl) ?_
  refine X1 (Ya (r := [.slice _ _ _, .slice _ _ _]) Try.underlying27 inf50.size inf50.zero rfl (by decide) (by decide) (by decide) rfl) ?_
  refine Xa (Y6 (pl := [(0, 1), (1, 1)]) (r := [.slice _ _ _, .slice _ _ _]) Try.underlying29 inf29.zero (by decide) rfl rfl) ?_
  refine X6 (Yk (vs := [.slice _ _ _, .slice _ _ _, .slice _ _ _, .slice _ _ _, .slice _ _ _]) rfl rfl inf26.size Yh Ym rfl rfl ?_)
  refine X6 (Yk (vs := [.slice _ _ _, .slice _ _ _]) rfl rfl inf29.size Yh Ym rfl rfl ?_)
  refine X7 ?_
  refine ⟨_, Zk (Y1 rfl (Y0 (cs := [_, _, _, _, _]) Try.underlying26 rfl inf26.size Yb)) (Y1 rfl (Y0 (cs := [_, _]) Try.underlying29 rfl inf29.size Yb)), [_, _, _, _, _], [_, _], rfl, ⟨_, _, _, _, _, rfl, ?_, ?_, ?_, ?_, ?_⟩, ⟨_, _, rfl, ?_, ?_⟩, ?_⟩
  · exact sl_two (k := kStr) Yh (by simp) rfl rfl rfl
  · exact sl_two (k := Y3 .i64) Yh (by simp) rfl rfl rfl
  · exact sl_two (k := Y3 .i64) Yh (by simp) rfl rfl rfl
  · exact sl_two (k := Z9 (Y3 .i64)) Yh (by simp) ⟨_, rfl, Sl.nil _ _⟩ ⟨_, rfl, sl_one1 (k := Y3 .i64) Yh (by simp) rfl rfl⟩ rfl
  · exact sl_two (k := Z9 (Y3 .i64)) Yh (by simp) ⟨_, rfl, Sl.nil _ _⟩ ⟨_, rfl, Sl.nil _ _⟩ rfl
  · exact sl_two (k := Z9 kLink) Yh (by simp) ⟨_, rfl, sl_link2 (x := ⟨0, 0, 1, 1⟩) (y := ⟨1, 1, 2, 3⟩) Yh (by simp)⟩ ⟨_, rfl, sl_link2 (x := ⟨0, 0, 1, 1⟩) (y := ⟨1, 1, 2, 3⟩) Yh (by simp)⟩ rfl
  · exact sl_two (k := Z9 kLink) Yh (by simp) ⟨_, rfl, Sl.nil _ _⟩ ⟨_, rfl, sl_link1 (x := ⟨0, 1, 4, 2⟩) Yh (by simp)⟩ rfl
  · exact t_le
set_option maxHeartbeats 2000000 in
theorem lives29_ok (H : Hp) : ACalls Try.prog 13 #[] H (fun r H' => r = .bool true ∧ H.le H') := by
  refine Xz Try.func13 rfl rfl rfl (by simp) ?_
  refine Xf ?_
  refine Xc (by kernel_rfl) ?_
  refine Xa (Xq rfl) ?_
  refine Xf ?_
  refine Xc (by kernel_rfl) ?_
  refine X6 (X2 (two29_ok _) rfl Try.func56 rfl rfl rfl ?_)
  rintro v1 H1 ⟨cs1, ds1, rfl, hf1, hp1, hle1⟩; have hf10 := hf1; have hp10 := hp1; obtain ⟨a0, a1, a2, a3, a4, rfl, hs0, hs1, hs2, hs3, hs4⟩ := hf1; obtain ⟨A0, c0, rfl⟩ := hs0.shape; obtain ⟨A1, c1, rfl⟩ := hs1.shape; obtain ⟨A2, c2, rfl⟩ := hs2.shape; obtain ⟨A3, c3, rfl⟩ := hs3.shape; obtain ⟨A4, c4, rfl⟩ := hs4.shape; obtain ⟨u0, u1, rfl, hn0, hn1⟩ := hp1; obtain ⟨B0, d0, rfl⟩ := hn0.shape; obtain ⟨B1, d1, rfl⟩ := hn1.shape
  refine Xa (Zn rfl) ?_
  refine Xa (Y4 rfl rfl) ?_
  refine Xa (Y4 rfl rfl) ?_
  refine X1 (Y2 (l := [.slice none 0 0, .slice none 0 0, .slice none 0 0, .slice none 0 0, .slice none 0 0]) inf26.zero rfl (by decide)) ?_
  refine X1 (Y2 (l := [.slice none 0 0, .slice none 0 0]) inf29.zero rfl (by decide)) ?_
  refine X6 (Yk (vs := [.slice _ _ _, .slice _ _ _, .slice _ _ _, .slice _ _ _, .slice _ _ _]) rfl rfl inf26.size Yh Ym rfl rfl ?_)
  refine X6 (Yk (vs := [.slice _ _ _, .slice _ _ _]) rfl rfl inf29.size Yh Ym rfl rfl ?_)
  refine Xf ?_
  refine Xc (by kernel_rfl) ?_
  refine Xa (Ye (cs := [.slice _ _ _, .slice _ _ _, .slice _ _ _, .slice _ _ _, .slice _ _ _]) rfl Try.underlying26 rfl inf26.size Yb) ?_
  refine Xa (Ye (cs := [.slice _ _ _, .slice _ _ _]) rfl Try.underlying29 rfl inf29.size Yb) ?_
  refine X6 (X2 (New_good twoF twoQ _ _ _ (kForest.mono Zh hf10) (kParts.mono Zh hp10) small_two29 cheap_two29 good_two29) rfl Try.func11 rfl rfl rfl ?_)
  rintro v2 H2 ⟨hle2, tb, rfl, htr⟩; rw [tree_two29] at htr
  refine Xa (Zn rfl) ?_
  refine Xa (Y4 rfl rfl) ?_
  refine Xa (Y4 rfl rfl) ?_
  refine Xa (Vu rfl) ?_
  refine Xa (Xl rfl) ?_
  refine Xf ?_
  have hz1 := hle1.1
  have leH2 : H.le H2 := Hp.le_trans t_le hle2
  clear hle2
  have htr3 := htr.mono (H2.le_push (.own 1 [.int .i64 0, .int .i64 1]))
  have hsl3 : Sl (Y3 .i64) (H2.push (.own 1 [.int .i64 0, .int .i64 1])) (.slice (some ⟨H2.size, 0, none⟩) 2 2) [0, 1] := sl_two (k := Y3 .i64) Yh (by simp) rfl rfl rfl
  refine Xc (by kernel_rfl) ?_
  refine Xa (Yf rfl) ?_
  first | refine X1 (Ya (r := [.int .i64 _, .int .i64 _]) Try.underlying23 inf3.size inf3.zero rfl (by decide) (by decide) (by decide) rfl) ?_
  refine X6 (X2 (Row_tree htr3 goodT_two29 (u := .slice (some ⟨H2.size, 0, none⟩) 2 2) hsl3 (by decide)) rfl Try.func16 rfl rfl rfl ?_)
  rintro v3 H3 ⟨hle3, w, hr3⟩; rw [if_pos (by decide)] at hr3; rw [show rowAcc twoT [0, 1] twoT.vars.length = some (7, 6) from rfl] at hr3; obtain ⟨rfl, hw3⟩ := hr3; obtain ⟨Aw, cw, rfl⟩ := hw3.shape; have leH3 : H.le H3 := Hp.le_trans (Hp.le_push' leH2 _) hle3; have htr4 := htr3.mono hle3
  refine Xa (Zn rfl) ?_
  refine Xa (Y4 rfl rfl) ?_
  refine Xa (Y4 rfl rfl) ?_
  refine X1 (Y2 (l := [.slice none 0 0, .int .i64 0, .int .u64 0]) inf44.zero rfl (by decide)) ?_
  refine X6 (Yk (vs := [.slice _ _ _, .int .i64 _, .int .u64 _]) rfl rfl inf44.size Yh Ym rfl rfl ?_)
  refine Xa (Xq rfl) ?_
  refine Xf ?_
  obtain ⟨H4, hH4⟩ : ∃ H4, H4 = (H3.push (.own 0 [.slice none 0 0, .int .i64 0, .int .u64 0])).put H3.size (.own 0 [.slice Aw ([0, 1] : List Int).length cw, .int .i64 7, .int .u64 6]) := ⟨_, rfl⟩
  have le34 : H3.le H4 := by rw [hH4]; exact Hp.le_put_new (H3.le_push _) (Nat.le_refl _) _
  have g4 : H4.get H3.size = .own 0 [.slice Aw ([0, 1] : List Int).length cw, .int .i64 7, .int .u64 6] := by rw [hH4]; exact Hp.put_same _ _ _
  have htr5 := htr4.mono le34
  change ACode true _ _ _ _ _ ((H3.push (.own 0 [.slice none 0 0, .int .i64 0, .int .u64 0])).put H3.size (.own 0 [.slice Aw ([0, 1] : List Int).length cw, .int .i64 7, .int .u64 6]))
  rw [← hH4]
  clear hH4
  refine Xc (by kernel_rfl) ?_
  refine Xa (Xb rfl) ?_
  refine Xa (Zx rfl rfl) ?_
  refine Xa (Xs rfl) ?_
  refine Yd rfl rfl rfl ?_ ?_
  intro hg1
  have hp1 := hg1; try simp only [decide_eq_true_eq, decide_eq_false_iff_not, Bool.not_eq_true', Bool.not_eq_false'] at hp1
  refine Xn (Xg rfl rfl rfl hg1) (Xs rfl) ?_
  refine Xa (Xm (congrArg Value.bool hg1) rfl) ?_
  refine Xa (Xs rfl) ?_
  refine Yd rfl rfl rfl ?_ ?_
  intro hg2
  have hp2 := hg2; try simp only [decide_eq_true_eq, decide_eq_false_iff_not, Bool.not_eq_true', Bool.not_eq_false'] at hp2
  refine Xn (Xg rfl rfl rfl hg2) (Xi (off := 1) rfl Try.underlying44 rfl inf3.size (by decide) rfl) ?_
  refine Xn (Xg rfl rfl rfl hg2) (Xk rfl Try.underlying3 rfl Xr) ?_
  refine Xn (Xg rfl rfl rfl hg2) (Zx rfl rfl) ?_
  refine Xa (Xm (congrArg Value.bool hg2) rfl) ?_
  refine Xa (Xs rfl) ?_
  refine Yd rfl rfl rfl ?_ ?_
  intro hg3
  have hp3 := hg3; try simp only [decide_eq_true_eq, decide_eq_false_iff_not, Bool.not_eq_true', Bool.not_eq_false'] at hp3
  refine Xn (Xg rfl rfl rfl hg3) (Xi (off := 2) rfl Try.underlying44 rfl inf42.size (by decide) rfl) ?_
  refine Xn (Xg rfl rfl rfl hg3) (Xk rfl Try.underlying42 rfl Xr) ?_
  refine Xn (Xg rfl rfl rfl hg3) (Zx rfl rfl) ?_
  refine Xa (Xm (congrArg Value.bool hg3) rfl) ?_
  refine Xa (Xs rfl) ?_
  refine Yd rfl rfl rfl ?_ ?_
  intro hg4
  have hp4 := hg4; try simp only [decide_eq_true_eq, decide_eq_false_iff_not, Bool.not_eq_true', Bool.not_eq_false'] at hp4
  refine Xn (Xg rfl rfl rfl hg4) (Yf rfl) ?_
  refine Z1 (Xg rfl rfl rfl hg4) (X2 (Len_tree htr5) rfl Try.func21 rfl rfl rfl ?_)
  rintro v5 H4 ⟨rfl, rfl⟩
  refine Xn (Xg rfl rfl rfl hg4) (Zx rfl rfl) ?_
  refine Xa (Xm (congrArg Value.bool hg4) rfl) ?_
  refine Xa (Xs rfl) ?_
  refine Yd rfl rfl rfl ?_ ?_
  intro hg5
  have hp5 := hg5; try simp only [decide_eq_true_eq, decide_eq_false_iff_not, Bool.not_eq_true', Bool.not_eq_false'] at hp5
  refine Xn (Xg rfl rfl rfl hg5) (Yf rfl) ?_
  refine Z1 (Xg rfl rfl rfl hg5) (X2 (Parent_tree htr5 (by decide) 1) rfl Try.func20 rfl rfl rfl ?_)
  rintro v6 H4 ⟨rfl, rfl⟩
  refine Xn (Xg rfl rfl rfl hg5) (Zx rfl rfl) ?_
  refine Xa (Xm (congrArg Value.bool hg5) rfl) ?_
  refine Xa (Xq rfl) ?_
  refine X7 ?_
  exact ⟨.bool true, Xy (Xx rfl), rfl, Hp.le_trans leH3 le34⟩
  intro hg5
  exact absurd hg5 (by decide)
  intro hg4
  exact absurd hg4 (by decide)
  intro hg3
  exact absurd hg3 (by decide)
  intro hg2
  exact absurd hg2 (by decide)
  intro hg1
  exact absurd hg1 (by decide)
theorem small29_forest (f : Forest) (cs : List Value) (H : Hp) (hp : kForest.rep H f cs) : ACalls Try.prog 14 #[.agg cs.toArray] H (fun r H' => r = .bool (decide (f.vars.length < 6)) ∧ H' = H) := by
  refine ACalls.pure (R := fun r => r = .bool (decide (f.vars.length < 6))) (fun v h => by rw [h]; rfl) ?_
  obtain ⟨v0, v1, v2, v3, v4, rfl, hs0, hs1, hs2, hs3, hs4⟩ := kForest.mono H.sees_ro hp
  obtain ⟨A0, c0, rfl⟩ := hs0.shape
  obtain ⟨A1, c1, rfl⟩ := hs1.shape
  obtain ⟨A2, c2, rfl⟩ := hs2.shape
  obtain ⟨A3, c3, rfl⟩ := hs3.shape
  obtain ⟨A4, c4, rfl⟩ := hs4.shape
  refine Xz Try.func14 rfl rfl rfl (by simp) ?_
  refine Xf ?_
  refine Xc (by kernel_rfl) ?_
  refine X1 (Yp rfl) ?_
  refine Xa (Xq rfl) ?_
  refine Xf ?_
  refine Xc (by kernel_rfl) ?_
  refine Xa (Xi (off := 0) rfl Try.underlying26 rfl inf22.size (by decide) rfl) ?_
  refine Xa (Xk rfl Try.underlying22 rfl Xr) ?_
  refine Xa (Yl rfl Try.underlying22) ?_
  refine Xa (Yx rfl rfl) ?_
  refine Xa (Xq rfl) ?_
  refine X7 ?_
  refine ⟨.bool (decide ((f.vars.length : Int) < 6)), Xy (Xx rfl), ?_⟩
  congr 1
  exact decide_eq_decide.2 (by omega)
end Go.Proofs.Ytcaeoebphfjfiaa.Am


/- Whether two lists of numbers are one; what a tree tells of nodes. -/
namespace Go.Proofs.Ytcaeoebphfjfiaa.Am
open Go Go.RowKit
set_option maxRecDepth 100000
set_option linter.unusedVariables false
set_option linter.unusedSimpArgs false

theorem SameI_raw (xs ys : List Int) (v u : Value) (H : Hp) (hs : Sl (Y3 .i64) H v xs) (hu : Sl (Y3 .i64) H u ys) (hl : xs.length ≤ 1000000000) :
    ACalls Try.prog 18 #[v, u] H (fun r _ => r = .bool (decide (xs = ys))) := by
  obtain ⟨A, c, rfl⟩ := hs.shape
  obtain ⟨B, c2, rfl⟩ := hu.shape
  refine Xz Try.func18 rfl rfl rfl (by simp) ?_
  refine Xf ?_
  refine Xc (by kernel_rfl) ?_
  refine Xa (Xq rfl) ?_
  refine Xf ?_
  refine Xf ?_
  refine Xc (by kernel_rfl) ?_
  refine Xa (Xw rfl) ?_
  refine Xa (Yl rfl Try.underlying23) ?_
  refine Xa (Xw rfl) ?_
  refine Xa (Yl rfl Try.underlying23) ?_
  refine Xa (Zr rfl rfl) ?_
  refine X4 rfl rfl ?_ ?_
  intro hc1
  have hne : xs.length ≠ ys.length := by have := of_decide_eq_true hc1; omega
  refine Xf ?_
  refine Xc (by kernel_rfl) ?_
  refine Xa (Xq rfl) ?_
  refine X7 ?_
  exact ⟨.bool false, Xy (Xx rfl), by rw [decide_eq_false (fun h => hne (by rw [h]))]⟩
  intro hc1
  have hlen : xs.length = ys.length := by have := of_decide_eq_false hc1; omega
  refine X8 ?_
  refine Xf ?_
  refine Xf ?_
  refine Xc (by kernel_rfl) ?_
  refine Xa (Xl rfl) ?_
  refine X9 ?_
  refine Yy (fun n t H' => ∃ (i : Nat), i ≤ xs.length ∧ n = xs.length - i ∧ H' = H ∧ xs.take i = ys.take i ∧ t 0 = .slice A xs.length c ∧ t 1 = .slice B ys.length c2 ∧ t 5 = .int .i64 i) (xs.length) (⟨0, by omega, rfl, rfl, by simp, rfl, rfl, rfl⟩) ?_
  rintro n t H ⟨i, hi, rfl, rfl, hsame, e0, e1, e5⟩
  refine Xf ?_
  refine Xf ?_
  refine Xc (by kernel_rfl) ?_
  refine Xa (Xb Xj) ?_
  refine Xa (Xw Xj) ?_
  refine Xa (Yl rfl Try.underlying23) ?_
  refine Xa (Yx rfl rfl) ?_
  refine X4 rfl rfl ?_ ?_
  intro hc2
  (try simp only [decide_eq_true_eq, decide_eq_false_iff_not, Bool.not_eq_true', Bool.not_eq_false'] at hc2)
  refine X8 ?_
  refine Xf ?_
  refine X9 ?_
  refine Xf ?_
  have hix : i < xs.length := by omega
  obtain ⟨b, o, e6, hb, hcell⟩ := hs.int_at (i := (i : Int)) (by omega) (by omega)
  obtain ⟨b2, o2, e7, hb2, hcell2⟩ := hu.int_at (i := (i : Int)) (by omega) (by omega)
  subst e6 e7
  rw [Int.toNat_natCast, Zg hix] at hcell
  rw [Int.toNat_natCast, Zg (show i < ys.length by omega)] at hcell2
  refine Ys (by kernel_rfl) (Yz (B := [0, 0, 3, 7, 0, 0, 48, 112, 255]) (π := [0, 1, 2, 3, 4, 5, 6, 7, 8]) (by kernel_rfl)) ?_
  refine Xd rfl rfl (Xw Xj) Xp ?_
  refine Xd rfl rfl (Xb Xj) Xp ?_
  refine Xd rfl rfl (Xo rfl rfl Try.underlying23 inf3.size Xv Xv) Xp ?_
  refine Xd rfl rfl (Xk rfl Try.underlying3 rfl Xr) Xp ?_
  refine Xd rfl rfl (Xw Xj) Xp ?_
  refine Xd rfl rfl (Xb Xj) Xp ?_
  refine Xd rfl rfl (Xo rfl rfl Try.underlying23 inf3.size Xv Xv) Xp ?_
  refine Xd rfl rfl (Xk rfl Try.underlying3 rfl Xr) Xp ?_
  refine Xd rfl rfl (Zr rfl rfl) Xp ?_
  refine X4 rfl rfl ?_ ?_
  intro hc3
  have hne : xs[i] ≠ ys[i]'(by omega) := of_decide_eq_true hc3
  refine Xf ?_
  refine Xc (by kernel_rfl) ?_
  refine Xa (Xq rfl) ?_
  refine X7 ?_
  exact ⟨.bool false, Xy (Xx rfl), by rw [decide_eq_false (fun h => hne (by subst h; rfl))]⟩
  intro hc3
  have heq : xs[i] = ys[i]'(by omega) := Decidable.not_not.1 (of_decide_eq_false hc3)
  refine X8 ?_
  refine Xc (by kernel_rfl) ?_
  refine Xa (Xb Xj) ?_
  refine Xa (Yc rfl rfl Yn) ?_
  refine Xa (Xl rfl) ?_
  exact ⟨xs.length - (i + 1), by omega, i + 1, by omega, rfl, rfl, by rw [← Yv hix, ← Yv (show i < ys.length by omega), hsame, heq], e0, e1, rfl⟩
  intro hc2
  (try simp only [decide_eq_true_eq, decide_eq_false_iff_not, Bool.not_eq_true', Bool.not_eq_false'] at hc2)
  refine Yo ?_
  refine Xf ?_
  refine Xc (by kernel_rfl) ?_
  refine Xa (Xq rfl) ?_
  refine X7 ?_
  rw [List.take_of_length_le (by omega), List.take_of_length_le (by omega)] at hsame
  exact ⟨.bool true, Xy (Xx rfl), by rw [decide_eq_true hsame]⟩
theorem SameI_ints (xs ys : List Int) (v u : Value) (H : Hp) (hs : Sl (Y3 .i64) H v xs) (hu : Sl (Y3 .i64) H u ys) (hl : xs.length ≤ 1000000000) :
    ACalls Try.prog 18 #[v, u] H (fun r H' => r = .bool (decide (xs = ys)) ∧ H' = H) :=
  ACalls.pure (fun v h => by rw [h]; rfl) (SameI_raw xs ys v u H.ro (hs.mono H.sees_ro) (hu.mono H.sees_ro) hl)
end Go.Proofs.Ytcaeoebphfjfiaa.Am


/- The small living call of the statements on reducing. -/
namespace Go.Proofs.Ytcaeoebphfjfiaa.Am
open Go Go.RowKit
set_option maxRecDepth 100000
set_option linter.unusedVariables false
set_option linter.unusedSimpArgs false

end Go.Proofs.Ytcaeoebphfjfiaa.Am


/- Forests of few variables: cut once is cut twice; the statements' own words. -/
namespace Go.Proofs.Ytcaeoebphfjfiaa.Am
open Go Go.RowKit
set_option maxRecDepth 100000
set_option linter.unusedVariables false
set_option linter.unusedSimpArgs false

structure BigF (f : Forest) : Prop where
  l0 : f.vars.length ≤ 9223372036854775807
  l1 : f.order.length ≤ 9223372036854775807
  l2 : f.parent.length ≤ 9223372036854775807
  l3 : f.links.length ≤ 9223372036854775807
  l4 : f.loops.length ≤ 9223372036854775807
  s3 : ∀ l ∈ f.links, l.length ≤ 9223372036854775807
  s4 : ∀ l ∈ f.loops, l.length ≤ 9223372036854775807
structure BigP (p : Parts) : Prop where
  l0 : p.nodes.length ≤ 9223372036854775807
  l1 : p.links.length ≤ 9223372036854775807
  s0 : ∀ l ∈ p.nodes, l.length ≤ 9223372036854775807
  s1 : ∀ l ∈ p.links, l.length ≤ 9223372036854775807
theorem Forest_28 (f : Forest) (cs : List Value) (H : Hp) (hp : kForest.rep H f cs) (hb : BigF f) :
    ACalls Try.prog 8 #[.agg cs.toArray] H (fun r H' => H.le H' ∧ ∃ ds, r = .agg ds.toArray ∧ kForest.rep H' f.few ds) := by
  have hp0 := hp
  obtain ⟨v0, v1, v2, v3, v4, rfl, hs0, hs1, hs2, hs3, hs4⟩ := hp
  obtain ⟨A0, c0, rfl⟩ := hs0.shape
  obtain ⟨A1, c1, rfl⟩ := hs1.shape
  obtain ⟨A2, c2, rfl⟩ := hs2.shape
  obtain ⟨A3, c3, rfl⟩ := hs3.shape
  obtain ⟨A4, c4, rfl⟩ := hs4.shape
  refine Xz Try.func8 rfl rfl rfl (by simp) ?_
  refine Xf ?_
  refine Xc (by kernel_rfl) ?_
  refine X1 (Yp rfl) ?_
  refine X1 (Y2 (l := [.slice none 0 0, .slice none 0 0, .slice none 0 0, .slice none 0 0, .slice none 0 0]) inf26.zero rfl (by decide)) ?_
  refine Xf ?_
  refine Xc (by kernel_rfl) ?_
  refine Xa (Ye (cs := [.slice _ _ _, .slice _ _ _, .slice _ _ _, .slice _ _ _, .slice _ _ _]) rfl Try.underlying26 rfl inf26.size Yb) ?_
  refine X6 (X2 (Few_forest f _ _ (kForest.mono Zh hp0) hb.l0 hb.l1 hb.l2 hb.l3 hb.l4 hb.s3 hb.s4) rfl Try.func47 rfl rfl rfl ?_)
  rintro v2 H2 ⟨hle2, ds, rfl, hds⟩; have hds0 := hds; obtain ⟨a0, a1, a2, a3, a4, rfl, ht0, ht1, ht2, ht3, ht4⟩ := hds; obtain ⟨B0, d0, rfl⟩ := ht0.shape; obtain ⟨B1, d1, rfl⟩ := ht1.shape; obtain ⟨B2, d2, rfl⟩ := ht2.shape; obtain ⟨B3, d3, rfl⟩ := ht3.shape; obtain ⟨B4, d4, rfl⟩ := ht4.shape; have hz2 := hle2.1; simp only [Hp.push_size] at hz2
  refine X6 (Yk (vs := [.slice _ _ _, .slice _ _ _, .slice _ _ _, .slice _ _ _, .slice _ _ _]) rfl rfl inf26.size Yh Ym rfl rfl ?_)
  refine X7 ?_
  have k1 : H2.get (H.size + 1) = .own 0 [.slice none 0 0, .slice none 0 0, .slice none 0 0, .slice none 0 0, .slice none 0 0] := Xu hle2 (by simp) (by intro e; cases e) Yh
  exact ⟨_, Xy (Y1 Xj (Y0 (cs := [_, _, _, _, _]) Try.underlying26 rfl inf26.size Yb)), Hp.le_put_new (Hp.le_trans (Hp.le_push' (H.le_push _) _) hle2) (by simp <;> omega) _, [_, _, _, _, _], rfl, kForest.mono (Hp.sees_box _ k1) hds0⟩
theorem small_few (f : Forest) (p : Parts) : Small f.few p.few4 := by
  have h8 : ∀ {α : Type} (xs : List α), (xs.take 8).length ≤ 8 := fun xs => by rw [List.length_take]; omega
  refine ⟨?_, ?_, ?_, ?_, ?_, fun l hl => ?_, fun l hl => ?_⟩
  · show ((f.vars.take 8).map _).length ≤ _; rw [List.length_map]; have := h8 f.vars; omega
  · show (f.order.take 8).length ≤ _; have := h8 f.order; omega
  · show (f.parent.take 8).length ≤ _; have := h8 f.parent; omega
  · show (((p.nodes.take 8).map Zw).map _).length ≤ _; rw [List.length_map, List.length_map]; have := h8 p.nodes; omega
  · show ((p.links.take 8).map Zw).length ≤ _; rw [List.length_map]; have := h8 p.links; omega
  · obtain ⟨m, _, rfl⟩ := List.mem_map.1 hl
    rw [List.length_take]; omega
  · obtain ⟨m, _, rfl⟩ := List.mem_map.1 hl
    unfold Zw; rw [List.length_map, List.length_take]; omega
theorem Link.few_few (x : Link) : x.few.few = x.few := by
  unfold Link.few
  by_cases h : 1000000000 < x.cost
  · rw [if_pos h]; simp
  · rw [if_neg h, if_neg h]
theorem fewL_le (xs : List Link) : (Zw xs).length ≤ 25 := by unfold Zw; rw [List.length_map, List.length_take]; omega
theorem fewL_take (m : Nat) (xs : List Link) : Zw ((Zw xs).take m) = (Zw xs).take m := by
  have h : (Zw xs).map Link.few = Zw xs := by
    unfold Zw
    rw [List.map_map, show Link.few ∘ Link.few = Link.few from funext Link.few_few]
  show (((Zw xs).take m).take 25).map Link.few = _
  rw [List.take_of_length_le (by rw [List.length_take]; have := fewL_le xs; omega), List.map_take, h]
theorem fewL_idem (xs : List Link) : Zw (Zw xs) = Zw xs := by
  have := fewL_take (Zw xs).length xs
  rwa [List.take_length] at this
theorem few4_few4 (p : Parts) : p.few4.few4 = p.few4 := by
  unfold Parts.few4 Parts.few
  simp only [List.map_map, ← List.map_take, List.take_take, Nat.min_self]
  congr 1
  · refine List.map_congr_left fun l _ => ?_
    simp only [Function.comp]
    rw [fewL_take, List.take_take, Nat.min_self]
  · exact List.map_congr_left fun l _ => fewL_idem l
theorem cutS_idem (s : ByteArray) : cutS (cutS s 32) 32 = cutS s 32 := by
  unfold cutS
  by_cases h : 32 < s.size
  · rw [if_pos h, if_neg (by rw [ByteArray.size_extract]; omega)]
  · rw [if_neg h, if_neg h]
theorem ffew_ffew (f : Forest) : f.few.few = f.few := by
  unfold Forest.few
  simp only [← List.map_take, List.take_take, Nat.min_self, List.map_map]
  congr 1
  · exact List.map_congr_left fun s _ => cutS_idem s
  · exact List.map_congr_left fun l _ => by simp [List.take_take]
  · exact List.map_congr_left fun l _ => by simp [List.take_take]
theorem bigF_few (f : Forest) : BigF f.few := by
  have h := (small_few f ⟨[], []⟩)
  have h8 : ∀ {α : Type} (xs : List α), (xs.take 8).length ≤ 8 := fun xs => by rw [List.length_take]; omega
  refine ⟨by have := h.s0; omega, by have := h.s1; omega, by have := h.s2; omega, ?_, ?_, fun l hl => ?_, fun l hl => ?_⟩
  · show ((f.links.take 8).map _).length ≤ _; rw [List.length_map]; have := h8 f.links; omega
  · show ((f.loops.take 8).map _).length ≤ _; rw [List.length_map]; have := h8 f.loops; omega
  · obtain ⟨m, _, rfl⟩ := List.mem_map.1 hl; rw [List.length_take]; omega
  · obtain ⟨m, _, rfl⟩ := List.mem_map.1 hl; rw [List.length_take]; omega
theorem bigP_few (p : Parts) : BigP p.few4 := by
  have h := (small_few ⟨[], [], [], [], []⟩ p)
  exact ⟨by have := h.s3; omega, by have := h.s4; omega, fun l hl => by have := h.s5 l hl; omega, fun l hl => by have := h.s6 l hl; omega⟩
end Go.Proofs.Ytcaeoebphfjfiaa.Am


/- The statement ReduceTwice, as the abstract machine runs it. -/
namespace Go.Proofs.Ytcaeoebphfjfiaa.Am
open Go Go.RowKit
set_option maxRecDepth 100000
set_option linter.unusedVariables false
set_option linter.unusedSimpArgs false

theorem small_sub {f : Forest} {p q : Parts} (h : Small f p) (hl : Lens f.vars.length q) (hs : Sub q p) : Small f q :=
  ⟨h.s0, h.s1, h.s2, by rw [hl.1]; exact h.s0, by rw [hl.2]; exact h.s0, fun l hm => by
    obtain ⟨i, hi, rfl⟩ := List.getElem_of_mem hm
    have k1 := (hs i).1.length_le
    unfold nd at k1
    rw [Yt hi] at k1
    exact Nat.le_trans k1 (Zq h.s5 i), fun l hm => by
    obtain ⟨i, hi, rfl⟩ := List.getElem_of_mem hm
    have k1 := (hs i).2.length_le
    unfold lk at k1
    rw [Yt hi] at k1
    exact Nat.le_trans k1 (Zq h.s6 i)⟩
end Go.Proofs.Ytcaeoebphfjfiaa.Am


/- The document's Up and Down. -/
namespace Go.Proofs.Ytcaeoebphfjfiaa.Am
open Go Go.RowKit
set_option maxRecDepth 100000
set_option linter.unusedVariables false
set_option linter.unusedSimpArgs false

end Go.Proofs.Ytcaeoebphfjfiaa.Am


/- The statement ReduceHalves, as the abstract machine runs it. -/
namespace Go.Proofs.Ytcaeoebphfjfiaa.Am
open Go Go.RowKit
set_option maxRecDepth 100000
set_option linter.unusedVariables false
set_option linter.unusedSimpArgs false

end Go.Proofs.Ytcaeoebphfjfiaa.Am


/- How many nodes and links; whether nothing is left. -/
namespace Go.Proofs.Ytcaeoebphfjfiaa.Am
open Go Go.RowKit
set_option maxRecDepth 100000
set_option linter.unusedVariables false
set_option linter.unusedSimpArgs false

end Go.Proofs.Ytcaeoebphfjfiaa.Am


/- The statement ReduceRows, as the abstract machine runs it. -/
namespace Go.Proofs.Ytcaeoebphfjfiaa.Am
open Go Go.RowKit
set_option maxRecDepth 100000
set_option linter.unusedVariables false
set_option linter.unusedSimpArgs false

theorem few_cost (x : Link) : x.few.cost ≤ 1000000000 := by
  unfold Link.few
  by_cases h : 1000000000 < x.cost
  · rw [if_pos h]; simp
  · rw [if_neg h]; omega
theorem fewL_cost {xs : List Link} {x : Link} (h : x ∈ Zw xs) : x.cost ≤ 1000000000 := by
  unfold Zw at h
  obtain ⟨y, _, rfl⟩ := List.mem_map.1 h
  exact few_cost y
theorem tiny_few {f : Forest} {p : Parts} (hg : GoodP f.few p.few4) (hs : f.few.vars.length < 6) : Tiny f.few p.few4 := by
  have getn : ∀ v, ∀ x ∈ nd p.few4 v, v < f.few.vars.length := fun v x hx => by
    rcases Nat.lt_or_ge v f.few.vars.length with h | h
    · exact h
    · unfold nd at hx
      rw [List.getD_eq_getElem?_getD, List.getElem?_eq_none (by have := hg.n1; omega)] at hx; simp at hx
  have getl : ∀ v, ∀ x ∈ lk p.few4 v, v < f.few.vars.length := fun v x hx => by
    rcases Nat.lt_or_ge v f.few.vars.length with h | h
    · exact h
    · unfold lk at hx
      rw [List.getD_eq_getElem?_getD, List.getElem?_eq_none (by have := hg.n2; omega)] at hx; simp at hx
  refine ⟨by omega, fun v => ?_, fun v x hx => ?_, fun v x hx => ?_⟩
  · unfold nd
    by_cases h : v < p.few4.nodes.length
    · rw [Yt h]
      obtain ⟨l, _, e⟩ := List.mem_map.1 (show p.few4.nodes[v] ∈ (p.few.nodes.map (·.take 4)) from List.getElem_mem h)
      rw [← e, List.length_take]; omega
    · rw [List.getD_eq_getElem?_getD, List.getElem?_eq_none (by omega)]; simp
  · have hv := getn v x hx
    obtain ⟨k1, _⟩ := Vj.1 (hg.ok v hv).1
    obtain ⟨a1, a2, a3, a4, a5, a6, a7⟩ := k1 x hx
    refine ⟨a5, ?_, by omega, a7⟩
    have h : v < p.few4.nodes.length := by rw [hg.n1]; exact hv
    unfold nd at hx
    rw [Yt h] at hx
    obtain ⟨l, hl, e⟩ := List.mem_map.1 (show p.few4.nodes[v] ∈ (p.few.nodes.map (·.take 4)) from List.getElem_mem h)
    rw [← e] at hx
    obtain ⟨l2, _, rfl⟩ := List.mem_map.1 hl
    exact fewL_cost (List.mem_of_mem_take hx)
  · have hv := getl v x hx
    obtain ⟨k1, _⟩ := Vj.1 (hg.ok v hv).2.1
    obtain ⟨a1, a2, a3, a4, a5, a6, a7⟩ := k1 x hx
    refine ⟨a5, ?_, by omega, a7⟩
    have h : v < p.few4.links.length := by rw [hg.n2]; exact hv
    unfold lk at hx
    rw [Yt h] at hx
    obtain ⟨l, hl, e⟩ := List.mem_map.1 (show p.few4.links[v] ∈ ((p.links.take 8).map Zw) from List.getElem_mem h)
    rw [← e] at hx
    exact fewL_cost hx
theorem Tiny.sub {f : Forest} {p q : Parts} (h : Tiny f p) (hs : Sub q p) : Tiny f q :=
  ⟨h.vars, fun v => Nat.le_trans (hs v).1.length_le (h.nodes v), fun v x hx => h.costN v x ((hs v).1.subset hx), fun v x hx => h.costL v x ((hs v).2.subset hx)⟩
end Go.Proofs.Ytcaeoebphfjfiaa.Am


/- The statement TreeRows, as the abstract machine runs it. -/
namespace Go.Proofs.Ytcaeoebphfjfiaa.Am
open Go Go.RowKit
set_option maxRecDepth 100000
set_option linter.unusedVariables false
set_option linter.unusedSimpArgs false

theorem cheap_few {f : Forest} {p : Parts} (hg : GoodP f.few p.few4) : Cheap p.few4 := by
  have getn : ∀ v, ∀ x ∈ nd p.few4 v, v < f.few.vars.length := fun v x hx => by
    rcases Nat.lt_or_ge v f.few.vars.length with h | h
    · exact h
    · unfold nd at hx
      rw [List.getD_eq_getElem?_getD, List.getElem?_eq_none (by have := hg.n1; omega)] at hx; simp at hx
  have getl : ∀ v, ∀ x ∈ lk p.few4 v, v < f.few.vars.length := fun v x hx => by
    rcases Nat.lt_or_ge v f.few.vars.length with h | h
    · exact h
    · unfold lk at hx
      rw [List.getD_eq_getElem?_getD, List.getElem?_eq_none (by have := hg.n2; omega)] at hx; simp at hx
  refine ⟨fun v x hx => ?_, fun v x hx => ?_⟩
  · have hv := getn v x hx
    obtain ⟨k1, _⟩ := Vj.1 (hg.ok v hv).1
    obtain ⟨a1, a2, a3, a4, a5, a6, a7⟩ := k1 x hx
    refine ⟨a5, ?_, by omega⟩
    have h : v < p.few4.nodes.length := by rw [hg.n1]; exact hv
    unfold nd at hx
    rw [Yt h] at hx
    obtain ⟨l, hl, e⟩ := List.mem_map.1 (show p.few4.nodes[v] ∈ (p.few.nodes.map (·.take 4)) from List.getElem_mem h)
    rw [← e] at hx
    obtain ⟨l2, _, rfl⟩ := List.mem_map.1 hl
    exact fewL_cost (List.mem_of_mem_take hx)
  · have hv := getl v x hx
    obtain ⟨k1, _⟩ := Vj.1 (hg.ok v hv).2.1
    obtain ⟨a1, a2, a3, a4, a5, a6, a7⟩ := k1 x hx
    refine ⟨a5, ?_, by omega⟩
    have h : v < p.few4.links.length := by rw [hg.n2]; exact hv
    unfold lk at hx
    rw [Yt h] at hx
    obtain ⟨l, hl, e⟩ := List.mem_map.1 (show p.few4.links[v] ∈ ((p.links.take 8).map Zw) from List.getElem_mem h)
    rw [← e] at hx
    exact fewL_cost hx
theorem few_vars (f : Forest) : f.few.vars.length ≤ 8 := by
  show ((f.vars.take 8).map _).length ≤ 8
  rw [List.length_map, List.length_take]; omega
end Go.Proofs.Ytcaeoebphfjfiaa.Am


/- Links among the arguments of a statement. -/
namespace Go.Proofs.Ytcaeoebphfjfiaa.Am
open Go Go.RowKit
set_option maxRecDepth 100000
theorem cells_i64 : Try.prog.cellsOf 3 = 1 := by kernel_rfl
theorem cells_u64 : Try.prog.cellsOf 42 = 1 := by kernel_rfl
theorem cells_link : Try.prog.cellsOf 54 = 4 := by kernel_rfl
theorem opens_ints : Opens Try.prog (Z9 (Y3 .i64)) 23 (fun xs => xs.length ≤ maxLen ∧ ∀ x ∈ xs, fits .i64 x) := opens_sl Try.underlying23 cells_i64 (V0 Try.underlying3)
theorem opens_link : Opens Try.prog kLink 54 (fun x => fits .i64 x.a ∧ fits .i64 x.b ∧ fits .i64 x.cost ∧ fits .u64 x.n) := fun Hh enc W fuel cs x h => by
  obtain ⟨xs, n, _, _, hl, hxs, hf⟩ := DataW.trod_struct Try.underlying54 h
  rw [cells_link] at hl
  have hxs : xs.length = 4 := hxs
  match cs, hl with
  | [c0, c1, c2, c3], _ =>
    have f0 : DataW.trod enc Try.prog W 0 (fun _ => true) true n 3 (([c0, c1, c2, c3].drop 0).take (Try.prog.cellsOf 3)) = xs[0]? := hf 0 _ rfl
    have f1 : DataW.trod enc Try.prog W 0 (fun _ => true) true n 3 (([c0, c1, c2, c3].drop 1).take (Try.prog.cellsOf 3)) = xs[1]? := hf 1 _ rfl
    have f2 : DataW.trod enc Try.prog W 0 (fun _ => true) true n 3 (([c0, c1, c2, c3].drop 2).take (Try.prog.cellsOf 3)) = xs[2]? := hf 2 _ rfl
    have f3 : DataW.trod enc Try.prog W 0 (fun _ => true) true n 42 (([c0, c1, c2, c3].drop 3).take (Try.prog.cellsOf 42)) = xs[3]? := hf 3 _ rfl
    rw [cells_i64, List.getElem?_eq_getElem (show 0 < xs.length by omega)] at f0
    rw [cells_i64, List.getElem?_eq_getElem (show 1 < xs.length by omega)] at f1
    rw [cells_i64, List.getElem?_eq_getElem (show 2 < xs.length by omega)] at f2
    rw [cells_u64, List.getElem?_eq_getElem (show 3 < xs.length by omega)] at f3
    obtain ⟨y0, r0, b0, v0⟩ := V0 (P := Try.prog) Try.underlying3 Hh enc W n _ _ f0
    obtain ⟨y1, r1, b1, v1⟩ := V0 (P := Try.prog) Try.underlying3 Hh enc W n _ _ f1
    obtain ⟨y2, r2, b2, v2⟩ := V0 (P := Try.prog) Try.underlying3 Hh enc W n _ _ f2
    obtain ⟨y3, r3, b3, v3⟩ := V0 (P := Try.prog) Try.underlying42 Hh enc W n _ _ f3
    refine ⟨⟨y0, y1, y2, y3⟩, ?_, ⟨b0, b1, b2, b3⟩, fun v hv => ?_⟩
    · have e0 : [Vw W c0] = [Value.int .i64 y0] := r0
      have e1 : [Vw W c1] = [Value.int .i64 y1] := r1
      have e2 : [Vw W c2] = [Value.int .i64 y2] := r2
      have e3 : [Vw W c3] = [Value.int .u64 y3] := r3
      simp only [List.cons.injEq, and_true] at e0 e1 e2 e3
      simp [kLink, e0, e1, e2, e3]
    · simp at hv
      rcases hv with rfl | rfl | rfl | rfl
      · exact v0 _ (List.mem_singleton.2 rfl)
      · exact v1 _ (List.mem_singleton.2 rfl)
      · exact v2 _ (List.mem_singleton.2 rfl)
      · exact v3 _ (List.mem_singleton.2 rfl)
theorem opens_links : Opens Try.prog (Z9 kLink) 50 (fun xs => xs.length ≤ maxLen ∧ ∀ x ∈ xs, fits .i64 x.a ∧ fits .i64 x.b ∧ fits .i64 x.cost ∧ fits .u64 x.n) := opens_sl Try.underlying50 cells_link opens_link
end Go.Proofs.Ytcaeoebphfjfiaa.Am


/- Forests and parts among the arguments of a statement. -/
namespace Go.Proofs.Ytcaeoebphfjfiaa.Am
open Go Go.RowKit
set_option maxRecDepth 100000
theorem cells_links : Try.prog.cellsOf 50 = 1 := by kernel_rfl
theorem cells_ints : Try.prog.cellsOf 23 = 1 := by kernel_rfl
theorem cells_str : Try.prog.cellsOf 9 = 1 := by kernel_rfl
theorem cells_strs : Try.prog.cellsOf 22 = 1 := by kernel_rfl
theorem cells_intss : Try.prog.cellsOf 24 = 1 := by kernel_rfl
theorem cells_linkss : Try.prog.cellsOf 27 = 1 := by kernel_rfl
theorem cells_parts : Try.prog.cellsOf 29 = 2 := by kernel_rfl
theorem cells_forest : Try.prog.cellsOf 26 = 5 := by kernel_rfl
theorem opens_strs : Opens Try.prog (Z9 kStr) 22 (fun xs => xs.length ≤ maxLen ∧ ∀ x ∈ xs, x.size ≤ maxLen) := opens_sl Try.underlying22 cells_str (opens_str Try.underlying9)
theorem opens_intss : Opens Try.prog (Z9 (Z9 (Y3 .i64))) 24 (fun xs => xs.length ≤ maxLen ∧ ∀ x ∈ xs, x.length ≤ maxLen ∧ ∀ n ∈ x, fits .i64 n) := opens_sl Try.underlying24 cells_ints opens_ints
theorem opens_linkss : Opens Try.prog (Z9 (Z9 kLink)) 27 (fun xs : List (List Link) => xs.length ≤ maxLen ∧ ∀ l ∈ xs, l.length ≤ maxLen ∧ ∀ x ∈ l, fits .i64 x.a ∧ fits .i64 x.b ∧ fits .i64 x.cost ∧ fits .u64 x.n) := opens_sl Try.underlying27 cells_links opens_links
theorem opens_parts : Opens Try.prog kParts 29 BigP := fun Hh enc W fuel cs x h => by
  obtain ⟨xs, n, _, _, hl, hxs, hf⟩ := DataW.trod_struct Try.underlying29 h
  rw [cells_parts] at hl
  have hxs : xs.length = 2 := hxs
  match cs, hl with
  | [c0, c1], _ =>
    have f0 : DataW.trod enc Try.prog W 0 (fun _ => true) true n 27 (([c0, c1].drop 0).take (Try.prog.cellsOf 27)) = xs[0]? := hf 0 _ rfl
    have f1 : DataW.trod enc Try.prog W 0 (fun _ => true) true n 27 (([c0, c1].drop 1).take (Try.prog.cellsOf 27)) = xs[1]? := hf 1 _ rfl
    rw [cells_linkss, List.getElem?_eq_getElem (show 0 < xs.length by omega)] at f0
    rw [cells_linkss, List.getElem?_eq_getElem (show 1 < xs.length by omega)] at f1
    obtain ⟨y0, ⟨w0, r0, s0⟩, b0, v0⟩ := opens_linkss Hh enc W n _ _ f0
    obtain ⟨y1, ⟨w1, r1, s1⟩, b1, v1⟩ := opens_linkss Hh enc W n _ _ f1
    refine ⟨⟨y0, y1⟩, ⟨w0, w1, ?_, s0, s1⟩, ⟨b0.1, b1.1, fun l hl => (b0.2 l hl).1, fun l hl => (b1.2 l hl).1⟩, fun v hv => ?_⟩
    · have e0 : [Vw W c0] = [w0] := r0
      have e1 : [Vw W c1] = [w1] := r1
      simp only [List.cons.injEq, and_true] at e0 e1
      simp [e0, e1]
    · simp at hv
      rcases hv with rfl | rfl
      · exact v0 _ (List.mem_singleton.2 rfl)
      · exact v1 _ (List.mem_singleton.2 rfl)
theorem opens_forest : Opens Try.prog kForest 26 BigF := fun Hh enc W fuel cs x h => by
  obtain ⟨xs, n, _, _, hl, hxs, hf⟩ := DataW.trod_struct Try.underlying26 h
  rw [cells_forest] at hl
  have hxs : xs.length = 5 := hxs
  match cs, hl with
  | [c0, c1, c2, c3, c4], _ =>
    have f0 : DataW.trod enc Try.prog W 0 (fun _ => true) true n 22 (([c0, c1, c2, c3, c4].drop 0).take (Try.prog.cellsOf 22)) = xs[0]? := hf 0 _ rfl
    have f1 : DataW.trod enc Try.prog W 0 (fun _ => true) true n 23 (([c0, c1, c2, c3, c4].drop 1).take (Try.prog.cellsOf 23)) = xs[1]? := hf 1 _ rfl
    have f2 : DataW.trod enc Try.prog W 0 (fun _ => true) true n 23 (([c0, c1, c2, c3, c4].drop 2).take (Try.prog.cellsOf 23)) = xs[2]? := hf 2 _ rfl
    have f3 : DataW.trod enc Try.prog W 0 (fun _ => true) true n 24 (([c0, c1, c2, c3, c4].drop 3).take (Try.prog.cellsOf 24)) = xs[3]? := hf 3 _ rfl
    have f4 : DataW.trod enc Try.prog W 0 (fun _ => true) true n 24 (([c0, c1, c2, c3, c4].drop 4).take (Try.prog.cellsOf 24)) = xs[4]? := hf 4 _ rfl
    rw [cells_strs, List.getElem?_eq_getElem (show 0 < xs.length by omega)] at f0
    rw [cells_ints, List.getElem?_eq_getElem (show 1 < xs.length by omega)] at f1
    rw [cells_ints, List.getElem?_eq_getElem (show 2 < xs.length by omega)] at f2
    rw [cells_intss, List.getElem?_eq_getElem (show 3 < xs.length by omega)] at f3
    rw [cells_intss, List.getElem?_eq_getElem (show 4 < xs.length by omega)] at f4
    obtain ⟨y0, ⟨w0, r0, s0⟩, b0, v0⟩ := opens_strs Hh enc W n _ _ f0
    obtain ⟨y1, ⟨w1, r1, s1⟩, b1, v1⟩ := opens_ints Hh enc W n _ _ f1
    obtain ⟨y2, ⟨w2, r2, s2⟩, b2, v2⟩ := opens_ints Hh enc W n _ _ f2
    obtain ⟨y3, ⟨w3, r3, s3⟩, b3, v3⟩ := opens_intss Hh enc W n _ _ f3
    obtain ⟨y4, ⟨w4, r4, s4⟩, b4, v4⟩ := opens_intss Hh enc W n _ _ f4
    refine ⟨⟨y0, y1, y2, y3, y4⟩, ⟨w0, w1, w2, w3, w4, ?_, s0, s1, s2, s3, s4⟩, ⟨b0.1, b1.1, b2.1, b3.1, b4.1, fun l hl => (b3.2 l hl).1, fun l hl => (b4.2 l hl).1⟩, fun v hv => ?_⟩
    · have e0 : [Vw W c0] = [w0] := r0
      have e1 : [Vw W c1] = [w1] := r1
      have e2 : [Vw W c2] = [w2] := r2
      have e3 : [Vw W c3] = [w3] := r3
      have e4 : [Vw W c4] = [w4] := r4
      simp only [List.cons.injEq, and_true] at e0 e1 e2 e3 e4
      simp [e0, e1, e2, e3, e4]
    · simp at hv
      rcases hv with rfl | rfl | rfl | rfl | rfl
      · exact v0 _ (List.mem_singleton.2 rfl)
      · exact v1 _ (List.mem_singleton.2 rfl)
      · exact v2 _ (List.mem_singleton.2 rfl)
      · exact v3 _ (List.mem_singleton.2 rfl)
      · exact v4 _ (List.mem_singleton.2 rfl)
end Go.Proofs.Ytcaeoebphfjfiaa.Am
