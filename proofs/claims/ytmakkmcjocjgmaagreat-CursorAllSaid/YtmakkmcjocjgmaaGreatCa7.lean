/- Texts that the proof rests on, part 7: lemmas for every heap that is related to a world, no condition beyond each lemma's own. -/
import Derived.Test.YtmakkmcjocjgmaaGreatCa6
import Derived.Test.YtmakkmcjocjgmaaGreatCaTreeGroups
import Derived.Test.YtmakkmcjocjgmaaGreatCa1
import Derived.Test.YtmakkmcjocjgmaaGreatCaRow
namespace Go.Proofs.YtmakkmcjocjgmaaGreat.Am
open Go Go.RowKit
set_option linter.unusedVariables false
set_option linter.unusedSimpArgs false
set_option maxRecDepth 100000
set_option maxHeartbeats 2000000 in
theorem Next_T {T : TreeT} (hT : GoodT T) (hA : U3 T) {tb : Nat} (m : MarkT) (cs : List Value) (H : Hp) (ht : TreeR H (.pointer (some ⟨tb, 0, none⟩)) T) (hm : kMark.rep H m cs) (hb : BigM m) (hr0 : 0 ≤ m.rest) :
  ACalls Tryz.prog 17 #[.pointer (some ⟨tb, 0, none⟩), .agg cs.toArray] H (fun r H' => (∃ (o : Option RowT) (rest : Int) (A : Option Addr) (c : Nat) (x : MarkT) (B : Option Addr) (k : Nat), r = .tuple #[.agg #[.slice A (Uy o).length c, .int .i64 (rowC o), .int .u64 (rowM o)], .agg #[.int .i64 x.told, .bool x.over, .slice B x.nodes.length k, .int .u64 x.rest, .slice none 0 0], .bool o.isSome] ∧ Sl (Y1 .i64) H' (.slice A (Uy o).length c) (Uy o) ∧ Sl (Y1 .i64) H' (.slice B x.nodes.length k) x.nodes ∧
   (¬ FitsT T m → o = none ∧ x = Us) ∧ (FitsT T m → NextIs T m o rest ∧ (o = none → x = ⟨m.told, true, [], 0, []⟩) ∧ ∀ r, o = some r → x = ⟨(if 9007199254740992 < m.told + 1 then 9007199254740992 else m.told + 1), false, r.nodes, rest, []⟩)) ∧ H.le H') := by
 have hm0 := hm
 obtain ⟨v, w, rfl, hv, hw⟩ := hm
 obtain ⟨A, c, rfl⟩ := hv.shape
 obtain ⟨W, cW, rfl⟩ := hw.shape
 refine Xv Tryz.func17 rfl rfl rfl (by simp) ?_
 refine Xe ?_
 refine Xu ?_
 refine Xz (Yw rfl) ?_
 refine Xz (Yz (l := [.slice none 0 0, .int .i64 0, .int .u64 0]) inf46.zero rfl (by decide)) ?_
 refine Xz (Yz (l := [.int .i64 0, .bool false, .slice none 0 0, .int .u64 0, .slice none 0 0]) inf33.zero rfl (by decide)) ?_
 refine Xa (Xn rfl) ?_
 refine Xe ?_
 refine Xe ?_
 refine Xu ?_
 refine Xa (X0 rfl) ?_
 refine Xa (Yl (cs := [.int .i64 _, .bool _, .slice _ _ _, .int .u64 _, .slice _ _ _]) rfl Tryz.underlying33 rfl inf33.size X8) ?_
 refine Xw (Xy (fits_T hT m _ _ (ht.mono t_le) (kMark.mono Zp hm0) hb) rfl Tryz.func58 rfl rfl rfl ?_)
 rintro v12 H1 ⟨⟨g, rfl, hg⟩, le1⟩; have z1 := le1.1; simp only [Hp.push_size] at z1; have g10 : H1.get H.size = .own 0 [.int .i64 m.told, .bool m.over, .slice A m.nodes.length c, .int .u64 m.rest, .slice W m.items.length cW] := Xr le1 (by simp <;> omega) (by intro e; cases e) Yd; have g11 : H1.get (H.size + 1) = .own 0 [.slice none 0 0, .int .i64 0, .int .u64 0] := Xr le1 (by simp <;> omega) (by intro e; cases e) Yd; have g12 : H1.get (H.size + 1 + 1) = .own 0 [.int .i64 0, .bool false, .slice none 0 0, .int .u64 0, .slice none 0 0] := Xr le1 (by simp <;> omega) (by intro e; cases e) Yd; have leH1 : H.le H1 := Hp.le_trans (Hp.le_push' (Hp.le_push' (H.le_push _) _) _) le1
 refine Xa (Zz rfl) ?_
 refine X5 rfl rfl ?_ ?_
 intro hc1
 have hno : ¬ FitsT T m := fun h => by have h2 := hc1; rw [hg.2 h] at h2; cases h2
 refine Xe ?_
 refine Xu ?_
 refine Xa (Y6 (pl := [(0, 1), (1, 1), (2, 1)]) (r := [.slice _ _ _, .int .i64 _, .int .u64 _]) Tryz.underlying46 inf46.zero (by decide) rfl rfl) ?_
 refine Xa (Y6 (pl := [(0, 1), (1, 1), (2, 1), (3, 1), (4, 1)]) (r := [.int .i64 _, .bool _, .slice _ _ _, .int .u64 _, .slice _ _ _]) Tryz.underlying33 inf33.zero (by decide) rfl rfl) ?_
 refine Xw (Yf (vs := [.slice _ _ _, .int .i64 _, .int .u64 _]) rfl rfl inf46.size Yd Yg rfl rfl ?_)
 refine Xw (Yf (vs := [.int .i64 _, .bool _, .slice _ _ _, .int .u64 _, .slice _ _ _]) rfl rfl inf33.size Yd Yg rfl rfl ?_)
 refine Xa (Xn rfl) ?_
 refine X2 ?_
 ·exact ⟨_, Vg (Yq Xm (Yo (cs := [_, _, _]) Tryz.underlying46 rfl inf46.size X8)) (Yq Xm (Yo (cs := [_, _, _, _, _]) Tryz.underlying33 rfl inf33.size X8)) (Xs rfl), ⟨none, 0, none, 0, Us, none, 0, rfl, Sl.nil _ _, Sl.nil _ _, fun _ => ⟨rfl, rfl⟩, fun h => absurd h hno⟩, Hp.le_put_new (Hp.le_put_new leH1 (by first | omega | (simp; done) | (simp; omega)) _) (by first | omega | (simp; done) | (simp; omega)) _⟩
 intro hc1
 have hyes : FitsT T m := hg.1 (by have h := hc1; simpa using h)
 have htold := hyes.1.t1
 have htold0 := hyes.1.t0
 refine X9 ?_
 refine Xe ?_
 refine Xu ?_
 refine Xa (X0 rfl) ?_
 refine Xa (Yl (cs := [.int .i64 _, .bool _, .slice _ _ _, .int .u64 _, .slice _ _ _]) rfl Tryz.underlying33 rfl inf33.size X8) ?_
 refine Xw (Xy (behind_T hT hA m _ _ (ht.mono leH1) (kMark.mono leH1.sees hm0) hyes hr0) rfl Tryz.func59 rfl rfl rfl ?_)
 rintro v19 H2 ⟨⟨o, rest, A2, c2, rfl, sl2, hnx⟩, le2⟩; have z2 := le2.1; have g20 := Xr le2 (by omega) (by intro e; cases e) g10; have g21 := Xr le2 (by omega) (by intro e; cases e) g11; have g22 := Xr le2 (by omega) (by intro e; cases e) g12; have leH2 := Hp.le_trans leH1 le2
 refine Xa (Zm rfl) ?_
 refine Xa (Yj rfl rfl) ?_
 refine Xa (Yj rfl rfl) ?_
 refine Xa (Yj rfl rfl) ?_
 refine Xz (Yz (l := [.slice none 0 0, .int .i64 0, .int .u64 0]) inf46.zero rfl (by decide)) ?_
 refine Xw (Yf (vs := [.slice _ _ _, .int .i64 _, .int .u64 _]) rfl rfl inf46.size Yd Yg rfl rfl ?_)
 refine Xa (Xi rfl) ?_
 refine Xa (Xn rfl) ?_
 refine Xe ?_
 refine Xe ?_
 obtain ⟨H3, hH3⟩ : ∃ H3, H3 = (H2.push (.own 0 [.slice none 0 0, .int .i64 0, .int .u64 0])).put H2.size (.own 0 [.slice A2 (Uy o).length c2, .int .i64 (rowC o), .int .u64 (rowM o)]) := ⟨_, rfl⟩
 have le23 : H2.le H3 := by rw [hH3]; exact Hp.le_put_new (H2.le_push _) (Nat.le_refl _) _
 have g3 : H3.get H2.size = .own 0 [.slice A2 (Uy o).length c2, .int .i64 (rowC o), .int .u64 (rowM o)] := by rw [hH3]; exact Hp.put_same _ _ _
 have z3 : H3.size = H2.size + 1 := by rw [hH3]; simp
 change ACode true _ _ _ _ _ ((H2.push (.own 0 [.slice none 0 0, .int .i64 0, .int .u64 0])).put H2.size (.own 0 [.slice A2 (Uy o).length c2, .int .i64 (rowC o), .int .u64 (rowM o)]))
 rw [← hH3]
 clear hH3
 have g30 := Xr le23 (by omega) (by intro e; cases e) g20
 have g31 := Xr le23 (by omega) (by intro e; cases e) g21
 have g32 := Xr le23 (by omega) (by intro e; cases e) g22
 have sl3 := sl2.mono le23.sees
 have leH3 := Hp.le_trans leH2 le23
 refine Xu ?_
 refine Xa (Xo rfl) ?_
 refine Xa (Zz rfl) ?_
 refine X5 rfl rfl ?_ ?_
 intro hc2
 obtain rfl : o = none := by cases o with | none => rfl | some r => exact absurd hc2 (by simp)
 refine Xe ?_
 refine Yy (by kernel_rfl) (Y4 (B := [0, 0, 2, 6, 1, 31, 63]) (π := [0, 1, 2, 3, 4, 5, 6]) (by kernel_rfl)) ?_
 refine Xd rfl rfl (Y6 (pl := [(0, 1), (1, 1), (2, 1)]) (r := [.slice _ _ _, .int .i64 _, .int .u64 _]) Tryz.underlying46 inf46.zero (by decide) rfl rfl) Xq ?_
 refine Xd rfl rfl (Xf (off := 0) rfl Tryz.underlying33 rfl inf3.size (by decide) rfl) Xq ?_
 refine Xd rfl rfl (Xk rfl Tryz.underlying3 rfl Xp) Xq ?_
 refine Xd rfl rfl (Y6 (pl := [(0, 1), (1, 1), (2, 1), (3, 1), (4, 1)]) (r := [.int .i64 _, .bool _, .slice _ _ _, .int .u64 _, .slice _ _ _]) Tryz.underlying33 inf33.zero (by decide) rfl rfl) Xq ?_
 refine Ym rfl rfl (Yf (vs := [.slice _ _ _, .int .i64 _, .int .u64 _]) rfl rfl inf46.size Yd Yg rfl rfl ?_)
 refine ⟨Yk, ?_⟩
 refine Ym rfl rfl (Yf (vs := [.int .i64 _, .bool _, .slice _ _ _, .int .u64 _, .slice _ _ _]) rfl rfl inf33.size Yd Yg rfl rfl ?_)
 refine ⟨Yk, ?_⟩
 refine Xd rfl rfl (Xn rfl) Xq ?_
 refine X2 ?_
 ·exact ⟨_, Vg (Yq Xm (Yo (cs := [_, _, _]) Tryz.underlying46 rfl inf46.size X8)) (Yq Xm (Yo (cs := [_, _, _, _, _]) Tryz.underlying33 rfl inf33.size X8)) (Xs rfl), ⟨none, rest, none, 0, ⟨m.told, true, [], 0, []⟩, none, 0, rfl, Sl.nil _ _, Sl.nil _ _, fun h => absurd hyes h, fun _ => ⟨hnx, fun _ => rfl, fun r h => (by cases h)⟩⟩, Hp.le_put_new (Hp.le_put_new leH3 (by first | omega | (simp; done) | (simp; omega)) _) (by first | omega | (simp; done) | (simp; omega)) _⟩
 intro hc2
 obtain ⟨r, rfl⟩ : ∃ r, o = some r := by cases o with | none => exact absurd hc2 (by simp) | some r => exact ⟨r, rfl⟩
 have hnl : r.nodes.length ≤ 1000000000 := by
  rcases Nat.lt_or_ge 1000000000 r.nodes.length with h | h
  ·exfalso
   have hfew := hT.few
   have hrl : r.nodes.length = T.vars.length := by
    cases ho : m.over with
    | true => exact absurd (hnx.1 ho).1 (by simp)
    | false =>
     by_cases hn0 : m.nodes.length = 0
     ·have h1 := (hnx.2.1 ho hn0).1
      have h2 := (next_tells hT hA _ w0 (val_w0 T) (Nat.le_refl _)).2.1
      rw [← h1] at h2
      have h3 : Vl T w0 = r.nodes :: _ ∧ Vm T r.nodes = some r := h2
      exact (row_most h3.2).2.2
     ·obtain ⟨q, hq, _⟩ := hyes.2.resolve_left hn0
      obtain ⟨h1, h2⟩ := hnx.2.2 ho hn0 q hq
      by_cases hlt : m.rest + 1 < q.n
      ·have h3 := (h1 hlt).1
       injection h3 with h3
       rw [h3]
       have h4 := row_most hq
       rw [h4.2.1]; exact h4.2.2
      ·have h3 := (h2 hlt).1.2 r rfl
       exact (row_most h3).2.2
   omega
  ·exact h
 refine X9 ?_
 refine Xe ?_
 refine Yy (by kernel_rfl) (Y4 (B := [0, 0, 2, 6, 14, 0, 32, 96, 0, 510, 225, 2047, 4095]) (π := [0, 1, 2, 3, 4, 5, 6, 8, 7, 9, 10, 11, 12]) (by kernel_rfl)) ?_
 refine Xd rfl rfl (Yl (cs := [.slice _ _ _, .int .i64 _, .int .u64 _]) rfl Tryz.underlying46 rfl inf46.size X8) Xq ?_
 refine Xd rfl rfl (Xf (off := 0) rfl Tryz.underlying33 rfl inf3.size (by decide) rfl) Xq ?_
 refine Xd rfl rfl (Xk rfl Tryz.underlying3 rfl Xp) Xq ?_
 refine Xd rfl rfl (Yn rfl rfl Y0) Xq ?_
 refine Xd rfl rfl (av_min2 rfl rfl) Xq ?_
 refine Xd rfl rfl (Xf (off := 0) rfl Tryz.underlying46 rfl inf23.size (by decide) rfl) Xq ?_
 refine Xd rfl rfl (Xk rfl Tryz.underlying23 rfl Xp) Xq ?_
 refine Xd rfl rfl (Xb rfl) Xq ?_
 refine Ym rfl rfl (Xy (Clone_ints r.nodes _ _ sl3 hnl) rfl Tryz.func60 rfl rfl rfl ?_)
 rintro v36 H4 ⟨le4, sl4⟩; have z4 := le4.1; have g41 := Xr le4 (by omega) (by intro e; cases e) g31; have g42 := Xr le4 (by omega) (by intro e; cases e) g32; have leH4 := Hp.le_trans leH3 le4; obtain ⟨A4, c4, rfl⟩ := sl4.shape; have sl34 := sl3.mono le4.sees; have hsame : ∀ b ∈ [H2.size], H4.get b = H3.get b := (fun b hb => by rw [List.mem_singleton] at hb; subst hb; exact le4.2 _ (by omega) (by rw [g3]; intro e; cases e))
 refine ⟨Yk, ?_⟩
 refine Xd rfl rfl (Y6 (pl := [(0, 1), (1, 1), (2, 1), (3, 1), (4, 1)]) (r := [.int .i64 _, .bool _, .slice _ _ _, .int .u64 _, .slice _ _ _]) Tryz.underlying33 inf33.zero (by decide) rfl rfl) Xq ?_
 refine Ym rfl rfl (Yf (vs := [.slice _ _ _, .int .i64 _, .int .u64 _]) rfl rfl inf46.size Yd Yg rfl rfl ?_)
 refine ⟨Yk, ?_⟩
 refine Ym rfl rfl (Yf (vs := [.int .i64 _, .bool _, .slice _ _ _, .int .u64 _, .slice _ _ _]) rfl rfl inf33.size Yd Yg rfl rfl ?_)
 refine ⟨Yk, ?_⟩
 refine Xd rfl rfl (Xn rfl) Xq ?_
 refine X2 ?_
 ·refine ⟨_, Vg (Yq Xm (Yo (cs := [_, _, _]) Tryz.underlying46 rfl inf46.size X8)) (Yq Xm (Yo (cs := [_, _, _, _, _]) Tryz.underlying33 rfl inf33.size X8)) (Xs rfl), ?_⟩
  refine ⟨⟨some r, rest, A2, c2, ⟨(if 9007199254740992 < m.told + 1 then 9007199254740992 else m.told + 1), false, r.nodes, rest, []⟩, A4, c4, rfl, ?_, ?_, fun h => absurd hyes h, fun _ => ⟨hnx, fun h => (by cases h), fun r' h => (by injection h with h; rw [h])⟩⟩, Hp.le_put_new (Hp.le_put_new leH4 (by first | omega | (simp; done) | (simp; omega)) _) (by first | omega | (simp; done) | (simp; omega)) _⟩
  ·exact (sl34.mono (Hp.sees_box _ g41)).mono (Hp.sees_box (cs := [.int .i64 0, .bool false, .slice none 0 0, .int .u64 0, .slice none 0 0]) _ (by rw [Hp.put_other _ _ (by first | omega | (simp; done) | (simp; omega))]; exact g42))
  ·exact (sl4.mono (Hp.sees_box _ g41)).mono (Hp.sees_box (cs := [.int .i64 0, .bool false, .slice none 0 0, .int .u64 0, .slice none 0 0]) _ (by rw [Hp.put_other _ _ (by first | omega | (simp; done) | (simp; omega))]; exact g42))
def oneF : Forest := apartF 1
def oneP : Parts := apartP 2 [2]
def oneT : TreeT := ⟨[⟨#[120]⟩], [-1], [[⟨0, 0, 0, 2⟩, ⟨1, 1, 1, 2⟩]]⟩
theorem good_one : GoodP oneF oneP := by
 refine ⟨⟨rfl, rfl, rfl, rfl, fun i hi => ?_⟩, rfl, rfl, fun v hv => ?_⟩
 ·have hi' : i < 1 := hi
  obtain rfl : i = 0 := by omega
  unfold OkF; decide
 ·have hv' : v < 1 := hv
  obtain rfl : v = 0 := by omega
  unfold OkP; rw [V6, V6]; unfold OkL; decide
theorem small_one : Small oneF oneP := ⟨by decide, by decide, by decide, by decide, by decide, by decide, by decide⟩
theorem cheap_one : Cheap oneP := by
 refine ⟨fun v => ?_, fun v => ?_⟩
 ·match v with
  | 0 => decide
  | v + 1 => intro x hx; cases hx
 ·match v with
  | 0 => decide
  | v + 1 => intro x hx; cases hx
theorem of_one : ofP oneF oneP = oneP := by
 refine ofP_fix good_one.gf good_one.lens good_one.nb (fun v hv hp => ?_) (fun h => ?_)
 ·have hv' : v < 1 := hv
  obtain rfl : v = 0 := by omega
  exact absurd rfl hp
 ·have : oneF.order.any (V5 oneF oneP) = false := by decide
  rw [this] at h; cases h
theorem tree_one : Zg oneF (ofP oneF oneP) = oneT := by rw [of_one]; rfl
theorem goodT_one : GoodT oneT := by
 have h := ofP_all good_one
 have := good_tree (ofP_good good_one) (by rw [of_one]; exact small_one) (cheap_one.sub h.2.1) (by decide)
 rwa [tree_one] at this
theorem alive_one : U3 oneT := by have := alive_tree good_one; rwa [tree_one] at this
theorem first_one : (V4 oneT w0).2 = some ⟨[0], 0, 2⟩ := rfl
set_option maxHeartbeats 2000000 in
theorem Ud (H : Hp) : ACalls Tryz.prog 15 #[] H (fun r H' => r = .bool true ∧ H.le H') := by
 refine Xv Tryz.func15 rfl rfl rfl (by simp) ?_
 refine Xe ?_
 refine Xu ?_
 refine Xa (Xn rfl) ?_
 refine Xe ?_
 refine Xu ?_
 refine Xw (Xy (Start_36 _) rfl Tryz.func41 rfl rfl rfl ?_)
 rintro v11 H0 ⟨rfl, le0⟩
 refine Xw (Xy (Put_start _) rfl Tryz.func42 rfl rfl rfl ?_)
 rintro v12 H1 ⟨rfl, le1⟩; have leH1 := Hp.le_trans le0 le1
 refine Xa (Zm rfl) ?_
 refine Xa (Yj rfl rfl) ?_
 refine Xa (Yj rfl rfl) ?_
 refine Xa (Zd rfl) ?_
 refine Xa (Xi rfl) ?_
 refine Xe ?_
 refine Xu ?_
 first | refine Xz (Yh (r := [.int .i64 _]) Tryz.underlying23 inf3.size inf3.zero rfl (by decide) (by decide) (by decide) rfl) ?_
 refine Xw (Xy (Apart_ok 2 [2] (.slice (some ⟨H1.size, 0, none⟩) 1 1) _ (sl_one1 (k := Y1 .i64) Yd (by simp) rfl rfl) (by decide) (by decide)) rfl Tryz.func54 rfl rfl rfl ?_)
 rintro v17 H2 ⟨cs1, ds1, rfl, hf1, hp1, hle2⟩; have hf10 := hf1; have hp10 := hp1; obtain ⟨a0, a1, a2, a3, a4, rfl, hs0, hs1, hs2, hs3, hs4⟩ := hf1; obtain ⟨A0, c0, rfl⟩ := hs0.shape; obtain ⟨B1', c1', rfl⟩ := hs1.shape; obtain ⟨A2, c2, rfl⟩ := hs2.shape; obtain ⟨A3, c3, rfl⟩ := hs3.shape; obtain ⟨A4, c4, rfl⟩ := hs4.shape; obtain ⟨u0, u1, rfl, hn0, hn1⟩ := hp1; obtain ⟨B0, d0, rfl⟩ := hn0.shape; obtain ⟨B1, d1, rfl⟩ := hn1.shape; have hz2 := hle2.1; simp only [Hp.push_size] at hz2; have leH2 := Hp.le_trans leH1 (Hp.le_trans (H1.le_push _) hle2)
 refine Xa (Zm rfl) ?_
 refine Xa (Yj rfl rfl) ?_
 refine Xa (Yj rfl rfl) ?_
 refine Xz (Yz (l := [.slice none 0 0, .slice none 0 0, .slice none 0 0, .slice none 0 0, .slice none 0 0]) inf26.zero rfl (by decide)) ?_
 refine Xz (Yz (l := [.slice none 0 0, .slice none 0 0]) inf29.zero rfl (by decide)) ?_
 refine Xw (Yf (vs := [.slice _ _ _, .slice _ _ _, .slice _ _ _, .slice _ _ _, .slice _ _ _]) rfl rfl inf26.size Yd Yg rfl rfl ?_)
 refine Xw (Yf (vs := [.slice _ _ _, .slice _ _ _]) rfl rfl inf29.size Yd Yg rfl rfl ?_)
 refine Xe ?_
 refine Xu ?_
 refine Xa (Yl (cs := [.slice _ _ _, .slice _ _ _, .slice _ _ _, .slice _ _ _, .slice _ _ _]) rfl Tryz.underlying26 rfl inf26.size X8) ?_
 refine Xa (Yl (cs := [.slice _ _ _, .slice _ _ _]) rfl Tryz.underlying29 rfl inf29.size X8) ?_
 refine Xw (Xy (New_good oneF oneP _ _ _ (kForest.mono Zp hf10) (kParts.mono Zp hp10) small_one cheap_one good_one) rfl Tryz.func13 rfl rfl rfl ?_)
 rintro v23 H3 ⟨hle3, tb, rfl, htr⟩; rw [tree_one] at htr
 refine Xa (Zm rfl) ?_
 refine Xa (Yj rfl rfl) ?_
 refine Xa (Yj rfl rfl) ?_
 refine Xa (Z3 rfl) ?_
 refine Xa (Xi rfl) ?_
 refine Xe ?_
 have leH3 : H.le H3 := Hp.le_trans leH2 (Hp.le_trans t_le hle3)
 clear hle3
 refine Xu ?_
 refine Xa (X0 rfl) ?_
 refine Xw (Xy (Start_36 _) rfl Tryz.func41 rfl rfl rfl ?_)
 rintro v28 H4 ⟨rfl, le4⟩
 refine Xw (Xy (Next_T goodT_one alive_one Us _ _ (htr.mono le4) (Ul _) Um (by decide)) rfl Tryz.func17 rfl rfl rfl ?_)
 rintro v29 H5 ⟨⟨o, rest, A5, k5, x, B5, k6, rfl, sl5, sx5, _, hnx⟩, le5⟩; obtain ⟨hn1, hn2, hn3⟩ := hnx ⟨start_good, .inl rfl⟩; have ho1 := (hn1.2.1 rfl rfl).1; rw [first_one] at ho1; subst ho1; have hx := hn3 _ rfl; subst hx; have leH5 := Hp.le_trans leH3 (Hp.le_trans le4 le5); have z5 := leH5.1
 refine Xa (Zm rfl) ?_
 refine Xa (Yj rfl rfl) ?_
 refine Xa (Yj rfl rfl) ?_
 refine Xa (Yj rfl rfl) ?_
 refine Xz (Yz (l := [.slice none 0 0, .int .i64 0, .int .u64 0]) inf46.zero rfl (by decide)) ?_
 refine Xz (Yz (l := [.int .i64 0, .bool false, .slice none 0 0, .int .u64 0, .slice none 0 0]) inf33.zero rfl (by decide)) ?_
 refine Xw (Yf (vs := [.slice _ _ _, .int .i64 _, .int .u64 _]) rfl rfl inf46.size Yd Yg rfl rfl ?_)
 refine Xw (Yf (vs := [.int .i64 _, .bool _, .slice _ _ _, .int .u64 _, .slice _ _ _]) rfl rfl inf33.size Yd Yg rfl rfl ?_)
 refine Xa (Xn rfl) ?_
 refine Xe ?_
 refine Xu ?_
 refine Xa (Xb rfl) ?_
 refine Xa (Zx rfl rfl) ?_
 refine Xa (Xo rfl) ?_
 refine Ya rfl rfl rfl ?_ ?_
 intro hg1
 have hp1 := hg1; try simp only [Yt] at hp1
 refine Xj (Xh rfl rfl rfl hg1) (Z2 rfl) ?_
 refine Xj (Xh rfl rfl rfl hg1) (av_str_eql rfl rfl) ?_
 refine Xa (Xl (Yv hg1) rfl) ?_
 refine Xa (Xo rfl) ?_
 refine Ya rfl rfl rfl ?_ ?_
 intro hg2
 have hp2 := hg2; try simp only [Yt] at hp2
 refine Xj (Xh rfl rfl rfl hg2) (Xb rfl) ?_
 refine Xj (Xh rfl rfl rfl hg2) (Zx rfl rfl) ?_
 refine Xa (Xl (Yv hg2) rfl) ?_
 refine Xa (Xo rfl) ?_
 refine Ya rfl rfl rfl ?_ ?_
 intro hg3
 have hp3 := hg3; try simp only [Yt] at hp3
 refine Xj (Xh rfl rfl rfl hg3) (Xo rfl) ?_
 refine Xa (Xl (Yv hg3) rfl) ?_
 refine Xa (Xo rfl) ?_
 refine Ya rfl rfl rfl ?_ ?_
 intro hg4
 have hp4 := hg4; try simp only [Yt] at hp4
 refine Xj (Xh rfl rfl rfl hg4) (Xf (off := 2) rfl Tryz.underlying46 rfl inf30.size (by decide) rfl) ?_
 refine Xj (Xh rfl rfl rfl hg4) (Xk rfl Tryz.underlying30 rfl Xp) ?_
 refine Xj (Xh rfl rfl rfl hg4) (Zx rfl rfl) ?_
 refine Xa (Xl (Yv hg4) rfl) ?_
 refine Xa (Xo rfl) ?_
 refine Ya rfl rfl rfl ?_ ?_
 intro hg5
 have hp5 := hg5; try simp only [Yt] at hp5
 refine Xj (Xh rfl rfl rfl hg5) (Xf (off := 0) rfl Tryz.underlying33 rfl inf3.size (by decide) rfl) ?_
 refine Xj (Xh rfl rfl rfl hg5) (Xk rfl Tryz.underlying3 rfl Xp) ?_
 refine Xj (Xh rfl rfl rfl hg5) (Zx rfl rfl) ?_
 refine Xa (Xl (Yv hg5) rfl) ?_
 refine Xa (Xo rfl) ?_
 refine Ya rfl rfl rfl ?_ ?_
 intro hg6
 have hp6 := hg6; try simp only [Yt] at hp6
 refine Xj (Xh rfl rfl rfl hg6) (Xf (off := 2) rfl Tryz.underlying33 rfl inf23.size (by decide) rfl) ?_
 refine Xj (Xh rfl rfl rfl hg6) (Xk rfl Tryz.underlying23 rfl Xp) ?_
 refine Xj (Xh rfl rfl rfl hg6) (Ys rfl Tryz.underlying23) ?_
 refine Xj (Xh rfl rfl rfl hg6) (Zx rfl rfl) ?_
 refine Xa (Xl (Yv hg6) rfl) ?_
 refine Xa (Xn rfl) ?_
 refine X2 ?_
 ·exact ⟨.bool true, Xx (Xs rfl), rfl, Hp.le_put_new (Hp.le_put_new (Hp.le_push' (Hp.le_push' leH5 _) _) (by first | omega | (simp; done) | (simp; omega)) _) (by first | omega | (simp; done) | (simp; omega)) _⟩
 intro hg6
 exact absurd rfl (of_decide_eq_false hg6)
 intro hg5
 exact absurd rfl (of_decide_eq_false hg5)
 intro hg4
 exact absurd hg4 (by decide)
 intro hg3
 exact absurd hg3 (by decide)
 intro hg2
 exact absurd hg2 (by decide)
 intro hg1
 exact absurd hg1 (by decide)
def IsBeh (rows : List RowT) (ns : List Int) (k : Nat) : Prop := k ≤ rows.length ∧ (∀ r ∈ rows.take k, ¬ 0 < Vq r.nodes ns) ∧ ∀ h : k < rows.length, 0 < Vq rows[k].nodes ns
theorem beh_head {rows : List RowT} {ns : List Int} {k : Nat} (h : IsBeh rows ns k) : ((rows.map RowT.nodes).filter fun x => decide (0 < Vq x ns)).head? = (rows[k]?).map RowT.nodes := by
 obtain ⟨h1, h2, h3⟩ := h
 have e : rows = rows.take k ++ rows.drop k := (List.take_append_drop k rows).symm
 conv => lhs; rw [e]
 rw [List.map_append, List.filter_append, List.filter_eq_nil_iff.2 (fun x hx => by
  obtain ⟨r, hr, rfl⟩ := List.mem_map.1 hx
  simpa using h2 r hr), List.nil_append]
 by_cases hk : k < rows.length
 ·rw [List.drop_eq_getElem_cons hk, List.map_cons, List.filter_cons, if_pos (decide_eq_true (h3 hk)), List.getElem?_eq_getElem hk]
  rfl
 ·rw [List.drop_of_length_le (by omega), List.getElem?_eq_none (by omega)]
  rfl
theorem tells_row_at {T : TreeT} {rows : List RowT} {ns : List Int} {k : Nat} (hb : IsBeh rows ns k) (hrm : rows.map RowT.nodes = Vc T T.vars.length []) (hrr : ∀ r ∈ rows, Vm T r.nodes = some r) {o : Option RowT} (ho : TellsH T o (behN T ns)) : o = rows[k]? := by
 obtain ⟨h1, h2⟩ := ho
 unfold behN at h1
 rw [← hrm, beh_head hb] at h1
 cases o with
 | none => cases hk : rows[k]? with
  | none => rfl
  | some r => rw [hk] at h1; cases h1
 | some r => cases hk : rows[k]? with
  | none => rw [hk] at h1; cases h1
  | some s =>
   rw [hk] at h1
   injection h1 with h1
   rw [rows_eq h1 (h2 r rfl) (hrr s (List.mem_of_getElem? hk))]
theorem first_row {T : TreeT} (hT : GoodT T) (hA : U3 T) {rows : List RowT} (hrest0 : Vl T w0 = rows.map RowT.nodes) (hrr : ∀ r ∈ rows, Vm T r.nodes = some r) : (V4 T w0).2 = rows[0]? := by
 have h0 := (next_tells hT hA _ w0 (val_w0 T) (Nat.le_refl _)).2.1
 cases hn : (V4 T w0).2 with
 | none =>
  rw [hn] at h0
  have h1 : Vl T w0 = [] := h0.1
  rw [hrest0] at h1
  have : rows = [] := by simpa using h1
  rw [this]; rfl
 | some r =>
  rw [hn] at h0
  have h1 : Vl T w0 = r.nodes :: _ ∧ _ := h0
  rw [hrest0] at h1
  cases hrw : rows with
  | nil => rw [hrw] at h1; exact absurd h1.1 (by simp)
  | cons a l =>
   have h2 := h1.1
   rw [hrw, List.map_cons, List.cons.injEq] at h2
   have ha : a ∈ rows := by rw [hrw]; simp
   rw [rows_eq h2.1.symm h1.2 (hrr a ha)]; rfl






theorem rows_even {f : Forest} {p : Parts} (hG : GoodP f p) : ∀ i, i ≤ f.vars.length → ∀ r ∈ Zu f p i, ∀ n ∈ r.nodes, ¬ oddI n
 | 0, _, r, hr, n, hn => by
  rw [Zu, List.mem_singleton] at hr
  subst hr
  cases hn
 | i + 1, hi, r, hr, n, hn => by
  rw [Zu] at hr
  obtain ⟨r0, h0, h1⟩ := List.mem_flatMap.1 hr
  obtain ⟨y, hy, h2⟩ := List.mem_filterMap.1 h1
  have h3 : r.nodes = r0.nodes ++ [y.a] := Uj h2
  rw [h3, List.mem_append, List.mem_singleton] at hn
  rcases hn with hn | rfl
  ·exact rows_even hG i (by omega) r0 h0 n hn
  ·have hv := (hG.gf.vAt_lt (s := i) (by omega)).1
   obtain ⟨j, hj, rfl⟩ := List.getElem_of_mem hy
   have h4 := ((hG.ok _ hv).1 j hj).1
   unfold oddI
   have h5 := h4.1
   have h6 := h4.2.1
   change 0 ≤ (nd p (Vj f i))[j].a at h5
   change (nd p (Vj f i))[j].a ≤ 9999 at h6
   omega
theorem extW_pos {T : TreeT} (hpos : ∀ i a, ∀ z ∈ T.group i a, 1 ≤ z.n) : ∀ (d : Nat) (q : List Int) (w : Nat), 1 ≤ w → ∀ x ∈ extW T d q w, 1 ≤ x.2
 | 0, q, w, h, x, hx => by rw [extW, List.mem_singleton] at hx; rw [hx]; exact h
 | d + 1, q, w, h, x, hx => by
  rw [extW] at hx
  obtain ⟨l, hl, hx⟩ := List.mem_flatMap.1 hx
  have h1 := hpos _ _ l hl
  exact extW_pos hpos d _ _ (Nat.le_trans (by decide : 1 ≤ 1 * 1) (Nat.mul_le_mul h (by omega))) x hx
theorem rows_pos {T : TreeT} (hT : GoodT T) (hpos : ∀ i a, ∀ z ∈ T.group i a, 1 ≤ z.n) {rows : List RowT} (hrm : rows.map RowT.nodes = Vc T T.vars.length []) (hrr : ∀ r ∈ rows, Vm T r.nodes = some r) : ∀ r ∈ rows, 1 ≤ r.n := fun r hr => by
 have h : (r.nodes, r.n) ∈ (extW T T.vars.length [] 1).map fun x => (x.1, capI x.2) := by
  rw [← extW_rows hT hrm hrr]; exact List.mem_map.2 ⟨r, hr, rfl⟩
 obtain ⟨x, hx, he⟩ := List.mem_map.1 h
 simp only [Prod.mk.injEq] at he
 have h1 := extW_pos hpos _ _ 1 (Nat.le_refl _) x hx
 have hM := most_pos
 rw [← he.2]
 unfold capI
 omega
theorem first_is {T : TreeT} (hT : GoodT T) (hA : U3 T) {rows : List RowT} (hrm : rows.map RowT.nodes = Vc T T.vars.length []) (hrr : ∀ r ∈ rows, Vm T r.nodes = some r) : (V4 T w0).2 = rows[0]? := by
 refine first_row hT hA ?_ hrr
 rw [hrm]
 show Vc T (T.vars.length - 0) [] ++ [] = _
 rw [List.append_nil, Nat.sub_zero]
theorem beh_after {T : TreeT} (hT : GoodT T) {rows : List RowT} (hrm : rows.map RowT.nodes = Vc T T.vars.length []) {i : Nat} (hi : i < rows.length) : IsBeh rows rows[i].nodes (i + 1) := by
 have hs := rows_sorted hT hrm
 refine ⟨hi, fun r hr => ?_, fun h => ?_⟩
 ·obtain ⟨j, hj, rfl⟩ := List.getElem_of_mem hr
  rw [List.length_take] at hj
  rw [List.getElem_take]
  rcases Nat.lt_or_ge j i with h | h
  ·have := List.pairwise_iff_getElem.1 hs j i (by omega) hi h
   omega
  ·obtain rfl : j = i := by omega
   rw [cmpZ_self]; decide
 ·have h1 := List.pairwise_iff_getElem.1 hs i (i + 1) hi h (Nat.lt_succ_self i)
  rw [cmpZ_anti]
  omega
theorem few36_raw (f : Forest) (p : Parts) (cs ds : List Value) (H : Hp) (hp : kForest.rep H f cs) (hq : kParts.rep H p ds) (hsm : Small f p) :
  ACalls Tryz.prog 14 #[.agg cs.toArray, .agg ds.toArray] H (fun r _ => ∃ b, r = .bool b ∧ (b = true ↔ GoodP f p ∧ f.vars.length < 5)) := by
 have hp0 := hp
 have hq0 := hq
 obtain ⟨v0, v1, v2, v3, v4, rfl, hs0, hs1, hs2, hs3, hs4⟩ := hp
 obtain ⟨A0, c0, rfl⟩ := hs0.shape
 obtain ⟨A1, c1, rfl⟩ := hs1.shape
 obtain ⟨A2, c2, rfl⟩ := hs2.shape
 obtain ⟨A3, c3, rfl⟩ := hs3.shape
 obtain ⟨A4, c4, rfl⟩ := hs4.shape
 obtain ⟨u0, u1, rfl, hn0, hn1⟩ := hq
 obtain ⟨B0, d0, rfl⟩ := hn0.shape
 obtain ⟨B1, d1, rfl⟩ := hn1.shape
 refine Xv Tryz.func14 rfl rfl rfl (by simp) ?_
 refine Xe ?_
 refine Xu ?_
 refine Xz (Yw rfl) ?_
 refine Xz (Yw rfl) ?_
 refine Xa (Xn rfl) ?_
 refine Xe ?_
 refine Xu ?_
 refine Xa (Yl (cs := [.slice _ _ _, .slice _ _ _, .slice _ _ _, .slice _ _ _, .slice _ _ _]) rfl Tryz.underlying26 rfl inf26.size X8) ?_
 refine Xa (Yl (cs := [.slice _ _ _, .slice _ _ _]) rfl Tryz.underlying29 rfl inf29.size X8) ?_
 refine Xw (Xy (GoodP_ref f p _ _ _ (kForest.mono Zp hp0) (kParts.mono Zp hq0) hsm) rfl Tryz.func53 rfl rfl rfl ?_)
 rintro v5 H5 ⟨⟨g, rfl, hg⟩, rfl⟩
 refine Xa (Xo rfl) ?_
 refine Ya rfl rfl rfl ?_ ?_
 intro hg1
 have hgt : g = true := hg1
 have hG := hg.1 hgt
 refine Xj (Xh rfl rfl rfl hg1) (Xf (off := 0) rfl Tryz.underlying26 rfl inf22.size (by decide) rfl) ?_
 refine Xj (Xh rfl rfl rfl hg1) (Xk rfl Tryz.underlying22 rfl Xp) ?_
 refine Xj (Xh rfl rfl rfl hg1) (Ys rfl Tryz.underlying22) ?_
 refine Xj (Xh rfl rfl rfl hg1) (Za rfl rfl) ?_
 refine Xa (Xl (Yv hg1) rfl) ?_
 refine Xa (Xn rfl) ?_
 refine X2 ?_
 refine ⟨_, Xx (Xs rfl), _, rfl, ?_⟩
 first
  | exact ⟨fun h => ⟨hG, by have := of_decide_eq_true h; omega⟩, fun h => decide_eq_true (by have := h.2; omega)⟩
  | exact ⟨fun h => (by cases h), fun h => (by have := hg.2 h.1; rw [hgf] at this; cases this)⟩
 intro hg1
 have hgf : g = false := hg1
 refine Xc (Xg rfl rfl rfl hg1 rfl) ?_
 refine Xc (Xg rfl rfl rfl hg1 rfl) ?_
 refine Xc (Xg rfl rfl rfl hg1 rfl) ?_
 refine Xc (Xg rfl rfl rfl hg1 rfl) ?_
 refine Xa (Xl (Yv hg1) rfl) ?_
 refine Xa (Xn rfl) ?_
 refine X2 ?_
 refine ⟨_, Xx (Xs rfl), _, rfl, ?_⟩
 first
  | exact ⟨fun h => ⟨hG, by have := of_decide_eq_true h; omega⟩, fun h => decide_eq_true (by have := h.2; omega)⟩
  | exact ⟨fun h => (by cases h), fun h => (by have := hg.2 h.1; rw [hgf] at this; cases this)⟩
theorem few36_ok (f : Forest) (p : Parts) (cs ds : List Value) (H : Hp) (hp : kForest.rep H f cs) (hq : kParts.rep H p ds) (hsm : Small f p) :
  ACalls Tryz.prog 14 #[.agg cs.toArray, .agg ds.toArray] H (fun r H' => (∃ b, r = .bool b ∧ (b = true ↔ GoodP f p ∧ f.vars.length < 5)) ∧ H' = H) :=
 ACalls.pure (fun v ⟨b, h, _⟩ => by rw [h]; rfl) (few36_raw f p cs ds H.ro (kForest.mono H.sees_ro hp) (kParts.mono H.sees_ro hq) hsm)
def putN (u : Nat) : List Int := if h : u < 128 then [(u : Int)] else ((128 + u % 128 : Nat) : Int) :: putN (u / 128)
termination_by u
decreasing_by omega
theorem putN_lt {u : Nat} (h : u < 128) : putN u = [(u : Int)] := by rw [putN, dif_pos h]
theorem putN_ge {u : Nat} (h : ¬ u < 128) : putN u = ((128 + u % 128 : Nat) : Int) :: putN (u / 128) := by rw [putN, dif_neg h]
theorem putN_pos (u : Nat) : 0 < (putN u).length := by
 rw [putN]; split <;> simp
theorem putN_byte (u : Nat) : ∀ x ∈ putN u, 0 ≤ x ∧ x < 256 := by
 induction u using Nat.strongRecOn with
 | _ u ih =>
  intro x hx
  by_cases h : u < 128
  ·rw [putN_lt h, List.mem_singleton] at hx; omega
  ·rw [putN_ge h, List.mem_cons] at hx
   rcases hx with rfl | hx
   ·omega
   ·exact ih (u / 128) (by omega) x hx
theorem putN_len (u : Nat) : ∀ n, u < 128 ^ n → (putN u).length ≤ max n 1 := by
 induction u using Nat.strongRecOn with
 | _ u ih =>
  intro n hn
  by_cases h : u < 128
  ·rw [putN_lt h]; simp; omega
  ·rw [putN_ge h, List.length_cons]
   match n, hn with
   | 0, hn => simp at hn; omega
   | 1, hn => simp at hn; omega
   | n + 2, hn =>
    have := ih (u / 128) (by omega) (n + 1) (by rw [Nat.div_lt_iff_lt_mul (by omega)]; rw [← Nat.pow_succ]; exact hn)
    omega
def V3 (xs : List Int) : List Int := xs.flatMap fun x => putN x.toNat
theorem putA_byte (xs : List Int) : ∀ x ∈ V3 xs, 0 ≤ x ∧ x < 256 := fun x hx => by
 obtain ⟨y, _, hy⟩ := List.mem_flatMap.1 hx
 exact putN_byte _ x hy
theorem putA_take {xs : List Int} {i : Nat} (hi : i < xs.length) : V3 (xs.take (i + 1)) = V3 (xs.take i) ++ putN xs[i].toNat := by
 unfold V3
 rw [List.take_succ_eq_append_getElem hi, List.flatMap_append]
 simp
theorem putA_len (xs : List Int) (hx : ∀ x ∈ xs, x < 18446744073709551616) : (V3 xs).length ≤ 10 * xs.length := by
  induction xs with
  | nil => exact Nat.le_refl _
  | cons x xs ih =>
    have h1 := ih (fun y hy => hx y (List.mem_cons_of_mem _ hy))
    have h2 := putN_len x.toNat 10 (by have := hx x List.mem_cons_self; have : (128 : Nat) ^ 10 = 1180591620717411303424 := by decide
                                       omega)
    show ((putN x.toNat) ++ V3 xs).length ≤ _
    rw [List.length_append, List.length_cons]
    omega
theorem putA_pos {xs : List Int} (h : 0 < xs.length) : 0 < (V3 xs).length := by
 match xs, h with
 | x :: xs, _ =>
  show 0 < ((putN x.toNat) ++ V3 xs).length
  rw [List.length_append]
  have := putN_pos x.toNat
  omega
def Uz : Nat → Nat → List Int → Nat × Nat × Int
 | _, _, [] => (0, 0, 7)
 | i, a, b :: r => if 10 ≤ i then (0, 0, 7) else if i = 9 ∧ 1 < b then (0, 0, 2) else if 128 ≤ b then Uz (i + 1) (a + (b.toNat % 128) * 128 ^ i) r else if b = 0 ∧ 0 < i then (0, 0, 2) else (a + (b.toNat % 128) * 128 ^ i, i + 1, 0)
theorem getL_ok : ∀ (r : List Int) (i a : Nat), a < 128 ^ i → (Uz i a r).2.2 = 0 → i ≤ 9 ∧ i < (Uz i a r).2.1 ∧ (Uz i a r).2.1 ≤ i + r.length ∧ (Uz i a r).1 < 18446744073709551616
 | [], i, a, _, h => by simp [Uz] at h
 | b :: r, i, a, ha, h => by
  rw [Uz] at h ⊢
  by_cases h1 : 10 ≤ i
  ·rw [if_pos h1] at h; simp at h
  rw [if_neg h1] at h ⊢
  by_cases h2 : i = 9 ∧ 1 < b
  ·rw [if_pos h2] at h; simp at h
  rw [if_neg h2] at h ⊢
  by_cases h3 : 128 ≤ b
  ·rw [if_pos h3] at h ⊢
   have h4 : a + (b.toNat % 128) * 128 ^ i < 128 ^ (i + 1) := by
    have h5 : (b.toNat % 128) * 128 ^ i ≤ 127 * 128 ^ i := Nat.mul_le_mul_right _ (by omega)
    rw [Nat.pow_succ]
    omega
   have := getL_ok r (i + 1) _ h4 h
   rw [List.length_cons]
   omega
  rw [if_neg h3] at h ⊢
  by_cases h4 : b = 0 ∧ 0 < i
  ·rw [if_pos h4] at h; simp at h
  rw [if_neg h4]
  simp only [List.length_cons]
  refine ⟨by omega, by omega, by omega, ?_⟩
  rcases Nat.lt_or_ge i 9 with h6 | h6
  ·have h5 : (b.toNat % 128) * 128 ^ i ≤ 127 * 128 ^ i := Nat.mul_le_mul_right _ (by omega)
   have h7 : 128 ^ i ≤ 128 ^ 8 := Nat.pow_le_pow_right (by omega) (by omega)
   have h8 : (128 : Nat) ^ 8 = 72057594037927936 := by decide
   omega
  ·obtain rfl : i = 9 := by omega
   have h8 : (128 : Nat) ^ 9 = 9223372036854775808 := by decide
   have h9 : b.toNat % 128 ≤ 1 := by omega
   rw [h8] at ha ⊢
   omega
theorem getL_put : ∀ (u i a : Nat) (r : List Int), a < 128 ^ i → (i = 0 ∨ 0 < u) → a + u * 128 ^ i < 18446744073709551616 → i ≤ 9 → Uz i a (putN u ++ r) = (a + u * 128 ^ i, i + (putN u).length, 0) := by
 intro u
 induction u using Nat.strongRecOn with
 | _ u ih =>
  intro i a r ha hi hu h9
  by_cases h : u < 128
  ·rw [putN_lt h]
   show Uz i a ((u : Int) :: r) = _
   have hb : ¬ (i = 9 ∧ (1 : Int) < u) := by
    rintro ⟨rfl, h1⟩
    have h8 : (128 : Nat) ^ 9 = 9223372036854775808 := by decide
    rw [h8] at hu
    omega
   rw [Uz, if_neg (by omega), if_neg hb, if_neg (by omega), if_neg (by omega), Int.toNat_natCast, Nat.mod_eq_of_lt h]
   rfl
  ·rw [putN_ge h]
   show Uz i a (((128 + u % 128 : Nat) : Int) :: (putN (u / 128) ++ r)) = _
   have hb : i ≠ 9 := by
    rintro rfl
    have h8 : (128 : Nat) ^ 9 = 9223372036854775808 := by decide
    rw [h8] at hu
    omega
   have e : a + (128 + u % 128) % 128 * 128 ^ i + u / 128 * 128 ^ (i + 1) = a + u * 128 ^ i := by
    have h1 : (128 + u % 128) % 128 = u % 128 := by omega
    rw [h1, Nat.pow_succ, Nat.add_assoc]
    congr 1
    have h2 : u / 128 * (128 ^ i * 128) = (128 * (u / 128)) * 128 ^ i := by rw [Nat.mul_comm (128 ^ i), ← Nat.mul_assoc, Nat.mul_comm (u / 128)]
    rw [h2, ← Nat.add_mul, Nat.mod_add_div]
   have h4 : a + ((128 + u % 128) % 128) * 128 ^ i < 128 ^ (i + 1) := by
    have h5 : ((128 + u % 128) % 128) * 128 ^ i ≤ 127 * 128 ^ i := Nat.mul_le_mul_right _ (by omega)
    rw [Nat.pow_succ]
    omega
   rw [Uz, if_neg (by omega), if_neg (by omega), if_pos (by omega), Int.toNat_natCast, ih (u / 128) (by omega) (i + 1) _ r h4 (.inr (by omega)) (by rw [e]; exact hu) (by omega), e, List.length_cons]
   congr 2
   omega
def allF : Nat → List Int → List Int → List Int × Int
 | 0, _, out => (out, 0)
 | n + 1, ns, out => if ns = [] then (out, 0) else if (Uz 0 0 ns).2.2 ≠ 0 then ([], (Uz 0 0 ns).2.2) else allF n (ns.drop (Uz 0 0 ns).2.1) (out ++ [((Uz 0 0 ns).1 : Int)])
theorem allF_put : ∀ (xs : List Int) (n : Nat) (out : List Int), (∀ x ∈ xs, 0 ≤ x ∧ x < 18446744073709551616) → (V3 xs).length ≤ n → allF n (V3 xs) out = (out ++ xs, 0)
 | [], n, out, _, _ => by
  cases n with
  | zero => simp [allF]
  | succ n => simp [allF, V3]
 | x :: xs, n, out, hx, hn => by
  have hp := putN_pos x.toNat
  have e : V3 (x :: xs) = putN x.toNat ++ V3 xs := rfl
  have hx0 := hx x List.mem_cons_self
  rw [e] at hn ⊢
  rw [List.length_append] at hn
  match n, hn with
  | 0, hn => omega
  | n + 1, hn =>
   have hg := getL_put x.toNat 0 0 (V3 xs) (by decide) (.inl rfl) (by omega) (by omega)
   have hne : putN x.toNat ++ V3 xs ≠ [] := fun h => by
    have := congrArg List.length h
    rw [List.length_append, List.length_nil] at this
    omega
   rw [allF, if_neg hne, hg]
   simp only [Nat.zero_add, ne_eq, not_true_eq_false, if_false, Nat.pow_zero, Nat.mul_one]
   rw [List.drop_left, allF_put xs n _ (fun y hy => hx y (List.mem_cons_of_mem _ hy)) (by omega), Int.toNat_of_nonneg hx0.1]
   simp
theorem allF_nil (n : Nat) (out : List Int) : allF n [] out = (out, 0) := by
 cases n with
 | zero => rfl
 | succ n => simp [allF]
theorem allF_bound : ∀ (n : Nat) (ns out : List Int), (∀ x ∈ out, 0 ≤ x ∧ x < 18446744073709551616) → ∀ x ∈ (allF n ns out).1, 0 ≤ x ∧ x < 18446744073709551616
 | 0, ns, out, h, x, hx => h x hx
 | n + 1, ns, out, h, x, hx => by
  rw [allF] at hx
  by_cases h1 : ns = []
  ·rw [if_pos h1] at hx; exact h x hx
  rw [if_neg h1] at hx
  by_cases h2 : (Uz 0 0 ns).2.2 ≠ 0
  ·rw [if_pos h2] at hx; cases hx
  rw [if_neg h2] at hx
  refine allF_bound n _ _ (fun y hy => ?_) x hx
  rw [List.mem_append, List.mem_singleton] at hy
  rcases hy with hy | rfl
  ·exact h y hy
  ·have := (getL_ok ns 0 0 (by decide) (Decidable.not_not.1 h2)).2.2.2
   omega
def bl (s : ByteArray) : List Int := s.data.toList.map fun b => (b.toNat : Int)
theorem bl_len (s : ByteArray) : (bl s).length = s.size := by simp [bl]
theorem bl_at (s : ByteArray) (i : Nat) (h : i < s.size) : (bl s)[i]'(by rw [bl_len]; exact h) = ((s[i]'h).toNat : Int) := by
 simp [bl]; rfl
theorem bl_drop (s : ByteArray) (k : Nat) : bl (s.extract k s.size) = (bl s).drop k := by
 unfold bl
 rw [← List.map_drop]
 congr 1
 simp only [ByteArray.data_extract, Array.toList_extract, List.extract_eq_take_drop]
 exact List.take_of_length_le (by rw [List.length_drop]; show s.data.size - k ≤ s.size - k; exact Nat.le_refl _)
theorem bl_inj {a b : ByteArray} (h : bl a = bl b) : a = b := by
 apply ByteArray.ext
 apply Array.ext'
 exact (List.map_inj_right (fun x y e => by
  have e2 : x.toNat = y.toNat := by exact_mod_cast e
  exact UInt8.toNat_inj.1 e2)).1 h
theorem bl_bytes : ∀ (ns : List Int), (∀ x ∈ ns, 0 ≤ x ∧ x < 256) → bl (Zv ns) = ns := fun ns h => by
 have key : ∀ (ns : List Int) (r : ByteArray), (∀ x ∈ ns, 0 ≤ x ∧ x < 256) → bl (ns.foldl (fun r n => r.push (UInt8.ofNat n.toNat)) r) = bl r ++ ns := by
  intro ns
  induction ns with
  | nil => intro r _; simp
  | cons n ns ih =>
   intro r h
   rw [List.foldl_cons, ih _ (fun x hx => h x (List.mem_cons_of_mem _ hx))]
   have hn := h n List.mem_cons_self
   have e : bl (r.push (UInt8.ofNat n.toNat)) = bl r ++ [n] := by
    simp only [bl, ByteArray.data_push, Array.toList_push, List.map_append, List.map_cons, List.map_nil, List.append_cancel_left_eq, List.cons.injEq, and_true]
    rw [UInt8.toNat_ofNat', Nat.mod_eq_of_lt (by omega)]
    omega
   rw [e, List.append_assoc]
   rfl
 have := key ns ByteArray.empty h
 simpa [bl, Zv] using this
theorem AVal.to {P : Program} {o : Oper} {t : Fr} {S : List Nat} {H : Hp} {v v' : Value} (h : AVal P o t S H v) (e : v = v') : AVal P o t S H v' := e ▸ h
theorem or128 (w : Nat) : IntKind.u8.wrap ((BitVec.ofInt IntKind.u8.bits (IntKind.u8.wrap (w : Int)) ||| BitVec.ofInt IntKind.u8.bits 128).toNat : Int) = ((128 + w % 128 : Nat) : Int) := by
 have h : ∀ a : Fin 256, (((BitVec.ofNat 8 a.val ||| BitVec.ofNat 8 128).toNat % 256 : Nat) : Int) = ((128 + a.val % 128 : Nat) : Int) := by decide
 have h1 := h ⟨w % 256, Nat.mod_lt _ (by decide)⟩
 have e1 : IntKind.u8.wrap (w : Int) = ((w % 256 : Nat) : Int) := by simp [IntKind.wrap, IntKind.bits, IntKind.signed]
 rw [e1]
 have e2 : BitVec.ofInt IntKind.u8.bits ((w % 256 : Nat) : Int) = BitVec.ofNat 8 (w % 256) := by
  show BitVec.ofInt 8 _ = _
  rw [BitVec.ofInt_natCast]
 have e3 : BitVec.ofInt IntKind.u8.bits 128 = BitVec.ofNat 8 128 := rfl
 have e4 : ∀ n : Nat, IntKind.u8.wrap (n : Int) = ((n % 256 : Nat) : Int) := fun n => by simp [IntKind.wrap, IntKind.bits, IntKind.signed]
 rw [e2, e3, e4]
 simp only at h1
 rw [show w % 256 % 128 = w % 128 by omega] at h1
 exact h1
theorem shr7 (w : Nat) : ((w : Int).fdiv (2 ^ min (7 : Int).toNat IntKind.u64.bits)) = ((w / 128 : Nat) : Int) := by
 show Int.fdiv _ (2 ^ 7) = _
 rw [Int.fdiv_eq_ediv_of_nonneg _ (by decide)]
 rfl
theorem u8_small {w : Nat} (h : w < 128) : IntKind.u8.wrap (w : Int) = w := by
 simp [IntKind.wrap, IntKind.bits, IntKind.signed]; omega
theorem u64_pow : (18446744073709551616 : Nat) ≤ 128 ^ 10 := by decide
theorem put_u64 {G H : Hp} {v : Value} {xs : List Int} (h : OwnP (Y1 .u8) G H v xs) (u : Nat) (hu : u < 18446744073709551616) (hl : xs.length ≤ 1000000) :
  ACalls Tryz.prog 127 #[v, .int .u64 u] H (fun r H' => ∃ G', G.le G' ∧ OwnP (Y1 .u8) G' H' r (xs ++ putN u)) := by
 obtain ⟨A, c, rfl⟩ := h.shape
 have hp10 := putN_len u 10 (Nat.lt_of_lt_of_le hu u64_pow)
 refine Xv Tryz.func127 rfl rfl rfl (by simp) ?_
 refine Xe ?_
 refine Xu ?_
 refine Xa (Yc rfl) ?_
 refine Xe ?_
 refine Ye ?_
 refine Y5 (fun n t H' => ∃ (G1 : Hp) (B : Option Addr) (cB : Nat) (ys : List Int), n < 18446744073709551616 ∧ G.le G1 ∧ OwnP (Y1 .u8) G1 H' (.slice B ys.length cB) ys ∧ ys ++ putN n = xs ++ putN u ∧ t 0 = .slice B ys.length cB ∧ t 1 = .int .u64 n) (u) (⟨G, A, c, xs, hu, Hp.le_refl _, h, rfl, rfl, rfl⟩) ?_
 rintro n t H2 ⟨G1, B, cB, ys, hn, leG, hown, hys, e0, e1⟩
 have hyl : ys.length ≤ 1000010 := by
  have := congrArg List.length hys
  rw [List.length_append, List.length_append] at this
  omega
 refine Xe ?_
 refine Xe ?_
 refine Xu ?_
 refine Xa (Xb Xm) ?_
 refine Xa (av_ge rfl rfl) ?_
 refine X5 rfl rfl ?_ ?_
 intro hc1
 have hge : ¬ n < 128 := by have := of_decide_eq_true hc1; omega
 refine X9 ?_
 refine Ye ?_
 refine Xe ?_
 refine Xu ?_
 refine Xa (X1 Xm) ?_
 refine Xa (Xb Xm) ?_
 refine Xa (av_conv rfl (by rw [Tryz.underlying30]; rfl) Tryz.underlying5) ?_
 refine Xa ((av_or rfl rfl).to (congrArg (Value.int .u8) (or128 n))) ?_
 first | refine Xz (Yh (r := [.int .u8 _]) Tryz.underlying173 inf5.size inf5.zero rfl (by decide) (by decide) (by decide) rfl) ?_
 refine Xw (OwnP.append (ys := [((128 + n % 128 : Nat) : Int)]) (hown.push _) Tryz.underlying173 inf5 rfl rfl rfl (Zo (k := Y1 .u8) rfl rfl hown.size rfl) (by simp only [List.length_singleton]; omega) (by simp only [List.length_singleton]; omega) ?_)
 rintro v5 G5 H5 hle5 hown5
 obtain ⟨B5, c5, rfl⟩ := hown5.shape
 refine Xa (Yc rfl) ?_
 refine Xu ?_
 refine Xa (Xb Xm) ?_
 refine Xa ((av_shr rfl rfl (by decide)).to (congrArg (Value.int .u64) (shr7 n))) ?_
 refine Xa (Xi rfl) ?_
 exact ⟨n / 128, by omega, G5, B5, c5, ys ++ [((128 + n % 128 : Nat) : Int)], by omega, Hp.le_trans (Hp.le_trans leG (G1.le_push _)) hle5, hown5, by rw [← hys, putN_ge hge, List.append_assoc]; rfl, rfl, rfl⟩
 intro hc1
 have hlt : n < 128 := by have := of_decide_eq_false hc1; omega
 refine Yx ?_
 refine Xe ?_
 refine Xu ?_
 refine Xa (X1 Xm) ?_
 refine Xa (Xb Xm) ?_
 refine Xa (Vb (u8_small hlt) rfl (by rw [Tryz.underlying30]; rfl) Tryz.underlying5) ?_
 first | refine Xz (Yh (r := [.int .u8 _]) Tryz.underlying173 inf5.size inf5.zero rfl (by decide) (by decide) (by decide) rfl) ?_
 refine Xw (OwnP.append (ys := [(n : Int)]) (hown.push _) Tryz.underlying173 inf5 rfl rfl rfl (Zo (k := Y1 .u8) rfl rfl hown.size rfl) (by simp only [List.length_singleton]; omega) (by simp only [List.length_singleton]; omega) ?_)
 rintro v5 G5 H5 hle5 hown5
 refine Xa (Vf rfl) ?_
 refine X2 ?_
 exact ⟨_, Xx (Xs rfl), G5, Hp.le_trans (Hp.le_trans leG (G1.le_push _)) hle5, by rw [← hys, putN_lt hlt]; exact hown5⟩
theorem Put_u64 (xs : List Int) (v : Value) (H : Hp) (hs : Sl (Y1 .u64) H v xs) (hx : ∀ x ∈ xs, 0 ≤ x ∧ x < 18446744073709551616) (hl : xs.length ≤ 10000) (hne : 0 < xs.length) :
  ACalls Tryz.prog 104 #[v] H (fun r H' => r = .string (Zv (V3 xs)) ∧ H.le H') := by
 obtain ⟨A, c, rfl⟩ := hs.shape
 refine Xv Tryz.func104 rfl rfl rfl (by simp) ?_
 refine Xe ?_
 refine Xu ?_
 refine Xa (Zd rfl) ?_
 refine Xe ?_
 refine Xu ?_
 refine Xa (Yc rfl) ?_
 refine Xe ?_
 refine Xe ?_
 refine Xu ?_
 refine Xa (X1 rfl) ?_
 refine Xa (Ys rfl Tryz.underlying109) ?_
 refine Xa (Xb rfl) ?_
 refine Ye ?_
 refine Y5 (fun n t H' => ∃ (i : Nat) (G : Hp) (B : Option Addr) (cB : Nat) (D : Option Addr), n = xs.length - i ∧ i ≤ xs.length ∧ H.le G ∧ OwnP (Y1 .u8) G H' (.slice B (V3 (xs.take i)).length cB) (V3 (xs.take i)) ∧ Sl (Y1 .u64) H (.slice D xs.length c) xs ∧ t 3 = .slice B (V3 (xs.take i)).length cB ∧ t 6 = .slice D xs.length c ∧ t 7 = .int .i64 xs.length ∧ t 8 = .int .i64 i) (xs.length) (⟨0, H, none, 0, _, rfl, Nat.zero_le _, Hp.le_refl _, OwnP.nil _ _, hs, rfl, rfl, rfl, rfl⟩) ?_
 rintro n t H1 ⟨i, G, B, cB, D, rfl, hi, leG, hown, hs, e3, e6, e7, e8⟩
 refine Xe ?_
 refine Xu ?_
 refine Xa (Za Xm Xm) ?_
 refine Xe ?_
 refine X5 rfl rfl ?_ ?_
 intro hc1
 have hil : i < xs.length := by have := of_decide_eq_true hc1; omega
 obtain ⟨b, o, eD, hb, hcell⟩ := (hs.mono (Hp.le_trans leG hown.le).sees).int_at (i := (i : Int)) (by omega) (by omega)
 rw [Int.toNat_natCast, Zf hil] at hcell
 subst eD
 obtain ⟨hx0, hx1⟩ := hx _ (List.getElem_mem hil)
 have hlA : (V3 (xs.take i)).length ≤ 100000 := by
  have := putA_len (xs.take i) (fun x h => (hx x (List.mem_of_mem_take h)).2)
  rw [List.length_take] at this
  omega
 obtain ⟨w, hw⟩ : ∃ w : Nat, xs[i] = w := ⟨xs[i].toNat, by omega⟩
 have hwt : xs[i].toNat = w := by omega
 rw [hw] at hcell
 refine X9 ?_
 refine Xe ?_
 refine Ye ?_
 refine Xe ?_
 refine Xu ?_
 refine Xa (Xt Xm Xm Tryz.underlying109 inf30.size X6 X6) ?_
 refine Xa (Xk rfl Tryz.underlying30 rfl Xp) ?_
 refine Xa (Xi rfl) ?_
 refine Xu ?_
 refine Xa (X1 Xm) ?_
 refine Xa (Xb rfl) ?_
 refine Xw (Xy (put_u64 hown w (by omega) (by omega)) rfl Tryz.func127 rfl rfl rfl ?_)
 rintro v14 H2 ⟨G2, le2, hown2⟩; rw [← hwt, ← putA_take hil] at hown2; obtain ⟨B2, cB2, rfl⟩ := hown2.shape
 refine Xa (Yc rfl) ?_
 refine Xu ?_
 refine Xa (Yn Xm Xm Y0) ?_
 refine Xa (Xb rfl) ?_
 exact ⟨xs.length - (i + 1), by omega, i + 1, G2, B2, cB2, _, rfl, by omega, Hp.le_trans leG le2, hown2, hs, rfl, e6, e7, rfl⟩
 intro hc1
 have hil : i = xs.length := by have := of_decide_eq_false hc1; omega
 rw [hil, List.take_length] at hown
 obtain ⟨bO, cO, eO, hbO, hcO⟩ := own_cells hown (putA_pos hne)
 rw [hil, List.take_length] at e3
 injection eO with eO1 eO2 eO3
 subst eO1 eO3
 refine Yx ?_
 refine Xe ?_
 refine Xu ?_
 refine Xa (X1 Xm) ?_
 refine Xa (av_bytes rfl Tryz.underlying173 Tryz.underlying5 Tryz.underlying9 hcO rfl (putA_pos hne)) ?_
 refine Xa (Zd rfl) ?_
 refine X2 ?_
 exact ⟨_, Xx (Xs rfl), rfl, Hp.le_trans leG hown.le⟩
theorem bytes_size (ns : List Int) (h : ∀ x ∈ ns, 0 ≤ x ∧ x < 256) : (Zv ns).size = ns.length := by rw [← bl_len, bl_bytes _ h]
theorem av_andNot {P : Program} {t : Fr} {H : Hp} {d : Option Tmp} {ty : TypeId} {pos : String} {after : Array Edge} {guard : Option (Nat × Bool)} {x y : Operand} {xt yt : TypeId} {k : IntKind} {a b : Int} (hx : t.eval x = .int k a) (hy : t.eval y = .int k b) : AVal P ⟨d, .binOp .andNot xt x y yt, ty, pos, after, guard⟩ t [] H (.int k (k.wrap (BitVec.ofInt k.bits a &&& ~~~ BitVec.ofInt k.bits b).toNat)) := av_bin hx hy rfl fun w => by simp [binOp, Op.intBits]
theorem andNot128 (w : Nat) (h : w < 256) : IntKind.u8.wrap ((BitVec.ofInt IntKind.u8.bits (w : Int) &&& ~~~ BitVec.ofInt IntKind.u8.bits 128).toNat : Int) = ((w % 128 : Nat) : Int) := by
 have h0 : ∀ a : Fin 256, (((BitVec.ofNat 8 a.val &&& ~~~ BitVec.ofNat 8 128).toNat % 256 : Nat) : Int) = ((a.val % 128 : Nat) : Int) := by decide
 have h1 := h0 ⟨w, h⟩
 have e2 : BitVec.ofInt IntKind.u8.bits ((w : Nat) : Int) = BitVec.ofNat 8 w := by
  show BitVec.ofInt 8 _ = _
  rw [BitVec.ofInt_natCast]
 have e3 : BitVec.ofInt IntKind.u8.bits 128 = BitVec.ofNat 8 128 := rfl
 have e4 : ∀ n : Nat, IntKind.u8.wrap (n : Int) = ((n % 256 : Nat) : Int) := fun n => by simp [IntKind.wrap, IntKind.bits, IntKind.signed]
 rw [e2, e3, e4]
 exact h1
theorem pow7 (i : Nat) : 2 ^ (7 * i) = 128 ^ i := by rw [Nat.pow_mul]
theorem shl7 (m i : Nat) (hi : i ≤ 9) (h : m * 128 ^ i < 18446744073709551616) : IntKind.u64.wrap ((m : Int) * 2 ^ min ((7 * i : Nat) : Int).toNat IntKind.u64.bits) = ((m * 128 ^ i : Nat) : Int) := by
 have e : min ((7 * i : Nat) : Int).toNat IntKind.u64.bits = 7 * i := by
  show min _ 64 = _
  rw [Int.toNat_natCast]; omega
 have e2 : (m : Int) * 2 ^ (7 * i) = ((m * 128 ^ i : Nat) : Int) := by rw [← pow7]; push_cast; rfl
 rw [e, e2]
 have e4 : ∀ n : Nat, n < 18446744073709551616 → IntKind.u64.wrap (n : Int) = (n : Int) := fun n hn => by simp [IntKind.wrap, IntKind.bits, IntKind.signed]; omega
 exact e4 _ h
theorem or_sum (a m i : Nat) (ha : a < 128 ^ i) (h : a + m * 128 ^ i < 18446744073709551616) : IntKind.u64.wrap ((BitVec.ofInt IntKind.u64.bits (a : Int) ||| BitVec.ofInt IntKind.u64.bits ((m * 128 ^ i : Nat) : Int)).toNat : Int) = ((a + m * 128 ^ i : Nat) : Int) := by
 have e4 : ∀ n : Nat, n < 18446744073709551616 → IntKind.u64.wrap (n : Int) = (n : Int) := fun n hn => by simp [IntKind.wrap, IntKind.bits, IntKind.signed]; omega
 have e2 : ∀ n : Nat, n < 18446744073709551616 → (BitVec.ofInt IntKind.u64.bits (n : Int)).toNat = n := fun n hn => by
  show (BitVec.ofInt 64 _).toNat = _
  rw [BitVec.ofInt_natCast, BitVec.toNat_ofNat]
  exact Nat.mod_eq_of_lt hn
 have e5 : a ||| m * 128 ^ i = a + m * 128 ^ i := by
  rw [← pow7] at ha ⊢
  rw [Nat.or_comm, Nat.mul_comm m, ← Nat.two_pow_add_eq_or_of_lt ha, Nat.add_comm]
 have e6 : (BitVec.ofInt IntKind.u64.bits (a : Int) ||| BitVec.ofInt IntKind.u64.bits ((m * 128 ^ i : Nat) : Int)).toNat = a + m * 128 ^ i := by
  rw [BitVec.toNat_or, e2 _ (by omega), e2 _ (by omega), e5]
 rw [e6]
 exact e4 _ h
theorem getL_over {i a : Nat} {r : List Int} (h : r = [] ∨ 10 ≤ i) : Uz i a r = (0, 0, 7) := by
 cases r with
 | nil => rfl
 | cons b r => rw [Uz, if_pos (h.resolve_left (by simp))]
theorem get_s (s : ByteArray) (H : Hp) (hs : s.size ≤ 1000000) :
  ACalls Tryz.prog 101 #[.string s] H (fun r H' => r = .tuple #[.int .u64 ((Uz 0 0 (bl s)).1 : Nat), .int .i64 ((Uz 0 0 (bl s)).2.1 : Nat), .int .i64 (Uz 0 0 (bl s)).2.2] ∧ H' = H) := by
 have hbl := bl_len s
 refine Xv Tryz.func101 rfl rfl rfl (by simp) ?_
 refine Xe ?_
 refine Xu ?_
 refine Xa (Xi rfl) ?_
 refine Xa (Xi rfl) ?_
 refine Xa (Xi rfl) ?_
 refine Xe ?_
 refine Xu ?_
 refine Xa (Xi rfl) ?_
 refine Xe ?_
 refine Xe ?_
 refine Xu ?_
 refine Xa (Xi rfl) ?_
 refine Ye ?_
 refine Y5 (fun n t H' => ∃ (i a : Nat), n = 10 - i ∧ i ≤ 10 ∧ i ≤ s.size ∧ a < 128 ^ i ∧ Uz i a ((bl s).drop i) = Uz 0 0 (bl s) ∧ H' = H ∧ t 0 = .string s ∧ t 5 = .int .u64 a ∧ t 6 = .int .i64 i) (10) (⟨0, 0, rfl, by omega, by omega, by decide, rfl, rfl, rfl, rfl, rfl⟩) ?_
 rintro n t H1 ⟨i, a, rfl, hi, his, ha, hg, rfl, e0, e5, e6⟩
 refine Xe ?_
 refine Xe ?_
 refine Xu ?_
 refine Xa (Xb Xm) ?_
 refine Xa (Z2 Xm) ?_
 refine Xa (av_len_str rfl Tryz.underlying9) ?_
 refine Xa (av_min2 rfl rfl) ?_
 refine Xa (Za rfl rfl) ?_
 refine X5 rfl rfl ?_ ?_
 intro hc1
 have hlt := of_decide_eq_true hc1
 have hi9 : i < 10 := by split at hlt <;> omega
 have hil : i < s.size := by split at hlt <;> omega
 obtain ⟨w, hw⟩ : ∃ w : Nat, w = (s[i]'hil).toNat := ⟨_, rfl⟩
 have hw2 : w < 256 := by rw [hw]; exact (s[i]'hil).toNat_lt
 have hdr : (bl s).drop i = (w : Int) :: (bl s).drop (i + 1) := by rw [List.drop_eq_getElem_cons (by omega), bl_at s i hil, hw]
 rw [hdr] at hg
 rw [Uz, if_neg (show ¬ 10 ≤ i by omega), Int.toNat_natCast] at hg
 refine X9 ?_
 refine Xe ?_
 refine Ye ?_
 refine Xe ?_
 refine Xu ?_
 refine Xa (Z2 Xm) ?_
 refine Xa (Xb Xm) ?_
 refine Xa ((av_str_index rfl rfl Tryz.underlying9 (by omega) (by omega)).to (v' := .int .u8 w) (by rw [hw]; rfl)) ?_
 refine Xa (Xi rfl) ?_
 refine Xe ?_
 refine Xe ?_
 refine Xu ?_
 refine Xa (Xb Xm) ?_
 refine Xa (Zx rfl rfl) ?_
 refine Xa (Xo rfl) ?_
 refine Ya rfl rfl rfl ?_ ?_
 intro hg2
 have hi9' : i = 9 := by have := of_decide_eq_true hg2; omega
 refine Xj (Xh rfl rfl rfl hg2) (Xb rfl) ?_
 refine Xj (Xh rfl rfl rfl hg2) (Vu rfl rfl) ?_
 refine Xa (Xl (Yv hg2) rfl) ?_
 refine X5 rfl rfl ?_ ?_
 intro hc3
 have h9 : i = 9 ∧ (1 : Int) < w := ⟨hi9', of_decide_eq_true hc3⟩
 rw [if_pos h9] at hg
 refine Xe ?_
 refine Xu ?_
 refine Xa (Xi rfl) ?_
 refine Xa (Xi rfl) ?_
 refine Xa (Xi rfl) ?_
 refine X2 ?_
 exact ⟨_, Vg (Xs rfl) (Xs rfl) (Xs rfl), congrArg (fun g : Nat × Nat × Int => Value.tuple #[.int .u64 (g.1 : Nat), .int .i64 (g.2.1 : Nat), .int .i64 g.2.2]) hg, rfl⟩
 intro hc3
 have h9 : ¬ (i = 9 ∧ (1 : Int) < w) := fun h => of_decide_eq_false hc3 h.2
 rw [if_neg h9] at hg
 have hm : w % 128 * 128 ^ i < 18446744073709551616 ∧ a + w % 128 * 128 ^ i < 18446744073709551616 ∧ a + w % 128 * 128 ^ i < 128 ^ (i + 1) := by
  have h5 : (w % 128) * 128 ^ i ≤ 127 * 128 ^ i := Nat.mul_le_mul_right _ (by omega)
  have h6 : a + w % 128 * 128 ^ i < 128 ^ (i + 1) := by rw [Nat.pow_succ]; omega
  rcases Nat.lt_or_ge i 9 with h | h
  ·have h7 : 128 ^ (i + 1) ≤ 128 ^ 9 := Nat.pow_le_pow_right (by omega) (by omega)
   have h8 : (128 : Nat) ^ 9 = 9223372036854775808 := by decide
   omega
  ·obtain rfl : i = 9 := by omega
   have h8 : (128 : Nat) ^ 9 = 9223372036854775808 := by decide
   have h10 : w ≤ 1 := by omega
   rw [h8] at ha ⊢
   omega
 refine X9 ?_
 refine Xe ?_
 refine Xu ?_
 refine Xa (Xb Xm) ?_
 refine Xa (Xb rfl) ?_
 refine Xa ((av_andNot rfl rfl).to (congrArg (Value.int .u8) (andNot128 w hw2))) ?_
 refine Xa (Vb (show IntKind.u64.wrap ((w % 128 : Nat) : Int) = ((w % 128 : Nat) : Int) by simp [IntKind.wrap, IntKind.bits, IntKind.signed]; omega) rfl (by rw [Tryz.underlying5]; rfl) Tryz.underlying30) ?_
 refine Xa (Xb Xm) ?_
 refine Xa ((av_mul64 rfl rfl (by omega)).to (v' := .int .i64 ((7 * i : Nat) : Int)) (by rw [Int.natCast_mul]; rfl)) ?_
 refine Xa (Vb (v := ((7 * i : Nat) : Int)) (by simp [IntKind.wrap, IntKind.bits, IntKind.signed]; omega) rfl (by rw [Tryz.underlying3]; rfl) Tryz.underlying157) ?_
 refine Xa ((av_shl rfl rfl (by omega)).to (congrArg (Value.int .u64) (shl7 (w % 128) i (by omega) hm.1))) ?_
 refine Xa ((av_or rfl rfl).to (congrArg (Value.int .u64) (or_sum a (w % 128) i ha hm.2.1))) ?_
 refine Xa (Xi rfl) ?_
 refine Xe ?_
 refine Xe ?_
 refine Xu ?_
 refine Xa (Xb rfl) ?_
 refine Xa (av_ge rfl rfl) ?_
 refine X5 rfl rfl ?_ ?_
 intro hc4
 have h3 : (128 : Int) ≤ w := by have := of_decide_eq_true hc4; omega
 rw [if_pos h3] at hg
 refine Yx ?_
 refine Xu ?_
 refine Xa (Xb Xm) ?_
 refine Xa (Yn rfl rfl Y0) ?_
 refine Xa (Xi rfl) ?_
 exact ⟨10 - (i + 1), by omega, i + 1, _, rfl, by omega, by omega, hm.2.2, hg, rfl, e0, rfl, rfl⟩
 intro hc4
 have h3 : ¬ (128 : Int) ≤ w := by have := of_decide_eq_false hc4; omega
 rw [if_neg h3] at hg
 refine X9 ?_
 refine Xe ?_
 refine Xe ?_
 refine Xu ?_
 refine Xa (Xb rfl) ?_
 refine Xa (Zx rfl rfl) ?_
 refine Xa (Xo rfl) ?_
 refine Ya rfl rfl rfl ?_ ?_
 intro hg5
 have hw0 : (w : Int) = 0 := of_decide_eq_true hg5
 refine Xj (Xh rfl rfl rfl hg5) (Xb Xm) ?_
 refine Xj (Xh rfl rfl rfl hg5) (Vu rfl rfl) ?_
 refine Xa (Xl (Yv hg5) rfl) ?_
 refine X5 rfl rfl ?_ ?_
 intro hc6
 have h4 : (w : Int) = 0 ∧ 0 < i := ⟨hw0, by have := of_decide_eq_true hc6; omega⟩
 rw [if_pos h4] at hg
 refine Xe ?_
 refine Xu ?_
 refine Xa (Xi rfl) ?_
 refine Xa (Xi rfl) ?_
 refine Xa (Xi rfl) ?_
 refine X2 ?_
 exact ⟨_, Vg (Xs rfl) (Xs rfl) (Xs rfl), congrArg (fun g : Nat × Nat × Int => Value.tuple #[.int .u64 (g.1 : Nat), .int .i64 (g.2.1 : Nat), .int .i64 g.2.2]) hg, rfl⟩
 intro hc6
 have h4 : ¬ ((w : Int) = 0 ∧ 0 < i) := fun h => of_decide_eq_false hc6 (by have := h.2; omega)
 rw [if_neg h4] at hg
 refine X9 ?_
 refine Xe ?_
 refine Xu ?_
 refine Xa (Xb rfl) ?_
 refine Xa (Xb Xm) ?_
 refine Xa (Yn rfl rfl Y0) ?_
 refine Xa (Xi rfl) ?_
 refine Xa (Xi rfl) ?_
 refine Xa (Xi rfl) ?_
 refine X2 ?_
 exact ⟨_, Vg (Xs rfl) (Xs rfl) (Xs rfl), congrArg (fun g : Nat × Nat × Int => Value.tuple #[.int .u64 (g.1 : Nat), .int .i64 (g.2.1 : Nat), .int .i64 g.2.2]) hg, rfl⟩
 intro hg5
 have hnw : ¬ (w : Int) = 0 := of_decide_eq_false hg5
 rw [if_neg (fun h => hnw h.1)] at hg
 refine Xc (Xg rfl rfl rfl hg5 rfl) ?_
 refine Xc (Xg rfl rfl rfl hg5 rfl) ?_
 refine Xa (Xl (Yv hg5) Xm) ?_
 refine Y2 rfl rfl ?_
 refine X9 ?_
 refine Xe ?_
 refine Xu ?_
 refine Xa (Xb rfl) ?_
 refine Xa (Xb Xm) ?_
 refine Xa (Yn rfl rfl Y0) ?_
 refine Xa (Xi rfl) ?_
 refine Xa (Xi rfl) ?_
 refine Xa (Xi rfl) ?_
 refine X2 ?_
 exact ⟨_, Vg (Xs rfl) (Xs rfl) (Xs rfl), congrArg (fun g : Nat × Nat × Int => Value.tuple #[.int .u64 (g.1 : Nat), .int .i64 (g.2.1 : Nat), .int .i64 g.2.2]) hg, rfl⟩
 intro hg2
 have hn9 : ¬ i = 9 := by have := of_decide_eq_false hg2; omega
 have h9 : ¬ (i = 9 ∧ (1 : Int) < w) := fun h => hn9 h.1
 rw [if_neg h9] at hg
 have hm : w % 128 * 128 ^ i < 18446744073709551616 ∧ a + w % 128 * 128 ^ i < 18446744073709551616 ∧ a + w % 128 * 128 ^ i < 128 ^ (i + 1) := by
  have h5 : (w % 128) * 128 ^ i ≤ 127 * 128 ^ i := Nat.mul_le_mul_right _ (by omega)
  have h6 : a + w % 128 * 128 ^ i < 128 ^ (i + 1) := by rw [Nat.pow_succ]; omega
  rcases Nat.lt_or_ge i 9 with h | h
  ·have h7 : 128 ^ (i + 1) ≤ 128 ^ 9 := Nat.pow_le_pow_right (by omega) (by omega)
   have h8 : (128 : Nat) ^ 9 = 9223372036854775808 := by decide
   omega
  ·obtain rfl : i = 9 := by omega
   have h8 : (128 : Nat) ^ 9 = 9223372036854775808 := by decide
   have h10 : w ≤ 1 := by omega
   rw [h8] at ha ⊢
   omega
 refine Xc (Xg rfl rfl rfl hg2 rfl) ?_
 refine Xc (Xg rfl rfl rfl hg2 rfl) ?_
 refine Xa (Xl (Yv hg2) Xm) ?_
 refine Y2 rfl rfl ?_
 refine X9 ?_
 refine Xe ?_
 refine Xu ?_
 refine Xa (Xb Xm) ?_
 refine Xa (Xb rfl) ?_
 refine Xa ((av_andNot rfl rfl).to (congrArg (Value.int .u8) (andNot128 w hw2))) ?_
 refine Xa (Vb (show IntKind.u64.wrap ((w % 128 : Nat) : Int) = ((w % 128 : Nat) : Int) by simp [IntKind.wrap, IntKind.bits, IntKind.signed]; omega) rfl (by rw [Tryz.underlying5]; rfl) Tryz.underlying30) ?_
 refine Xa (Xb Xm) ?_
 refine Xa ((av_mul64 rfl rfl (by omega)).to (v' := .int .i64 ((7 * i : Nat) : Int)) (by rw [Int.natCast_mul]; rfl)) ?_
 refine Xa (Vb (v := ((7 * i : Nat) : Int)) (by simp [IntKind.wrap, IntKind.bits, IntKind.signed]; omega) rfl (by rw [Tryz.underlying3]; rfl) Tryz.underlying157) ?_
 refine Xa ((av_shl rfl rfl (by omega)).to (congrArg (Value.int .u64) (shl7 (w % 128) i (by omega) hm.1))) ?_
 refine Xa ((av_or rfl rfl).to (congrArg (Value.int .u64) (or_sum a (w % 128) i ha hm.2.1))) ?_
 refine Xa (Xi rfl) ?_
 refine Xe ?_
 refine Xe ?_
 refine Xu ?_
 refine Xa (Xb rfl) ?_
 refine Xa (av_ge rfl rfl) ?_
 refine X5 rfl rfl ?_ ?_
 intro hc9
 have h3 : (128 : Int) ≤ w := by have := of_decide_eq_true hc9; omega
 rw [if_pos h3] at hg
 refine Yx ?_
 refine Xu ?_
 refine Xa (Xb Xm) ?_
 refine Xa (Yn rfl rfl Y0) ?_
 refine Xa (Xi rfl) ?_
 exact ⟨10 - (i + 1), by omega, i + 1, _, rfl, by omega, by omega, hm.2.2, hg, rfl, e0, rfl, rfl⟩
 intro hc9
 have h3 : ¬ (128 : Int) ≤ w := by have := of_decide_eq_false hc9; omega
 rw [if_neg h3] at hg
 refine X9 ?_
 refine Xe ?_
 refine Xe ?_
 refine Xu ?_
 refine Xa (Xb rfl) ?_
 refine Xa (Zx rfl rfl) ?_
 refine Xa (Xo rfl) ?_
 refine Ya rfl rfl rfl ?_ ?_
 intro hg10
 have hw0 : (w : Int) = 0 := of_decide_eq_true hg10
 refine Xj (Xh rfl rfl rfl hg10) (Xb Xm) ?_
 refine Xj (Xh rfl rfl rfl hg10) (Vu rfl rfl) ?_
 refine Xa (Xl (Yv hg10) rfl) ?_
 refine X5 rfl rfl ?_ ?_
 intro hc11
 have h4 : (w : Int) = 0 ∧ 0 < i := ⟨hw0, by have := of_decide_eq_true hc11; omega⟩
 rw [if_pos h4] at hg
 refine Xe ?_
 refine Xu ?_
 refine Xa (Xi rfl) ?_
 refine Xa (Xi rfl) ?_
 refine Xa (Xi rfl) ?_
 refine X2 ?_
 exact ⟨_, Vg (Xs rfl) (Xs rfl) (Xs rfl), congrArg (fun g : Nat × Nat × Int => Value.tuple #[.int .u64 (g.1 : Nat), .int .i64 (g.2.1 : Nat), .int .i64 g.2.2]) hg, rfl⟩
 intro hc11
 have h4 : ¬ ((w : Int) = 0 ∧ 0 < i) := fun h => of_decide_eq_false hc11 (by have := h.2; omega)
 rw [if_neg h4] at hg
 refine X9 ?_
 refine Xe ?_
 refine Xu ?_
 refine Xa (Xb rfl) ?_
 refine Xa (Xb Xm) ?_
 refine Xa (Yn rfl rfl Y0) ?_
 refine Xa (Xi rfl) ?_
 refine Xa (Xi rfl) ?_
 refine Xa (Xi rfl) ?_
 refine X2 ?_
 exact ⟨_, Vg (Xs rfl) (Xs rfl) (Xs rfl), congrArg (fun g : Nat × Nat × Int => Value.tuple #[.int .u64 (g.1 : Nat), .int .i64 (g.2.1 : Nat), .int .i64 g.2.2]) hg, rfl⟩
 intro hg10
 have hnw : ¬ (w : Int) = 0 := of_decide_eq_false hg10
 rw [if_neg (fun h => hnw h.1)] at hg
 refine Xc (Xg rfl rfl rfl hg10 rfl) ?_
 refine Xc (Xg rfl rfl rfl hg10 rfl) ?_
 refine Xa (Xl (Yv hg10) Xm) ?_
 refine Y2 rfl rfl ?_
 refine X9 ?_
 refine Xe ?_
 refine Xu ?_
 refine Xa (Xb rfl) ?_
 refine Xa (Xb Xm) ?_
 refine Xa (Yn rfl rfl Y0) ?_
 refine Xa (Xi rfl) ?_
 refine Xa (Xi rfl) ?_
 refine Xa (Xi rfl) ?_
 refine X2 ?_
 exact ⟨_, Vg (Xs rfl) (Xs rfl) (Xs rfl), congrArg (fun g : Nat × Nat × Int => Value.tuple #[.int .u64 (g.1 : Nat), .int .i64 (g.2.1 : Nat), .int .i64 g.2.2]) hg, rfl⟩
 intro hc1
 have hge := of_decide_eq_false hc1
 have hov : (bl s).drop i = [] ∨ 10 ≤ i := by
  rcases Nat.lt_or_ge i s.size with h | h
  ·exact .inr (by split at hge <;> omega)
  ·exact .inl (List.drop_eq_nil_of_le (by omega))
 rw [getL_over hov] at hg
 refine Yx ?_
 refine Xe ?_
 refine Xu ?_
 refine Xa (Xi rfl) ?_
 refine Xa (Xi rfl) ?_
 refine Xa (Xi rfl) ?_
 refine X2 ?_
 exact ⟨_, Vg (Xs rfl) (Xs rfl) (Xs rfl), congrArg (fun g : Nat × Nat × Int => Value.tuple #[.int .u64 (g.1 : Nat), .int .i64 (g.2.1 : Nat), .int .i64 g.2.2]) hg, rfl⟩
theorem bl_nil {s : ByteArray} : bl s = [] ↔ s = ByteArray.empty := by
 constructor
 ·intro h
  exact bl_inj h
 ·intro h; rw [h]; rfl
theorem All_s (s : ByteArray) (H : Hp) (hs : s.size ≤ 100000) :
  ACalls Tryz.prog 73 #[.string s] H (fun r H' => ∃ l e A c, r = .tuple #[.slice A l.length c, .int .i64 e] ∧ (l, e) = allF s.size (bl s) [] ∧ Sl (Y1 .u64) H' (.slice A l.length c) l ∧ l.length ≤ s.size ∧ H.le H') := by
 refine Xv Tryz.func73 rfl rfl rfl (by simp) ?_
 refine Xe ?_
 refine Xu ?_
 refine Xa (Yc rfl) ?_
 refine Xa (Xi rfl) ?_
 refine Xe ?_
 refine Xu ?_
 refine Xa (Yc rfl) ?_
 refine Xe ?_
 refine Ye ?_
 refine Y5 (fun n t H' => ∃ (k : Nat) (s1 : ByteArray) (out : List Int) (G : Hp) (B : Option Addr) (cB : Nat), n = s1.size ∧ s1.size ≤ k ∧ out.length + s1.size ≤ s.size ∧ allF k (bl s1) out = allF s.size (bl s) [] ∧ H.le G ∧ OwnP (Y1 .u64) G H' (.slice B out.length cB) out ∧ t 0 = .string s1 ∧ t 4 = .slice B out.length cB) (s.size) (⟨s.size, s, [], H, none, 0, rfl, Nat.le_refl _, by simp, rfl, Hp.le_refl _, OwnP.nil _ _, rfl, rfl⟩) ?_
 rintro n t H1 ⟨k, s1, out, G, B, cB, rfl, hk, hlen, hal, leG, hown, e0, e4⟩
 have hbl1 := bl_len s1
 refine Xe ?_
 refine Xe ?_
 refine Xu ?_
 refine Xa (Z2 Xm) ?_
 refine Xa (av_str_neq rfl rfl) ?_
 refine X5 rfl rfl ?_ ?_
 intro hc1
 have hne : bl s1 ≠ [] := fun h => of_decide_eq_true hc1 (bl_nil.1 h)
 have hpos : 0 < s1.size := by
  rcases Nat.eq_zero_or_pos s1.size with h | h
  ·exact absurd (List.eq_nil_of_length_eq_zero (by omega)) hne
  ·exact h
 obtain ⟨k, rfl⟩ : ∃ k', k = k' + 1 := ⟨k - 1, by omega⟩
 rw [allF, if_neg hne] at hal
 refine X9 ?_
 refine Ye ?_
 refine Xe ?_
 refine Xu ?_
 refine Xa (Z2 Xm) ?_
 refine Xw (Xy (get_s s1 _ (by omega)) rfl Tryz.func101 rfl rfl rfl ?_)
 rintro v12 H2 ⟨rfl, rfl⟩
 refine Xa (Zm rfl) ?_
 refine Xa (Yj rfl rfl) ?_
 refine Xa (Yj rfl rfl) ?_
 refine Xa (Yj rfl rfl) ?_
 refine Xa (Xi rfl) ?_
 refine Xa (Xi rfl) ?_
 refine Xa (Xi rfl) ?_
 refine Xe ?_
 refine Xe ?_
 refine Xu ?_
 refine Xa (Xb rfl) ?_
 refine Xa (Zw rfl rfl) ?_
 refine X5 rfl rfl ?_ ?_
 intro hc2
 have hbad : (Uz 0 0 (bl s1)).2.2 ≠ 0 := of_decide_eq_true hc2
 rw [if_pos hbad] at hal
 refine Xe ?_
 refine Xu ?_
 refine Xa (Xb rfl) ?_
 refine Xa (Yc rfl) ?_
 refine Xa (Xi rfl) ?_
 refine X2 ?_
 exact ⟨_, Y8 (Xs rfl) (Xs rfl), [], (Uz 0 0 (bl s1)).2.2, none, 0, rfl, hal, Sl.nil _ _, Nat.zero_le _, Hp.le_trans leG hown.le⟩
 intro hc2
 have hok : (Uz 0 0 (bl s1)).2.2 = 0 := Decidable.not_not.1 (of_decide_eq_false hc2)
 rw [if_neg (Decidable.not_not.2 hok)] at hal
 obtain ⟨j0, j1, j2, j3⟩ := getL_ok (bl s1) 0 0 (by decide) hok
 obtain ⟨u, hu⟩ : ∃ u, u = (Uz 0 0 (bl s1)).1 := ⟨_, rfl⟩
 obtain ⟨j, hj⟩ : ∃ j, j = (Uz 0 0 (bl s1)).2.1 := ⟨_, rfl⟩
 simp only [← hu, ← hj] at *
 have hjs : j ≤ s1.size := by omega
 have hsz : (s1.extract j s1.size).size = s1.size - j := by rw [ByteArray.size_extract]; omega
 refine X9 ?_
 refine Yy (by kernel_rfl) (Y4 (B := [0, 0, 2, 7, 0, 0, 48, 15, 255]) (π := [0, 1, 2, 4, 5, 6, 3, 7, 8]) (by kernel_rfl)) ?_
 refine Xd rfl rfl (X1 Xm) Xq ?_
 refine Xd rfl rfl (Xb rfl) Xq ?_
 first | refine Zb rfl rfl (Yh (r := [.int .u64 _]) Tryz.underlying109 inf30.size inf30.zero rfl (by decide) (by decide) (by decide) rfl) ?_
 refine Xd rfl rfl (Z2 Xm) Xq ?_
 refine Xd rfl rfl (Xb rfl) Xq ?_
 refine Xd rfl rfl (av_substr (l := j) (h := s1.size) Xm Tryz.underlying9 (.inr ⟨_, _, rfl, by first | assumption | rfl⟩) (.inl ⟨rfl, rfl⟩) (by omega) (Nat.le_refl _)) Xq ?_
 refine Ym rfl rfl (OwnP.append (ys := [(u : Int)]) (hown.push _) Tryz.underlying109 inf30 Xm Xm rfl (Zo (k := Y1 .u64) rfl rfl hown.size rfl) (by simp only [List.length_singleton]; omega) (by simp only [List.length_singleton]; omega) ?_)
 rintro v5 G5 H5 hle5 hown5
 have hsameO := OwnP.sameO (hown.push _) hle5 hown5
 obtain ⟨B5, c5, rfl⟩ := hown5.shape
 refine ⟨Yk, ?_⟩
 refine Xd rfl rfl (Yc rfl) Xq ?_
 refine Xd rfl rfl (Zd rfl) Xq ?_
 exact ⟨(s1.extract j s1.size).size, by rw [hsz]; omega, k, s1.extract j s1.size, out ++ [(u : Int)], G5, B5, c5, rfl, by rw [hsz]; omega, by rw [hsz, List.length_append]; simp only [List.length_singleton]; omega, by rw [bl_drop]; exact hal, Hp.le_trans (Hp.le_trans leG (G.le_push _)) hle5, hown5, rfl, rfl⟩
 intro hc1
 have hem : bl s1 = [] := bl_nil.2 (Decidable.not_not.1 (of_decide_eq_false hc1))
 rw [hem, allF_nil] at hal
 refine Yx ?_
 refine Xe ?_
 refine Xu ?_
 refine Xa (X1 Xm) ?_
 refine Xa (Yc rfl) ?_
 refine Xa (Xi rfl) ?_
 refine X2 ?_
 exact ⟨_, Y8 (Xs rfl) (Xs rfl), out, 0, B, cB, rfl, hal, hown.sl, by omega, Hp.le_trans leG hown.le⟩
theorem whole_int (u : Nat) (H : Hp) (hu : u < 18446744073709551616) : ACalls Tryz.prog 74 #[.int .u64 u] H (fun r H' => r = .int .i64 (if u ≤ 9007199254740992 then (u : Int) else -1) ∧ H' = H) := by
 refine Xv Tryz.func74 rfl rfl rfl (by simp) ?_
 refine Xe ?_
 refine Xu ?_
 refine Xa (Xi rfl) ?_
 refine Xe ?_
 refine Xe ?_
 refine Xu ?_
 refine Xa (Xb rfl) ?_
 refine Xa (Vu rfl rfl) ?_
 refine X5 rfl rfl ?_ ?_
 intro hc1
 have hgt : ¬ u ≤ 9007199254740992 := by have := of_decide_eq_true hc1; omega
 refine Xe ?_
 refine Xu ?_
 refine Xa (Xi rfl) ?_
 refine X2 ?_
 exact ⟨_, Xx (Xs rfl), congrArg (Value.int .i64) (if_neg hgt).symm, rfl⟩
 intro hc1
 have hle : u ≤ 9007199254740992 := by have := of_decide_eq_false hc1; omega
 refine X9 ?_
 refine Xe ?_
 refine Xu ?_
 refine Xa (Xb rfl) ?_
 refine Xa (Vb (show IntKind.i64.wrap (u : Int) = (u : Int) by simp [IntKind.wrap, IntKind.bits, IntKind.signed]; omega) rfl (by rw [Tryz.underlying30]; rfl) Tryz.underlying3) ?_
 refine Xa (Xi rfl) ?_
 refine X2 ?_
 exact ⟨_, Xx (Xs rfl), congrArg (Value.int .i64) (if_pos hle).symm, rfl⟩
def headM (m : MarkT) : List Int := [1, m.told, if m.over then 1 else 0, (m.nodes.length : Int)]
def Ve (m : MarkT) : List Int := headM m ++ m.nodes ++ [m.rest]
theorem nums_ok {m : MarkT} (hg : Vt m) (hr : 0 ≤ m.rest ∧ m.rest < 18446744073709551616) : ∀ x ∈ Ve m, 0 ≤ x ∧ x < 18446744073709551616 := fun x hx => by
 have h0 := hg.t0
 have h1 := hg.t1
 have h2 := hg.n
 unfold Ve headM at hx
 rw [List.mem_append, List.mem_append] at hx
 rcases hx with (hx | hx) | hx
 ·simp only [List.mem_cons, List.not_mem_nil, or_false] at hx
  rcases hx with rfl | rfl | rfl | rfl
  ·omega
  ·omega
  ·split <;> omega
  ·omega
 ·have := hg.x x hx
  unfold oddI at this
  omega
 ·rw [List.mem_singleton] at hx; subst hx; exact hr
theorem nums_len (m : MarkT) : (Ve m).length = 5 + m.nodes.length := by
 unfold Ve headM
 simp only [List.length_append, List.length_cons, List.length_nil]
 omega
theorem wrapU {x : Int} (h : 0 ≤ x ∧ x < 18446744073709551616) : IntKind.u64.wrap x = x := by
 simp [IntKind.wrap, IntKind.bits, IntKind.signed]; omega
theorem heads_own (K : Hp) (a b c d : Int) : OwnP (Y1 .u64) (K.push .dead) (K.push (.own 1 [.int .u64 a, .int .u64 b, .int .u64 c, .int .u64 d])) (.slice (some ⟨K.size, 0, none⟩) 4 4) [a, b, c, d] := by
 refine .inr ⟨K.size, [.int .u64 a, .int .u64 b, .int .u64 c, .int .u64 d], 4, rfl, by simp, Hp.push_new _ _, ?_, .inr (Nat.le_refl 4), ?_⟩
 ·rw [Hp.push_put]; rfl
 ·exact Els.cons (k := Y1 .u64) (c := [.int .u64 a]) rfl (Els.cons (k := Y1 .u64) (c := [.int .u64 b]) rfl (Els.cons (k := Y1 .u64) (c := [.int .u64 c]) rfl (Els.cons (k := Y1 .u64) (c := [.int .u64 d]) rfl (Els.nil _ _ []))))
theorem put_36 (m : MarkT) (cs : List Value) (H : Hp) (hm : kMark.rep H m cs) (hg : Vt m) (hr : 0 ≤ m.rest ∧ m.rest < 18446744073709551616) :
  ACalls Tryz.prog 76 #[.agg cs.toArray] H (fun r H' => r = .string (Zv (V3 (Ve m))) ∧ H.le H') := by
 obtain ⟨v, w, rfl, hv, hw⟩ := hm
 obtain ⟨A, c, rfl⟩ := hv.shape
 obtain ⟨W, cW, rfl⟩ := hw.shape
 obtain ⟨K, hK⟩ : ∃ K, K = H.push (.own 0 [.int .i64 m.told, .bool m.over, .slice A m.nodes.length c, .int .u64 m.rest, .slice W m.items.length cW]) := ⟨_, rfl⟩
 have kg : K.get H.size = .own 0 [.int .i64 m.told, .bool m.over, .slice A m.nodes.length c, .int .u64 m.rest, .slice W m.items.length cW] := by rw [hK]; exact Hp.push_new _ _
 have kz : K.size = H.size + 1 := by rw [hK]; simp
 have leK : H.le K := by rw [hK]; exact H.le_push _
 have hn := hg.n
 have htold := wrapU (x := m.told) (by have := hg.t0; have := hg.t1; omega)
 have hlenw := wrapU (x := (m.nodes.length : Int)) (by omega)
 refine Xv Tryz.func76 rfl rfl rfl (by simp) ?_
 refine Xe ?_
 refine Xu ?_
 refine Xz (Yw rfl) ?_
 refine Xa (Zd rfl) ?_
 refine Xe ?_
 refine Xu ?_
 refine Xa (Xi rfl) ?_
 refine Xe ?_
 refine Xe ?_
 refine Xu ?_
 refine Xa (Xf (off := 1) rfl Tryz.underlying33 rfl inf4.size (by decide) rfl) ?_
 refine Xa (Xk rfl Tryz.underlying4 rfl Xp) ?_
 refine ac_cut (fun t H' => H' = K ∧ t 1 = .pointer (some ⟨H.size, 0, none⟩) ∧ t 3 = .int .u64 (if m.over then 1 else 0)) ?_ ?_
 refine X5 rfl rfl ?_ ?_
 intro hc1
 have hov : m.over = true := hc1
 refine Xu ?_
 refine Xa (Xi rfl) ?_
 exact ⟨hK.symm, rfl, by rw [hov]; rfl⟩
 intro hc1
 have hov : m.over = false := hc1
 refine X9 ?_
 exact ⟨hK.symm, rfl, by rw [hov]; rfl⟩
 rintro t K2 ⟨hK2, e1, e3⟩
 subst hK2
 refine Xe ?_
 refine Xu ?_
 refine Xa (Xf (off := 0) Xm Tryz.underlying33 Xm inf3.size (by decide) Xm) ?_
 refine Xa (Xk rfl Tryz.underlying3 rfl Xp) ?_
 refine Xa (Vb htold rfl (by rw [Tryz.underlying3]; rfl) Tryz.underlying30) ?_
 refine Xa (Xb Xm) ?_
 refine Xa (Xf (off := 2) Xm Tryz.underlying33 Xm inf23.size (by decide) Xm) ?_
 refine Xa (Xk rfl Tryz.underlying23 rfl Xp) ?_
 refine Xa (Ys rfl Tryz.underlying23) ?_
 refine Xa (Vb hlenw rfl (by rw [Tryz.underlying3]; rfl) Tryz.underlying30) ?_
 first | refine Xz (Yh (r := [.int .u64 _, .int .u64 _, .int .u64 _, .int .u64 _]) Tryz.underlying109 inf30.size inf30.zero rfl (by decide) (by decide) (by decide) rfl) ?_
 refine Xa (Yc rfl) ?_
 refine Xe ?_
 refine Xe ?_
 refine Xu ?_
 refine Xa (Xf (off := 2) Xm Tryz.underlying33 Xm inf23.size (by decide) Xm) ?_
 refine Xa (Xk rfl Tryz.underlying23 rfl Xp) ?_
 refine Xa (Ys rfl Tryz.underlying23) ?_
 refine Xa (Xb rfl) ?_
 refine Ye ?_
 refine Y5 (fun n t H' => ∃ (i : Nat) (G : Hp) (B : Option Addr) (cB : Nat) (E : Option Addr), n = m.nodes.length - i ∧ i ≤ m.nodes.length ∧ K2.le G ∧ OwnP (Y1 .u64) G H' (.slice B (headM m ++ m.nodes.take i).length cB) (headM m ++ m.nodes.take i) ∧ Sl (Y1 .i64) H (.slice E m.nodes.length c) m.nodes ∧ t 1 = .pointer (some ⟨H.size, 0, none⟩) ∧ t 4 = .slice B (headM m ++ m.nodes.take i).length cB ∧ t 19 = .slice E m.nodes.length c ∧ t 20 = .int .i64 m.nodes.length ∧ t 21 = .int .i64 i) (m.nodes.length) (⟨0, K2.push .dead, some ⟨K2.size, 0, none⟩, 4, _, rfl, Nat.zero_le _, K2.le_push _, heads_own K2 1 m.told (if m.over then 1 else 0) m.nodes.length, hv, e1, rfl, rfl, rfl, rfl⟩) ?_
 rintro n t H1 ⟨i, G, B, cB, E, rfl, hi, leG, hown, hv, e1, e4, e19, e20, e21⟩
 have g0 := Xr hown.le (by have := leG.1; omega) (by intro e; cases e) (Xr leG (by omega) (by intro e; cases e) kg)
 have hhl : (headM m ++ m.nodes.take i).length = 4 + i := by rw [List.length_append, List.length_take]; show 4 + _ = _; omega
 refine Xe ?_
 refine Xu ?_
 refine Xa (Za Xm Xm) ?_
 refine Xe ?_
 refine X5 rfl rfl ?_ ?_
 intro hc2
 have hil : i < m.nodes.length := by have := of_decide_eq_true hc2; omega
 obtain ⟨b, o, eE, hbE, hcell⟩ := ((hv.mono leK.sees).mono (Hp.le_trans leG hown.le).sees).int_at (i := (i : Int)) (by omega) (by omega)
 rw [Int.toNat_natCast, Zf hil] at hcell
 subst eE
 have hnw := wrapU (x := m.nodes[i]) (by have := hg.x _ (List.getElem_mem hil); unfold oddI at this; omega)
 refine X9 ?_
 refine Xe ?_
 refine Ye ?_
 refine Xe ?_
 refine Xu ?_
 refine Xa (Xt Xm Xm Tryz.underlying23 inf3.size X6 X6) ?_
 refine Xa (Xk rfl Tryz.underlying3 rfl Xp) ?_
 refine Xa (Xi rfl) ?_
 refine Xu ?_
 refine Xa (X1 Xm) ?_
 refine Xa (Xb rfl) ?_
 refine Xa (Vb hnw rfl (by rw [Tryz.underlying3]; rfl) Tryz.underlying30) ?_
 first | refine Xz (Yh (r := [.int .u64 _]) Tryz.underlying109 inf30.size inf30.zero rfl (by decide) (by decide) (by decide) rfl) ?_
 refine Xw (OwnP.append (ys := [m.nodes[i]]) (hown.push _) Tryz.underlying109 inf30 rfl rfl rfl (Zo (k := Y1 .u64) rfl rfl hown.size rfl) (by rw [hhl]; simp only [List.length_singleton]; omega) (by rw [hhl]; simp only [List.length_singleton]; omega) ?_)
 rintro v5 G5 H5 hle5 hown5
 rw [List.append_assoc, Y9 hil] at hown5
 obtain ⟨B5, c5, rfl⟩ := hown5.shape
 refine Xa (Yc rfl) ?_
 refine Xu ?_
 refine Xa (Yn Xm Xm Y0) ?_
 refine Xa (Xb rfl) ?_
 exact ⟨m.nodes.length - (i + 1), by omega, i + 1, G5, B5, c5, _, rfl, by omega, Hp.le_trans (Hp.le_trans leG (G.le_push _)) hle5, hown5, hv, e1, rfl, e19, e20, rfl⟩
 intro hc2
 have hil : i = m.nodes.length := by have := of_decide_eq_false hc2; omega
 refine Yx ?_
 refine Xe ?_
 refine Xu ?_
 refine Xa (X1 Xm) ?_
 refine Xa (Xf (off := 3) Xm Tryz.underlying33 Xm inf30.size (by decide) Xm) ?_
 refine Xa (Xk rfl Tryz.underlying30 rfl Xp) ?_
 first | refine Xz (Yh (r := [.int .u64 _]) Tryz.underlying109 inf30.size inf30.zero rfl (by decide) (by decide) (by decide) rfl) ?_
 refine Xw (OwnP.append (ys := [m.rest]) (hown.push _) Tryz.underlying109 inf30 rfl rfl rfl (Zo (k := Y1 .u64) rfl rfl hown.size rfl) (by rw [hhl]; simp only [List.length_singleton]; omega) (by rw [hhl]; simp only [List.length_singleton]; omega) ?_)
 rintro v5 G5 H5 hle5 hown5
 rw [hil, List.take_length] at hown5
 refine Xw (Xy (Put_u64 (Ve m) _ _ hown5.sl (nums_ok hg hr) (by rw [nums_len]; omega) (by rw [nums_len]; omega)) rfl Tryz.func104 rfl rfl rfl ?_)
 rintro v36 H6 ⟨rfl, le6⟩
 refine Xa (Zd rfl) ?_
 refine X2 ?_
 exact ⟨_, Xx (Xs rfl), rfl, Hp.le_trans leK (Hp.le_trans (Hp.le_trans (Hp.le_trans leG (G.le_push _)) (Hp.le_trans hle5 hown5.le)) le6)⟩
theorem Put_36 (m : MarkT) (cs : List Value) (H : Hp) (hm : kMark.rep H m cs) (hb : BigM m) (hr : 0 ≤ m.rest ∧ m.rest < 18446744073709551616) :
  ACalls Tryz.prog 42 #[.agg cs.toArray] H (fun r H' => ((Vt m ∧ r = .tuple #[.string (Zv (V3 (Ve m))), .int .i64 0]) ∨ (¬ Vt m ∧ r = .tuple #[.string ByteArray.empty, .int .i64 1])) ∧ H.le H') := by
 have hm0 := hm
 obtain ⟨v, w, rfl, hv, hw⟩ := hm
 obtain ⟨A, c, rfl⟩ := hv.shape
 obtain ⟨W, cW, rfl⟩ := hw.shape
 refine Xv Tryz.func42 rfl rfl rfl (by simp) ?_
 refine Xe ?_
 refine Xu ?_
 refine Xz (Yw rfl) ?_
 refine Xa (Zd rfl) ?_
 refine Xa (Xi rfl) ?_
 refine Xe ?_
 refine Xe ?_
 refine Xu ?_
 refine Xa (Yl (cs := [.int .i64 _, .bool _, .slice _ _ _, .int .u64 _, .slice _ _ _]) rfl Tryz.underlying33 rfl inf33.size X8) ?_
 refine Xw (Xy (good_36 m _ _ (kMark.mono Zp hm0) hb) rfl Tryz.func75 rfl rfl rfl ?_)
 rintro v5 H1 ⟨⟨g, rfl, hg⟩, hH1⟩; subst hH1
 refine Xa (Zz rfl) ?_
 refine X5 rfl rfl ?_ ?_
 intro hc1
 have hno : ¬ Vt m := fun h => by have h2 := hc1; rw [hg.2 h] at h2; cases h2
 refine Xe ?_
 refine Xu ?_
 refine Xa (Zd rfl) ?_
 refine Xa (Xi rfl) ?_
 refine X2 ?_
 exact ⟨_, Y8 (Xs rfl) (Xs rfl), .inr ⟨hno, rfl⟩, H.le_push _⟩
 intro hc1
 have hyes : Vt m := hg.1 (by have h := hc1; simpa using h)
 refine X9 ?_
 refine Xe ?_
 refine Xu ?_
 refine Xa (Yl (cs := [.int .i64 _, .bool _, .slice _ _ _, .int .u64 _, .slice _ _ _]) rfl Tryz.underlying33 rfl inf33.size X8) ?_
 refine Xw (Xy (put_36 m _ _ (kMark.mono Zp hm0) hyes hr) rfl Tryz.func76 rfl rfl rfl ?_)
 rintro v8 H2 ⟨rfl, le2⟩
 refine Xa (Zd rfl) ?_
 refine Xa (Xi rfl) ?_
 refine X2 ?_
 exact ⟨_, Y8 (Xs rfl) (Xs rfl), .inl ⟨hyes, rfl⟩, Hp.le_trans (H.le_push _) le2⟩
def Vp (u : Int) : Int := if u ≤ 9007199254740992 then u else -1
theorem wholeI_of {u : Int} (h : u ≤ 9007199254740992) : Vp u = u := if_pos h
theorem whole_36 (u : Int) (H : Hp) (h0 : 0 ≤ u) (hu : u < 18446744073709551616) : ACalls Tryz.prog 74 #[.int .u64 u] H (fun r H' => r = .int .i64 (Vp u) ∧ H' = H) := by
 obtain ⟨w, rfl⟩ : ∃ w : Nat, u = w := ⟨u.toNat, by omega⟩
 refine (whole_int w H (by omega)).mono fun r H' h => ⟨?_, h.2⟩
 rw [h.1]
 unfold Vp
 congr 1
 by_cases h1 : w ≤ 9007199254740992
 ·rw [if_pos h1, if_pos (by omega)]
 ·rw [if_neg h1, if_neg (by omega)]
theorem five {l : List Int} (h : 5 ≤ l.length) : ∃ (x0 x1 x2 x3 : Int) (mid : List Int) (xr : Int), l = x0 :: x1 :: x2 :: x3 :: (mid ++ [xr]) := by
 match l, h with
 | x0 :: x1 :: x2 :: x3 :: y :: r, _ =>
  refine ⟨x0, x1, x2, x3, (y :: r).dropLast, (y :: r).getLast (by simp), ?_⟩
  have h := List.dropLast_concat_getLast (l := y :: r) (by simp)
  rw [h]
theorem nums_of {m : MarkT} {x0 x1 x2 x3 : Int} {mid : List Int} {xr : Int} (h : x0 :: x1 :: x2 :: x3 :: (mid ++ [xr]) = Ve m) : x1 = m.told ∧ x2 = (if m.over then 1 else 0) ∧ x3 = m.nodes.length ∧ mid = m.nodes ∧ xr = m.rest := by
 have h2 : x0 :: x1 :: x2 :: x3 :: (mid ++ [xr]) = 1 :: m.told :: (if m.over then 1 else 0) :: (m.nodes.length : Int) :: (m.nodes ++ [m.rest]) := h
 simp only [List.cons.injEq] at h2
 obtain ⟨_, h3, h4, h5, h6⟩ := h2
 have h7 := List.append_inj' h6 rfl
 simp only [List.cons.injEq, and_true] at h7
 exact ⟨h3, h4, h5, h7.1, h7.2⟩
theorem nums_inj {a b : MarkT} (h : Ve a = Ve b) : SameM a b := by
 obtain ⟨h1, h2, h3, h4, h5⟩ := nums_of (m := b) (x0 := 1) (show 1 :: a.told :: (if a.over then 1 else 0) :: (a.nodes.length : Int) :: (a.nodes ++ [a.rest]) = _ from h)
 refine ⟨h1, ?_, h5, h4⟩
 cases ha : a.over <;> cases hb : b.over <;> simp_all
theorem all_bytes {m : MarkT} {s : ByteArray} (hg : Vt m) (hr : 0 ≤ m.rest ∧ m.rest < 18446744073709551616) (h : s = Zv (V3 (Ve m))) : allF s.size (bl s) [] = (Ve m, 0) := by
 have h1 : bl s = V3 (Ve m) := by rw [h, bl_bytes _ (putA_byte _)]
 have h2 := allF_put (Ve m) s.size [] (nums_ok hg hr) (by rw [← h1, bl_len]; exact Nat.le_refl _)
 rw [h1, h2]; rfl
theorem put_inj {a b : MarkT} (ha : Vt a) (hra : 0 ≤ a.rest ∧ a.rest < 18446744073709551616) (hb : Vt b) (hrb : 0 ≤ b.rest ∧ b.rest < 18446744073709551616) (h : Zv (V3 (Ve a)) = Zv (V3 (Ve b))) : SameM a b := by
 have h1 := all_bytes ha hra rfl
 have h2 := all_bytes hb hrb h
 rw [h1] at h2
 exact nums_inj (Prod.mk.inj h2).1
def decM (x1 x2 : Int) (mid : List Int) (xr : Int) : MarkT := ⟨Vp x1, decide (x2 = 1), mid.map Vp, xr, []⟩
theorem dec_good {y : MarkT} {x0 x1 x2 x3 : Int} {mid : List Int} {xr : Int} (hy : Vt y) (h : x0 :: x1 :: x2 :: x3 :: (mid ++ [xr]) = Ve y) : Vt (decM x1 x2 mid xr) ∧ Ve (decM x1 x2 mid xr) = Ve y := by
 obtain ⟨h1, h2, h3, h4, h5⟩ := nums_of h
 have e1 : Vp x1 = y.told := by rw [h1]; exact wholeI_of hy.t1
 have e2 : decide (x2 = 1) = y.over := by rw [h2]; cases y.over <;> decide
 have e4 : mid.map Vp = y.nodes := by
  rw [h4]
  refine (List.map_congr_left fun n hn => ?_).trans (List.map_id _)
  have := hy.x n hn
  unfold oddI at this
  exact wholeI_of (by omega)
 have e : decM x1 x2 mid xr = ⟨y.told, y.over, y.nodes, y.rest, []⟩ := by unfold decM; rw [e1, e2, e4, h5]
 rw [e]
 exact ⟨⟨rfl, hy.t0, hy.t1, hy.n, hy.x, hy.e⟩, rfl⟩
theorem getD_last {x0 x1 x2 x3 : Int} {mid : List Int} {xr : Int} : (x0 :: x1 :: x2 :: x3 :: (mid ++ [xr])).getD (mid.length + 4) 0 = xr := by
 simp [List.getD_eq_getElem?_getD]
theorem mid_of {x0 x1 x2 x3 : Int} {mid : List Int} {xr : Int} : ((x0 :: x1 :: x2 :: x3 :: (mid ++ [xr])).take (mid.length + 4)).drop 4 = mid := by
 simp
set_option maxHeartbeats 8000000 in
theorem Get_s (s : ByteArray) (H : Hp) (hs : s.size ≤ 60000) :
  ACalls Tryz.prog 39 #[.string s] H (fun r H' => (∃ x ds e, r = .tuple #[.agg ds.toArray, .int .i64 e] ∧ kMark.rep H' x ds ∧ BigM x ∧ (0 ≤ x.rest ∧ x.rest < 18446744073709551616) ∧ x.items = [] ∧ ((e = 0 ∧ Vt x ∧ s = Zv (V3 (Ve x))) ∨ (e = 12 ∧ x = Us ∧ ∀ y, Vt y → (0 ≤ y.rest ∧ y.rest < 18446744073709551616) → s ≠ Zv (V3 (Ve y))))) ∧ H.le H') := by
 refine Xv Tryz.func39 rfl rfl rfl (by simp) ?_
 refine Xe ?_
 refine Xu ?_
 refine Xz (Yz (l := [.int .i64 0, .bool false, .slice none 0 0, .int .u64 0, .slice none 0 0]) inf33.zero rfl (by decide)) ?_
 refine Xa (Xi rfl) ?_
 refine Xe ?_
 refine Xe ?_
 refine Xu ?_
 refine Xa (Z2 rfl) ?_
 refine Xa (av_len_str rfl Tryz.underlying9) ?_
 refine Xa (Vu rfl rfl) ?_
 refine X5 rfl rfl ?_ ?_
 intro hc1
 (have h := of_decide_eq_true hc1; omega)
 intro hc1
 (try simp only [Yt] at hc1)
 refine X9 ?_
 refine Xe ?_
 refine Xu ?_
 refine Xa (Z2 rfl) ?_
 refine Xw (Xy (All_s s _ (by omega)) rfl Tryz.func73 rfl rfl rfl ?_)
 rintro v15 H5 ⟨l, e, A, c, rfl, hal, hl, hll, hle5⟩; have hz5 := hle5.1; simp only [Hp.push_size] at hz5; have h50 : H5.get H.size = .own 0 [.int .i64 0, .bool false, .slice none 0 0, .int .u64 0, .slice none 0 0] := Xr hle5 (by simp <;> omega) (by intro e; cases e) Yd; have hbd := allF_bound s.size (bl s) [] (fun x h => (by cases h)); rw [← hal] at hbd; have leH5 := Hp.le_trans (H.le_push _) hle5
 refine Xa (Zm rfl) ?_
 refine Xa (Yj rfl rfl) ?_
 refine Xa (Yj rfl rfl) ?_
 refine Xa (Yc rfl) ?_
 refine Xa (Xi rfl) ?_
 refine Xe ?_
 refine Xe ?_
 refine Xu ?_
 refine Xa (Xb rfl) ?_
 refine Xa (Zw rfl rfl) ?_
 refine Xa (Xo rfl) ?_
 refine Ya rfl rfl rfl ?_ ?_
 intro hg2
 have hee : ¬ e = 0 := of_decide_eq_true hg2
 have hbad : ¬ (e = 0 ∧ 5 ≤ l.length) := fun h => hee h.1
 refine Xc (Xg rfl rfl rfl hg2 rfl) ?_
 refine Xc (Xg rfl rfl rfl hg2 rfl) ?_
 refine Xc (Xg rfl rfl rfl hg2 rfl) ?_
 refine Xa (Xl (Yv hg2) rfl) ?_
 refine Yu rfl rfl ?_
 refine Xe ?_
 refine Xu ?_
 refine Xa (Y6 (pl := [(0, 1), (1, 1), (2, 1), (3, 1), (4, 1)]) (r := [.int .i64 _, .bool _, .slice _ _ _, .int .u64 _, .slice _ _ _]) Tryz.underlying33 inf33.zero (by decide) rfl rfl) ?_
 refine Xw (Yf (vs := [.int .i64 _, .bool _, .slice _ _ _, .int .u64 _, .slice _ _ _]) rfl rfl inf33.size Yd Yg rfl rfl ?_)
 refine Xa (Xi rfl) ?_
 refine X2 ?_
 exact ⟨_, Y8 (Yq Xm (Yo (cs := [_, _, _, _, _]) Tryz.underlying33 rfl inf33.size X8)) (Xs rfl), ⟨Us, _, 12, rfl, Ul _, Um, by decide, rfl, .inr ⟨rfl, rfl, fun y hy hry hsy => hbad (by have h := all_bytes hy hry hsy; rw [← hal] at h; obtain ⟨h1, h2⟩ := Prod.mk.inj h; exact ⟨h2, by rw [h1, nums_len]; omega⟩)⟩⟩, Hp.le_put_new leH5 (Nat.le_refl _) _⟩
 intro hg2
 have hee : e = 0 := Decidable.not_not.1 (of_decide_eq_false hg2)
 refine Xj (Xh rfl rfl rfl hg2) (X1 rfl) ?_
 refine Xj (Xh rfl rfl rfl hg2) (Ys rfl Tryz.underlying109) ?_
 refine Xj (Xh rfl rfl rfl hg2) (Za rfl rfl) ?_
 refine Xa (Xl (Yv hg2) rfl) ?_
 refine X5 rfl rfl ?_ ?_
 intro hc4
 have hbad : ¬ (e = 0 ∧ 5 ≤ l.length) := fun h => by have := of_decide_eq_true hc4; omega
 refine Xe ?_
 refine Xu ?_
 refine Xa (Y6 (pl := [(0, 1), (1, 1), (2, 1), (3, 1), (4, 1)]) (r := [.int .i64 _, .bool _, .slice _ _ _, .int .u64 _, .slice _ _ _]) Tryz.underlying33 inf33.zero (by decide) rfl rfl) ?_
 refine Xw (Yf (vs := [.int .i64 _, .bool _, .slice _ _ _, .int .u64 _, .slice _ _ _]) rfl rfl inf33.size Yd Yg rfl rfl ?_)
 refine Xa (Xi rfl) ?_
 refine X2 ?_
 exact ⟨_, Y8 (Yq Xm (Yo (cs := [_, _, _, _, _]) Tryz.underlying33 rfl inf33.size X8)) (Xs rfl), ⟨Us, _, 12, rfl, Ul _, Um, by decide, rfl, .inr ⟨rfl, rfl, fun y hy hry hsy => hbad (by have h := all_bytes hy hry hsy; rw [← hal] at h; obtain ⟨h1, h2⟩ := Prod.mk.inj h; exact ⟨h2, by rw [h1, nums_len]; omega⟩)⟩⟩, Hp.le_put_new leH5 (Nat.le_refl _) _⟩
 intro hc4
 have hlen : 5 ≤ l.length := by have := of_decide_eq_false hc4; omega
 obtain ⟨x0, x1, x2, x3, mid, xr, hle⟩ := five hlen
 have hll5 : l.length = mid.length + 5 := by rw [hle]; simp
 have hb1 := hbd x1 (by show x1 ∈ l; rw [hle]; simp)
 have hbr := hbd xr (by show xr ∈ l; rw [hle]; simp)
 have hbm : ∀ x ∈ mid, 0 ≤ x ∧ x < 18446744073709551616 := fun x hx => hbd x (by show x ∈ l; rw [hle]; simp [hx])
 obtain ⟨A9, c9, S9, hsl9, hS9, hop9⟩ := hl.mids (l := 4) (h := l.length - 1) (by omega) (by omega)
 have hq9 : l.length - 1 - 4 = mid.length := by omega
 have hm9 : (l.take (l.length - 1)).drop 4 = mid := by rw [show l.length - 1 = mid.length + 4 by omega, hle]; exact mid_of
 rw [hq9] at hop9
 rw [hq9, hm9] at hsl9
 obtain ⟨b, o, eA, hb, hcx1⟩ := hl.int_at (i := 1) (by omega) (by omega)
 obtain ⟨b2, o2, eA2, _, hcx2⟩ := hl.int_at (i := 2) (by omega) (by omega)
 obtain ⟨b3, o3, eA3, _, hcx3⟩ := hl.int_at (i := (l.length : Int) - 1) (by omega) (by omega)
 subst eA
 simp only [Option.some.injEq, Addr.mk.injEq, and_true] at eA2 eA3
 obtain ⟨rfl, rfl⟩ := eA2
 obtain ⟨rfl, rfl⟩ := eA3
 rw [show l.getD (1 : Int).toNat 0 = x1 by rw [hle]; rfl] at hcx1
 rw [show l.getD (2 : Int).toNat 0 = x2 by rw [hle]; rfl] at hcx2
 rw [show l.getD ((l.length : Int) - 1).toNat 0 = xr by rw [show ((l.length : Int) - 1).toNat = mid.length + 4 by omega, hle]; exact getD_last] at hcx3
 refine X9 ?_
 refine Xe ?_
 refine Yy (by kernel_rfl) (Y4 (B := [0, 1, 3, 7, 0, 16, 48, 112, 0, 0, 512, 1536, 3840, 7936, 16383, 0, 65535]) (π := [0, 1, 2, 4, 5, 6, 7, 8, 9, 10, 11, 12, 13, 15, 3, 14, 16]) (by kernel_rfl)) ?_
 refine Xd rfl rfl (X1 rfl) Xq ?_
 refine Xd rfl rfl (Xt rfl rfl Tryz.underlying109 inf30.size X6 X6) Xq ?_
 refine Xd rfl rfl (Xk rfl Tryz.underlying30 rfl Xp) Xq ?_
 refine Xd rfl rfl (X1 rfl) Xq ?_
 refine Xd rfl rfl (Xt rfl rfl Tryz.underlying109 inf30.size X6 X6) Xq ?_
 refine Xd rfl rfl (Xk rfl Tryz.underlying30 rfl Xp) Xq ?_
 refine Xd rfl rfl (Zx rfl rfl) Xq ?_
 refine Xd rfl rfl (X1 rfl) Xq ?_
 refine Xd rfl rfl (X1 rfl) Xq ?_
 refine Xd rfl rfl (Ys rfl Tryz.underlying109) Xq ?_
 refine Xd rfl rfl (av_sub64 rfl rfl Y0) Xq ?_
 refine Xd rfl rfl (Xt rfl rfl Tryz.underlying109 inf30.size X6 X6) Xq ?_
 refine Xd rfl rfl (Xk rfl Tryz.underlying30 rfl Xp) Xq ?_
 refine Zb rfl rfl (Yz (l := [.int .i64 0, .bool false, .slice none 0 0, .int .u64 0, .slice none 0 0]) inf33.zero rfl (by decide)) ?_
 refine Ym rfl rfl (Xy (whole_36 x1 _ hb1.1 hb1.2) rfl Tryz.func74 rfl rfl rfl ?_)
 rintro v29 H6 ⟨rfl, rfl⟩
 refine ⟨Yk, ?_⟩
 refine Xd rfl rfl (Y6 (pl := [(0, 1), (1, 1), (2, 1), (3, 1), (4, 1)]) (r := [.int .i64 _, .bool _, .slice _ _ _, .int .u64 _, .slice _ _ _]) Tryz.underlying33 inf33.zero (by decide) rfl rfl) Xq ?_
 refine Ym rfl rfl (Yf (vs := [.int .i64 _, .bool _, .slice _ _ _, .int .u64 _, .slice _ _ _]) rfl rfl inf33.size Yd Yg rfl rfl ?_)
 refine ⟨Yk, ?_⟩
 refine Xe ?_
 refine Xe ?_
 obtain ⟨K, hK⟩ : ∃ K, K = (H5.push (.own 0 [.int .i64 0, .bool false, .slice none 0 0, .int .u64 0, .slice none 0 0])).put H5.size (.own 0 [.int .i64 (Vp x1), .bool (decide (x2 = 1)), .slice none 0 0, .int .u64 xr, .slice none 0 0]) := ⟨_, rfl⟩
 have k0 : K.get H.size = .own 0 [.int .i64 0, .bool false, .slice none 0 0, .int .u64 0, .slice none 0 0] := by rw [hK, Hp.put_other _ _ (by omega), Hp.push_old _ _ (by omega)]; exact h50
 have k2 : K.get H5.size = .own 0 [.int .i64 (Vp x1), .bool (decide (x2 = 1)), .slice none 0 0, .int .u64 xr, .slice none 0 0] := by rw [hK]; exact Hp.put_same _ _ _
 have le5K : H5.le K := by rw [hK]; exact Hp.le_put_new (H5.le_push _) (Nat.le_refl _) _
 have zK : K.size = H5.size + 1 := by rw [hK]; simp
 have leK := Hp.le_trans leH5 le5K
 change ACode true _ _ _ _ _ ((H5.push (.own 0 [.int .i64 0, .bool false, .slice none 0 0, .int .u64 0, .slice none 0 0])).put H5.size (.own 0 [.int .i64 (Vp x1), .bool (decide (x2 = 1)), .slice none 0 0, .int .u64 xr, .slice none 0 0]))
 rw [← hK]
 clear hK
 refine Xu ?_
 refine Xa (X1 rfl) ?_
 refine Xa (X1 rfl) ?_
 refine Xa (Ys rfl Tryz.underlying109) ?_
 refine Xa ((av_sub64 rfl rfl (by omega)).to (congrArg (Value.int .i64) (show (l.length : Int) - 1 = ((l.length - 1 : Nat) : Int) by omega))) ?_
 refine Xa (hop9 _ _ _ _ _ _ _ _ _ _ _ _ _ _ _ le5K (by first | rfl | assumption) Tryz.underlying109 inf30.size (by first | rfl | assumption) (by first | rfl | assumption)) ?_
 refine Xa (Ys rfl Tryz.underlying109) ?_
 refine Xa (Xb rfl) ?_
 refine Ye ?_
 refine Y5 (fun n t H' => ∃ (i : Nat) (G : Hp) (B : Option Addr) (cB : Nat) (E : Option Addr), n = mid.length - i ∧ i ≤ mid.length ∧ Away H5.size K G ∧ G.get H5.size = .own 0 [.int .i64 (Vp x1), .bool (decide (x2 = 1)), .slice B i cB, .int .u64 xr, .slice none 0 0] ∧ OwnP (Y1 .i64) G H' (.slice B i cB) ((mid.take i).map Vp) ∧ Sl (Y1 .u64) K (.slice E mid.length c9) mid ∧ t 0 = .string s ∧ t 2 = .pointer (some ⟨H.size, 0, none⟩) ∧ t 6 = .pointer (some ⟨H5.size, 0, none⟩) ∧ t 45 = .slice E mid.length c9 ∧ t 46 = .int .i64 mid.length ∧ t 47 = .int .i64 i) (mid.length) (⟨0, K, none, 0, _, rfl, Nat.zero_le _, .refl _ _, k2, OwnP.nil _ _, hsl9.mono le5K.sees, rfl, rfl, rfl, rfl, rfl, rfl⟩) ?_
 rintro n t H1 ⟨i, G, B, cB, E, rfl, hi, aw, g2, hown, hE, e0, e2, e6, e45, e46, e47⟩
 have zG := aw.size
 have zz := hown.size
 have g0 := aw.keep (b := H.size) (by omega) (by omega) (by intro e; cases e) k0
 have h0 := Xr hown.le (by omega) (by intro e; cases e) g0
 have h2 := Xr hown.le (by omega) (by intro e; cases e) g2
 have sGK := aw.sees k2
 have hlenT : ((mid.take i).map Vp).length = i := by rw [List.length_map, List.length_take]; omega
 refine Xe ?_
 refine Xu ?_
 refine Xa (Za Xm Xm) ?_
 refine Xe ?_
 refine X5 rfl rfl ?_ ?_
 intro hc5
 have hil : i < mid.length := by have := of_decide_eq_true hc5; omega
 obtain ⟨bb, oo, eE, hbE, hcell0⟩ := (((hE.mono sGK).mono hown.le.sees)).int_at (i := (i : Int)) (by omega) (by omega)
 rw [Int.toNat_natCast, Zf hil] at hcell0
 subst eE
 have hbi := hbm _ (List.getElem_mem hil)
 refine X9 ?_
 refine Xe ?_
 refine Ye ?_
 refine Xe ?_
 refine Xu ?_
 refine Xa (Xt Xm Xm Tryz.underlying109 inf30.size X6 X6) ?_
 refine Xa (Xk rfl Tryz.underlying30 rfl Xp) ?_
 refine Xa (Xi rfl) ?_
 refine Yy (by kernel_rfl) (Y4 (B := [0, 1, 0, 4, 12, 31, 63, 127]) (π := [0, 1, 2, 3, 4, 5, 6, 7]) (by kernel_rfl)) ?_
 refine Xd rfl rfl (Xf (off := 2) Xm Tryz.underlying33 Xm inf23.size (by decide) Xm) Xq ?_
 refine Xd rfl rfl (Xk rfl Tryz.underlying23 rfl Xp) Xq ?_
 refine Xd rfl rfl (Xb rfl) Xq ?_
 refine Ym rfl rfl (Xy (whole_36 mid[i] _ hbi.1 hbi.2) rfl Tryz.func74 rfl rfl rfl ?_)
 rintro v54 H6 ⟨rfl, rfl⟩
 refine ⟨Yk, ?_⟩
 first | refine Zb rfl rfl (Yh (r := [.int .i64 _]) Tryz.underlying23 inf3.size inf3.zero rfl (by decide) (by decide) (by decide) rfl) ?_
 refine Ym rfl rfl (OwnP.append (ys := [Vp mid[i]]) (hown.push _) Tryz.underlying23 inf3 Xm Xm rfl (Zo (k := Y1 .i64) rfl rfl hown.size rfl) (by rw [hlenT]; simp only [List.length_singleton]; omega) (by rw [hlenT]; simp only [List.length_singleton]; omega) ?_)
 rintro v35 G6 H6 hle6 hown6
 have hsameO := OwnP.sameO (hown.push _) hle6 hown6
 have le56 := Hp.le_trans (Hp.le_push _ _) hle6
 have z6 := le56.1
 have zz6 := hown6.size
 have g60 := Xr le56 (by omega) (by intro e; cases e) g0
 have g62 := Xr le56 (by omega) (by intro e; cases e) g2
 have h60 := Xr hown6.le (by omega) (by intro e; cases e) g60
 have h62 := Xr hown6.le (by omega) (by intro e; cases e) g62
 obtain ⟨B', c', rfl⟩ := hown6.shape
 rw [show (mid.take i).map Vp ++ [Vp mid[i]] = (mid.take (i + 1)).map Vp by rw [← Y9 hil, List.map_append]; rfl] at hown6 ⊢
 have hlen2 : ((mid.take (i + 1)).map Vp).length = i + 1 := by rw [List.length_map, List.length_take]; omega
 rw [hlen2] at hown6 ⊢
 refine ⟨Yk, ?_⟩
 refine Xd rfl rfl (Xf (off := 2) Xm Tryz.underlying33 Xm inf23.size (by decide) Xm) Xq ?_
 first | refine Ym rfl rfl (Y3 rfl rfl rfl inf23.size Yd Yg rfl ?_)
 refine ⟨Yk, ?_⟩
 refine Xu ?_
 refine Xa (Yn Xm Xm Y0) ?_
 refine Xa (Xb rfl) ?_
 exact ⟨mid.length - (i + 1), by omega, i + 1, G6.put H5.size (.own 0 [.int .i64 (Vp x1), .bool (decide (x2 = 1)), .slice B' (i + 1) c', .int .u64 xr, .slice none 0 0]), B', c', _, rfl, by omega, (aw.trans (.of_le le56)).put _, Hp.put_same _ _ _, hown6.put (by rw [g62]; intro e; cases e) _ (Hp.sees_box _ g62), hE, e0, e2, e6, e45, e46, rfl⟩
 intro hc5
 have hil : i = mid.length := by have := of_decide_eq_false hc5; omega
 rw [hil, List.take_length] at hown
 rw [hil] at h2 g2
 have hX : kMark.rep H1 (decM x1 x2 mid xr) [.int .i64 (Vp x1), .bool (decide (x2 = 1)), .slice B mid.length cB, .int .u64 xr, .slice none 0 0] := ⟨_, _, rfl, hown.sl, Sl.nil _ _⟩
 have hbX : BigM (decM x1 x2 mid xr) := ⟨by show (mid.map Vp).length ≤ _; rw [List.length_map]; omega, Nat.zero_le _, fun x hx => by cases hx⟩
 have leH1 := Hp.le_trans (aw.base leK (by omega)) hown.le
 have h12 : ∀ y, Vt y → (0 ≤ y.rest ∧ y.rest < 18446744073709551616) → s = Zv (V3 (Ve y)) → Vt (decM x1 x2 mid xr) ∧ s = Zv (V3 (Ve (decM x1 x2 mid xr))) := fun y hy hry hsy => by
  have h := all_bytes hy hry hsy
  rw [← hal] at h
  have h1 := (Prod.mk.inj h).1
  rw [hle] at h1
  obtain ⟨h3, h4⟩ := dec_good hy h1
  exact ⟨h3, by rw [h4]; exact hsy⟩
 refine Yx ?_
 refine Xe ?_
 refine Xe ?_
 refine Xu ?_
 refine Xa (Yl (cs := [.int .i64 _, .bool _, .slice _ _ _, .int .u64 _, .slice _ _ _]) Xm Tryz.underlying33 Xm inf33.size X8) ?_
 refine Xw (Xy (good_36 (decM x1 x2 mid xr) _ _ hX hbX) rfl Tryz.func75 rfl rfl rfl ?_)
 rintro v60 H6 ⟨⟨g, rfl, hgX⟩, hH6⟩; subst hH6
 refine Xa (Zz rfl) ?_
 refine Xa (Xo rfl) ?_
 refine Ya rfl rfl rfl ?_ ?_
 intro hg6
 have hng : ¬ Vt (decM x1 x2 mid xr) := fun h => by have h9 := hg6; rw [hgX.2 h] at h9; cases h9
 have hno : ∀ y, Vt y → (0 ≤ y.rest ∧ y.rest < 18446744073709551616) → s ≠ Zv (V3 (Ve y)) := fun y hy hry hsy => hng (h12 y hy hry hsy).1
 refine Xc (Xg rfl rfl rfl hg6 rfl) ?_
 refine Xc (Xg rfl rfl rfl hg6 rfl) ?_
 refine Xc (Xg rfl rfl rfl hg6 rfl) ?_
 refine Xc (Xg rfl rfl rfl hg6 rfl) ?_
 refine Xa (Xl (Yv hg6) Xm) ?_
 refine Yu rfl rfl ?_
 refine Xe ?_
 refine Xu ?_
 refine Xa (Y6 (pl := [(0, 1), (1, 1), (2, 1), (3, 1), (4, 1)]) (r := [.int .i64 _, .bool _, .slice _ _ _, .int .u64 _, .slice _ _ _]) Tryz.underlying33 inf33.zero (by decide) rfl rfl) ?_
 refine Xw (Yf (vs := [.int .i64 _, .bool _, .slice _ _ _, .int .u64 _, .slice _ _ _]) Xm Xm inf33.size Yd Yg Xm Xm ?_)
 refine Xa (Xi rfl) ?_
 refine X2 ?_
 first
  | exact ⟨_, Y8 (Yq Xm (Yo (cs := [_, _, _, _, _]) Tryz.underlying33 rfl inf33.size X8)) (Xs rfl), ⟨Us, _, 12, rfl, Ul _, Um, by decide, rfl, .inr ⟨rfl, rfl, hno⟩⟩, Hp.le_put_new (Hp.le_trans leH1 le7) (Nat.le_refl _) _⟩
  | exact ⟨_, Y8 (Yq Xm (Yo (cs := [_, _, _, _, _]) Tryz.underlying33 rfl inf33.size X8)) (Xs rfl), ⟨Us, _, 12, rfl, Ul _, Um, by decide, rfl, .inr ⟨rfl, rfl, hno⟩⟩, Hp.le_put_new leH1 (Nat.le_refl _) _⟩
 intro hg6
 have hyg : Vt (decM x1 x2 mid xr) := hgX.1 (by have h := hg6; simpa using h)
 refine Xj (Xh rfl rfl rfl hg6) (Yl (cs := [.int .i64 _, .bool _, .slice _ _ _, .int .u64 _, .slice _ _ _]) Xm Tryz.underlying33 Xm inf33.size X8) ?_
 refine Z1 (Xh rfl rfl rfl hg6) (Xy (put_36 (decM x1 x2 mid xr) _ _ hX hyg hbr) rfl Tryz.func76 rfl rfl rfl ?_)
 rintro v64 H7 ⟨rfl, le7⟩; have y0 := Xr le7 (by omega) (by intro e; cases e) h0; have y2 := Xr le7 (by omega) (by intro e; cases e) h2
 refine Xj (Xh rfl rfl rfl hg6) (Z2 Xm) ?_
 refine Xj (Xh rfl rfl rfl hg6) (av_str_neq rfl rfl) ?_
 refine Xa (Xl (Yv hg6) rfl) ?_
 refine X5 rfl rfl ?_ ?_
 intro hc8
 have hno : ∀ y, Vt y → (0 ≤ y.rest ∧ y.rest < 18446744073709551616) → s ≠ Zv (V3 (Ve y)) := fun y hy hry hsy => (of_decide_eq_true hc8) (h12 y hy hry hsy).2.symm
 refine Xe ?_
 refine Xu ?_
 refine Xa (Y6 (pl := [(0, 1), (1, 1), (2, 1), (3, 1), (4, 1)]) (r := [.int .i64 _, .bool _, .slice _ _ _, .int .u64 _, .slice _ _ _]) Tryz.underlying33 inf33.zero (by decide) rfl rfl) ?_
 refine Xw (Yf (vs := [.int .i64 _, .bool _, .slice _ _ _, .int .u64 _, .slice _ _ _]) Xm Xm inf33.size Yd Yg Xm Xm ?_)
 refine Xa (Xi rfl) ?_
 refine X2 ?_
 first
  | exact ⟨_, Y8 (Yq Xm (Yo (cs := [_, _, _, _, _]) Tryz.underlying33 rfl inf33.size X8)) (Xs rfl), ⟨Us, _, 12, rfl, Ul _, Um, by decide, rfl, .inr ⟨rfl, rfl, hno⟩⟩, Hp.le_put_new (Hp.le_trans leH1 le7) (Nat.le_refl _) _⟩
  | exact ⟨_, Y8 (Yq Xm (Yo (cs := [_, _, _, _, _]) Tryz.underlying33 rfl inf33.size X8)) (Xs rfl), ⟨Us, _, 12, rfl, Ul _, Um, by decide, rfl, .inr ⟨rfl, rfl, hno⟩⟩, Hp.le_put_new leH1 (Nat.le_refl _) _⟩
 intro hc8
 have hse : Zv (V3 (Ve (decM x1 x2 mid xr))) = s := Decidable.not_not.1 (of_decide_eq_false hc8)
 refine X9 ?_
 refine Xe ?_
 refine Xu ?_
 refine Xa (Yl (cs := [.int .i64 _, .bool _, .slice _ _ _, .int .u64 _, .slice _ _ _]) Xm Tryz.underlying33 Xm inf33.size X8) ?_
 refine Xw (Yf (vs := [.int .i64 _, .bool _, .slice _ _ _, .int .u64 _, .slice _ _ _]) Xm Xm inf33.size Yd Yg Xm Xm ?_)
 refine Xa (Xi rfl) ?_
 refine X2 ?_
 exact ⟨_, Y8 (Yq Xm (Yo (cs := [_, _, _, _, _]) Tryz.underlying33 rfl inf33.size X8)) (Xs rfl), ⟨decM x1 x2 mid xr, _, 0, rfl, kMark.mono (Hp.sees_box _ y0) (kMark.mono le7.sees hX), hbX, hbr, rfl, .inl ⟨rfl, hyg, hse.symm⟩⟩, Hp.le_put_new (Hp.le_trans leH1 le7) (Nat.le_refl _) _⟩

theorem putM_size {m : MarkT} (hg : Vt m) (hr : 0 ≤ m.rest ∧ m.rest < 18446744073709551616) : (Zv (V3 (Ve m))).size ≤ 60000 := by
 rw [bytes_size _ (putA_byte _)]
 have h1 := putA_len (Ve m) (fun x hx => (nums_ok hg hr x hx).2)
 rw [nums_len] at h1
 have := hg.n
 omega
structure AtM (T : TreeT) (rows : List RowT) (m : MarkT) (i k told : Nat) : Prop where
 fits : FitsT T m
 over : m.over = false
 told : m.told = told
 big : BigM m
 r0 : 0 ≤ m.rest
 r1 : m.rest < 18446744073709551616
 at_ : (k = 0 ∧ i = 0 ∧ m.nodes.length = 0) ∨ (k = 0 ∧ m.nodes.length ≠ 0 ∧ ∃ j, i = j + 1 ∧ ∃ h : j < rows.length, m.nodes = rows[j].nodes ∧ m.rest + 1 = rows[j].n) ∨ (0 < k ∧ m.nodes.length ≠ 0 ∧ ∃ h : i < rows.length, m.nodes = rows[i].nodes ∧ m.rest + 1 = k)
theorem tells_at {T : TreeT} (hT : GoodT T) {rows : List RowT} (hrm : rows.map RowT.nodes = Vc T T.vars.length []) (hrr : ∀ r ∈ rows, Vm T r.nodes = some r) {o : Option RowT} {j : Nat} (hj : j < rows.length) (h : TellsH T o (behN T rows[j].nodes)) : o = rows[j + 1]? :=
 tells_row_at (beh_after hT hrm hj) hrm hrr h
theorem next_at {T : TreeT} (hT : GoodT T) (hA : U3 T) {rows : List RowT} (hrm : rows.map RowT.nodes = Vc T T.vars.length []) (hrr : ∀ r ∈ rows, Vm T r.nodes = some r) {m : MarkT} {i k told : Nat} (h : AtM T rows m i k told) (hi : i < rows.length) (hk : (k : Int) < rows[i].n) {o : Option RowT} {rest : Int} (hn : NextIs T m o rest) : o = some rows[i] ∧ rest = k := by
 rcases h.at_ with ⟨h1, h2, h3⟩ | ⟨h1, h2, j, h3, h4, h5, h6⟩ | ⟨h1, h2, h3, h4, h5⟩
 ·obtain ⟨a1, a2⟩ := hn.2.1 h.over h3
  subst h1 h2
  rw [first_is hT hA hrm hrr, List.getElem?_eq_getElem hi] at a1
  exact ⟨a1, a2⟩
 ·obtain ⟨a1, a2⟩ := hn.2.2 h.over h2 rows[j] (by rw [h5]; exact hrr _ (List.getElem_mem h4))
  obtain ⟨a3, a4⟩ := a2 (by omega)
  subst h1 h3
  rw [h5] at a3
  rw [tells_at hT hrm hrr h4 a3, List.getElem?_eq_getElem hi]
  exact ⟨rfl, a4⟩
 ·obtain ⟨a1, a2⟩ := hn.2.2 h.over h2 rows[i] (by rw [h4]; exact hrr _ (List.getElem_mem h3))
  obtain ⟨a3, a4⟩ := a1 (by omega)
  exact ⟨a3, by rw [a4, h5]⟩
theorem next_end {T : TreeT} (hT : GoodT T) (hA : U3 T) {rows : List RowT} (hrm : rows.map RowT.nodes = Vc T T.vars.length []) (hrr : ∀ r ∈ rows, Vm T r.nodes = some r) {m : MarkT} {told : Nat} (h : AtM T rows m rows.length 0 told) {o : Option RowT} {rest : Int} (hn : NextIs T m o rest) : o = none := by
 rcases h.at_ with ⟨h1, h2, h3⟩ | ⟨h1, h2, j, h3, h4, h5, h6⟩ | ⟨h1, _⟩
 ·obtain ⟨a1, a2⟩ := hn.2.1 h.over h3
  rw [first_is hT hA hrm hrr, List.getElem?_eq_none (by omega)] at a1
  exact a1
 ·obtain ⟨a1, a2⟩ := hn.2.2 h.over h2 rows[j] (by rw [h5]; exact hrr _ (List.getElem_mem h4))
  obtain ⟨a3, a4⟩ := a2 (by omega)
  rw [h5] at a3
  rw [tells_at hT hrm hrr h4 a3, List.getElem?_eq_none (by omega)]
 ·omega
theorem at_step {T : TreeT} {rows : List RowT} {x : MarkT} {i k told : Nat} (hi : i < rows.length) (hx : FitsT T x) (ho : x.over = false) (ht : x.told = told + 1) (hb : BigM x) (hr : x.rest = k) (hk : (k : Int) < 18446744073709551616) (hn : x.nodes = rows[i].nodes) (hl : x.nodes.length ≠ 0) : AtM T rows x i (k + 1) (told + 1) :=
 ⟨hx, ho, by rw [ht]; rfl, hb, by omega, by omega, .inr (.inr ⟨by omega, hl, hi, hn, by rw [hr]; rfl⟩)⟩
theorem at_row {T : TreeT} {rows : List RowT} {m : MarkT} {i k told : Nat} (h : AtM T rows m i k told) (hi : i < rows.length) (hp : 1 ≤ rows[i].n) (hk : (k : Int) ≤ rows[i].n) (hk2 : ¬ (k : Int) < rows[i].n) : AtM T rows m (i + 1) 0 told :=
 ⟨h.fits, h.over, h.told, h.big, h.r0, h.r1, by
  rcases h.at_ with ⟨h1, _⟩ | ⟨h1, _⟩ | ⟨h1, h2, h3, h4, h5⟩
  ·omega
  ·omega
  ·exact .inr (.inl ⟨rfl, h2, i, rfl, hi, h4, by omega⟩)⟩
theorem same_eq {a b : MarkT} (h : SameM a b) (hi : a.items = b.items) : a = b := by
 obtain ⟨h1, h2, h3, h4⟩ := h
 cases a; cases b
 simp only at h1 h2 h3 h4 hi
 subst h1 h2 h3 h4 hi
 rfl
set_option maxHeartbeats 16000000 in
theorem CursorAll_ok (f : Forest) (p : Parts) (cs ds : List Value) (H : Hp) (hp : kForest.rep H f cs) (hq : kParts.rep H p ds) (hbf : BigF f) (hbp : BigP p) :
  ACalls Tryz.prog 8 #[.agg cs.toArray, .agg ds.toArray] H (fun r H' => r = .bool true ∧ H.le H') := by
 have hp0 := hp
 have hq0 := hq
 obtain ⟨v0, v1, v2, v3, v4, rfl, hs0, hs1, hs2, hs3, hs4⟩ := hp
 obtain ⟨A0, c0, rfl⟩ := hs0.shape
 obtain ⟨A1, c1, rfl⟩ := hs1.shape
 obtain ⟨A2, c2, rfl⟩ := hs2.shape
 obtain ⟨A3, c3, rfl⟩ := hs3.shape
 obtain ⟨A4, c4, rfl⟩ := hs4.shape
 obtain ⟨u0, u1, rfl, hn0, hn1⟩ := hq
 obtain ⟨B0, d0, rfl⟩ := hn0.shape
 obtain ⟨B1, d1, rfl⟩ := hn1.shape
 have hsm := small_few f p
 have hbq := bigP_few p
 have hbg := bigF_few f
 have hpp := few4_few4 p
 have hff := ffew_ffew f
 have htn : GoodP f.few p.few4 → f.few.vars.length < 6 → Tiny f.few p.few4 := tiny_few
 have hch : GoodP f.few p.few4 → Cheap p.few4 := cheap_few
 have hvar := few_vars f
 obtain ⟨F, hF⟩ : ∃ F, F = f.few := ⟨_, rfl⟩
 obtain ⟨Q, hQ⟩ : ∃ Q, Q = p.few4 := ⟨_, rfl⟩
 rw [← hF, ← hQ] at hsm htn hch
 rw [← hQ] at hpp hbq
 rw [← hF] at hff hbg hvar
 refine Xv Tryz.func8 rfl rfl rfl (by simp) ?_
 refine Xe ?_
 refine Xu ?_
 refine Xz (Yw rfl) ?_
 refine Xz (Yw rfl) ?_
 refine Xa (Xn rfl) ?_
 refine Xe ?_
 refine Yy (by kernel_rfl) (Y4 (B := [0, 1, 0, 7, 15, 31]) (π := [0, 2, 1, 3, 4, 5]) (by kernel_rfl)) ?_
 refine Xd rfl rfl (Yl (cs := [.slice _ _ _, .slice _ _ _, .slice _ _ _, .slice _ _ _, .slice _ _ _]) rfl Tryz.underlying26 rfl inf26.size X8) Xq ?_
 refine Xd rfl rfl (Yl (cs := [.slice _ _ _, .slice _ _ _]) rfl Tryz.underlying29 rfl inf29.size X8) Xq ?_
 refine Ym rfl rfl (Xy (Forest_28 f _ _ (kForest.mono Zp hp0) hbf) rfl Tryz.func10 rfl rfl rfl ?_)
 rintro v5 H5 ⟨hle5, es, rfl, hes⟩; rw [← hF] at hes; have hf5 := hes; obtain ⟨a0, a1, a2, a3, a4, rfl, ht0, ht1, ht2, ht3, ht4⟩ := hes; obtain ⟨C0, k0, rfl⟩ := ht0.shape; obtain ⟨C1, k1, rfl⟩ := ht1.shape; obtain ⟨C2, k2, rfl⟩ := ht2.shape; obtain ⟨C3, k3, rfl⟩ := ht3.shape; obtain ⟨C4, k4, rfl⟩ := ht4.shape; have hz5 := hle5.1; simp only [Hp.push_size] at hz5
 refine ⟨Yk, ?_⟩
 refine Ym rfl rfl (Xy (Few4_parts p _ _ (kParts.mono Zp hq0) hbp.l0 hbp.l1 hbp.s0 hbp.s1) rfl Tryz.func11 rfl rfl rfl ?_)
 rintro v6 H6 ⟨hle6, es, rfl, hes⟩; rw [← hQ] at hes; have hq6 := hes; obtain ⟨b0, b1, rfl, hm0, hm1⟩ := hes; obtain ⟨D0, m0, rfl⟩ := hm0.shape; obtain ⟨D1, m1, rfl⟩ := hm1.shape; have hz6 := hle6.1; have hf6 := kForest.mono hle6.sees hf5; have h60 : H6.get H.size = .own 0 [.slice A0 f.vars.length c0, .slice A1 f.order.length c1, .slice A2 f.parent.length c2, .slice A3 f.links.length c3, .slice A4 f.loops.length c4] := Xr (Hp.le_trans hle5 hle6) (by simp <;> omega) (by intro e; cases e) Yd; have h61 : H6.get (H.size + 1) = .own 0 [.slice B0 p.nodes.length d0, .slice B1 p.links.length d1] := Xr (Hp.le_trans hle5 hle6) (by simp <;> omega) (by intro e; cases e) Yd
 refine ⟨Yk, ?_⟩
 refine Ym rfl rfl (Yf (vs := [.slice _ _ _, .slice _ _ _, .slice _ _ _, .slice _ _ _, .slice _ _ _]) rfl rfl inf26.size Yd Yg rfl rfl ?_)
 refine ⟨Yk, ?_⟩
 refine Ym rfl rfl (Yf (vs := [.slice _ _ _, .slice _ _ _]) rfl rfl inf29.size Yd Yg rfl rfl ?_)
 refine ⟨Yk, ?_⟩
 refine Xe ?_
 obtain ⟨HA, hHA⟩ : ∃ HA, HA = (H6.put H.size (.own 0 [.slice C0 F.vars.length k0, .slice C1 F.order.length k1, .slice C2 F.parent.length k2, .slice C3 F.links.length k3, .slice C4 F.loops.length k4])).put (H.size + 1) (.own 0 [.slice D0 Q.nodes.length m0, .slice D1 Q.links.length m1]) := ⟨_, rfl⟩
 have g5 : H6.sees (H6.put H.size (.own 0 [.slice C0 F.vars.length k0, .slice C1 F.order.length k1, .slice C2 F.parent.length k2, .slice C3 F.links.length k3, .slice C4 F.loops.length k4])) := Hp.sees_box _ h60
 have g6 : (H6.put H.size (.own 0 [.slice C0 F.vars.length k0, .slice C1 F.order.length k1, .slice C2 F.parent.length k2, .slice C3 F.links.length k3, .slice C4 F.loops.length k4])).sees HA := by rw [hHA]; exact Hp.sees_box _ (by rw [Hp.put_other _ _ (by omega)]; exact h61)
 have fA := kForest.mono (g5.trans g6) hf6
 have qA := kParts.mono (g5.trans g6) hq6
 have leA : H.le HA := by rw [hHA]; exact Hp.le_put_new (Hp.le_put_new (Hp.le_trans (Hp.le_trans (Hp.le_push' (H.le_push _) _) hle5) hle6) (by omega) _) (by omega) _
 have zA : H.size + 2 ≤ HA.size := by rw [hHA]; simp; omega
 have A0' : HA.get H.size = .own 0 [.slice C0 F.vars.length k0, .slice C1 F.order.length k1, .slice C2 F.parent.length k2, .slice C3 F.links.length k3, .slice C4 F.loops.length k4] := by rw [hHA, Hp.put_other _ _ (by omega)]; exact Hp.put_same _ _ _
 have A1' : HA.get (H.size + 1) = .own 0 [.slice D0 Q.nodes.length m0, .slice D1 Q.links.length m1] := by rw [hHA]; exact Hp.put_same _ _ _
 change ACode true _ _ _ _ _ ((H6.put H.size (.own 0 [.slice C0 F.vars.length k0, .slice C1 F.order.length k1, .slice C2 F.parent.length k2, .slice C3 F.links.length k3, .slice C4 F.loops.length k4])).put (H.size + 1) (.own 0 [.slice D0 Q.nodes.length m0, .slice D1 Q.links.length m1]))
 rw [← hHA]
 clear hHA g5 g6 h60 h61 hf6 hq6 hle5 hle6 hz5 hz6 hf5
 refine Yy (by kernel_rfl) (Y4 (B := [0, 1, 0, 7, 15, 31, 63, 63, 127, 511]) (π := [0, 2, 1, 3, 4, 5, 6, 7, 8, 9]) (by kernel_rfl)) ?_
 refine Xd rfl rfl (Yl (cs := [.slice _ _ _, .slice _ _ _, .slice _ _ _, .slice _ _ _, .slice _ _ _]) rfl Tryz.underlying26 rfl inf26.size X8) Xq ?_
 refine Xd rfl rfl (Yl (cs := [.slice _ _ _, .slice _ _ _]) rfl Tryz.underlying29 rfl inf29.size X8) Xq ?_
 refine Ym rfl rfl (Xy (Forest_28 F _ _ fA hbg) rfl Tryz.func10 rfl rfl rfl ?_)
 rintro v8 H8 ⟨hle8, es, rfl, hes⟩; rw [hff] at hes; have f8 := hes; obtain ⟨a5, a6, a7, a8, a9, rfl, hu0, hu1, hu2, hu3, hu4⟩ := hes; obtain ⟨E1, l1, rfl⟩ := hu0.shape; obtain ⟨E2, l2, rfl⟩ := hu1.shape; obtain ⟨E3, l3, rfl⟩ := hu2.shape; obtain ⟨E4, l4, rfl⟩ := hu3.shape; obtain ⟨E5, l5, rfl⟩ := hu4.shape
 refine ⟨Yk, ?_⟩
 refine Ym rfl rfl (Xy (Few4_parts Q _ _ (kParts.mono hle8.sees qA) hbq.l0 hbq.l1 hbq.s0 hbq.s1) rfl Tryz.func11 rfl rfl rfl ?_)
 rintro v9 H9 ⟨hle9, es, rfl, hes⟩; rw [hpp] at hes; have q9 := hes; obtain ⟨b2, b3, rfl, hm2, hm3⟩ := hes; obtain ⟨D2, m2, rfl⟩ := hm2.shape; obtain ⟨D3, m3, rfl⟩ := hm3.shape
 refine ⟨Yk, ?_⟩
 refine Ym rfl rfl (Xy (New_tree F Q _ _ _ (kForest.mono hle9.sees f8) q9 hsm hch) rfl Tryz.func13 rfl rfl rfl ?_)
 rintro v10 HB ⟨hle10, g, tv, hg, rfl, htv⟩
 refine ⟨Yk, ?_⟩
 refine Xd rfl rfl (Zm rfl) Xq ?_
 refine Xd rfl rfl (Yj rfl rfl) Xq ?_
 refine Xd rfl rfl (Yj rfl rfl) Xq ?_
 refine Xd rfl rfl (Vf rfl) Xq ?_
 refine Xd rfl rfl (Xi rfl) Xq ?_
 refine Xe ?_
 refine Xe ?_
 have leAB := Hp.le_trans hle8 (Hp.le_trans hle9 hle10)
 have leB := Hp.le_trans leA leAB
 have zAB := leAB.1
 have fB := kForest.mono leAB.sees fA
 have qB := kParts.mono leAB.sees qA
 have B0' := Xr leAB (by omega) (by intro e; cases e) A0'
 have B1' := Xr leAB (by omega) (by intro e; cases e) A1'
 clear hle8 hle9 hle10 f8 q9 hm2 hm3 hu0 hu1 hu2 hu3 hu4
 refine Xu ?_
 refine Xa (Yl (cs := [.slice _ _ _, .slice _ _ _, .slice _ _ _, .slice _ _ _, .slice _ _ _]) rfl Tryz.underlying26 rfl inf26.size X8) ?_
 refine Xa (Yl (cs := [.slice _ _ _, .slice _ _ _]) rfl Tryz.underlying29 rfl inf29.size X8) ?_
 refine Xw (Xy (few36_ok F Q _ _ _ fB qB hsm) rfl Tryz.func14 rfl rfl rfl ?_)
 rintro v39 HB ⟨⟨bf, rfl, hbf2⟩, rfl⟩
 refine Xa (Zz rfl) ?_
 refine Xa (Xo rfl) ?_
 refine Ya rfl rfl rfl ?_ ?_
 intro hg1
 obtain rfl : bf = false := by simpa using hg1
 have hbad : ¬ (GoodP F Q ∧ F.vars.length < 5) := fun h => by have := hbf2.2 h; cases this
 have hbads : g = true → F.vars.length = 0 ∨ ¬ F.vars.length < 5 := fun hgt => .inr fun h => hbad ⟨hg.1 hgt, h⟩
 refine Xc (Xg rfl rfl rfl hg1 rfl) ?_
 refine Xc (Xg rfl rfl rfl hg1 rfl) ?_
 refine Xc (Xg rfl rfl rfl hg1 rfl) ?_
 refine Xc (Xg rfl rfl rfl hg1 rfl) ?_
 refine Xa (Xl (Yv hg1) rfl) ?_
 refine Yu rfl rfl ?_
 refine Xe ?_
 refine Xu ?_
 refine Xa (Xb rfl) ?_
 refine Xa (Zw rfl rfl) ?_
 refine Xa (Xo rfl) ?_
 refine Ya rfl rfl rfl ?_ ?_
 intro hg3
 have hgf : True := trivial
 refine Xc (Xg rfl rfl rfl hg3 rfl) ?_
 refine Xc (Xg rfl rfl rfl hg3 rfl) ?_
 refine Xc (Xg rfl rfl rfl hg3 rfl) ?_
 refine Xc (Xg rfl rfl rfl hg3 rfl) ?_
 refine Xa (Xl (Yv hg3) rfl) ?_
 refine Xa (Xo rfl) ?_
 refine Xc (Xg rfl rfl rfl rfl rfl) ?_
 refine Xc (Xg rfl rfl rfl rfl rfl) ?_
 refine Xc (Xg rfl rfl rfl rfl rfl) ?_
 refine Xc (Xg rfl rfl rfl rfl rfl) ?_
 refine Xa (Xl (congrArg Value.bool rfl) rfl) ?_
 refine Xa (Xo rfl) ?_
 refine Z1 (Xh rfl rfl rfl rfl) (Xy (Ud _) rfl Tryz.func15 rfl rfl rfl ?_)
 rintro v H' ⟨rfl, hlv⟩
 refine Xa (Xl (congrArg Value.bool rfl) rfl) ?_
 refine Xa (Xn rfl) ?_
 refine X2 ?_
 exact ⟨.bool true, Xx (Xs rfl), rfl, Hp.le_trans leB hlv⟩
 intro hg3
 have hgt : g = true := by cases g with | true => rfl | false => exact absurd hg3 (by simp)
 have hmany := hbads hgt
 refine Xj (Xh rfl rfl rfl hg3) (Xf (off := 0) rfl Tryz.underlying26 rfl inf22.size (by decide) rfl) ?_
 refine Xj (Xh rfl rfl rfl hg3) (Xk rfl Tryz.underlying22 rfl Xp) ?_
 refine Xj (Xh rfl rfl rfl hg3) (Ys rfl Tryz.underlying22) ?_
 refine Xj (Xh rfl rfl rfl hg3) (Vu rfl rfl) ?_
 refine Xa (Xl (Yv hg3) rfl) ?_
 refine Xa (Xo rfl) ?_
 refine Ya rfl rfl rfl ?_ ?_
 intro hg4
 have hp4 := hg4; try simp only [Yt] at hp4
 refine Xc (Xg rfl rfl rfl hg4 rfl) ?_
 refine Xc (Xg rfl rfl rfl hg4 rfl) ?_
 refine Xc (Xg rfl rfl rfl hg4 rfl) ?_
 refine Xc (Xg rfl rfl rfl hg4 rfl) ?_
 refine Xa (Xl (Yv hg4) rfl) ?_
 refine Xa (Xo rfl) ?_
 refine Z1 (Xh rfl rfl rfl rfl) (Xy (Ud _) rfl Tryz.func15 rfl rfl rfl ?_)
 rintro v H' ⟨rfl, hlv⟩
 refine Xa (Xl (congrArg Value.bool rfl) rfl) ?_
 refine Xa (Xn rfl) ?_
 refine X2 ?_
 exact ⟨.bool true, Xx (Xs rfl), rfl, Hp.le_trans leB hlv⟩
 intro hg4
 have h4 : ¬ 4 < F.vars.length := by have := of_decide_eq_false hg4; omega
 refine Xj (Xh rfl rfl rfl hg4) (Xf (off := 0) rfl Tryz.underlying26 rfl inf22.size (by decide) rfl) ?_
 refine Xj (Xh rfl rfl rfl hg4) (Xk rfl Tryz.underlying22 rfl Xp) ?_
 refine Xj (Xh rfl rfl rfl hg4) (Ys rfl Tryz.underlying22) ?_
 refine Xj (Xh rfl rfl rfl hg4) (Zx rfl rfl) ?_
 refine Xa (Xl (Yv hg4) rfl) ?_
 refine Xa (Xo rfl) ?_
 refine Ya rfl rfl rfl ?_ ?_
 intro hg5
 have hp5 := hg5; try simp only [Yt] at hp5
 refine Z1 (Xh rfl rfl rfl hg5) (Xy (Ud _) rfl Tryz.func15 rfl rfl rfl ?_)
 rintro v H' ⟨rfl, hlv⟩
 refine Xa (Xl (Yv hg5) rfl) ?_
 refine Xa (Xn rfl) ?_
 refine X2 ?_
 exact ⟨.bool true, Xx (Xs rfl), rfl, Hp.le_trans leB hlv⟩
 intro hg5
 (have h := of_decide_eq_false hg5; omega)
 intro hg1
 obtain rfl : bf = true := by simpa using hg1
 obtain ⟨hG, hfive⟩ := hbf2.1 rfl
 refine Xj (Xh rfl rfl rfl hg1) (Xf (off := 0) rfl Tryz.underlying26 rfl inf22.size (by decide) rfl) ?_
 refine Xj (Xh rfl rfl rfl hg1) (Xk rfl Tryz.underlying22 rfl Xp) ?_
 refine Xj (Xh rfl rfl rfl hg1) (Ys rfl Tryz.underlying22) ?_
 refine Xj (Xh rfl rfl rfl hg1) (Zx rfl rfl) ?_
 refine Xa (Xl (Yv hg1) rfl) ?_
 refine X5 rfl rfl ?_ ?_
 intro hc6
 have hbads : g = true → F.vars.length = 0 ∨ ¬ F.vars.length < 5 := fun _ => .inl (by have := of_decide_eq_true hc6; omega)
 refine Xe ?_
 refine Xu ?_
 refine Xa (Xb rfl) ?_
 refine Xa (Zw rfl rfl) ?_
 refine Xa (Xo rfl) ?_
 refine Ya rfl rfl rfl ?_ ?_
 intro hg7
 have hgf : True := trivial
 refine Xc (Xg rfl rfl rfl hg7 rfl) ?_
 refine Xc (Xg rfl rfl rfl hg7 rfl) ?_
 refine Xc (Xg rfl rfl rfl hg7 rfl) ?_
 refine Xc (Xg rfl rfl rfl hg7 rfl) ?_
 refine Xa (Xl (Yv hg7) rfl) ?_
 refine Xa (Xo rfl) ?_
 refine Xc (Xg rfl rfl rfl rfl rfl) ?_
 refine Xc (Xg rfl rfl rfl rfl rfl) ?_
 refine Xc (Xg rfl rfl rfl rfl rfl) ?_
 refine Xc (Xg rfl rfl rfl rfl rfl) ?_
 refine Xa (Xl (congrArg Value.bool rfl) rfl) ?_
 refine Xa (Xo rfl) ?_
 refine Z1 (Xh rfl rfl rfl rfl) (Xy (Ud _) rfl Tryz.func15 rfl rfl rfl ?_)
 rintro v H' ⟨rfl, hlv⟩
 refine Xa (Xl (congrArg Value.bool rfl) rfl) ?_
 refine Xa (Xn rfl) ?_
 refine X2 ?_
 exact ⟨.bool true, Xx (Xs rfl), rfl, Hp.le_trans leB hlv⟩
 intro hg7
 have hgt : g = true := by cases g with | true => rfl | false => exact absurd hg7 (by simp)
 have hmany := hbads hgt
 refine Xj (Xh rfl rfl rfl hg7) (Xf (off := 0) rfl Tryz.underlying26 rfl inf22.size (by decide) rfl) ?_
 refine Xj (Xh rfl rfl rfl hg7) (Xk rfl Tryz.underlying22 rfl Xp) ?_
 refine Xj (Xh rfl rfl rfl hg7) (Ys rfl Tryz.underlying22) ?_
 refine Xj (Xh rfl rfl rfl hg7) (Vu rfl rfl) ?_
 refine Xa (Xl (Yv hg7) rfl) ?_
 refine Xa (Xo rfl) ?_
 refine Ya rfl rfl rfl ?_ ?_
 intro hg8
 have hp8 := hg8; try simp only [Yt] at hp8
 refine Xc (Xg rfl rfl rfl hg8 rfl) ?_
 refine Xc (Xg rfl rfl rfl hg8 rfl) ?_
 refine Xc (Xg rfl rfl rfl hg8 rfl) ?_
 refine Xc (Xg rfl rfl rfl hg8 rfl) ?_
 refine Xa (Xl (Yv hg8) rfl) ?_
 refine Xa (Xo rfl) ?_
 refine Z1 (Xh rfl rfl rfl rfl) (Xy (Ud _) rfl Tryz.func15 rfl rfl rfl ?_)
 rintro v H' ⟨rfl, hlv⟩
 refine Xa (Xl (congrArg Value.bool rfl) rfl) ?_
 refine Xa (Xn rfl) ?_
 refine X2 ?_
 exact ⟨.bool true, Xx (Xs rfl), rfl, Hp.le_trans leB hlv⟩
 intro hg8
 have h4 : ¬ 4 < F.vars.length := by have := of_decide_eq_false hg8; omega
 refine Xj (Xh rfl rfl rfl hg8) (Xf (off := 0) rfl Tryz.underlying26 rfl inf22.size (by decide) rfl) ?_
 refine Xj (Xh rfl rfl rfl hg8) (Xk rfl Tryz.underlying22 rfl Xp) ?_
 refine Xj (Xh rfl rfl rfl hg8) (Ys rfl Tryz.underlying22) ?_
 refine Xj (Xh rfl rfl rfl hg8) (Zx rfl rfl) ?_
 refine Xa (Xl (Yv hg8) rfl) ?_
 refine Xa (Xo rfl) ?_
 refine Ya rfl rfl rfl ?_ ?_
 intro hg9
 have hp9 := hg9; try simp only [Yt] at hp9
 refine Z1 (Xh rfl rfl rfl hg9) (Xy (Ud _) rfl Tryz.func15 rfl rfl rfl ?_)
 rintro v H' ⟨rfl, hlv⟩
 refine Xa (Xl (Yv hg9) rfl) ?_
 refine Xa (Xn rfl) ?_
 refine X2 ?_
 exact ⟨.bool true, Xx (Xs rfl), rfl, Hp.le_trans leB hlv⟩
 intro hg9
 (have h := of_decide_eq_false hg9; omega)
 intro hc6
 have hne0 : F.vars.length ≠ 0 := by have := of_decide_eq_false hc6; omega
 obtain rfl : g = true := hg.2 hG
 rw [if_pos rfl] at htv
 obtain ⟨tb, _, _, _, _, _, etv, _⟩ := id htv
 subst etv
 have ht := htn hG (by omega)
 obtain ⟨k1', k2', k3', k4'⟩ := ofP_all hG
 have hX := ofP_good hG
 have hsx := small_sub hsm k1' k2'
 have hT := good_tree hX hsx ((hch hG).sub k2') (by omega)
 have hA := alive_tree hG
 have hpos := fun i a z hz => (group_pos hX k3' i a z hz).1
 obtain ⟨hrm, hrr⟩ := rows_ext hG
 have hol : F.order.length = F.vars.length := hG.gf.l1
 obtain ⟨tl1, tl2, tl3⟩ := Ut (f := F) (ofP F Q)
 have hrl : (Ux F Q).length ≤ 256 := Nat.le_trans (rowsK_len ht F.order.length) (Nat.pow_le_pow_right (by omega) (by omega : F.order.length ≤ 4))
 have hrn : ∀ r ∈ Ux F Q, r.nodes.length = F.vars.length := fun r hr => by have := rows_len (f := F) (p := Q) F.order.length r hr; omega
 have hev : ∀ r ∈ Ux F Q, ∀ n ∈ r.nodes, ¬ oddI n := fun r hr => rows_even hG F.order.length (by omega) r hr
 obtain ⟨T, hTe⟩ : ∃ T, T = Zg F (ofP F Q) := ⟨_, rfl⟩
 rw [← hTe] at htv hT hA hrm tl1 tl2 tl3
 simp only [← hTe] at hrr hpos
 obtain ⟨rows, hrows⟩ : ∃ rows, rows = Ux F Q := ⟨_, rfl⟩
 rw [← hrows] at hrm hrl
 simp only [← hrows] at hrn hrr hev
 have hvl : T.vars.length = F.vars.length := tl1.trans hol
 rw [← hvl] at hrm
 have hrp := rows_pos hT hpos hrm hrr
 refine X9 ?_
 refine Xe ?_
 refine Xu ?_
 refine Xa (Yl (cs := [.slice _ _ _, .slice _ _ _, .slice _ _ _, .slice _ _ _, .slice _ _ _]) rfl Tryz.underlying26 rfl inf26.size X8) ?_
 refine Xa (Yl (cs := [.slice _ _ _, .slice _ _ _]) rfl Tryz.underlying29 rfl inf29.size X8) ?_
 refine Xw (Xy (Rows_ref F Q _ _ _ fB qB hG hsm ht) rfl Tryz.func16 rfl rfl rfl ?_)
 rintro v66 HR ⟨hleR, hrR⟩; rw [← hrows] at hrR; obtain ⟨Dr, mr, rfl⟩ := hrR.shape; have zR := hleR.1
 refine Xw (Xy (Start_36 _) rfl Tryz.func41 rfl rfl rfl ?_)
 rintro v67 HS ⟨rfl, hleS⟩; have zS := hleS.1; have leBS := Hp.le_trans hleR hleS
 refine Xz (Yz (l := [.int .i64 0, .bool false, .slice none 0 0, .int .u64 0, .slice none 0 0]) inf33.zero rfl (by decide)) ?_
 refine Xa (Yc rfl) ?_
 refine Xw (Yf (vs := [.int .i64 _, .bool _, .slice _ _ _, .int .u64 _, .slice _ _ _]) rfl rfl inf33.size Yd Yg rfl rfl ?_)
 refine Xa (Xi rfl) ?_
 refine Xe ?_
 refine Xe ?_
 obtain ⟨K, hK⟩ : ∃ K, K = (HS.push (.own 0 [.int .i64 0, .bool false, .slice none 0 0, .int .u64 0, .slice none 0 0])).put HS.size (.own 0 [.int .i64 0, .bool false, .slice none 0 0, .int .u64 0, .slice none 0 0]) := ⟨_, rfl⟩
 have leSK : HS.le K := by rw [hK]; exact Hp.le_put_new (HS.le_push _) (Nat.le_refl _) _
 have kmb : K.get HS.size = .own 0 [.int .i64 0, .bool false, .slice none 0 0, .int .u64 0, .slice none 0 0] := by rw [hK]; exact Hp.put_same _ _ _
 have zK : K.size = HS.size + 1 := by rw [hK]; simp
 change ACode true _ _ _ _ _ ((HS.push (.own 0 [.int .i64 0, .bool false, .slice none 0 0, .int .u64 0, .slice none 0 0])).put HS.size (.own 0 [.int .i64 0, .bool false, .slice none 0 0, .int .u64 0, .slice none 0 0]))
 rw [← hK]
 clear hK
 have leBK := Hp.le_trans leBS leSK
 have leHK := Hp.le_trans leB leBK
 have trK := htv.mono leBK
 have rK := hrR.mono (Hp.le_trans hleS leSK).sees
 obtain ⟨mb, hmb⟩ : ∃ mb, mb = HS.size := ⟨_, rfl⟩
 rw [← hmb] at kmb zK ⊢
 have zmb : H.size ≤ mb := by have := leB.1; omega
 clear leSK leBK leBS hleR hleS
 refine Xu ?_
 refine Xa (Xi rfl) ?_
 refine ac_cut (fun t H' => ∃ (told : Nat) (m : MarkT) (B : Option Addr) (c : Nat) (W : Option Addr) (cW : Nat), told ≤ 60 ∧ (told < 60 → AtM T rows m rows.length 0 told) ∧ Away mb K H' ∧ H'.get mb = .own 0 [.int .i64 m.told, .bool m.over, .slice B m.nodes.length c, .int .u64 m.rest, .slice W m.items.length cW] ∧ kMark.rep H' m [.int .i64 m.told, .bool m.over, .slice B m.nodes.length c, .int .u64 m.rest, .slice W m.items.length cW] ∧ t 5 = .pointer (some ⟨tb, 0, none⟩) ∧ t 8 = .pointer (some ⟨mb, 0, none⟩) ∧ t 9 = .int .i64 told) ?_ ?_
 refine Ye ?_
 refine Y5 (fun n t H' => ∃ (i told : Nat) (m : MarkT) (B : Option Addr) (c : Nat) (W : Option Addr) (cW : Nat) (D : Option Addr), n = rows.length - i ∧ i ≤ rows.length ∧ told ≤ 60 ∧ (told < 60 → AtM T rows m i 0 told) ∧ Away mb K H' ∧ H'.get mb = .own 0 [.int .i64 m.told, .bool m.over, .slice B m.nodes.length c, .int .u64 m.rest, .slice W m.items.length cW] ∧ kMark.rep H' m [.int .i64 m.told, .bool m.over, .slice B m.nodes.length c, .int .u64 m.rest, .slice W m.items.length cW] ∧ Sl kRow K (.slice D rows.length mr) rows ∧ t 5 = .pointer (some ⟨tb, 0, none⟩) ∧ t 7 = .slice D rows.length mr ∧ t 8 = .pointer (some ⟨mb, 0, none⟩) ∧ t 9 = .int .i64 told ∧ t 10 = .int .i64 i) (rows.length) (⟨0, 0, Us, none, 0, none, 0, _, rfl, Nat.zero_le _, Nat.zero_le _, fun _ => ⟨⟨start_good, .inl rfl⟩, rfl, rfl, Um, Int.le_refl _, by decide, .inl ⟨rfl, rfl, rfl⟩⟩, .refl _ _, kmb, Ul _, rK, rfl, rfl, rfl, rfl, rfl⟩) ?_
 rintro n t H1 ⟨i, told, m, B, c, W, cW, D, rfl, hi, h60, hat, aw, hbx, hmr, rK, e5, e7, e8, e9, e10⟩
 refine Xe ?_
 refine Xe ?_
 refine Xu ?_
 refine Xa (Xb Xm) ?_
 refine Xa (X1 Xm) ?_
 refine Xa (Ys rfl Tryz.underlying43) ?_
 refine Xa (Za rfl rfl) ?_
 refine Xa (Xo rfl) ?_
 refine Ya rfl rfl rfl ?_ ?_
 intro hg10
 have hil : i < rows.length := by have := of_decide_eq_true hg10; omega
 refine Xj (Xh rfl rfl rfl hg10) (Xb Xm) ?_
 refine Xj (Xh rfl rfl rfl hg10) (Za rfl rfl) ?_
 refine Xa (Xl (Yv hg10) rfl) ?_
 refine X5 rfl rfl ?_ ?_
 intro hc11
 have hlt60 : told < 60 := by have := of_decide_eq_true hc11; omega
 obtain ⟨r, hr⟩ : ∃ r, r = rows[i] := ⟨_, rfl⟩
 have hrow := hrr _ (List.getElem_mem hil)
 have hrnl := hrn _ (List.getElem_mem hil)
 have hrev := hev _ (List.getElem_mem hil)
 have hrp1 := hrp _ (List.getElem_mem hil)
 have hrp2 := hrp1
 rw [← hr] at hrow hrnl hrev hrp1
 have hr62 := (row_most hrow).1
 have hM62 : r.n ≤ 4611686018427387904 := hr62
 refine X9 ?_
 refine Xe ?_
 refine Ye ?_
 refine Xe ?_
 refine Xu ?_
 refine Xa (Xi rfl) ?_
 refine Ye ?_
 refine Y5 (fun n t H' => ∃ (k told : Nat) (m : MarkT) (B : Option Addr) (c : Nat) (W : Option Addr) (cW : Nat) (D : Option Addr), n = 60 - told ∧ told ≤ 60 ∧ AtM T rows m i k told ∧ (k : Int) ≤ r.n ∧ Away mb K H' ∧ H'.get mb = .own 0 [.int .i64 m.told, .bool m.over, .slice B m.nodes.length c, .int .u64 m.rest, .slice W m.items.length cW] ∧ kMark.rep H' m [.int .i64 m.told, .bool m.over, .slice B m.nodes.length c, .int .u64 m.rest, .slice W m.items.length cW] ∧ Sl kRow K (.slice D rows.length mr) rows ∧ t 5 = .pointer (some ⟨tb, 0, none⟩) ∧ t 7 = .slice D rows.length mr ∧ t 8 = .pointer (some ⟨mb, 0, none⟩) ∧ t 9 = .int .i64 told ∧ t 10 = .int .i64 i ∧ t 11 = .int .u64 k) (60 - told) (⟨0, told, m, B, c, W, cW, D, rfl, h60, hat hlt60, by omega, aw, hbx, hmr, rK, e5, e7, e8, e9, e10, rfl⟩) ?_
 rintro n t H1 ⟨k, told, m, B, c, W, cW, D, rfl, h60, hat, hkr, aw, hbx, hmr, rK, e5, e7, e8, e9, e10, e11⟩
 have zaw := aw.size
 have rH := rK.mono (aw.sees kmb)
 have trH := aw.tree kmb trK
 obtain ⟨bD, oD, wD, eD, hbD, hcD2, hwD⟩ := rH.row_at hil
 rw [← hr] at hcD2 hwD
 obtain ⟨AD, cD, rfl⟩ := hwD.shape
 have hcDr : Cells H1 bD (oD + ((i : Int)).toNat * 3) [.slice AD r.nodes.length cD, .int .i64 r.cost, .int .u64 r.n] := hcD2
 have hcDn : H1.cell? bD (oD + ((i : Int)).toNat * 3 + 2) = some (.int .u64 r.n) := hcD2 2 _ rfl
 have hcD0 : H1.cell? bD (oD + ((i : Int)).toNat * 3 + 0) = some (.slice AD r.nodes.length cD) := hcD2 0 _ rfl
 subst eD
 refine Xe ?_
 refine Xe ?_
 refine Xu ?_
 refine Xa (Xb Xm) ?_
 refine Xa (X1 Xm) ?_
 refine Xa (Xb Xm) ?_
 refine Xa (Xt rfl rfl Tryz.underlying43 inf54.size X6 X6) ?_
 refine Xa (Xf (off := 2) rfl Tryz.underlying54 rfl inf30.size (by decide) rfl) ?_
 refine Xa (Xk rfl Tryz.underlying30 rfl Xp) ?_
 refine Xa (Za rfl rfl) ?_
 refine Xa (Xo rfl) ?_
 refine Ya rfl rfl rfl ?_ ?_
 intro hg12
 have hkn : (k : Int) < r.n := of_decide_eq_true hg12
 refine Xj (Xh rfl rfl rfl hg12) (Xb Xm) ?_
 refine Xj (Xh rfl rfl rfl hg12) (Za rfl rfl) ?_
 refine Xa (Xl (Yv hg12) rfl) ?_
 refine X5 rfl rfl ?_ ?_
 intro hc13
 have hlt : told < 60 := by have := of_decide_eq_true hc13; omega
 refine X9 ?_
 refine Xe ?_
 refine Ye ?_
 refine Xe ?_
 refine Xu ?_
 refine Xa (X0 Xm) ?_
 refine Xa (Yl (cs := [.int .i64 _, .bool _, .slice _ _ _, .int .u64 _, .slice _ _ _]) Xm Tryz.underlying33 Xm inf33.size X8) ?_
 refine Xw (Xy (Next_T hT hA m _ _ trH hmr hat.big hat.r0) rfl Tryz.func17 rfl rfl rfl ?_)
 rintro v94 H2 ⟨⟨o, rest, A8, c8, x, B8, k8, rfl, sl8, sx8, _, hxf⟩, le2⟩; obtain ⟨hnx, _, hx2⟩ := hxf hat.fits; obtain ⟨ho, hrest⟩ := next_at hT hA hrm hrr hat hil (by rw [← hr]; exact hkn) hnx; rw [← hr] at ho; subst ho hrest; have hxe := hx2 _ rfl; have hmt := hat.told; rw [if_neg (by omega), hmt] at hxe; have hxt : x.told = (told : Int) + 1 := (by rw [hxe]); have hxr : x.rest = (k : Int) := (by rw [hxe]); have hxo : x.over = false := (by rw [hxe]); have hxn : x.nodes = r.nodes := (by rw [hxe]); have hxi : x.items = [] := (by rw [hxe]); have hgx : Vt x := (by rw [hxe]; exact ⟨rfl, by show (0 : Int) ≤ (told : Int) + 1; omega, by show (told : Int) + 1 ≤ 9007199254740992; omega, by show r.nodes.length ≤ 12; omega, hrev, .inl ⟨by show 0 < r.nodes.length; omega, rfl⟩⟩); have hbX : BigM x := ⟨by rw [hxn]; omega, by rw [hxi]; exact Nat.zero_le _, fun y hy => by rw [hxi] at hy; cases hy⟩; have z2 := le2.1
 refine Xa (Zm rfl) ?_
 refine Xa (Yj rfl rfl) ?_
 refine Xa (Yj rfl rfl) ?_
 refine Xa (Yj rfl rfl) ?_
 refine Xz (Yz (l := [.slice none 0 0, .int .i64 0, .int .u64 0]) inf46.zero rfl (by decide)) ?_
 refine Xz (Yz (l := [.int .i64 0, .bool false, .slice none 0 0, .int .u64 0, .slice none 0 0]) inf33.zero rfl (by decide)) ?_
 refine Xw (Yf (vs := [.slice _ _ _, .int .i64 _, .int .u64 _]) rfl rfl inf46.size Yd Yg rfl rfl ?_)
 refine Xw (Yf (vs := [.int .i64 _, .bool _, .slice _ _ _, .int .u64 _, .slice _ _ _]) rfl rfl inf33.size Yd Yg rfl rfl ?_)
 refine Xa (Xn rfl) ?_
 refine Xe ?_
 obtain ⟨H3, hH3⟩ : ∃ H3, H3 = (((H2.push (.own 0 [.slice none 0 0, .int .i64 0, .int .u64 0])).push (.own 0 [.int .i64 0, .bool false, .slice none 0 0, .int .u64 0, .slice none 0 0])).put H2.size (.own 0 [.slice A8 r.nodes.length c8, .int .i64 r.cost, .int .u64 r.n])).put (H2.size + 1) (.own 0 [.int .i64 x.told, .bool x.over, .slice B8 x.nodes.length k8, .int .u64 x.rest, .slice none 0 0]) := ⟨_, rfl⟩
 have le23 : H2.le H3 := by rw [hH3]; exact Hp.le_put_new (Hp.le_put_new (Hp.le_push' (H2.le_push _) _) (Nat.le_refl _) _) (Nat.le_succ _) _
 have w0 : H3.get H2.size = .own 0 [.slice A8 r.nodes.length c8, .int .i64 r.cost, .int .u64 r.n] := by rw [hH3, Hp.put_other _ _ (by omega)]; exact Hp.put_same _ _ _
 have w1 : H3.get (H2.size + 1) = .own 0 [.int .i64 x.told, .bool x.over, .slice B8 x.nodes.length k8, .int .u64 x.rest, .slice none 0 0] := by rw [hH3]; exact Hp.put_same _ _ _
 have z3 : H3.size = H2.size + 2 := by rw [hH3]; simp
 change ACode true _ _ _ _ _ ((((H2.push (.own 0 [.slice none 0 0, .int .i64 0, .int .u64 0])).push (.own 0 [.int .i64 0, .bool false, .slice none 0 0, .int .u64 0, .slice none 0 0])).put H2.size (.own 0 [.slice A8 r.nodes.length c8, .int .i64 r.cost, .int .u64 r.n])).put (H2.size + 1) (.own 0 [.int .i64 x.told, .bool x.over, .slice B8 x.nodes.length k8, .int .u64 x.rest, .slice none 0 0]))
 rw [← hH3]
 clear hH3
 have le13 := Hp.le_trans le2 le23
 have wb := Xr le13 (by omega) (by intro e; cases e) hbx
 have X3 : kMark.rep H3 x [.int .i64 x.told, .bool x.over, .slice B8 x.nodes.length k8, .int .u64 x.rest, .slice none 0 0] := ⟨_, _, rfl, sx8.mono le23.sees, by rw [hxi]; exact Sl.nil _ _⟩
 have sl3 := sl8.mono le23.sees
 have hwD3 := hwD.mono le13.sees
 have hcW0 : H3.cell? bD (oD + ((i : Int)).toNat * 3 + 0) = some (.slice AD r.nodes.length cD) := le13.cell1 hbD hcD0
 have hcWr : Cells H3 bD (oD + ((i : Int)).toNat * 3) [.slice AD r.nodes.length cD, .int .i64 r.cost, .int .u64 r.n] := le13.cells hbD hcDr
 have hbD3 : bD < H3.size := by omega
 refine Xu ?_
 refine Xa (Xb Xm) ?_
 refine Xa (Yn rfl rfl Y0) ?_
 refine Xa (Xi rfl) ?_
 refine Xe ?_
 refine Xe ?_
 refine Yy (by kernel_rfl) (Y4 (B := [0, 1, 3, 7, 7, 7, 55, 119, 247, 511, 1023, 2047, 4095, 8191, 16383, 8191, 65535, 131071, 262143, 524287, 1048575, 524287, 4194303, 8388607]) (π := [0, 1, 2, 3, 4, 5, 6, 7, 8, 9, 10, 11, 12, 13, 14, 15, 16, 17, 18, 19, 20, 21, 22, 23]) (by kernel_rfl)) ?_
 refine Xd rfl rfl (Xo rfl) Xq ?_
 refine Xd rfl rfl (Zz rfl) Xq ?_
 refine Xd rfl rfl (Xo rfl) Xq ?_
 refine Va rfl rfl rfl rfl ?_ ?_
 intro hg14
 exact absurd hg14 (by simp)
 intro hg14
 have hp14 := hg14; try simp only [Yt] at hp14
 refine Yr rfl (Xh rfl rfl rfl hg14) rfl (Yl (cs := [.slice _ _ _, .int .i64 _, .int .u64 _]) rfl Tryz.underlying46 rfl inf46.size X8) Xq ?_
 refine Yr rfl (Xh rfl rfl rfl hg14) rfl (X1 Xm) Xq ?_
 refine Yr rfl (Xh rfl rfl rfl hg14) rfl (Xb Xm) Xq ?_
 refine Yr rfl (Xh rfl rfl rfl hg14) rfl (Xt rfl rfl Tryz.underlying43 inf54.size X6 X6) Xq ?_
 refine Yr rfl (Xh rfl rfl rfl hg14) rfl (Yl (cs := [.slice _ _ _, .int .i64 _, .int .u64 _]) rfl Tryz.underlying54 rfl inf54.size X8) Xq ?_
 refine adr_wop rfl (Xh rfl rfl rfl hg14) rfl (Xy (OfRow_ref _ _ _ _ _ _) rfl Tryz.func23 rfl rfl rfl ?_)
 rintro v108 H4 ⟨rfl, le4⟩; have z4 := le4.1; have y0 := Xr le4 (by omega) (by intro e; cases e) w0; have y1 := Xr le4 (by omega) (by intro e; cases e) w1; have yb := Xr le4 (by omega) (by intro e; cases e) wb; have hsame : ∀ q ∈ [bD], H4.get q = H3.get q := (fun q hq => by rw [List.mem_singleton] at hq; subst hq; exact le4.2 _ hbD3 (fun e => by have h := hcW0; unfold Hp.cell? at h; rw [e] at h; cases h)); have hcY0 := le4.cell1 hbD3 hcW0; have X4 := kMark.mono le4.sees X3
 refine ⟨Yk, ?_⟩
 refine adr_wop rfl (Xh rfl rfl rfl hg14) rfl (Xy (SameRow_true r.nodes r.cost r.n A8 AD c8 cD _ (sl3.mono le4.sees) (hwD3.mono le4.sees) (by omega)) rfl Tryz.func22 rfl rfl rfl ?_)
 rintro v109 H4 ⟨rfl, rfl⟩
 refine ⟨Yk, ?_⟩
 refine Yr rfl (Xh rfl rfl rfl hg14) rfl (Zz rfl) Xq ?_
 refine Xd rfl rfl (Xl (Yv hg14) rfl) Xq ?_
 refine Xd rfl rfl (Xo rfl) Xq ?_
 refine Va rfl rfl rfl rfl ?_ ?_
 intro hg15
 exact absurd hg15 (by decide)
 intro hg15
 have hp15 := hg15; try simp only [Yt] at hp15
 refine Yr rfl (Xh rfl rfl rfl hg15) rfl (Xf (off := 0) rfl Tryz.underlying33 rfl inf3.size (by decide) rfl) Xq ?_
 refine Yr rfl (Xh rfl rfl rfl hg15) rfl (Xk rfl Tryz.underlying3 rfl Xp) Xq ?_
 refine Yr rfl (Xh rfl rfl rfl hg15) rfl (Xb rfl) Xq ?_
 refine Yr rfl (Xh rfl rfl rfl hg15) rfl (Zw rfl rfl) Xq ?_
 refine Xd rfl rfl (Xl (Yv hg15) rfl) Xq ?_
 refine Xd rfl rfl (Xo rfl) Xq ?_
 refine Va rfl rfl rfl rfl ?_ ?_
 intro hg16
 exact absurd hxt (of_decide_eq_true hg16)
 intro hg16
 have hp16 := hg16; try simp only [Yt] at hp16
 refine Yr rfl (Xh rfl rfl rfl hg16) rfl (Xf (off := 3) rfl Tryz.underlying33 rfl inf30.size (by decide) rfl) Xq ?_
 refine Yr rfl (Xh rfl rfl rfl hg16) rfl (Xk rfl Tryz.underlying30 rfl Xp) Xq ?_
 refine Yr rfl (Xh rfl rfl rfl hg16) rfl (Xb Xm) Xq ?_
 refine Yr rfl (Xh rfl rfl rfl hg16) rfl (Zw rfl rfl) Xq ?_
 refine Xd rfl rfl (Xl (Yv hg16) rfl) Xq ?_
 refine X5 rfl rfl ?_ ?_
 intro hc17
 exact absurd hxr (of_decide_eq_true hc17)
 intro hc17
 (try simp only [Yt] at hc17)
 refine X9 ?_
 refine Xe ?_
 refine Xu ?_
 refine Xa (Yl (cs := [.int .i64 _, .bool _, .slice _ _ _, .int .u64 _, .slice _ _ _]) rfl Tryz.underlying33 rfl inf33.size X8) ?_
 refine Xw (Xy (Put_36 x _ _ X4 hbX (by omega)) rfl Tryz.func42 rfl rfl rfl ?_)
 rintro v126 H5 ⟨hput, le5⟩; obtain rfl : v126 = .tuple #[.string (Zv (V3 (Ve x))), .int .i64 0] := (by rcases hput with ⟨_, h2⟩ | ⟨h1, _⟩; (· exact h2); (· exact absurd hgx h1)); have z5 := le5.1; have ub := Xr le5 (by omega) (by intro e; cases e) yb
 refine Xa (Zm rfl) ?_
 refine Xa (Yj rfl rfl) ?_
 refine Xa (Yj rfl rfl) ?_
 refine Xa (Zd rfl) ?_
 refine Xa (Xi rfl) ?_
 refine Xe ?_
 refine Xu ?_
 refine Xa (Z2 rfl) ?_
 refine Xw (Xy (Get_s (Zv (V3 (Ve x))) _ (putM_size hgx (by omega))) rfl Tryz.func39 rfl rfl rfl ?_)
 rintro v131 H6 ⟨⟨y, ds6, e2, rfl, hy, hby, hry, hyi, hye⟩, le6⟩; have hy0 := hy; obtain ⟨v6, w6, rfl, hv6, hw6⟩ := hy; obtain ⟨A6, c6, rfl⟩ := hv6.shape; obtain ⟨W6, cW6, rfl⟩ := hw6.shape; obtain ⟨he2, hgy, hsy⟩ : e2 = 0 ∧ Vt y ∧ Zv (V3 (Ve x)) = Zv (V3 (Ve y)) := (by rcases hye with h | h; (· exact h); (· exact absurd rfl (h.2.2 x hgx (by omega)))); have hyx : y = x := same_eq (put_inj hgy hry hgx (by omega) hsy.symm) (by rw [hyi, hxi]); have z6 := le6.1; have vb := Xr le6 (by omega) (by intro e; cases e) ub
 refine Xa (Zm rfl) ?_
 refine Xa (Yj rfl rfl) ?_
 refine Xa (Yj rfl rfl) ?_
 refine Xz (Yz (l := [.int .i64 0, .bool false, .slice none 0 0, .int .u64 0, .slice none 0 0]) inf33.zero rfl (by decide)) ?_
 refine Xw (Yf (vs := [.int .i64 _, .bool _, .slice _ _ _, .int .u64 _, .slice _ _ _]) rfl rfl inf33.size Yd Yg rfl rfl ?_)
 refine Xa (Xi rfl) ?_
 refine Xe ?_
 refine Xe ?_
 obtain ⟨H7, hH7⟩ : ∃ H7, H7 = (H6.push (.own 0 [.int .i64 0, .bool false, .slice none 0 0, .int .u64 0, .slice none 0 0])).put H6.size (.own 0 [.int .i64 y.told, .bool y.over, .slice A6 y.nodes.length c6, .int .u64 y.rest, .slice W6 y.items.length cW6]) := ⟨_, rfl⟩
 have le67 : H6.le H7 := by rw [hH7]; exact Hp.le_put_new (H6.le_push _) (Nat.le_refl _) _
 have t7' : H7.get H6.size = .own 0 [.int .i64 y.told, .bool y.over, .slice A6 y.nodes.length c6, .int .u64 y.rest, .slice W6 y.items.length cW6] := by rw [hH7]; exact Hp.put_same _ _ _
 have z7 : H7.size = H6.size + 1 := by rw [hH7]; simp
 change ACode true _ _ _ _ _ ((H6.push (.own 0 [.int .i64 0, .bool false, .slice none 0 0, .int .u64 0, .slice none 0 0])).put H6.size (.own 0 [.int .i64 y.told, .bool y.over, .slice A6 y.nodes.length c6, .int .u64 y.rest, .slice W6 y.items.length cW6]))
 rw [← hH7]
 clear hH7
 have tb7 := Xr le67 (by omega) (by intro e; cases e) vb
 have Y7 := kMark.mono le67.sees hy0
 have le17 := Hp.le_trans le13 (Hp.le_trans le4 (Hp.le_trans le5 (Hp.le_trans le6 le67)))
 refine Xu ?_
 refine Xa (Xb rfl) ?_
 refine Xa (Zw rfl rfl) ?_
 refine Xa (Xo rfl) ?_
 refine Ya rfl rfl rfl ?_ ?_
 intro hg18
 exact absurd rfl (of_decide_eq_true hg18)
 intro hg18
 have hp18 := hg18; try simp only [Yt] at hp18
 refine Xj (Xh rfl rfl rfl hg18) (Xb rfl) ?_
 refine Xj (Xh rfl rfl rfl hg18) (Zw rfl rfl) ?_
 refine Xa (Xl (Yv hg18) rfl) ?_
 refine X5 rfl rfl ?_ ?_
 intro hc19
 exact absurd he2 (of_decide_eq_true hc19)
 intro hc19
 (try simp only [Yt] at hc19)
 refine X9 ?_
 refine Xu ?_
 refine Xa (Yl (cs := [.int .i64 _, .bool _, .slice _ _ _, .int .u64 _, .slice _ _ _]) rfl Tryz.underlying33 rfl inf33.size X8) ?_
 refine Xw (Yf (vs := [.int .i64 _, .bool _, .slice _ _ _, .int .u64 _, .slice _ _ _]) Xm Xm inf33.size Yd Yg Xm Xm ?_)
 refine Xu ?_
 refine Xa (Xb Xm) ?_
 refine Xa ((av_add rfl rfl).to (v' := .int .u64 ((k + 1 : Nat) : Int)) (congrArg (Value.int .u64) (wrapU (by omega)))) ?_
 refine Xa (Xi rfl) ?_
 exact ⟨60 - (told + 1), by omega, k + 1, told + 1, y, A6, c6, W6, cW6, _, rfl, by omega, by rw [hyx]; exact at_step hil ⟨hgx, .inr ⟨r, by rw [hxn]; exact hrow, by rw [hxr]; exact hkn⟩⟩ hxo hxt hbX hxr (by omega) (by rw [hxn, hr]) (by rw [hxn]; omega), by omega, (aw.trans (.of_le le17)).put _, Hp.put_same _ _ _, kMark.mono (Hp.sees_box _ tb7) Y7, rK, e5, e7, e8, rfl, e10, rfl⟩
 intro hc13
 have hlt : ¬ told < 60 := by have := of_decide_eq_false hc13; omega
 refine Yx ?_
 refine Xu ?_
 refine Xa (Xb Xm) ?_
 refine Xa (Yn rfl rfl Y0) ?_
 refine Xa (Xi rfl) ?_
 first
  | exact ⟨rows.length - (i + 1), by omega, i + 1, told, m, B, c, W, cW, _, rfl, by omega, h60, fun _ => at_row hat hil hrp2 (by rw [← hr]; exact hkr) (by rw [← hr]; exact hkn), aw, hbx, hmr, rK, e5, e7, e8, e9, rfl⟩
  | exact ⟨rows.length - (i + 1), by omega, i + 1, told, m, B, c, W, cW, _, rfl, by omega, h60, fun h => absurd h hlt, aw, hbx, hmr, rK, e5, e7, e8, e9, rfl⟩
 intro hg12
 have hkn : ¬ (k : Int) < r.n := of_decide_eq_false hg12
 refine Xc (Xg rfl rfl rfl hg12 rfl) ?_
 refine Xc (Xg rfl rfl rfl hg12 rfl) ?_
 refine Xa (Xl (Yv hg12) Xm) ?_
 refine Y2 rfl rfl ?_
 refine Yx ?_
 refine Xu ?_
 refine Xa (Xb Xm) ?_
 refine Xa (Yn rfl rfl Y0) ?_
 refine Xa (Xi rfl) ?_
 first
  | exact ⟨rows.length - (i + 1), by omega, i + 1, told, m, B, c, W, cW, _, rfl, by omega, h60, fun _ => at_row hat hil hrp2 (by rw [← hr]; exact hkr) (by rw [← hr]; exact hkn), aw, hbx, hmr, rK, e5, e7, e8, e9, rfl⟩
  | exact ⟨rows.length - (i + 1), by omega, i + 1, told, m, B, c, W, cW, _, rfl, by omega, h60, fun h => absurd h hlt, aw, hbx, hmr, rK, e5, e7, e8, e9, rfl⟩
 intro hc11
 have hge60 : ¬ told < 60 := by have := of_decide_eq_false hc11; omega
 refine Yx ?_
 first
  | exact ⟨told, m, B, c, W, cW, h60, fun h => by have h9 := hat h; rw [hil] at h9; exact h9, aw, hbx, hmr, e5, e8, e9⟩
  | exact ⟨told, m, B, c, W, cW, h60, fun h => absurd h hge60, aw, hbx, hmr, e5, e8, e9⟩
 intro hg10
 have hil : i = rows.length := by have := of_decide_eq_false hg10; omega
 refine Xc (Xg rfl rfl rfl hg10 rfl) ?_
 refine Xc (Xg rfl rfl rfl hg10 rfl) ?_
 refine Xa (Xl (Yv hg10) Xm) ?_
 refine Y2 rfl rfl ?_
 refine Yx ?_
 first
  | exact ⟨told, m, B, c, W, cW, h60, fun h => by have h9 := hat h; rw [hil] at h9; exact h9, aw, hbx, hmr, e5, e8, e9⟩
  | exact ⟨told, m, B, c, W, cW, h60, fun h => absurd h hge60, aw, hbx, hmr, e5, e8, e9⟩
 rintro t H1 ⟨told, m, B, c, W, cW, h60, hat, aw, hbx, hmr, e5, e8, e9⟩
 have zaw := aw.size
 have trH := aw.tree kmb trK
 have leH1 : H.le H1 := aw.base leHK zmb
 refine Xe ?_
 refine Xe ?_
 refine Xu ?_
 refine Xa (Xb Xm) ?_
 refine Xa (Zx rfl rfl) ?_
 refine X5 rfl rfl ?_ ?_
 intro hc22
 have hall : True := trivial
 refine Xe ?_
 refine Xu ?_
 refine Xw (Xy (Ud _) rfl Tryz.func15 rfl rfl rfl ?_)
 rintro v H' ⟨rfl, hlv⟩
 refine Xa (Xn rfl) ?_
 refine X2 ?_
 exact ⟨.bool true, Xx (Xs rfl), rfl, Hp.le_trans leH1 hlv⟩
 intro hc22
 have hlt : told < 60 := by have := of_decide_eq_false hc22; omega
 have hat := hat hlt
 have hmt := hat.told
 refine X9 ?_
 refine Xe ?_
 refine Xu ?_
 refine Xa (X0 Xm) ?_
 refine Xa (Yl (cs := [.int .i64 _, .bool _, .slice _ _ _, .int .u64 _, .slice _ _ _]) Xm Tryz.underlying33 Xm inf33.size X8) ?_
 refine Xw (Xy (Next_T hT hA m _ _ trH hmr hat.big hat.r0) rfl Tryz.func17 rfl rfl rfl ?_)
 rintro v147 H2 ⟨⟨o, rest, A8, c8, x, B8, k8, rfl, sl8, sx8, _, hxf⟩, le2⟩; obtain ⟨hnx, hx1, _⟩ := hxf hat.fits; obtain rfl := next_end hT hA hrm hrr hat hnx; have hxe := hx1 rfl; subst hxe; have z2 := le2.1
 refine Xa (Zm rfl) ?_
 refine Xa (Yj rfl rfl) ?_
 refine Xa (Yj rfl rfl) ?_
 refine Xa (Yj rfl rfl) ?_
 refine Xz (Yz (l := [.slice none 0 0, .int .i64 0, .int .u64 0]) inf46.zero rfl (by decide)) ?_
 refine Xz (Yz (l := [.int .i64 0, .bool false, .slice none 0 0, .int .u64 0, .slice none 0 0]) inf33.zero rfl (by decide)) ?_
 refine Xw (Yf (vs := [.slice _ _ _, .int .i64 _, .int .u64 _]) rfl rfl inf46.size Yd Yg rfl rfl ?_)
 refine Xw (Yf (vs := [.int .i64 _, .bool _, .slice _ _ _, .int .u64 _, .slice _ _ _]) rfl rfl inf33.size Yd Yg rfl rfl ?_)
 refine Xa (Xn rfl) ?_
 refine Xe ?_
 obtain ⟨H3, hH3⟩ : ∃ H3, H3 = (((H2.push (.own 0 [.slice none 0 0, .int .i64 0, .int .u64 0])).push (.own 0 [.int .i64 0, .bool false, .slice none 0 0, .int .u64 0, .slice none 0 0])).put H2.size (.own 0 [.slice A8 (Uy none).length c8, .int .i64 (rowC none), .int .u64 (rowM none)])).put (H2.size + 1) (.own 0 [.int .i64 m.told, .bool true, .slice B8 0 k8, .int .u64 0, .slice none 0 0]) := ⟨_, rfl⟩
 have le23 : H2.le H3 := by rw [hH3]; exact Hp.le_put_new (Hp.le_put_new (Hp.le_push' (H2.le_push _) _) (Nat.le_refl _) _) (Nat.le_succ _) _
 have w1 : H3.get (H2.size + 1) = .own 0 [.int .i64 m.told, .bool true, .slice B8 0 k8, .int .u64 0, .slice none 0 0] := by rw [hH3]; exact Hp.put_same _ _ _
 have z3 : H3.size = H2.size + 2 := by rw [hH3]; simp
 change ACode true _ _ _ _ _ ((((H2.push (.own 0 [.slice none 0 0, .int .i64 0, .int .u64 0])).push (.own 0 [.int .i64 0, .bool false, .slice none 0 0, .int .u64 0, .slice none 0 0])).put H2.size (.own 0 [.slice A8 (Uy none).length c8, .int .i64 (rowC none), .int .u64 (rowM none)])).put (H2.size + 1) (.own 0 [.int .i64 m.told, .bool true, .slice B8 0 k8, .int .u64 0, .slice none 0 0]))
 rw [← hH3]
 clear hH3
 have le13 := Hp.le_trans le2 le23
 have X3 : kMark.rep H3 ⟨m.told, true, [], 0, []⟩ [.int .i64 m.told, .bool true, .slice B8 0 k8, .int .u64 0, .slice none 0 0] := ⟨_, _, rfl, sx8.mono le23.sees, Sl.nil _ _⟩
 have hgn : Vt ⟨m.told, true, [], 0, []⟩ := ⟨rfl, by show 0 ≤ m.told; omega, by show m.told ≤ 9007199254740992; omega, Nat.zero_le _, fun n hn => (by cases hn), .inr ⟨rfl, rfl⟩⟩
 have hbn : BigM ⟨m.told, true, [], 0, []⟩ := ⟨Nat.zero_le _, Nat.zero_le _, fun y hy => by cases hy⟩
 refine Xu ?_
 refine Xa (X0 Xm) ?_
 refine Xa (Yl (cs := [.int .i64 _, .bool _, .slice _ _ _, .int .u64 _, .slice _ _ _]) rfl Tryz.underlying33 rfl inf33.size X8) ?_
 refine Xw (Xy (Next_T hT hA ⟨m.told, true, [], 0, []⟩ _ _ (trH.mono le13) X3 hbn (Int.le_refl _)) rfl Tryz.func17 rfl rfl rfl ?_)
 rintro v154 H4 ⟨⟨o, rest, A9, c9, x, B9, k9, rfl, sl9, sx9, _, hxf⟩, le4⟩; obtain ⟨hnx, hx1, _⟩ := hxf ⟨hgn, .inl rfl⟩; obtain rfl := (hnx.1 rfl).1; have hxe := hx1 rfl; subst hxe; have z4 := le4.1; have y1 := Xr le4 (by omega) (by intro e; cases e) w1
 refine Xa (Zm rfl) ?_
 refine Xa (Yj rfl rfl) ?_
 refine Xa (Yj rfl rfl) ?_
 refine Xa (Yj rfl rfl) ?_
 refine Xz (Yz (l := [.slice none 0 0, .int .i64 0, .int .u64 0]) inf46.zero rfl (by decide)) ?_
 refine Xz (Yz (l := [.int .i64 0, .bool false, .slice none 0 0, .int .u64 0, .slice none 0 0]) inf33.zero rfl (by decide)) ?_
 refine Xw (Yf (vs := [.slice _ _ _, .int .i64 _, .int .u64 _]) rfl rfl inf46.size Yd Yg rfl rfl ?_)
 refine Xw (Yf (vs := [.int .i64 _, .bool _, .slice _ _ _, .int .u64 _, .slice _ _ _]) rfl rfl inf33.size Yd Yg rfl rfl ?_)
 refine Xa (Xn rfl) ?_
 refine Xe ?_
 obtain ⟨H5, hH5⟩ : ∃ H5, H5 = (((H4.push (.own 0 [.slice none 0 0, .int .i64 0, .int .u64 0])).push (.own 0 [.int .i64 0, .bool false, .slice none 0 0, .int .u64 0, .slice none 0 0])).put H4.size (.own 0 [.slice A9 (Uy none).length c9, .int .i64 (rowC none), .int .u64 (rowM none)])).put (H4.size + 1) (.own 0 [.int .i64 m.told, .bool true, .slice B9 0 k9, .int .u64 0, .slice none 0 0]) := ⟨_, rfl⟩
 have le45 : H4.le H5 := by rw [hH5]; exact Hp.le_put_new (Hp.le_put_new (Hp.le_push' (H4.le_push _) _) (Nat.le_refl _) _) (Nat.le_succ _) _
 have q1 : H5.get (H4.size + 1) = .own 0 [.int .i64 m.told, .bool true, .slice B9 0 k9, .int .u64 0, .slice none 0 0] := by rw [hH5]; exact Hp.put_same _ _ _
 have z5 : H5.size = H4.size + 2 := by rw [hH5]; simp
 change ACode true _ _ _ _ _ ((((H4.push (.own 0 [.slice none 0 0, .int .i64 0, .int .u64 0])).push (.own 0 [.int .i64 0, .bool false, .slice none 0 0, .int .u64 0, .slice none 0 0])).put H4.size (.own 0 [.slice A9 (Uy none).length c9, .int .i64 (rowC none), .int .u64 (rowM none)])).put (H4.size + 1) (.own 0 [.int .i64 m.told, .bool true, .slice B9 0 k9, .int .u64 0, .slice none 0 0]))
 rw [← hH5]
 clear hH5
 have q0 := Xr le45 (by omega) (by intro e; cases e) y1
 have N5 := kMark.mono (Hp.le_trans le4 le45).sees X3
 have N6 : kMark.rep H5 ⟨m.told, true, [], 0, []⟩ [.int .i64 m.told, .bool true, .slice B9 0 k9, .int .u64 0, .slice none 0 0] := ⟨_, _, rfl, sx9.mono le45.sees, Sl.nil _ _⟩
 have leH5 := Hp.le_trans leH1 (Hp.le_trans le13 (Hp.le_trans le4 le45))
 refine Xu ?_
 refine Xa (Xo rfl) ?_
 refine Xa (Zz rfl) ?_
 refine Xa (Xo rfl) ?_
 refine Ya rfl rfl rfl ?_ ?_
 intro hg23
 have hp23 := hg23; try simp only [Yt] at hp23
 refine Xj (Xh rfl rfl rfl hg23) (Xf (off := 1) rfl Tryz.underlying33 rfl inf4.size (by decide) rfl) ?_
 refine Xj (Xh rfl rfl rfl hg23) (Xk rfl Tryz.underlying4 rfl Xp) ?_
 refine Xa (Xl (Yv hg23) rfl) ?_
 refine Xa (Xo rfl) ?_
 refine Ya rfl rfl rfl ?_ ?_
 intro hg24
 have hp24 := hg24; try simp only [Yt] at hp24
 refine Xj (Xh rfl rfl rfl hg24) (Xf (off := 0) rfl Tryz.underlying33 rfl inf3.size (by decide) rfl) ?_
 refine Xj (Xh rfl rfl rfl hg24) (Xk rfl Tryz.underlying3 rfl Xp) ?_
 refine Xj (Xh rfl rfl rfl hg24) (Xb Xm) ?_
 refine Xj (Xh rfl rfl rfl hg24) (Zx rfl rfl) ?_
 refine Xa (Xl (Yv hg24) rfl) ?_
 refine Xa (Xo rfl) ?_
 refine Ya rfl rfl rfl ?_ ?_
 intro hg25
 have hp25 := hg25; try simp only [Yt] at hp25
 refine Xj (Xh rfl rfl rfl hg25) (Xo rfl) ?_
 refine Xj (Xh rfl rfl rfl hg25) (Zz rfl) ?_
 refine Xa (Xl (Yv hg25) rfl) ?_
 refine Xa (Xo rfl) ?_
 refine Ya rfl rfl rfl ?_ ?_
 intro hg26
 have hp26 := hg26; try simp only [Yt] at hp26
 refine Xj (Xh rfl rfl rfl hg26) (Yl (cs := [.int .i64 _, .bool _, .slice _ _ _, .int .u64 _, .slice _ _ _]) rfl Tryz.underlying33 rfl inf33.size X8) ?_
 refine Xj (Xh rfl rfl rfl hg26) (Yl (cs := [.int .i64 _, .bool _, .slice _ _ _, .int .u64 _, .slice _ _ _]) rfl Tryz.underlying33 rfl inf33.size X8) ?_
 refine Z1 (Xh rfl rfl rfl hg26) (Xy (sameM_36 ⟨m.told, true, [], 0, []⟩ ⟨m.told, true, [], 0, []⟩ _ _ _ N5 N6 hbn hbn) rfl Tryz.func20 rfl rfl rfl ?_)
 rintro v177 H5 ⟨⟨gs, rfl, hgs⟩, rfl⟩; obtain rfl : gs = true := hgs.2 ⟨rfl, rfl, rfl, rfl⟩
 refine Xa (Xl (Yv hg26) rfl) ?_
 refine Xa (Xo rfl) ?_
 refine Ya rfl rfl rfl ?_ ?_
 intro hg27
 have hp27 := hg27; try simp only [Yt] at hp27
 refine Z1 (Xh rfl rfl rfl hg27) (Xy (Ud _) rfl Tryz.func15 rfl rfl rfl ?_)
 rintro v H' ⟨rfl, hlv⟩
 refine Xa (Xl (Yv hg27) rfl) ?_
 refine Xa (Xn rfl) ?_
 refine X2 ?_
 exact ⟨.bool true, Xx (Xs rfl), rfl, Hp.le_trans leH5 hlv⟩
 intro hg27
 exact absurd hg27 (by decide)
 intro hg26
 exact absurd hg26 (by decide)
 intro hg25
 exact absurd hmt (of_decide_eq_false hg25)
 intro hg24
 exact absurd hg24 (by decide)
 intro hg23
 exact absurd hg23 (by decide)
theorem cells_i64 : Tryz.prog.cellsOf 3 = 1 := by kernel_rfl
theorem cells_u64 : Tryz.prog.cellsOf 30 = 1 := by kernel_rfl
theorem cells_link : Tryz.prog.cellsOf 96 = 4 := by kernel_rfl
theorem opens_ints : Opens Tryz.prog (V1 (Y1 .i64)) 23 (fun xs => xs.length ≤ maxLen ∧ ∀ x ∈ xs, fits .i64 x) := opens_sl Tryz.underlying23 cells_i64 (opens_int Tryz.underlying3)
theorem opens_link : Opens Tryz.prog kLink 96 (fun x => fits .i64 x.a ∧ fits .i64 x.b ∧ fits .i64 x.cost ∧ fits .u64 x.n) := fun Hh enc W fuel cs x h => by
 obtain ⟨xs, n, _, _, hl, hxs, hf⟩ := DataW.trod_struct Tryz.underlying96 h
 rw [cells_link] at hl
 have hxs : xs.length = 4 := hxs
 match cs, hl with
 | [c0, c1, c2, c3], _ =>
  have f0 : DataW.trod enc Tryz.prog W 0 (fun _ => true) true n 3 (([c0, c1, c2, c3].drop 0).take (Tryz.prog.cellsOf 3)) = xs[0]? := hf 0 _ rfl
  have f1 : DataW.trod enc Tryz.prog W 0 (fun _ => true) true n 3 (([c0, c1, c2, c3].drop 1).take (Tryz.prog.cellsOf 3)) = xs[1]? := hf 1 _ rfl
  have f2 : DataW.trod enc Tryz.prog W 0 (fun _ => true) true n 3 (([c0, c1, c2, c3].drop 2).take (Tryz.prog.cellsOf 3)) = xs[2]? := hf 2 _ rfl
  have f3 : DataW.trod enc Tryz.prog W 0 (fun _ => true) true n 30 (([c0, c1, c2, c3].drop 3).take (Tryz.prog.cellsOf 30)) = xs[3]? := hf 3 _ rfl
  rw [cells_i64, List.getElem?_eq_getElem (show 0 < xs.length by omega)] at f0
  rw [cells_i64, List.getElem?_eq_getElem (show 1 < xs.length by omega)] at f1
  rw [cells_i64, List.getElem?_eq_getElem (show 2 < xs.length by omega)] at f2
  rw [cells_u64, List.getElem?_eq_getElem (show 3 < xs.length by omega)] at f3
  obtain ⟨y0, r0, b0, v0⟩ := opens_int (P := Tryz.prog) Tryz.underlying3 Hh enc W n _ _ f0
  obtain ⟨y1, r1, b1, v1⟩ := opens_int (P := Tryz.prog) Tryz.underlying3 Hh enc W n _ _ f1
  obtain ⟨y2, r2, b2, v2⟩ := opens_int (P := Tryz.prog) Tryz.underlying3 Hh enc W n _ _ f2
  obtain ⟨y3, r3, b3, v3⟩ := opens_int (P := Tryz.prog) Tryz.underlying30 Hh enc W n _ _ f3
  refine ⟨⟨y0, y1, y2, y3⟩, ?_, ⟨b0, b1, b2, b3⟩, fun v hv => ?_⟩
  ·have e0 : [absV W c0] = [Value.int .i64 y0] := r0
   have e1 : [absV W c1] = [Value.int .i64 y1] := r1
   have e2 : [absV W c2] = [Value.int .i64 y2] := r2
   have e3 : [absV W c3] = [Value.int .u64 y3] := r3
   simp only [List.cons.injEq, and_true] at e0 e1 e2 e3
   simp [kLink, e0, e1, e2, e3]
  ·simp at hv
   rcases hv with rfl | rfl | rfl | rfl
   ·exact v0 _ (List.mem_singleton.2 rfl)
   ·exact v1 _ (List.mem_singleton.2 rfl)
   ·exact v2 _ (List.mem_singleton.2 rfl)
   ·exact v3 _ (List.mem_singleton.2 rfl)
theorem opens_links : Opens Tryz.prog (V1 kLink) 83 (fun xs => xs.length ≤ maxLen ∧ ∀ x ∈ xs, fits .i64 x.a ∧ fits .i64 x.b ∧ fits .i64 x.cost ∧ fits .u64 x.n) := opens_sl Tryz.underlying83 cells_link opens_link
theorem cells_links : Tryz.prog.cellsOf 83 = 1 := by kernel_rfl
theorem cells_ints : Tryz.prog.cellsOf 23 = 1 := by kernel_rfl
theorem cells_str : Tryz.prog.cellsOf 9 = 1 := by kernel_rfl
theorem cells_strs : Tryz.prog.cellsOf 22 = 1 := by kernel_rfl
theorem cells_intss : Tryz.prog.cellsOf 24 = 1 := by kernel_rfl
theorem cells_linkss : Tryz.prog.cellsOf 27 = 1 := by kernel_rfl
theorem cells_parts : Tryz.prog.cellsOf 29 = 2 := by kernel_rfl
theorem cells_forest : Tryz.prog.cellsOf 26 = 5 := by kernel_rfl
theorem opens_strs : Opens Tryz.prog (V1 kStr) 22 (fun xs => xs.length ≤ maxLen ∧ ∀ x ∈ xs, x.size ≤ maxLen) := opens_sl Tryz.underlying22 cells_str (opens_str Tryz.underlying9)
theorem opens_intss : Opens Tryz.prog (V1 (V1 (Y1 .i64))) 24 (fun xs => xs.length ≤ maxLen ∧ ∀ x ∈ xs, x.length ≤ maxLen ∧ ∀ n ∈ x, fits .i64 n) := opens_sl Tryz.underlying24 cells_ints opens_ints
theorem opens_linkss : Opens Tryz.prog (V1 (V1 kLink)) 27 (fun xs : List (List Link) => xs.length ≤ maxLen ∧ ∀ l ∈ xs, l.length ≤ maxLen ∧ ∀ x ∈ l, fits .i64 x.a ∧ fits .i64 x.b ∧ fits .i64 x.cost ∧ fits .u64 x.n) := opens_sl Tryz.underlying27 cells_links opens_links
theorem opens_parts : Opens Tryz.prog kParts 29 BigP := fun Hh enc W fuel cs x h => by
 obtain ⟨xs, n, _, _, hl, hxs, hf⟩ := DataW.trod_struct Tryz.underlying29 h
 rw [cells_parts] at hl
 have hxs : xs.length = 2 := hxs
 match cs, hl with
 | [c0, c1], _ =>
  have f0 : DataW.trod enc Tryz.prog W 0 (fun _ => true) true n 27 (([c0, c1].drop 0).take (Tryz.prog.cellsOf 27)) = xs[0]? := hf 0 _ rfl
  have f1 : DataW.trod enc Tryz.prog W 0 (fun _ => true) true n 27 (([c0, c1].drop 1).take (Tryz.prog.cellsOf 27)) = xs[1]? := hf 1 _ rfl
  rw [cells_linkss, List.getElem?_eq_getElem (show 0 < xs.length by omega)] at f0
  rw [cells_linkss, List.getElem?_eq_getElem (show 1 < xs.length by omega)] at f1
  obtain ⟨y0, ⟨w0, r0, s0⟩, b0, v0⟩ := opens_linkss Hh enc W n _ _ f0
  obtain ⟨y1, ⟨w1, r1, s1⟩, b1, v1⟩ := opens_linkss Hh enc W n _ _ f1
  refine ⟨⟨y0, y1⟩, ⟨w0, w1, ?_, s0, s1⟩, ⟨b0.1, b1.1, fun l hl => (b0.2 l hl).1, fun l hl => (b1.2 l hl).1⟩, fun v hv => ?_⟩
  ·have e0 : [absV W c0] = [w0] := r0
   have e1 : [absV W c1] = [w1] := r1
   simp only [List.cons.injEq, and_true] at e0 e1
   simp [e0, e1]
  ·simp at hv
   rcases hv with rfl | rfl
   ·exact v0 _ (List.mem_singleton.2 rfl)
   ·exact v1 _ (List.mem_singleton.2 rfl)
theorem opens_forest : Opens Tryz.prog kForest 26 BigF := fun Hh enc W fuel cs x h => by
 obtain ⟨xs, n, _, _, hl, hxs, hf⟩ := DataW.trod_struct Tryz.underlying26 h
 rw [cells_forest] at hl
 have hxs : xs.length = 5 := hxs
 match cs, hl with
 | [c0, c1, c2, c3, c4], _ =>
  have f0 : DataW.trod enc Tryz.prog W 0 (fun _ => true) true n 22 (([c0, c1, c2, c3, c4].drop 0).take (Tryz.prog.cellsOf 22)) = xs[0]? := hf 0 _ rfl
  have f1 : DataW.trod enc Tryz.prog W 0 (fun _ => true) true n 23 (([c0, c1, c2, c3, c4].drop 1).take (Tryz.prog.cellsOf 23)) = xs[1]? := hf 1 _ rfl
  have f2 : DataW.trod enc Tryz.prog W 0 (fun _ => true) true n 23 (([c0, c1, c2, c3, c4].drop 2).take (Tryz.prog.cellsOf 23)) = xs[2]? := hf 2 _ rfl
  have f3 : DataW.trod enc Tryz.prog W 0 (fun _ => true) true n 24 (([c0, c1, c2, c3, c4].drop 3).take (Tryz.prog.cellsOf 24)) = xs[3]? := hf 3 _ rfl
  have f4 : DataW.trod enc Tryz.prog W 0 (fun _ => true) true n 24 (([c0, c1, c2, c3, c4].drop 4).take (Tryz.prog.cellsOf 24)) = xs[4]? := hf 4 _ rfl
  rw [cells_strs, List.getElem?_eq_getElem (show 0 < xs.length by omega)] at f0
  rw [cells_ints, List.getElem?_eq_getElem (show 1 < xs.length by omega)] at f1
  rw [cells_ints, List.getElem?_eq_getElem (show 2 < xs.length by omega)] at f2
  rw [cells_intss, List.getElem?_eq_getElem (show 3 < xs.length by omega)] at f3
  rw [cells_intss, List.getElem?_eq_getElem (show 4 < xs.length by omega)] at f4
  obtain ⟨y0, ⟨w0, r0, s0⟩, b0, v0⟩ := opens_strs Hh enc W n _ _ f0
  obtain ⟨y1, ⟨w1, r1, s1⟩, b1, v1⟩ := opens_ints Hh enc W n _ _ f1
  obtain ⟨y2, ⟨w2, r2, s2⟩, b2, v2⟩ := opens_ints Hh enc W n _ _ f2
  obtain ⟨y3, ⟨w3, r3, s3⟩, b3, v3⟩ := opens_intss Hh enc W n _ _ f3
  obtain ⟨y4, ⟨w4, r4, s4⟩, b4, v4⟩ := opens_intss Hh enc W n _ _ f4
  refine ⟨⟨y0, y1, y2, y3, y4⟩, ⟨w0, w1, w2, w3, w4, ?_, s0, s1, s2, s3, s4⟩, ⟨b0.1, b1.1, b2.1, b3.1, b4.1, fun l hl => (b3.2 l hl).1, fun l hl => (b4.2 l hl).1⟩, fun v hv => ?_⟩
  ·have e0 : [absV W c0] = [w0] := r0
   have e1 : [absV W c1] = [w1] := r1
   have e2 : [absV W c2] = [w2] := r2
   have e3 : [absV W c3] = [w3] := r3
   have e4 : [absV W c4] = [w4] := r4
   simp only [List.cons.injEq, and_true] at e0 e1 e2 e3 e4
   simp [e0, e1, e2, e3, e4]
  ·simp at hv
   rcases hv with rfl | rfl | rfl | rfl | rfl
   ·exact v0 _ (List.mem_singleton.2 rfl)
   ·exact v1 _ (List.mem_singleton.2 rfl)
   ·exact v2 _ (List.mem_singleton.2 rfl)
   ·exact v3 _ (List.mem_singleton.2 rfl)
   ·exact v4 _ (List.mem_singleton.2 rfl)
end Go.Proofs.YtmakkmcjocjgmaaGreat.Am
