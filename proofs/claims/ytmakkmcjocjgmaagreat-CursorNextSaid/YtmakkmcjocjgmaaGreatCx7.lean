/- Texts that the proof rests on, part 7: lemmas for every heap that is related to a world, no condition beyond each lemma's own. -/
import Derived.Test.YtmakkmcjocjgmaaGreatCx6
import Derived.Test.YtmakkmcjocjgmaaGreatCxTreeGroups
import Derived.Test.YtmakkmcjocjgmaaGreatCx1
import Derived.Test.YtmakkmcjocjgmaaGreatCxRow
namespace Go.Proofs.YtmakkmcjocjgmaaGreat.Am
open Go Go.RowKit
set_option linter.unusedVariables false
set_option linter.unusedSimpArgs false
set_option maxRecDepth 100000
theorem av_func0 {P : Program} {t : Fr} {H : Hp} {d : Option Tmp} {ty : TypeId} {pos : String} {after : Array Edge} {guard : Option (Nat × Bool)} {f : FuncId} {cap : Array Operand} {cs : Array Value} (h : cap.toList.map t.eval = cs.toList) : AVal P ⟨d, .makeFunc (.func f) #[] cap, ty, pos, after, guard⟩ t [] H (.func (.func f) #[] cs) := by
 have := av_makeFunc (P := P) (t := t) (H := H) (d := d) (ty := ty) (pos := pos) (after := after) (guard := guard) (f := f) (first := #[]) (cap := cap)
 rw [h] at this
 exact this
set_option maxHeartbeats 2000000 in
theorem Behind_walk {T : TreeT} (hT : GoodT T) (hA : Uu T) {tb : Nat} {AU : Option Addr} {cU : Nat} {ns : List Int} {H : Hp} (ht : TreeR H (.pointer (some ⟨tb, 0, none⟩)) T) (hu : Sl (Y3 .i64) H (.slice AU ns.length cU) ns) (hul : ns.length ≤ 1000000) :
  ACalls Tryz.prog 89 #[.pointer (some ⟨tb, 0, none⟩), .slice AU ns.length cU] H (fun r H' => H.le H' ∧ ∃ o, (ns.length = T.vars.length → TellsH T o (behN T ns)) ∧ (ns.length ≠ T.vars.length → o = none) ∧ RowO H' r o) := by
 have hfew := hT.few
 refine Xv Tryz.func89 rfl rfl rfl (by simp) ?_
 refine Xe ?_
 refine Xu ?_
 refine X0 (am_box_sl rfl) ?_
 refine X0 (Yy (l := [.slice none 0 0, .int .i64 0, .int .u64 0]) inf46.zero rfl (by decide)) ?_
 refine Xa (Xm rfl) ?_
 refine Xe ?_
 refine Xe ?_
 refine Yw (by kernel_rfl) (Y1 (B := [0, 1, 3, 7, 15, 7, 39, 127, 255]) (π := [0, 1, 2, 3, 4, 5, 6, 7, 8]) (by kernel_rfl)) ?_
 refine Xd rfl rfl (Xz rfl) Xq ?_
 refine Xd rfl rfl (Ue rfl t_spot rfl Tryz.underlying37) Xq ?_
 refine Xd rfl rfl (Xo rfl) Xq ?_
 refine Zw rfl rfl rfl rfl ?_ ?_
 intro hg1
 cases hg1
 intro hg1
 have hp1 := hg1; try simp only [Ys] at hp1
 refine Yl rfl (Xh rfl rfl rfl hg1) rfl (Xj rfl Tryz.underlying23 rfl Xp) Xq ?_
 refine Yl rfl (Xh rfl rfl rfl hg1) rfl (Yp rfl Tryz.underlying23) Xq ?_
 refine Yl rfl (Xh rfl rfl rfl hg1) rfl (Xz rfl) Xq ?_
 refine Ui rfl (Xh rfl rfl rfl hg1) rfl (Xy (Len_tree (ht.mono t_le)) rfl Tryz.func62 rfl rfl rfl ?_)
 rintro v10 H1 ⟨rfl, rfl⟩
 refine ⟨Ye, ?_⟩
 refine Yl rfl (Xh rfl rfl rfl hg1) rfl (Z3 rfl rfl) Xq ?_
 refine Xd rfl rfl (Xk (Yv hg1) rfl) Xq ?_
 refine X5 rfl rfl ?_ ?_
 intro hc2
 have hne : ns.length ≠ T.vars.length := by have := of_decide_eq_true hc2; omega
 refine Xe ?_
 refine Xu ?_
 refine Xa (Y6 (pl := [(0, 1), (1, 1), (2, 1)]) (r := [.slice _ _ _, .int .i64 _, .int .u64 _]) Tryz.underlying46 inf46.zero (by decide) rfl rfl) ?_
 refine Xx (Yf (vs := [.slice _ _ _, .int .i64 _, .int .u64 _]) rfl rfl inf46.size Yb Yd rfl rfl ?_)
 refine Xa (Xm rfl) ?_
 refine X1 ?_
 exact ⟨_, Y9 (Yr Xl (Yq (cs := [_, _, _]) Tryz.underlying46 rfl inf46.size X6)) (Xt rfl), t_le, none, fun h => absurd h hne, fun _ => rfl, Ua _⟩
 intro hc2
 have hlen : ns.length = T.vars.length := by have := of_decide_eq_false hc2; omega
 refine Ya ?_
 refine Xe ?_
 refine Xu ?_
 refine Xa (Xz rfl) ?_
 refine Xx (Xy (fresh_tree tb _) rfl Tryz.func115 rfl rfl rfl ?_)
 rintro v3 H3 ⟨rfl, hle3, hW3⟩; simp only [Hp.push_size] at hW3; have z3 := hle3.1; simp only [Hp.push_size] at z3; have gu3 : H3.get H.size = .own 0 [.slice AU ns.length cU] := Xr hle3 (by simp; omega) (by intro e; cases e) Yb; have gz3 : H3.get (H.size + 1) = .own 0 [.slice none 0 0, .int .i64 0, .int .u64 0] := Xr hle3 (by simp) (by intro e; cases e) Yb; have leH3 : H.le H3 := Hp.le_trans (Hp.le_push' (H.le_push _) _) hle3
 refine Xa (Zy rfl) ?_
 refine Xa (Xn rfl) ?_
 refine Xe ?_
 refine ac_cut (fun t H' => ∃ (g : Nat) (B : Option Addr) (c : Nat), g ≤ ns.length ∧ H.le H' ∧ H.size + 2 < H'.size ∧ H'.get H.size = .own 0 [.slice AU ns.length cU] ∧ H'.get (H.size + 1) = .own 0 [.slice none 0 0, .int .i64 0, .int .u64 0] ∧ H'.get (H.size + 2) = .own 0 [.pointer (some ⟨tb, 0, none⟩), .slice B g c, .bool false, .bool false, .int .i64 0] ∧ (g < ns.length → Zv (T.group g (Yn T ns g)) (ns.getD g 0) = none) ∧ Path T (ns.take g) ∧ t 0 = .pointer (some ⟨tb, 0, none⟩) ∧ t 3 = .pointer (some ⟨H.size, 0, none⟩) ∧ t 4 = .pointer (some ⟨H.size + 1, 0, none⟩) ∧ t 6 = .pointer (some ⟨H.size + 2, 0, none⟩) ∧ t 7 = .int .i64 g) ?_ ?_
 refine Yc ?_
 refine Y7 (fun n t H' => ∃ (g : Nat) (G : Hp), n = ns.length - g ∧ g ≤ ns.length ∧ H.le G ∧ V2 G H' (H.size + 2) (.pointer (some ⟨tb, 0, none⟩)) ⟨ns.take g, false, false, 0⟩ ∧ Path T (ns.take g) ∧ G.get H.size = .own 0 [.slice AU ns.length cU] ∧ G.get (H.size + 1) = .own 0 [.slice none 0 0, .int .i64 0, .int .u64 0] ∧ t 0 = .pointer (some ⟨tb, 0, none⟩) ∧ t 3 = .pointer (some ⟨H.size, 0, none⟩) ∧ t 4 = .pointer (some ⟨H.size + 1, 0, none⟩) ∧ t 6 = .pointer (some ⟨H.size + 2, 0, none⟩) ∧ t 7 = .int .i64 g) (ns.length) (⟨0, H3, rfl, Nat.zero_le _, leH3, hW3, fun i h => absurd h (Nat.not_lt_zero _), gu3, gz3, rfl, rfl, rfl, rfl, rfl⟩) ?_
 rintro n t H1 ⟨g, G, rfl, hg, leG, hW, hpath, gu, gz, e0, e3, e4, e6, e7⟩
 obtain ⟨B, c, hwb, gw, hown⟩ := id hW
 have hw := Xr hown.le hwb (by intro e; cases e) gw
 have hgu := Xr hown.le (by omega) (by intro e; cases e) gu
 have hgz := Xr hown.le (by omega) (by intro e; cases e) gz
 have zz := hown.size
 have hlt : (ns.take g).length = g := by rw [List.length_take]; omega
 have htG := ht.mono leG
 have huG := hu.mono leG.sees
 refine Xe ?_
 refine Xe ?_
 refine Xu ?_
 refine Xa (Xc Xl) ?_
 refine Xa (Xj Xl Tryz.underlying23 Xl Xp) ?_
 refine Xa (Yp rfl Tryz.underlying23) ?_
 refine Xa (Y5 rfl rfl) ?_
 refine X5 rfl rfl ?_ ?_
 intro hc3
 have hgl : g < ns.length := by have := of_decide_eq_true hc3; omega
 obtain ⟨bu, ou, eU, hbu, hcu⟩ := (huG.mono hown.le.sees).int_at (i := (g : Int)) (by omega) (by omega)
 rw [Int.toNat_natCast] at hcu
 obtain ⟨x, hx⟩ : ∃ x, x = ns.getD g 0 := ⟨_, rfl⟩
 rw [← hx] at hcu
 have hWp : ∀ y, V2 (G.push y) (H1.push y) (H.size + 2) (.pointer (some ⟨tb, 0, none⟩)) ⟨ns.take g, false, false, 0⟩ := fun y => ⟨B, c, by simp; omega, (Hp.push_old _ _ hwb).trans gw, hown.push _⟩
 subst eU
 refine Ya ?_
 refine Yc ?_
 refine Xe ?_
 refine Xe ?_
 refine Yw (by kernel_rfl) (Y1 (B := [0, 0, 0, 0, 12, 0, 0, 96, 224, 511, 1023, 2047, 2047, 0, 12287, 32767]) (π := [0, 1, 2, 3, 5, 6, 7, 8, 13, 4, 9, 10, 11, 12, 14, 15]) (by kernel_rfl)) ?_
 refine Xd rfl rfl (Xz Xl) Xq ?_
 refine Xd rfl rfl (Xc Xl) Xq ?_
 refine Xd rfl rfl (Xz Xl) Xq ?_
 refine Xd rfl rfl (Xc Xl) Xq ?_
 refine Xd rfl rfl (Xj Xl Tryz.underlying23 Xl Xp) Xq ?_
 refine Xd rfl rfl (Xc Xl) Xq ?_
 refine Xd rfl rfl (Xs rfl rfl Tryz.underlying23 inf3.size X4 X4) Xq ?_
 refine Xd rfl rfl (Xj rfl Tryz.underlying3 rfl Xp) Xq ?_
 refine Y8 rfl rfl (Yy (l := [.int .i64 0, .int .i64 0, .int .i64 0, .int .u64 0]) inf96.zero rfl (by decide)) ?_
 refine Yk rfl rfl (Xy (above_walk hT (hWp _) (htG.mono (G.le_push _)) g (by omega) (by rw [hlt]; exact Nat.le_refl _)) rfl Tryz.func118 rfl rfl rfl ?_)
 rintro v7 H4 ⟨rfl, rfl⟩
 refine ⟨Ye, ?_⟩
 refine Yk rfl rfl (Xy (Find_tree ((htG.mono hown.le).mono (H1.le_push _)) hT.l1 hT.l2 hT.lens (g : Int) _ _ (hT.sort _ _)) rfl Tryz.func117 rfl rfl rfl ?_)
 rintro v8 H5 ⟨le15, rfl⟩; have z15 := le15.1; simp only [Hp.push_size] at z15; have hq5 : H5.get H1.size = .own 0 [.int .i64 0, .int .i64 0, .int .i64 0, .int .u64 0] := Xr le15 (by simp) (by intro e; cases e) Yb; obtain ⟨f, hf⟩ : ∃ f, f = Zv (T.group g (Yn T (ns.take g) g)) x := ⟨_, rfl⟩; rw [← hf]; obtain ⟨G5, le5, hown5⟩ := (hown.push (.own 0 [.int .i64 0, .int .i64 0, .int .i64 0, .int .u64 0])).later le15; have z5 := le5.1; simp only [Hp.push_size] at z5; have zz5 := hown5.size
 refine ⟨Ye, ?_⟩
 refine Xd rfl rfl (Zl rfl) Xq ?_
 refine Xd rfl rfl (Ym rfl rfl) Xq ?_
 refine Xd rfl rfl (Ym rfl rfl) Xq ?_
 first | refine Yk rfl rfl (Yf (vs := [.int .i64 _, .int .i64 _, .int .i64 _, .int .u64 _]) rfl rfl inf96.size Yb Yd rfl rfl ?_)
 refine ⟨Ye, ?_⟩
 refine Xd rfl rfl (Xm rfl) Xq ?_
 refine Xe ?_
 have gq5 : G5.get H1.size = .own 0 [.int .i64 0, .int .i64 0, .int .i64 0, .int .u64 0] := Xr le5 (by simp; omega) (by intro e; cases e) (by rw [zz]; exact Hp.push_new _ _)
 have leG5 := Hp.le_trans (Hp.le_push G _) le5
 obtain ⟨H6, hH6⟩ : ∃ H6, H6 = H5.put H1.size (.own 0 [.int .i64 (f.getD Zu).a, .int .i64 (f.getD Zu).b, .int .i64 (f.getD Zu).cost, .int .u64 (f.getD Zu).n]) := ⟨_, rfl⟩
 obtain ⟨G6, hG6⟩ : ∃ G6, G6 = G5.put H1.size (.own 0 [.int .i64 (f.getD Zu).a, .int .i64 (f.getD Zu).b, .int .i64 (f.getD Zu).cost, .int .u64 (f.getD Zu).n]) := ⟨_, rfl⟩
 have hown6 : OwnP (Y3 .i64) G6 H6 (.slice B (ns.take g).length c) (ns.take g) := by rw [hG6, hH6]; exact hown5.put (by rw [gq5]; intro e; cases e) _ (Hp.sees_box _ gq5)
 have leG6 : G.le G6 := by rw [hG6]; exact Hp.le_put_new leG5 (by omega) _
 have gw6 := Xr leG6 hwb (by intro e; cases e) gw
 have gu6 := Xr leG6 (by omega) (by intro e; cases e) gu
 have gz6 := Xr leG6 (by omega) (by intro e; cases e) gz
 have z6 := leG6.1
 have zz6 := hown6.size
 have hw6 := Xr hown6.le (by omega) (by intro e; cases e) gw6
 have hgu6 := Xr hown6.le (by omega) (by intro e; cases e) gu6
 have hgz6 := Xr hown6.le (by omega) (by intro e; cases e) gz6
 have leHG6 := Hp.le_trans leG leG6
 have leH6 := Hp.le_trans leHG6 hown6.le
 obtain ⟨bu, ou, eU, hbu6, hcu6⟩ := (hu.mono leH6.sees).int_at (i := (g : Int)) (by omega) (by omega)
 rw [Int.toNat_natCast, ← hx] at hcu6
 simp only [Option.some.injEq, Addr.mk.injEq, and_true] at eU
 obtain ⟨rfl, rfl⟩ := eU
 change ACode true _ _ _ _ _ (H5.put H1.size (.own 0 [.int .i64 (f.getD Zu).a, .int .i64 (f.getD Zu).b, .int .i64 (f.getD Zu).cost, .int .u64 (f.getD Zu).n]))
 rw [← hH6]
 clear hH6 hG6
 have habv : Yn T ns g = Yn T (ns.take g) g := Z4 hT (by omega) (fun j hj => (Vf hj).symm)
 refine Xu ?_
 refine Xa (Xo rfl) ?_
 refine Xa (Z0 rfl) ?_
 refine X5 rfl rfl ?_ ?_
 intro hc4
 have hfn : f = none := by have h := hc4; cases f with | none => rfl | some r => cases h
 refine Yx ?_
 first
  | exact ⟨g, B, c, hg, Hp.le_trans leG hown.le, by omega, hgu, hgz, by rw [hlt] at hw; exact hw, fun h => absurd h hgl, hpath, e0, e3, e4, e6, e7⟩
  | exact ⟨g, B, c, hg, leH6, by omega, hgu6, hgz6, by rw [hlt] at hw6; exact hw6, fun _ => by rw [habv, ← hx, ← hf]; exact hfn, hpath, e0, e3, e4, e6, e7⟩
 intro hc4
 obtain ⟨l, hfl⟩ : ∃ l, f = some l := by have h := hc4; cases f with | none => cases h | some r => exact ⟨r, rfl⟩
 have hlm := (Uo (hT.sort _ _)).1 (hf.symm.trans hfl)
 have hpath2 : Path T (ns.take (g + 1)) := by
  rw [← take_more hgl, ← hx, ← hlm.2]
  exact Um hT hpath (by omega) (by rw [hlt]; exact hlm.1)
 refine Ya ?_
 refine Yw (by kernel_rfl) (Y1 (B := [0, 0, 2, 6, 14, 0, 0, 96, 224, 480, 1022, 0, 2048, 2047, 10239, 26623, 65535]) (π := [0, 1, 2, 3, 4, 5, 6, 7, 8, 9, 11, 12, 10, 13, 14, 15, 16]) (by kernel_rfl)) ?_
 refine Xd rfl rfl (Xz Xl) Xq ?_
 refine Xd rfl rfl (Xz Xl) Xq ?_
 refine Xd rfl rfl (Yh rfl) Xq ?_
 refine Xd rfl rfl (Xf (off := 1) rfl Tryz.underlying167 rfl inf23.size (by decide) rfl) Xq ?_
 refine Xd rfl rfl (Xj rfl Tryz.underlying23 rfl Xp) Xq ?_
 refine Xd rfl rfl (Xj Xl Tryz.underlying23 Xl Xp) Xq ?_
 refine Xd rfl rfl (Xc Xl) Xq ?_
 refine Xd rfl rfl (Xs rfl rfl Tryz.underlying23 inf3.size X4 X4) Xq ?_
 refine Xd rfl rfl (Xj rfl Tryz.underlying3 rfl Xp) Xq ?_
 first | refine Y8 rfl rfl (Yj (r := [.int .i64 _]) Tryz.underlying23 inf3.size inf3.zero rfl (by decide) (by decide) (by decide) rfl) ?_
 refine Xd rfl rfl (Xc Xl) Xq ?_
 refine Xd rfl rfl (Yo rfl rfl Y0) Xq ?_
 refine Yk rfl rfl (OwnP.append (ys := [x]) (hown6.push _) Tryz.underlying23 inf3 rfl rfl rfl (Zt (k := Y3 .i64) rfl rfl hown6.size rfl) (by simp only [List.length_singleton]; omega) (by simp only [List.length_singleton]; omega) ?_)
 rintro v9 G7 H7 hle7 hown7
 have hsameO := OwnP.sameO (hown6.push _) hle7 hown7
 obtain ⟨B7, c7, rfl⟩ := hown7.shape
 have le67 := Hp.le_trans (Hp.le_push _ _) hle7
 have z7 := le67.1
 have zz7 := hown7.size
 have gw7 := Xr le67 (by omega) (by intro e; cases e) gw6
 have gz7 := Xr le67 (by omega) (by intro e; cases e) gz6
 have gu7 := Xr le67 (by omega) (by intro e; cases e) gu6
 have hw7 := Xr hown7.le (by omega) (by intro e; cases e) gw7
 have hz7 := Xr hown7.le (by omega) (by intro e; cases e) gz7
 refine ⟨Ye, ?_⟩
 refine Xd rfl rfl (Yh rfl) Xq ?_
 refine Xd rfl rfl (Xf (off := 1) rfl Tryz.underlying167 rfl inf23.size (by decide) rfl) Xq ?_
 first | refine Yk rfl rfl (Yz rfl rfl rfl inf23.size Yb Yd rfl ?_)
 refine ⟨Ye, ?_⟩
 refine Xd rfl rfl (Xn rfl) Xq ?_
 rw [hx, take_more hgl] at hown7
 have eq7 : (ns.take g ++ [x]).length = (ns.take (g + 1)).length := by rw [hx, take_more hgl]
 exact ⟨ns.length - (g + 1), by omega, g + 1, G7.put (H.size + 2) (.own 0 [.pointer (some ⟨tb, 0, none⟩), .slice B7 (ns.take g ++ [x]).length c7, .bool false, .bool false, .int .i64 0]), rfl, by omega, Hp.le_put_new (Hp.le_trans leHG6 le67) (by omega) _, ⟨B7, c7, by simp; omega, by rw [eq7]; exact Hp.put_same _ _ _, hown7.put (by rw [gw7]; intro e; cases e) _ (Hp.sees_box _ gw7)⟩, hpath2, by rw [Hp.put_other _ _ (by omega)]; exact gu7, by rw [Hp.put_other _ _ (by omega)]; exact gz7, e0, e3, e4, e6, rfl⟩
 intro hc3
 have hgl : ¬ g < ns.length := by have := of_decide_eq_false hc3; omega
 refine Yx ?_
 first
  | exact ⟨g, B, c, hg, Hp.le_trans leG hown.le, by omega, hgu, hgz, by rw [hlt] at hw; exact hw, fun h => absurd h hgl, hpath, e0, e3, e4, e6, e7⟩
  | exact ⟨g, B, c, hg, leH6, by omega, hgu6, hgz6, by rw [hlt] at hw6; exact hw6, fun _ => by rw [habv, ← hx, ← hf]; exact hfn, hpath, e0, e3, e4, e6, e7⟩
 rintro t H1 ⟨g, B, c, hg, leH1, z1, gu1, gz1, gw1, hend, hpath, e0, e3, e4, e6, e7⟩
 obtain ⟨m0, hm0⟩ : ∃ m0, m0 = (if g = ns.length then ns.length else g + 1) := ⟨_, rfl⟩
 have hm1 : m0 ≤ ns.length := by rw [hm0]; split <;> omega
 have hmin : (if (ns.length : Int) - 1 < (g : Int) then (ns.length : Int) - 1 else (g : Int)) = (m0 : Int) - 1 := by rw [hm0]; split <;> split <;> omega
 have hbeh : behN T ns = aftK T ns m0 := by
  rcases Nat.eq_zero_or_pos ns.length with h0 | h0
  ·have e1 : m0 = 0 := by omega
   rw [e1]
   obtain rfl : ns = [] := List.eq_nil_of_length_eq_zero h0
   unfold behN
   rw [← hlen]; rfl
  ·by_cases hgl : g = ns.length
   ·rw [if_pos hgl] at hm0
    have e1 : m0 = (ns.length - 1) + 1 := by omega
    rw [e1]
    refine beh_is hT hlen (by omega) (fun i hi => ?_) (.inl (by omega))
    rw [hgl, List.take_of_length_le (Nat.le_refl _)] at hpath
    exact path_take hT hpath (by omega) i hi
   ·rw [if_neg hgl] at hm0
    rw [hm0]
    exact beh_is hT hlen (by omega) hpath (.inr (hend (by omega)))
 have hpm : ∀ j, j < m0 → Path T (ns.take j) := fun j hj => by
  have hjg : j ≤ g := by rw [hm0] at hj; split at hj <;> omega
  have := path_take hT (k := j) hpath (by rw [List.length_take]; omega)
  rwa [List.take_take, Nat.min_eq_left hjg] at this
 refine Xe ?_
 refine Xe ?_
 refine Xu ?_
 refine Xa (Xc Xl) ?_
 refine Xa (Xj Xl Tryz.underlying23 Xl Xp) ?_
 refine Xa (Yp rfl Tryz.underlying23) ?_
 refine Xa (av_sub64 rfl rfl Y0) ?_
 refine Xa (av_min2 rfl rfl) ?_
 refine X0 (Yy (l := [.int .i64 0]) inf3.zero rfl (by decide)) ?_
 first | refine Xx (Yz rfl rfl rfl inf3.size Yb Yd rfl ?_)
 refine Yc ?_
 refine Y7 (fun n t H' => ∃ (m : Nat) (bI : Nat) (X : Value), m = n ∧ m ≤ m0 ∧ (behN T ns).head? = (aftK T ns m).head? ∧ H.le H' ∧ H.size + 2 < bI ∧ bI < H'.size ∧ H'.get H.size = .own 0 [.slice AU ns.length cU] ∧ H'.get (H.size + 1) = .own 0 [.slice none 0 0, .int .i64 0, .int .u64 0] ∧ H'.get (H.size + 2) = .own 0 [.pointer (some ⟨tb, 0, none⟩), X, .bool false, .bool false, .int .i64 0] ∧ H'.get bI = .own 0 [.int .i64 ((m : Int) - 1)] ∧ t 0 = .pointer (some ⟨tb, 0, none⟩) ∧ t 3 = .pointer (some ⟨H.size, 0, none⟩) ∧ t 4 = .pointer (some ⟨H.size + 1, 0, none⟩) ∧ t 6 = .pointer (some ⟨H.size + 2, 0, none⟩) ∧ t 10 = .pointer (some ⟨bI, 0, none⟩)) (m0) (⟨m0, H1.size, _, rfl, Nat.le_refl _, by rw [hbeh], t_le, by omega, by simp, Yb, Yb, Yb, by rw [← hmin]; exact Hp.put_same _ _ _, e0, e3, e4, e6, rfl⟩) ?_
 rintro n t H2 ⟨m, bI, X, rfl, hm, hhead, leH2, zI, zI2, gu2, gz2, gw2, gI2, e0, e3, e4, e6, e10⟩
 refine Xe ?_
 refine Xe ?_
 refine Xu ?_
 refine Xa (Xj Xl Tryz.underlying3 Xl Xp) ?_
 refine Xa (av_ge rfl rfl) ?_
 refine X5 rfl rfl ?_ ?_
 intro hc5
 have hpos : 1 ≤ m := by have := of_decide_eq_true hc5; omega
 obtain ⟨j, hj⟩ : ∃ j, m = j + 1 := ⟨m - 1, by omega⟩
 subst hj
 have ej : ((j + 1 : Nat) : Int) - 1 = (j : Int) := by omega
 rw [ej] at gI2
 obtain ⟨AS, SS, slS, hSS, hcap⟩ := hu.caps (i := j) (by omega)
 have hlj : (ns.take j).length = j := by rw [List.length_take]; omega
 obtain ⟨x, hx⟩ : ∃ x, x = ns.getD j 0 := ⟨_, rfl⟩
 refine Ya ?_
 refine Xe ?_
 refine Yc ?_
 refine Xe ?_
 refine Xu ?_
 refine Xa (Xz Xl) ?_
 refine Xa (Xj Xl Tryz.underlying23 Xl Xp) ?_
 refine Xa (Xj Xl Tryz.underlying3 Xl Xp) ?_
 refine Xa (Xj Xl Tryz.underlying3 Xl Xp) ?_
 refine Xa (hcap _ _ _ _ _ _ _ _ _ _ _ _ _ _ _ leH2 Xl Tryz.underlying23 inf3.size Xl Xl) ?_
 refine Xa (Yh rfl) ?_
 refine Xa (Xf (off := 1) rfl Tryz.underlying167 rfl inf23.size (by decide) rfl) ?_
 first | refine Xx (Yz rfl rfl rfl inf23.size Yb Yd rfl ?_)
 refine Xe ?_
 obtain ⟨H3, hH3⟩ : ∃ H3, H3 = H2.put (H.size + 2) (.own 0 [.pointer (some ⟨tb, 0, none⟩), .slice (some AS) j j, .bool false, .bool false, .int .i64 0]) := ⟨_, rfl⟩
 have leH3 : H.le H3 := by rw [hH3]; exact Hp.le_put_new leH2 (by omega) _
 have gu3 : H3.get H.size = .own 0 [.slice AU ns.length cU] := by rw [hH3, Hp.put_other _ _ (by omega)]; exact gu2
 have gz3 : H3.get (H.size + 1) = .own 0 [.slice none 0 0, .int .i64 0, .int .u64 0] := by rw [hH3, Hp.put_other _ _ (by omega)]; exact gz2
 have gw3 : H3.get (H.size + 2) = .own 0 [.pointer (some ⟨tb, 0, none⟩), .slice (some AS) j j, .bool false, .bool false, .int .i64 0] := by rw [hH3]; exact Hp.put_same _ _ _
 have gI3 : H3.get bI = .own 0 [.int .i64 j] := by rw [hH3, Hp.put_other _ _ (by omega)]; exact gI2
 have z3 : H3.size = H2.size := by rw [hH3]; simp
 change ACode true _ _ _ _ _ (H2.put (H.size + 2) (.own 0 [.pointer (some ⟨tb, 0, none⟩), .slice (some AS) j j, .bool false, .bool false, .int .i64 0]))
 rw [← hH3]
 clear hH3
 have leP : ∀ y, H.le (H3.push y) := fun y => Hp.le_push' leH3 y
 have gwP : ∀ y, (H3.push y).get (H.size + 2) = .own 0 [.pointer (some ⟨tb, 0, none⟩), .slice (some AS) (ns.take j).length j, .bool false, .bool false, .int .i64 0] := fun y => by rw [hlj, Hp.push_old _ _ (by omega)]; exact gw3
 have slP : ∀ y, Sl (Y3 .i64) (H3.push y) (.slice (some AS) (ns.take j).length j) (ns.take j) := fun y => by rw [hlj]; exact slS.mono (leP y).sees
 have habv : Yn T (ns.take j) j = Yn T ns j := Z4 hT (by omega) (fun i hi => Vf hi)
 refine Yw (by kernel_rfl) (Y1 (B := [0, 0, 0, 0, 12, 31, 0, 127]) (π := [0, 1, 2, 3, 6, 4, 5, 7]) (by kernel_rfl)) ?_
 refine Xd rfl rfl (Xz Xl) Xq ?_
 refine Xd rfl rfl (Xj Xl Tryz.underlying3 Xl Xp) Xq ?_
 refine Xd rfl rfl (Xz Xl) Xq ?_
 refine Xd rfl rfl (Xj Xl Tryz.underlying3 Xl Xp) Xq ?_
 refine Y8 rfl rfl (Yy (l := [.slice none 0 0]) inf83.zero rfl (by decide)) ?_
 refine Yk rfl rfl (Xy (above_read hT (gwP _) (slP _) (ht.mono (leP _)) j (by omega) (by rw [hlj]; exact Nat.le_refl _)) rfl Tryz.func118 rfl rfl rfl ?_)
 rintro v7 H4 ⟨rfl, rfl⟩; rw [habv]
 refine ⟨Ye, ?_⟩
 refine Yk rfl rfl (Xy (Group_tree (ht.mono (leP _)) hT.l1 hT.l2 hT.lens (j : Int) _) rfl Tryz.func91 rfl rfl rfl ?_)
 rintro v8 H5 ⟨GL, leL, hownL⟩; obtain ⟨L, hL⟩ : ∃ L, L = T.group j (Yn T ns j) := ⟨_, rfl⟩; rw [← hL] at hownL; have slL := hownL.sl; obtain ⟨AL, cL, rfl⟩ := slL.shape; have le35 := Hp.le_trans leL hownL.le; have z5 := le35.1; simp only [Hp.push_size] at z5; have gq5 : H5.get H3.size = .own 0 [.slice none 0 0] := Xr le35 (by simp) (by intro e; cases e) Yb; have le5 := Hp.le_trans (H3.le_push _) le35
 refine ⟨Ye, ?_⟩
 first | refine Yk rfl rfl (Yz rfl rfl rfl inf83.size Yb Yd rfl ?_)
 refine ⟨Ye, ?_⟩
 refine Xe ?_
 obtain ⟨H6, hH6⟩ : ∃ H6, H6 = H5.put H3.size (.own 0 [.slice AL L.length cL]) := ⟨_, rfl⟩
 have le6 : H3.le H6 := by rw [hH6]; exact Hp.le_put_new le5 (by omega) _
 have slH6 : Sl kLink H6 (.slice AL L.length cL) L := by rw [hH6]; exact slL.mono (Hp.sees_box _ gq5)
 have gq6 : H6.get H3.size = .own 0 [.slice AL L.length cL] := by rw [hH6]; exact Hp.put_same _ _ _
 have z6 : H6.size = H5.size := by rw [hH6]; simp
 have gu6 := Xr le6 (by omega) (by intro e; cases e) gu3
 have gz6 := Xr le6 (by omega) (by intro e; cases e) gz3
 have gw6 := Xr le6 (by omega) (by intro e; cases e) gw3
 have gI6 := Xr le6 (by omega) (by intro e; cases e) gI3
 have leH6 := Hp.le_trans leH3 le6
 have huH6 := hu.mono leH6.sees
 change ACode true _ _ _ _ _ (H5.put H3.size (.own 0 [.slice AL L.length cL]))
 rw [← hH6]
 clear hH6
 have hLl : L.length ≤ 1000000 := by rw [hL]; exact group_len hT.lens _ _
 have hLs : L.Pairwise fun x y => x.b < y.b := by rw [hL]; exact hT.sort _ _
 have hmono : ∀ (a b : Nat) (ha : a < L.length) (hb : b < L.length), a < b → L[a].b < L[b].b := fun a b ha hb h => List.pairwise_iff_getElem.1 hLs a b ha hb h
 have c1' : H6.cell? H3.size 0 = some (.slice AL L.length cL) := Z5 (cs := [.slice AL L.length cL]) gq6
 have c2' : H6.cell? H.size 0 = some (.slice AU ns.length cU) := Z5 (cs := [.slice AU ns.length cU]) gu6
 have c3' : H6.cell? bI 0 = some (.int .i64 j) := Z5 (cs := [.int .i64 j]) gI6
 have call1 : ∀ k, k < L.length → ACalls Tryz.prog 119 (#[.int .i64 (k : Nat)] ++ #[.pointer (some ⟨H3.size, 0, none⟩), .pointer (some ⟨H.size, 0, none⟩), .pointer (some ⟨bI, 0, none⟩)]) H6 (fun r H' => r = .bool (if h : k < L.length then decide (x < L[k].b) else true) ∧ H' = H6) := fun k hk =>
  ACalls.pure (R := fun r => r = .bool (if h : k < L.length then decide (x < L[k].b) else true)) (fun v h => by rw [h]; rfl) ((behind1_raw L ns AL AU cL cU k j H3.size H.size bI H6.ro (cell_ro c1') (cell_ro c2') (cell_ro c3') (slH6.mono H6.sees_ro) (huH6.mono H6.sees_ro) hk (by omega) (by show H3.size < H6.size; omega) (by show H.size < H6.size; omega) (by show bI < H6.size; omega)).mono fun r _ h => by rw [h, dif_pos hk, hx])
 have mono1 : ∀ a b, a ≤ b → b < L.length → (if h : a < L.length then decide (x < L[a].b) else true) = true → (if h : b < L.length then decide (x < L[b].b) else true) = true := fun a b hab hb h => by
  rw [dif_pos (by omega)] at h ⊢
  rcases Nat.lt_or_eq_of_le hab with h1 | h1
  ·have := hmono a b (by omega) hb h1
   have := of_decide_eq_true h
   exact decide_eq_true (by omega)
  ·subst h1; exact h
 refine Xu ?_
 refine Xa (Xj rfl Tryz.underlying83 rfl Xp) ?_
 refine Xa (Yp rfl Tryz.underlying83) ?_
 refine Xa (av_func0 (cs := #[.pointer (some ⟨H3.size, 0, none⟩), .pointer (some ⟨H.size, 0, none⟩), .pointer (some ⟨bI, 0, none⟩)]) (by show [Value.pointer (some ⟨H3.size, 0, none⟩), t 3, t 10] = [_, _, _]; rw [e3, e10])) ?_
 refine Xx (Xy (Search_gen L.length 119 _ #[.pointer (some ⟨H3.size, 0, none⟩), .pointer (some ⟨H.size, 0, none⟩), .pointer (some ⟨bI, 0, none⟩)] (fun k => if h : k < L.length then decide (x < L[k].b) else true) H6 Tryz.func119 rfl rfl call1 mono1 (by omega)) rfl Tryz.func82 rfl rfl rfl ?_)
 rintro v9 H6 ⟨⟨lo, rfl, hlo, hlo1, hlo2⟩, rfl⟩
 refine Xa (Xn rfl) ?_
 refine Xe ?_
 refine Xu ?_
 refine Xa (Xc rfl) ?_
 refine Xa (Xj rfl Tryz.underlying83 rfl Xp) ?_
 refine Xa (Yp rfl Tryz.underlying83) ?_
 refine Xa (Y5 rfl rfl) ?_
 refine X5 rfl rfl ?_ ?_
 intro hc6
 have hlt : lo < L.length := by have := of_decide_eq_true hc6; omega
 obtain ⟨bl, ol, el, hbl, hcl⟩ := slH6.link_at hlt
 subst el
 obtain ⟨l, hl'⟩ : ∃ l, l = L[lo] := ⟨_, rfl⟩
 rw [← hl'] at hcl
 have hclb := hcl 1 _ rfl
 have hnb : Uw L x = some l := by
  rw [hl']
  exact nextB_at hlt (by have := hlo2 lo (Nat.le_refl _) hlt; rw [dif_pos hlt] at this; exact of_decide_eq_true this) fun j hj h => by
   have := hlo1 j hj
   rw [dif_pos h] at this
   exact of_decide_eq_false this
 rw [hL, hx] at hnb
 obtain ⟨hp2, hh2⟩ := aft_head hT hA hlen (by omega) (hpm j (by omega)) hnb
 have slB := slS.mono leH6.sees
 have hl2 : (ns.take j ++ [l.b]).length = j + 1 := by rw [List.length_append, hlj]; rfl
 refine Xe ?_
 refine Yw (by kernel_rfl) (Y1 (B := [0, 0, 2, 6, 14, 0, 0, 96, 224, 480, 992, 2046, 4095, 8191, 8191, 32767, 65535]) (π := [0, 1, 2, 3, 4, 5, 6, 7, 8, 9, 10, 11, 12, 13, 14, 15, 16]) (by kernel_rfl)) ?_
 refine Xd rfl rfl (Xz Xl) Xq ?_
 refine Xd rfl rfl (Xz Xl) Xq ?_
 refine Xd rfl rfl (Yh rfl) Xq ?_
 refine Xd rfl rfl (Xf (off := 1) rfl Tryz.underlying167 rfl inf23.size (by decide) rfl) Xq ?_
 refine Xd rfl rfl (Xj rfl Tryz.underlying23 rfl Xp) Xq ?_
 refine Xd rfl rfl (Xj rfl Tryz.underlying83 rfl Xp) Xq ?_
 refine Xd rfl rfl (Xc rfl) Xq ?_
 refine Xd rfl rfl (Xs rfl rfl Tryz.underlying83 inf96.size X4 X4) Xq ?_
 refine Xd rfl rfl (Xf (off := 1) rfl Tryz.underlying96 rfl inf3.size (by decide) rfl) Xq ?_
 refine Xd rfl rfl (Xj rfl Tryz.underlying3 rfl Xp) Xq ?_
 first | refine Y8 rfl rfl (Yj (r := [.int .i64 _]) Tryz.underlying23 inf3.size inf3.zero rfl (by decide) (by decide) (by decide) rfl) ?_
 refine Yk rfl rfl (Sl.grow (m := l.b) (slB.mono (Hp.le_push _ _).sees) Tryz.underlying23 inf3 rfl rfl rfl (Hp.push_new _ _) (by omega) (by omega) ?_)
 rintro H7 eH7 slG
 have le67 : H6.le H7 := by rw [eH7]; exact Hp.le_push' (H6.le_push _) _
 refine ⟨by rw [eH7]; exact Ye, ?_⟩
 have gz7 := Xr le67 (by omega) (by intro e; cases e) gz6
 have leH7 := Hp.le_trans leH6 le67
 have z7 := le67.1
 clear eH7
 refine Yk rfl rfl (Xy (least_walk hT hA (ht.mono leH7) slG hp2 (by omega) (by omega)) rfl Tryz.func120 rfl rfl rfl ?_)
 rintro v12 H8 ⟨le78, o, htl, A8, k8, rfl, sl8⟩; have gz8 := Xr le78 (by omega) (by intro e; cases e) gz7; have z8 := le78.1; have leH8 := Hp.le_trans leH7 le78
 refine ⟨Ye, ?_⟩
 refine Xd rfl rfl (Ym rfl rfl) Xq ?_
 refine Xd rfl rfl (Ym rfl rfl) Xq ?_
 refine Yk rfl rfl (Yf (vs := [.slice _ _ _, .int .i64 _, .int .u64 _]) Xl Xl inf46.size Yb Yd Xl Xl ?_)
 refine ⟨Ye, ?_⟩
 refine Xd rfl rfl (Xm rfl) Xq ?_
 refine X1 ?_
 rw [hl2, ] at htl
 exact ⟨_, Y9 (Yr Xl (Yq (cs := [_, _, _]) Tryz.underlying46 rfl inf46.size X6)) (Xt rfl), Hp.le_put_new leH8 (by omega) _, o, fun _ => ⟨by rw [htl.1, hhead, hh2], htl.2⟩, fun h => absurd hlen h, A8, k8, rfl, sl8.mono (Hp.sees_box _ gz8)⟩
 intro hc6
 have heq : lo = L.length := by have := of_decide_eq_false hc6; omega
 have hnb : Uw L x = none := nextB_no fun l hl => by
  obtain ⟨j, hj, rfl⟩ := List.getElem_of_mem hl
  have := hlo1 j (by omega)
  rw [dif_pos hj] at this
  exact of_decide_eq_false this
 rw [hL, hx] at hnb
 have haft := aft_none hnb
 refine Ya ?_
 refine Xe ?_
 refine Xe ?_
 refine Xu ?_
 refine Xa (Xj Xl Tryz.underlying3 Xl Xp) ?_
 refine Xu ?_
 refine X0 (Yy (l := [.int .i64 0]) inf3.zero rfl (by decide)) ?_
 first | refine Xx (Yz rfl rfl rfl inf3.size Yb Yd rfl ?_)
 refine Xu ?_
 refine Xa (Xj rfl Tryz.underlying3 rfl Xp) ?_
 refine Xa (av_sub64 rfl rfl Y0) ?_
 first | refine Xx (Yz rfl rfl rfl inf3.size Yb Yd rfl ?_)
 exact ⟨j, by omega, j, H6.size, _, rfl, by omega, by rw [hhead, haft], t_le, by omega, by simp, Yb, Yb, Yb, by rw [show (j : Int) - 1 = (j : Int) - 1 from rfl]; exact Yb, e0, e3, e4, e6, rfl⟩
 intro hc5
 have hpos : m = 0 := by have := of_decide_eq_false hc5; omega
 subst hpos
 refine Yx ?_
 refine Xe ?_
 refine Xu ?_
 refine Xa (Y6 (pl := [(0, 1), (1, 1), (2, 1)]) (r := [.slice _ _ _, .int .i64 _, .int .u64 _]) Tryz.underlying46 inf46.zero (by decide) rfl rfl) ?_
 refine Xx (Yf (vs := [.slice _ _ _, .int .i64 _, .int .u64 _]) Xl Xl inf46.size Yb Yd Xl Xl ?_)
 refine Xa (Xm rfl) ?_
 refine X1 ?_
 exact ⟨_, Y9 (Yr Xl (Yq (cs := [_, _, _]) Tryz.underlying46 rfl inf46.size X6)) (Xt rfl), t_le, none, fun _ => ⟨by rw [hhead]; rfl, fun r h => (by cases h)⟩, fun _ => rfl, Ua _⟩
theorem acc_most {T : TreeT} {ns : List Int} : ∀ i {c n : Int}, Zs T ns i = some (c, n) → n ≤ 4611686018427387904
 | 0, c, n, h => by
  rw [Zs] at h
  injection h with h
  injection h with h1 h2
  omega
 | i + 1, c, n, h => by
  rw [Zs] at h
  obtain ⟨cn, _, h2⟩ := Option.bind_eq_some_iff.1 h
  obtain ⟨y, _, h4⟩ := Option.map_eq_some_iff.1 h2
  simp only [Prod.mk.injEq] at h4
  rw [← h4.2]
  unfold Ze
  have : Zf = 4611686018427387904 := rfl
  omega
theorem row_most {T : TreeT} {ns : List Int} {r : RowT} (h : Z9 T ns = some r) : r.n ≤ 4611686018427387904 ∧ r.nodes = ns ∧ ns.length = T.vars.length := by
 unfold Z9 at h
 split at h
 ·rename_i hl
  obtain ⟨cn, h1, h2⟩ := Option.map_eq_some_iff.1 h
  rw [← h2]
  exact ⟨acc_most _ h1, rfl, hl⟩
 ·cases h
def FitsT (T : TreeT) (m : MarkT) : Prop := GoodM m ∧ (m.nodes.length = 0 ∨ ∃ r, Z9 T m.nodes = some r ∧ m.rest < r.n)
def NextIs (T : TreeT) (m : MarkT) (o : Option RowT) (rest : Int) : Prop :=
 (m.over = true → o = none ∧ rest = 0) ∧ (m.over = false → m.nodes.length = 0 → o = (Vu T w0).2 ∧ rest = 0) ∧
 (m.over = false → m.nodes.length ≠ 0 → ∀ r, Z9 T m.nodes = some r → (m.rest + 1 < r.n → o = some r ∧ rest = m.rest + 1) ∧ (¬ m.rest + 1 < r.n → TellsH T o (behN T m.nodes) ∧ rest = 0))
theorem fits_T {T : TreeT} (hT : GoodT T) {tb : Nat} (m : MarkT) (cs : List Value) (H : Hp) (ht : TreeR H (.pointer (some ⟨tb, 0, none⟩)) T) (hm : kMark.rep H m cs) (hb : BigM m) :
    ACalls Tryz.prog 58 #[.pointer (some ⟨tb, 0, none⟩), .agg cs.toArray] H (fun r H' => (∃ g, r = .bool g ∧ (g = true ↔ FitsT T m)) ∧ H.le H') := by
  have hm0 := hm
  obtain ⟨v, w, rfl, hv, hw⟩ := hm
  obtain ⟨A, c, rfl⟩ := hv.shape
  obtain ⟨W, cW, rfl⟩ := hw.shape
  have hbn := hb.n
  refine Xv Tryz.func58 rfl rfl rfl (by simp) ?_
  refine Xe ?_
  refine Xu ?_
  refine X0 (Yt rfl) ?_
  refine Xa (Xm rfl) ?_
  refine Xe ?_
  refine Xe ?_
  refine Xu ?_
  refine Xa (Yg (cs := [.int .i64 _, .bool _, .slice _ _ _, .int .u64 _, .slice _ _ _]) rfl Tryz.underlying33 rfl inf33.size X6) ?_
  refine Xx (Xy (good_36 m _ _ (kMark.mono (H.le_push _).sees hm0) hb) rfl Tryz.func75 rfl rfl rfl ?_)
  rintro v8 H1 ⟨⟨g, rfl, hg⟩, hH1⟩; subst hH1
  refine Xa (Z0 rfl) ?_
  refine Xa (Xo rfl) ?_
  refine X7 rfl rfl rfl ?_ ?_
  intro hg1
  have hgf : g = false := by have h := hg1; simpa using h
  refine Xb (Xg rfl rfl rfl hg1 rfl) ?_
  refine Xb (Xg rfl rfl rfl hg1 rfl) ?_
  refine Xb (Xg rfl rfl rfl hg1 rfl) ?_
  refine Xb (Xg rfl rfl rfl hg1 rfl) ?_
  refine Xa (Xk (Yv hg1) rfl) ?_
  refine Yu rfl rfl ?_
  refine Xe ?_
  refine Xu ?_
  refine Xa (Yg (cs := [.int .i64 _, .bool _, .slice _ _ _, .int .u64 _, .slice _ _ _]) rfl Tryz.underlying33 rfl inf33.size X6) ?_
  refine Xx (Xy (good_36 m _ _ (kMark.mono (H.le_push _).sees hm0) hb) rfl Tryz.func75 rfl rfl rfl ?_)
  rintro v17 H1 ⟨⟨g2, rfl, hg2⟩, hH1⟩; subst hH1
  refine Xa (Xm rfl) ?_
  refine X1 ?_
  refine ⟨_, Xw (Xt rfl), ⟨g2, rfl, ?_⟩, H.le_push _⟩
  first
    | exact ⟨fun h => ⟨hg2.1 h, .inl hn0⟩, fun h => hg2.2 h.1⟩
    | exact ⟨fun h => (by have := hg.2 (hg2.1 h); rw [hgf] at this; cases this), fun h => hg2.2 h.1⟩
  intro hg1
  have hgt : g = true := by have h := hg1; simpa using h
  have hn12 := (hg.1 hgt).n
  refine Xi (Xh rfl rfl rfl hg1) (Xf (off := 2) rfl Tryz.underlying33 rfl inf23.size (by decide) rfl) ?_
  refine Xi (Xh rfl rfl rfl hg1) (Xj rfl Tryz.underlying23 rfl Xp) ?_
  refine Xi (Xh rfl rfl rfl hg1) (Yp rfl Tryz.underlying23) ?_
  refine Xi (Xh rfl rfl rfl hg1) (Zr rfl rfl) ?_
  refine Xa (Xk (Yv hg1) rfl) ?_
  refine X5 rfl rfl ?_ ?_
  intro hc3
  have hn0 : m.nodes.length = 0 := by have := of_decide_eq_true hc3; omega
  refine Xe ?_
  refine Xu ?_
  refine Xa (Yg (cs := [.int .i64 _, .bool _, .slice _ _ _, .int .u64 _, .slice _ _ _]) rfl Tryz.underlying33 rfl inf33.size X6) ?_
  refine Xx (Xy (good_36 m _ _ (kMark.mono (H.le_push _).sees hm0) hb) rfl Tryz.func75 rfl rfl rfl ?_)
  rintro v17 H1 ⟨⟨g2, rfl, hg2⟩, hH1⟩; subst hH1
  refine Xa (Xm rfl) ?_
  refine X1 ?_
  refine ⟨_, Xw (Xt rfl), ⟨g2, rfl, ?_⟩, H.le_push _⟩
  first
    | exact ⟨fun h => ⟨hg2.1 h, .inl hn0⟩, fun h => hg2.2 h.1⟩
    | exact ⟨fun h => (by have := hg.2 (hg2.1 h); rw [hgf] at this; cases this), fun h => hg2.2 h.1⟩
  intro hc3
  have hn0 : ¬ m.nodes.length = 0 := by have := of_decide_eq_false hc3; omega
  refine Ya ?_
  refine Xe ?_
  refine Xu ?_
  refine Xa (Xz rfl) ?_
  refine Xa (Xf (off := 2) rfl Tryz.underlying33 rfl inf23.size (by decide) rfl) ?_
  refine Xa (Xj rfl Tryz.underlying23 rfl Xp) ?_
  refine Xx (Xy (Row_rowT (ht.mono (H.le_push _)) hT (hv.mono (H.le_push _).sees) (by omega)) rfl Tryz.func72 rfl rfl rfl ?_)
  rintro v22 H2 ⟨G2, A2, c2, le2, rfl, hown2⟩; have le12 := Hp.le_trans le2 hown2.le; have z2 := le12.1; simp only [Hp.push_size] at z2; have g20 := Xr le12 (by simp) (by intro e; cases e) (Hp.push_new H (.own 0 [.int .i64 m.told, .bool m.over, .slice A m.nodes.length c, .int .u64 m.rest, .slice W m.items.length cW]))
  refine Xa (Zl rfl) ?_
  refine Xa (Ym rfl rfl) ?_
  refine Xa (Ym rfl rfl) ?_
  refine X0 (Yy (l := [.slice none 0 0, .int .i64 0, .int .u64 0]) inf46.zero rfl (by decide)) ?_
  refine Xx (Yf (vs := [.slice _ _ _, .int .i64 _, .int .u64 _]) rfl rfl inf46.size Yb Yd rfl rfl ?_)
  refine Xa (Xm rfl) ?_
  refine Xe ?_
  refine Xu ?_
  refine Xa (Xo rfl) ?_
  refine Xa (Xo rfl) ?_
  refine X7 rfl rfl rfl ?_ ?_
  intro hg4
  have hok : (Z9 T m.nodes).isSome = true := hg4
  obtain ⟨r, hr⟩ := Option.isSome_iff_exists.1 hok
  refine Xi (Xh rfl rfl rfl hg4) (Xf (off := 3) rfl Tryz.underlying33 rfl inf30.size (by decide) rfl) ?_
  refine Xi (Xh rfl rfl rfl hg4) (Xj rfl Tryz.underlying30 rfl Xp) ?_
  refine Xi (Xh rfl rfl rfl hg4) (Xf (off := 2) rfl Tryz.underlying46 rfl inf30.size (by decide) rfl) ?_
  refine Xi (Xh rfl rfl rfl hg4) (Xj rfl Tryz.underlying30 rfl Xp) ?_
  refine Xi (Xh rfl rfl rfl hg4) (Y5 rfl rfl) ?_
  refine Xa (Xk (Yv hg4) rfl) ?_
  refine Xa (Xm rfl) ?_
  refine X1 ?_
  · refine ⟨_, Xw (Xt rfl), ⟨_, rfl, ?_⟩, Hp.le_put_new (Hp.le_push' (Hp.le_trans (H.le_push _) le12) _) (by first | omega | (simp; done) | (simp; omega)) _⟩
    first
      | exact ⟨fun h => ⟨hg.1 hgt, .inr ⟨r, hr, by have h2 := of_decide_eq_true h; rw [hr] at h2; exact h2⟩⟩, fun h => decide_eq_true (by
          rcases h.2 with h2 | ⟨r2, h2, h3⟩
          · exact absurd h2 hn0
          · rw [h2]; exact h3)⟩
      | exact ⟨fun h => (by cases h), fun h => (by
          rcases h.2 with h2 | ⟨r2, h2, h3⟩
          · exact absurd h2 hn0
          · rw [hr] at h2; cases h2)⟩
  intro hg4
  have hok : (Z9 T m.nodes).isSome = false := hg4
  have hr : Z9 T m.nodes = none := by cases h : Z9 T m.nodes with | none => rfl | some r => rw [h] at hok; cases hok
  refine Xb (Xg rfl rfl rfl hg4 rfl) ?_
  refine Xb (Xg rfl rfl rfl hg4 rfl) ?_
  refine Xb (Xg rfl rfl rfl hg4 rfl) ?_
  refine Xb (Xg rfl rfl rfl hg4 rfl) ?_
  refine Xb (Xg rfl rfl rfl hg4 rfl) ?_
  refine Xa (Xk (Yv hg4) rfl) ?_
  refine Xa (Xm rfl) ?_
  refine X1 ?_
  · refine ⟨_, Xw (Xt rfl), ⟨_, rfl, ?_⟩, Hp.le_put_new (Hp.le_push' (Hp.le_trans (H.le_push _) le12) _) (by first | omega | (simp; done) | (simp; omega)) _⟩
    first
      | exact ⟨fun h => ⟨hg.1 hgt, .inr ⟨r, hr, by have h2 := of_decide_eq_true h; rw [hr] at h2; exact h2⟩⟩, fun h => decide_eq_true (by
          rcases h.2 with h2 | ⟨r2, h2, h3⟩
          · exact absurd h2 hn0
          · rw [h2]; exact h3)⟩
      | exact ⟨fun h => (by cases h), fun h => (by
          rcases h.2 with h2 | ⟨r2, h2, h3⟩
          · exact absurd h2 hn0
          · rw [hr] at h2; cases h2)⟩
theorem Fits_T {T : TreeT} (hT : GoodT T) {tb : Nat} (m : MarkT) (cs : List Value) (H : Hp) (ht : TreeR H (.pointer (some ⟨tb, 0, none⟩)) T) (hm : kMark.rep H m cs) (hb : BigM m) :
  ACalls Tryz.prog 18 #[.pointer (some ⟨tb, 0, none⟩), .agg cs.toArray] H (fun r H' => (∃ g, r = .bool g ∧ (g = true ↔ FitsT T m)) ∧ H.le H') := by
 have hm0 := hm
 obtain ⟨v, w, rfl, hv, hw⟩ := hm
 obtain ⟨A, c, rfl⟩ := hv.shape
 obtain ⟨W, cW, rfl⟩ := hw.shape
 refine Xv Tryz.func18 rfl rfl rfl (by simp) ?_
 refine Xe ?_
 refine Xu ?_
 refine X0 (Yt rfl) ?_
 refine Xa (Xm rfl) ?_
 refine Xe ?_
 refine Xu ?_
 refine Xa (Xz rfl) ?_
 refine Xa (Yg (cs := [.int .i64 _, .bool _, .slice _ _ _, .int .u64 _, .slice _ _ _]) rfl Tryz.underlying33 rfl inf33.size X6) ?_
 refine Xx (Xy (fits_T hT m _ _ (ht.mono (H.le_push _)) (kMark.mono (H.le_push _).sees hm0) hb) rfl Tryz.func58 rfl rfl rfl ?_)
 rintro v7 H1 ⟨⟨g, rfl, hg⟩, le1⟩
 refine Xa (Xm rfl) ?_
 refine X1 ?_
 exact ⟨_, Xw (Xt rfl), ⟨g, rfl, hg⟩, Hp.le_trans (H.le_push _) le1⟩
set_option maxHeartbeats 2000000 in
theorem behind_T {T : TreeT} (hT : GoodT T) (hA : Uu T) {tb : Nat} (m : MarkT) (cs : List Value) (H : Hp) (ht : TreeR H (.pointer (some ⟨tb, 0, none⟩)) T) (hm : kMark.rep H m cs) (hf : FitsT T m) (hr0 : 0 ≤ m.rest) :
    ACalls Tryz.prog 59 #[.pointer (some ⟨tb, 0, none⟩), .agg cs.toArray] H (fun r H' => (∃ (o : Option RowT) (rest : Int) (A : Option Addr) (c : Nat), r = .tuple #[.agg #[.slice A (Uv o).length c, .int .i64 (rowC o), .int .u64 (rowM o)], .int .u64 rest, .bool o.isSome] ∧ Sl (Y3 .i64) H' (.slice A (Uv o).length c) (Uv o) ∧ NextIs T m o rest) ∧ H.le H') := by
  obtain ⟨v, w, rfl, hv, hw⟩ := hm
  obtain ⟨A, c, rfl⟩ := hv.shape
  obtain ⟨W, cW, rfl⟩ := hw.shape
  have hn12 := hf.1.n
  refine Xv Tryz.func59 rfl rfl rfl (by simp) ?_
  refine Xe ?_
  refine Xu ?_
  refine X0 (Yt rfl) ?_
  refine X0 (Yy (l := [.slice none 0 0, .int .i64 0, .int .u64 0]) inf46.zero rfl (by decide)) ?_
  refine Xa (Xn rfl) ?_
  refine Xa (Xm rfl) ?_
  refine Xe ?_
  refine Xe ?_
  refine Xu ?_
  refine Xa (Xf (off := 1) rfl Tryz.underlying33 rfl inf4.size (by decide) rfl) ?_
  refine Xa (Xj rfl Tryz.underlying4 rfl Xp) ?_
  refine X5 rfl rfl ?_ ?_
  intro hc1
  have ho : m.over = true := hc1
  refine Xe ?_
  refine Xu ?_
  refine Xa (Y6 (pl := [(0, 1), (1, 1), (2, 1)]) (r := [.slice _ _ _, .int .i64 _, .int .u64 _]) Tryz.underlying46 inf46.zero (by decide) rfl rfl) ?_
  refine Xx (Yf (vs := [.slice _ _ _, .int .i64 _, .int .u64 _]) rfl rfl inf46.size Yb Yd rfl rfl ?_)
  refine Xa (Xn rfl) ?_
  refine Xa (Xm rfl) ?_
  refine X1 ?_
  · exact ⟨_, aresult3 (Yr Xl (Yq (cs := [_, _, _]) Tryz.underlying46 rfl inf46.size X6)) (Xt rfl) (Xt rfl), ⟨none, 0, none, 0, rfl, Sl.nil _ _, fun _ => ⟨rfl, rfl⟩, fun h => (by rw [ho] at h; cases h), fun h => (by rw [ho] at h; cases h)⟩, Hp.le_put_new (Hp.le_push' (H.le_push _) _) (by first | omega | (simp; done) | (simp; omega)) _⟩
  intro hc1
  have ho : m.over = false := hc1
  refine Ya ?_
  refine Xe ?_
  refine Xe ?_
  refine Xu ?_
  refine Xa (Xf (off := 2) rfl Tryz.underlying33 rfl inf23.size (by decide) rfl) ?_
  refine Xa (Xj rfl Tryz.underlying23 rfl Xp) ?_
  refine Xa (Yp rfl Tryz.underlying23) ?_
  refine Xa (Zr rfl rfl) ?_
  refine X5 rfl rfl ?_ ?_
  intro hc2
  have hn0 : m.nodes.length = 0 := by have := of_decide_eq_true hc2; omega
  refine Xe ?_
  refine Xu ?_
  refine Xa (Xz rfl) ?_
  refine Xx (Xy (First_gen hT hA (some ⟨tb, 0, none⟩) w0 (.inl rfl) (fun H => fresh_tree tb H) _ (fun _ => ht.mono t_le)) rfl Tryz.func88 rfl rfl rfl ?_)
  rintro v22 H1 ⟨le1, A1, c1', rfl, hs1⟩; have z1 := le1.1; simp only [Hp.push_size] at z1; have g1 : H1.get (H.size + 1) = .own 0 [.slice none 0 0, .int .i64 0, .int .u64 0] := Xr le1 (by simp) (by intro e; cases e) Yb
  refine Xa (Zl rfl) ?_
  refine Xa (Ym rfl rfl) ?_
  refine Xa (Ym rfl rfl) ?_
  refine X0 (Yy (l := [.slice none 0 0, .int .i64 0, .int .u64 0]) inf46.zero rfl (by decide)) ?_
  refine Xx (Yf (vs := [.slice _ _ _, .int .i64 _, .int .u64 _]) rfl rfl inf46.size Yb Yd rfl rfl ?_)
  refine Xa (Xm rfl) ?_
  refine Xe ?_
  refine Xu ?_
  refine Xa (Yg (cs := [.slice _ _ _, .int .i64 _, .int .u64 _]) rfl Tryz.underlying46 rfl inf46.size X6) ?_
  refine Xa (Xo rfl) ?_
  refine Xx (Yf (vs := [.slice _ _ _, .int .i64 _, .int .u64 _]) rfl rfl inf46.size Yb Yd rfl rfl ?_)
  refine Xa (Xn rfl) ?_
  refine Xa (Xm rfl) ?_
  refine X1 ?_
  · refine ⟨_, aresult3 (Yr Xl (Yq (cs := [_, _, _]) Tryz.underlying46 rfl inf46.size X6)) (Xt rfl) (Xt rfl), ⟨_, 0, A1, c1', rfl, ?_, fun h => (by rw [ho] at h; cases h), fun _ _ => ⟨rfl, rfl⟩, fun _ h => absurd hn0 h⟩, Hp.le_put_new (Hp.le_put_new (Hp.le_push' (Hp.le_trans (Hp.le_push' (H.le_push _) _) le1) _) (by first | omega | (simp; done) | (simp; omega)) _) (by first | omega | (simp; done) | (simp; omega)) _⟩
    refine ((hs1.mono (H1.le_push (.own 0 [.slice none 0 0, .int .i64 0, .int .u64 0])).sees).mono (Hp.sees_box (cs := [.slice none 0 0, .int .i64 0, .int .u64 0]) _ (Hp.push_new _ _))).mono (Hp.sees_box (cs := [.slice none 0 0, .int .i64 0, .int .u64 0]) _ ?_)
    rw [Hp.put_other _ _ (by first | omega | (simp; done) | (simp; omega))]
    exact (Hp.push_old _ _ (by first | omega | (simp; done) | (simp; omega))).trans g1
  intro hc2
  have hn0 : ¬ m.nodes.length = 0 := by have := of_decide_eq_false hc2; omega
  obtain ⟨r, hrow, hrr⟩ := hf.2.resolve_left hn0
  obtain ⟨hrm, hrn, hrl⟩ := row_most hrow
  have hwr : IntKind.u64.wrap (m.rest + 1) = m.rest + 1 := wrap_u64a (by omega) (by omega)
  refine Ya ?_
  refine Xe ?_
  refine Xe ?_
  refine Xu ?_
  refine Xa (Xz rfl) ?_
  refine Xa (Xf (off := 2) rfl Tryz.underlying33 rfl inf23.size (by decide) rfl) ?_
  refine Xa (Xj rfl Tryz.underlying23 rfl Xp) ?_
  refine Xx (Xy (Row_rowT (ht.mono t_le) hT (hv.mono Zk) (by omega)) rfl Tryz.func72 rfl rfl rfl ?_)
  rintro v31 H2 ⟨G2, A2, c2, le2, rfl, hown2⟩; rw [hrow] at hown2 ⊢; have le12 := Hp.le_trans le2 hown2.le; have z2 := le12.1; simp only [Hp.push_size] at z2; have sl2 := hown2.sl; have g20 : H2.get H.size = .own 0 [.int .i64 m.told, .bool m.over, .slice A m.nodes.length c, .int .u64 m.rest, .slice W m.items.length cW] := Xr le12 (by simp <;> omega) (by intro e; cases e) Yb; have g21 : H2.get (H.size + 1) = .own 0 [.slice none 0 0, .int .i64 0, .int .u64 0] := Xr le12 (by simp) (by intro e; cases e) Yb; have leH2 : H.le H2 := Hp.le_trans (Hp.le_push' (H.le_push _) _) le12
  refine Xa (Zl rfl) ?_
  refine Xa (Ym rfl rfl) ?_
  refine Xa (Ym rfl rfl) ?_
  refine X0 (Yy (l := [.slice none 0 0, .int .i64 0, .int .u64 0]) inf46.zero rfl (by decide)) ?_
  refine Xx (Yf (vs := [.slice _ _ _, .int .i64 _, .int .u64 _]) rfl rfl inf46.size Yb Yd rfl rfl ?_)
  refine Xa (Xm rfl) ?_
  refine Xe ?_
  obtain ⟨H3, hH3⟩ : ∃ H3, H3 = (H2.push (.own 0 [.slice none 0 0, .int .i64 0, .int .u64 0])).put H2.size (.own 0 [.slice A2 (Uv (some r)).length c2, .int .i64 (rowC (some r)), .int .u64 (rowM (some r))]) := ⟨_, rfl⟩
  have le23 : H2.le H3 := by rw [hH3]; exact Hp.le_put_new (H2.le_push _) (Nat.le_refl _) _
  have g3 : H3.get H2.size = .own 0 [.slice A2 (Uv (some r)).length c2, .int .i64 (rowC (some r)), .int .u64 (rowM (some r))] := by rw [hH3]; exact Hp.put_same _ _ _
  have z3 : H3.size = H2.size + 1 := by rw [hH3]; simp
  change ACode true _ _ _ _ _ ((H2.push (.own 0 [.slice none 0 0, .int .i64 0, .int .u64 0])).put H2.size (.own 0 [.slice A2 (Uv (some r)).length c2, .int .i64 (rowC (some r)), .int .u64 (rowM (some r))]))
  rw [← hH3]
  clear hH3
  have g30 := Xr le23 (by omega) (by intro e; cases e) g20
  have g31 := Xr le23 (by omega) (by intro e; cases e) g21
  have sl3 := sl2.mono le23.sees
  have leH3 := Hp.le_trans leH2 le23
  refine Xu ?_
  refine Xa (Xf (off := 3) rfl Tryz.underlying33 rfl inf30.size (by decide) rfl) ?_
  refine Xa (Xj rfl Tryz.underlying30 rfl Xp) ?_
  refine Xa (av_addn_is hwr rfl rfl) ?_
  refine Xa (Xf (off := 2) rfl Tryz.underlying46 rfl inf30.size (by decide) rfl) ?_
  refine Xa (Xj rfl Tryz.underlying30 rfl Xp) ?_
  refine Xa (Y5 rfl rfl) ?_
  refine X5 rfl rfl ?_ ?_
  intro hc3
  have hlt : m.rest + 1 < r.n := of_decide_eq_true hc3
  refine Xe ?_
  refine Yw (by kernel_rfl) (Y1 (B := [0, 0, 2, 6, 1, 31, 63]) (π := [0, 1, 2, 3, 4, 5, 6]) (by kernel_rfl)) ?_
  refine Xd rfl rfl (Yg (cs := [.slice _ _ _, .int .i64 _, .int .u64 _]) rfl Tryz.underlying46 rfl inf46.size X6) Xq ?_
  refine Xd rfl rfl (Xf (off := 3) rfl Tryz.underlying33 rfl inf30.size (by decide) rfl) Xq ?_
  refine Xd rfl rfl (Xj rfl Tryz.underlying30 rfl Xp) Xq ?_
  refine Xd rfl rfl (av_addn_is hwr rfl rfl) Xq ?_
  refine Yk rfl rfl (Yf (vs := [.slice _ _ _, .int .i64 _, .int .u64 _]) rfl rfl inf46.size Yb Yd rfl rfl ?_)
  refine ⟨Ye, ?_⟩
  refine Xd rfl rfl (Xn rfl) Xq ?_
  refine Xd rfl rfl (Xm rfl) Xq ?_
  refine X1 ?_
  · exact ⟨_, aresult3 (Yr Xl (Yq (cs := [_, _, _]) Tryz.underlying46 rfl inf46.size X6)) (Xt rfl) (Xt rfl), ⟨some r, m.rest + 1, A2, c2, rfl, sl3.mono (Hp.sees_box _ g31), fun h => (by rw [ho] at h; cases h), fun _ h => absurd h hn0, fun _ _ r' hr' => (by
      rw [hrow] at hr'
      injection hr' with hr'
      subst hr'
      exact ⟨fun _ => ⟨rfl, rfl⟩, fun h => absurd hlt h⟩)⟩, Hp.le_put_new leH3 (by first | omega | (simp; done) | (simp; omega)) _⟩
  intro hc3
  have hlt : ¬ m.rest + 1 < r.n := of_decide_eq_false hc3
  refine Ya ?_
  refine Xe ?_
  refine Xu ?_
  refine Xa (Xz rfl) ?_
  refine Xa (Xf (off := 2) rfl Tryz.underlying33 rfl inf23.size (by decide) rfl) ?_
  refine Xa (Xj rfl Tryz.underlying23 rfl Xp) ?_
  refine Xx (Xy (Behind_walk hT hA (ht.mono leH3) (hv.mono leH3.sees) (by omega)) rfl Tryz.func89 rfl rfl rfl ?_)
  rintro v48 H4 ⟨le4, o, ho1, ho2, A4, c4, rfl, sl4⟩; have z4 := le4.1; have g41 := Xr le4 (by omega) (by intro e; cases e) g31; have leH4 := Hp.le_trans leH3 le4
  refine Xa (Zl rfl) ?_
  refine Xa (Ym rfl rfl) ?_
  refine Xa (Ym rfl rfl) ?_
  refine X0 (Yy (l := [.slice none 0 0, .int .i64 0, .int .u64 0]) inf46.zero rfl (by decide)) ?_
  refine Xx (Yf (vs := [.slice _ _ _, .int .i64 _, .int .u64 _]) rfl rfl inf46.size Yb Yd rfl rfl ?_)
  refine Xa (Xm rfl) ?_
  refine Xe ?_
  refine Xu ?_
  refine Xa (Yg (cs := [.slice _ _ _, .int .i64 _, .int .u64 _]) rfl Tryz.underlying46 rfl inf46.size X6) ?_
  refine Xa (Xo rfl) ?_
  refine Xx (Yf (vs := [.slice _ _ _, .int .i64 _, .int .u64 _]) rfl rfl inf46.size Yb Yd rfl rfl ?_)
  refine Xa (Xn rfl) ?_
  refine Xa (Xm rfl) ?_
  refine X1 ?_
  · refine ⟨_, aresult3 (Yr Xl (Yq (cs := [_, _, _]) Tryz.underlying46 rfl inf46.size X6)) (Xt rfl) (Xt rfl), ⟨o, 0, A4, c4, rfl, ?_, fun h => (by rw [ho] at h; cases h), fun _ h => absurd h hn0, fun _ _ r' hr' => ?_⟩, Hp.le_put_new (Hp.le_put_new (Hp.le_push' leH4 _) (by first | omega | (simp; done) | (simp; omega)) _) (by first | omega | (simp; done) | (simp; omega)) _⟩
    · refine ((sl4.mono (H4.le_push (.own 0 [.slice none 0 0, .int .i64 0, .int .u64 0])).sees).mono (Hp.sees_box (cs := [.slice none 0 0, .int .i64 0, .int .u64 0]) _ (Hp.push_new _ _))).mono (Hp.sees_box (cs := [.slice none 0 0, .int .i64 0, .int .u64 0]) _ ?_)
      rw [Hp.put_other _ _ (by first | omega | (simp; done) | (simp; omega))]
      exact (Hp.push_old _ _ (by first | omega | (simp; done) | (simp; omega))).trans g41
    · rw [hrow] at hr'
      injection hr' with hr'
      subst hr'
      exact ⟨fun h => absurd h hlt, fun _ => ⟨ho1 hrl, rfl⟩⟩
set_option maxHeartbeats 2000000 in
theorem Next_T {T : TreeT} (hT : GoodT T) (hA : Uu T) {tb : Nat} (m : MarkT) (cs : List Value) (H : Hp) (ht : TreeR H (.pointer (some ⟨tb, 0, none⟩)) T) (hm : kMark.rep H m cs) (hb : BigM m) (hr0 : 0 ≤ m.rest) :
  ACalls Tryz.prog 17 #[.pointer (some ⟨tb, 0, none⟩), .agg cs.toArray] H (fun r H' => (∃ (o : Option RowT) (rest : Int) (A : Option Addr) (c : Nat) (x : MarkT) (B : Option Addr) (k : Nat), r = .tuple #[.agg #[.slice A (Uv o).length c, .int .i64 (rowC o), .int .u64 (rowM o)], .agg #[.int .i64 x.told, .bool x.over, .slice B x.nodes.length k, .int .u64 x.rest, .slice none 0 0], .bool o.isSome] ∧ Sl (Y3 .i64) H' (.slice A (Uv o).length c) (Uv o) ∧ Sl (Y3 .i64) H' (.slice B x.nodes.length k) x.nodes ∧
   (¬ FitsT T m → o = none ∧ x = startM) ∧ (FitsT T m → NextIs T m o rest ∧ (o = none → x = ⟨m.told, true, [], 0, []⟩) ∧ ∀ r, o = some r → x = ⟨(if 9007199254740992 < m.told + 1 then 9007199254740992 else m.told + 1), false, r.nodes, rest, []⟩)) ∧ H.le H') := by
 have hm0 := hm
 obtain ⟨v, w, rfl, hv, hw⟩ := hm
 obtain ⟨A, c, rfl⟩ := hv.shape
 obtain ⟨W, cW, rfl⟩ := hw.shape
 refine Xv Tryz.func17 rfl rfl rfl (by simp) ?_
 refine Xe ?_
 refine Xu ?_
 refine X0 (Yt rfl) ?_
 refine X0 (Yy (l := [.slice none 0 0, .int .i64 0, .int .u64 0]) inf46.zero rfl (by decide)) ?_
 refine X0 (Yy (l := [.int .i64 0, .bool false, .slice none 0 0, .int .u64 0, .slice none 0 0]) inf33.zero rfl (by decide)) ?_
 refine Xa (Xm rfl) ?_
 refine Xe ?_
 refine Xe ?_
 refine Xu ?_
 refine Xa (Xz rfl) ?_
 refine Xa (Yg (cs := [.int .i64 _, .bool _, .slice _ _ _, .int .u64 _, .slice _ _ _]) rfl Tryz.underlying33 rfl inf33.size X6) ?_
 refine Xx (Xy (fits_T hT m _ _ (ht.mono t_le) (kMark.mono Zk hm0) hb) rfl Tryz.func58 rfl rfl rfl ?_)
 rintro v12 H1 ⟨⟨g, rfl, hg⟩, le1⟩; have z1 := le1.1; simp only [Hp.push_size] at z1; have g10 : H1.get H.size = .own 0 [.int .i64 m.told, .bool m.over, .slice A m.nodes.length c, .int .u64 m.rest, .slice W m.items.length cW] := Xr le1 (by simp <;> omega) (by intro e; cases e) Yb; have g11 : H1.get (H.size + 1) = .own 0 [.slice none 0 0, .int .i64 0, .int .u64 0] := Xr le1 (by simp <;> omega) (by intro e; cases e) Yb; have g12 : H1.get (H.size + 1 + 1) = .own 0 [.int .i64 0, .bool false, .slice none 0 0, .int .u64 0, .slice none 0 0] := Xr le1 (by simp <;> omega) (by intro e; cases e) Yb; have leH1 : H.le H1 := Hp.le_trans (Hp.le_push' (Hp.le_push' (H.le_push _) _) _) le1
 refine Xa (Z0 rfl) ?_
 refine X5 rfl rfl ?_ ?_
 intro hc1
 have hno : ¬ FitsT T m := fun h => by have h2 := hc1; rw [hg.2 h] at h2; cases h2
 refine Xe ?_
 refine Xu ?_
 refine Xa (Y6 (pl := [(0, 1), (1, 1), (2, 1)]) (r := [.slice _ _ _, .int .i64 _, .int .u64 _]) Tryz.underlying46 inf46.zero (by decide) rfl rfl) ?_
 refine Xa (Y6 (pl := [(0, 1), (1, 1), (2, 1), (3, 1), (4, 1)]) (r := [.int .i64 _, .bool _, .slice _ _ _, .int .u64 _, .slice _ _ _]) Tryz.underlying33 inf33.zero (by decide) rfl rfl) ?_
 refine Xx (Yf (vs := [.slice _ _ _, .int .i64 _, .int .u64 _]) rfl rfl inf46.size Yb Yd rfl rfl ?_)
 refine Xx (Yf (vs := [.int .i64 _, .bool _, .slice _ _ _, .int .u64 _, .slice _ _ _]) rfl rfl inf33.size Yb Yd rfl rfl ?_)
 refine Xa (Xm rfl) ?_
 refine X1 ?_
 ·exact ⟨_, aresult3 (Yr Xl (Yq (cs := [_, _, _]) Tryz.underlying46 rfl inf46.size X6)) (Yr Xl (Yq (cs := [_, _, _, _, _]) Tryz.underlying33 rfl inf33.size X6)) (Xt rfl), ⟨none, 0, none, 0, startM, none, 0, rfl, Sl.nil _ _, Sl.nil _ _, fun _ => ⟨rfl, rfl⟩, fun h => absurd h hno⟩, Hp.le_put_new (Hp.le_put_new leH1 (by first | omega | (simp; done) | (simp; omega)) _) (by first | omega | (simp; done) | (simp; omega)) _⟩
 intro hc1
 have hyes : FitsT T m := hg.1 (by have h := hc1; simpa using h)
 have htold := hyes.1.t1
 have htold0 := hyes.1.t0
 refine Ya ?_
 refine Xe ?_
 refine Xu ?_
 refine Xa (Xz rfl) ?_
 refine Xa (Yg (cs := [.int .i64 _, .bool _, .slice _ _ _, .int .u64 _, .slice _ _ _]) rfl Tryz.underlying33 rfl inf33.size X6) ?_
 refine Xx (Xy (behind_T hT hA m _ _ (ht.mono leH1) (kMark.mono leH1.sees hm0) hyes hr0) rfl Tryz.func59 rfl rfl rfl ?_)
 rintro v19 H2 ⟨⟨o, rest, A2, c2, rfl, sl2, hnx⟩, le2⟩; have z2 := le2.1; have g20 := Xr le2 (by omega) (by intro e; cases e) g10; have g21 := Xr le2 (by omega) (by intro e; cases e) g11; have g22 := Xr le2 (by omega) (by intro e; cases e) g12; have leH2 := Hp.le_trans leH1 le2
 refine Xa (Zl rfl) ?_
 refine Xa (Ym rfl rfl) ?_
 refine Xa (Ym rfl rfl) ?_
 refine Xa (Ym rfl rfl) ?_
 refine X0 (Yy (l := [.slice none 0 0, .int .i64 0, .int .u64 0]) inf46.zero rfl (by decide)) ?_
 refine Xx (Yf (vs := [.slice _ _ _, .int .i64 _, .int .u64 _]) rfl rfl inf46.size Yb Yd rfl rfl ?_)
 refine Xa (Xn rfl) ?_
 refine Xa (Xm rfl) ?_
 refine Xe ?_
 refine Xe ?_
 obtain ⟨H3, hH3⟩ : ∃ H3, H3 = (H2.push (.own 0 [.slice none 0 0, .int .i64 0, .int .u64 0])).put H2.size (.own 0 [.slice A2 (Uv o).length c2, .int .i64 (rowC o), .int .u64 (rowM o)]) := ⟨_, rfl⟩
 have le23 : H2.le H3 := by rw [hH3]; exact Hp.le_put_new (H2.le_push _) (Nat.le_refl _) _
 have g3 : H3.get H2.size = .own 0 [.slice A2 (Uv o).length c2, .int .i64 (rowC o), .int .u64 (rowM o)] := by rw [hH3]; exact Hp.put_same _ _ _
 have z3 : H3.size = H2.size + 1 := by rw [hH3]; simp
 change ACode true _ _ _ _ _ ((H2.push (.own 0 [.slice none 0 0, .int .i64 0, .int .u64 0])).put H2.size (.own 0 [.slice A2 (Uv o).length c2, .int .i64 (rowC o), .int .u64 (rowM o)]))
 rw [← hH3]
 clear hH3
 have g30 := Xr le23 (by omega) (by intro e; cases e) g20
 have g31 := Xr le23 (by omega) (by intro e; cases e) g21
 have g32 := Xr le23 (by omega) (by intro e; cases e) g22
 have sl3 := sl2.mono le23.sees
 have leH3 := Hp.le_trans leH2 le23
 refine Xu ?_
 refine Xa (Xo rfl) ?_
 refine Xa (Z0 rfl) ?_
 refine X5 rfl rfl ?_ ?_
 intro hc2
 obtain rfl : o = none := by cases o with | none => rfl | some r => exact absurd hc2 (by simp)
 refine Xe ?_
 refine Yw (by kernel_rfl) (Y1 (B := [0, 0, 2, 6, 1, 31, 63]) (π := [0, 1, 2, 3, 4, 5, 6]) (by kernel_rfl)) ?_
 refine Xd rfl rfl (Y6 (pl := [(0, 1), (1, 1), (2, 1)]) (r := [.slice _ _ _, .int .i64 _, .int .u64 _]) Tryz.underlying46 inf46.zero (by decide) rfl rfl) Xq ?_
 refine Xd rfl rfl (Xf (off := 0) rfl Tryz.underlying33 rfl inf3.size (by decide) rfl) Xq ?_
 refine Xd rfl rfl (Xj rfl Tryz.underlying3 rfl Xp) Xq ?_
 refine Xd rfl rfl (Y6 (pl := [(0, 1), (1, 1), (2, 1), (3, 1), (4, 1)]) (r := [.int .i64 _, .bool _, .slice _ _ _, .int .u64 _, .slice _ _ _]) Tryz.underlying33 inf33.zero (by decide) rfl rfl) Xq ?_
 refine Yk rfl rfl (Yf (vs := [.slice _ _ _, .int .i64 _, .int .u64 _]) rfl rfl inf46.size Yb Yd rfl rfl ?_)
 refine ⟨Ye, ?_⟩
 refine Yk rfl rfl (Yf (vs := [.int .i64 _, .bool _, .slice _ _ _, .int .u64 _, .slice _ _ _]) rfl rfl inf33.size Yb Yd rfl rfl ?_)
 refine ⟨Ye, ?_⟩
 refine Xd rfl rfl (Xm rfl) Xq ?_
 refine X1 ?_
 ·exact ⟨_, aresult3 (Yr Xl (Yq (cs := [_, _, _]) Tryz.underlying46 rfl inf46.size X6)) (Yr Xl (Yq (cs := [_, _, _, _, _]) Tryz.underlying33 rfl inf33.size X6)) (Xt rfl), ⟨none, rest, none, 0, ⟨m.told, true, [], 0, []⟩, none, 0, rfl, Sl.nil _ _, Sl.nil _ _, fun h => absurd hyes h, fun _ => ⟨hnx, fun _ => rfl, fun r h => (by cases h)⟩⟩, Hp.le_put_new (Hp.le_put_new leH3 (by first | omega | (simp; done) | (simp; omega)) _) (by first | omega | (simp; done) | (simp; omega)) _⟩
 intro hc2
 obtain ⟨r, rfl⟩ : ∃ r, o = some r := by cases o with | none => exact absurd hc2 (by simp) | some r => exact ⟨r, rfl⟩
 have hnl : r.nodes.length ≤ 1000000000 := by
  rcases Nat.lt_or_ge 1000000000 r.nodes.length with h | h
  ·exfalso
   have hfew := hT.few
   have hrl : r.nodes.length = T.vars.length := by
    cases ho : m.over with
    | true => exact absurd (hnx.1 ho).1 (by simp)
    | false =>
     by_cases hn0 : m.nodes.length = 0
     ·have h1 := (hnx.2.1 ho hn0).1
      have h2 := (next_tells hT hA _ w0 (val_w0 T) (Nat.le_refl _)).2.1
      rw [← h1] at h2
      have h3 : Vd T w0 = r.nodes :: _ ∧ Z9 T r.nodes = some r := h2
      exact (row_most h3.2).2.2
     ·obtain ⟨q, hq, _⟩ := hyes.2.resolve_left hn0
      obtain ⟨h1, h2⟩ := hnx.2.2 ho hn0 q hq
      by_cases hlt : m.rest + 1 < q.n
      ·have h3 := (h1 hlt).1
       injection h3 with h3
       rw [h3]
       have h4 := row_most hq
       rw [h4.2.1]; exact h4.2.2
      ·have h3 := (h2 hlt).1.2 r rfl
       exact (row_most h3).2.2
   omega
  ·exact h
 refine Ya ?_
 refine Xe ?_
 refine Yw (by kernel_rfl) (Y1 (B := [0, 0, 2, 6, 14, 0, 32, 96, 0, 510, 225, 2047, 4095]) (π := [0, 1, 2, 3, 4, 5, 6, 8, 7, 9, 10, 11, 12]) (by kernel_rfl)) ?_
 refine Xd rfl rfl (Yg (cs := [.slice _ _ _, .int .i64 _, .int .u64 _]) rfl Tryz.underlying46 rfl inf46.size X6) Xq ?_
 refine Xd rfl rfl (Xf (off := 0) rfl Tryz.underlying33 rfl inf3.size (by decide) rfl) Xq ?_
 refine Xd rfl rfl (Xj rfl Tryz.underlying3 rfl Xp) Xq ?_
 refine Xd rfl rfl (Yo rfl rfl Y0) Xq ?_
 refine Xd rfl rfl (av_min2 rfl rfl) Xq ?_
 refine Xd rfl rfl (Xf (off := 0) rfl Tryz.underlying46 rfl inf23.size (by decide) rfl) Xq ?_
 refine Xd rfl rfl (Xj rfl Tryz.underlying23 rfl Xp) Xq ?_
 refine Xd rfl rfl (Xc rfl) Xq ?_
 refine Yk rfl rfl (Xy (Clone_ints r.nodes _ _ sl3 hnl) rfl Tryz.func60 rfl rfl rfl ?_)
 rintro v36 H4 ⟨le4, sl4⟩; have z4 := le4.1; have g41 := Xr le4 (by omega) (by intro e; cases e) g31; have g42 := Xr le4 (by omega) (by intro e; cases e) g32; have leH4 := Hp.le_trans leH3 le4; obtain ⟨A4, c4, rfl⟩ := sl4.shape; have sl34 := sl3.mono le4.sees; have hsame : ∀ b ∈ [H2.size], H4.get b = H3.get b := (fun b hb => by rw [List.mem_singleton] at hb; subst hb; exact le4.2 _ (by omega) (by rw [g3]; intro e; cases e))
 refine ⟨Ye, ?_⟩
 refine Xd rfl rfl (Y6 (pl := [(0, 1), (1, 1), (2, 1), (3, 1), (4, 1)]) (r := [.int .i64 _, .bool _, .slice _ _ _, .int .u64 _, .slice _ _ _]) Tryz.underlying33 inf33.zero (by decide) rfl rfl) Xq ?_
 refine Yk rfl rfl (Yf (vs := [.slice _ _ _, .int .i64 _, .int .u64 _]) rfl rfl inf46.size Yb Yd rfl rfl ?_)
 refine ⟨Ye, ?_⟩
 refine Yk rfl rfl (Yf (vs := [.int .i64 _, .bool _, .slice _ _ _, .int .u64 _, .slice _ _ _]) rfl rfl inf33.size Yb Yd rfl rfl ?_)
 refine ⟨Ye, ?_⟩
 refine Xd rfl rfl (Xm rfl) Xq ?_
 refine X1 ?_
 ·refine ⟨_, aresult3 (Yr Xl (Yq (cs := [_, _, _]) Tryz.underlying46 rfl inf46.size X6)) (Yr Xl (Yq (cs := [_, _, _, _, _]) Tryz.underlying33 rfl inf33.size X6)) (Xt rfl), ?_⟩
  refine ⟨⟨some r, rest, A2, c2, ⟨(if 9007199254740992 < m.told + 1 then 9007199254740992 else m.told + 1), false, r.nodes, rest, []⟩, A4, c4, rfl, ?_, ?_, fun h => absurd hyes h, fun _ => ⟨hnx, fun h => (by cases h), fun r' h => (by injection h with h; rw [h])⟩⟩, Hp.le_put_new (Hp.le_put_new leH4 (by first | omega | (simp; done) | (simp; omega)) _) (by first | omega | (simp; done) | (simp; omega)) _⟩
  ·exact (sl34.mono (Hp.sees_box _ g41)).mono (Hp.sees_box (cs := [.int .i64 0, .bool false, .slice none 0 0, .int .u64 0, .slice none 0 0]) _ (by rw [Hp.put_other _ _ (by first | omega | (simp; done) | (simp; omega))]; exact g42))
  ·exact (sl4.mono (Hp.sees_box _ g41)).mono (Hp.sees_box (cs := [.int .i64 0, .bool false, .slice none 0 0, .int .u64 0, .slice none 0 0]) _ (by rw [Hp.put_other _ _ (by first | omega | (simp; done) | (simp; omega))]; exact g42))
def oneF : Forest := apartF 1
def oneP : Parts := apartP 2 [2]
def oneT : TreeT := ⟨[⟨#[120]⟩], [-1], [[⟨0, 0, 0, 2⟩, ⟨1, 1, 1, 2⟩]]⟩
theorem good_one : GoodP oneF oneP := by
 refine ⟨⟨rfl, rfl, rfl, rfl, fun i hi => ?_⟩, rfl, rfl, fun v hv => ?_⟩
 ·have hi' : i < 1 := hi
  obtain rfl : i = 0 := by omega
  unfold OkF; decide
 ·have hv' : v < 1 := hv
  obtain rfl : v = 0 := by omega
  unfold OkP; rw [Vw, Vw]; unfold OkL; decide
theorem small_one : Small oneF oneP := ⟨by decide, by decide, by decide, by decide, by decide, by decide, by decide⟩
theorem cheap_one : Cheap oneP := by
 refine ⟨fun v => ?_, fun v => ?_⟩
 ·match v with
  | 0 => decide
  | v + 1 => intro x hx; cases hx
 ·match v with
  | 0 => decide
  | v + 1 => intro x hx; cases hx
theorem of_one : ofP oneF oneP = oneP := by
 refine ofP_fix good_one.gf good_one.lens good_one.nb (fun v hv hp => ?_) (fun h => ?_)
 ·have hv' : v < 1 := hv
  obtain rfl : v = 0 := by omega
  exact absurd rfl hp
 ·have : oneF.order.any (Vt oneF oneP) = false := by decide
  rw [this] at h; cases h
theorem tree_one : Zd oneF (ofP oneF oneP) = oneT := by rw [of_one]; rfl
theorem goodT_one : GoodT oneT := by
 have h := ofP_all good_one
 have := good_tree (ofP_good good_one) (by rw [of_one]; exact small_one) (cheap_one.sub h.2.1) (by decide)
 rwa [tree_one] at this
theorem alive_one : Uu oneT := by have := alive_tree good_one; rwa [tree_one] at this
theorem first_one : (Vu oneT w0).2 = some ⟨[0], 0, 2⟩ := rfl
set_option maxHeartbeats 2000000 in
theorem lives36_ok (H : Hp) : ACalls Tryz.prog 15 #[] H (fun r H' => r = .bool true ∧ H.le H') := by
 refine Xv Tryz.func15 rfl rfl rfl (by simp) ?_
 refine Xe ?_
 refine Xu ?_
 refine Xa (Xm rfl) ?_
 refine Xe ?_
 refine Xu ?_
 refine Xx (Xy (Start_36 _) rfl Tryz.func41 rfl rfl rfl ?_)
 rintro v11 H0 ⟨rfl, le0⟩
 refine Xx (Xy (Put_start _) rfl Tryz.func42 rfl rfl rfl ?_)
 rintro v12 H1 ⟨rfl, le1⟩; have leH1 := Hp.le_trans le0 le1
 refine Xa (Zl rfl) ?_
 refine Xa (Ym rfl rfl) ?_
 refine Xa (Ym rfl rfl) ?_
 refine Xa (Zz rfl) ?_
 refine Xa (Xn rfl) ?_
 refine Xe ?_
 refine Xu ?_
 first | refine X0 (Yj (r := [.int .i64 _]) Tryz.underlying23 inf3.size inf3.zero rfl (by decide) (by decide) (by decide) rfl) ?_
 refine Xx (Xy (Apart_ok 2 [2] (.slice (some ⟨H1.size, 0, none⟩) 1 1) _ (sl_one1 (k := Y3 .i64) Yb (by simp) rfl rfl) (by decide) (by decide)) rfl Tryz.func54 rfl rfl rfl ?_)
 rintro v17 H2 ⟨cs1, ds1, rfl, hf1, hp1, hle2⟩; have hf10 := hf1; have hp10 := hp1; obtain ⟨a0, a1, a2, a3, a4, rfl, hs0, hs1, hs2, hs3, hs4⟩ := hf1; obtain ⟨A0, c0, rfl⟩ := hs0.shape; obtain ⟨B1', c1', rfl⟩ := hs1.shape; obtain ⟨A2, c2, rfl⟩ := hs2.shape; obtain ⟨A3, c3, rfl⟩ := hs3.shape; obtain ⟨A4, c4, rfl⟩ := hs4.shape; obtain ⟨u0, u1, rfl, hn0, hn1⟩ := hp1; obtain ⟨B0, d0, rfl⟩ := hn0.shape; obtain ⟨B1, d1, rfl⟩ := hn1.shape; have hz2 := hle2.1; simp only [Hp.push_size] at hz2; have leH2 := Hp.le_trans leH1 (Hp.le_trans (H1.le_push _) hle2)
 refine Xa (Zl rfl) ?_
 refine Xa (Ym rfl rfl) ?_
 refine Xa (Ym rfl rfl) ?_
 refine X0 (Yy (l := [.slice none 0 0, .slice none 0 0, .slice none 0 0, .slice none 0 0, .slice none 0 0]) inf26.zero rfl (by decide)) ?_
 refine X0 (Yy (l := [.slice none 0 0, .slice none 0 0]) inf29.zero rfl (by decide)) ?_
 refine Xx (Yf (vs := [.slice _ _ _, .slice _ _ _, .slice _ _ _, .slice _ _ _, .slice _ _ _]) rfl rfl inf26.size Yb Yd rfl rfl ?_)
 refine Xx (Yf (vs := [.slice _ _ _, .slice _ _ _]) rfl rfl inf29.size Yb Yd rfl rfl ?_)
 refine Xe ?_
 refine Xu ?_
 refine Xa (Yg (cs := [.slice _ _ _, .slice _ _ _, .slice _ _ _, .slice _ _ _, .slice _ _ _]) rfl Tryz.underlying26 rfl inf26.size X6) ?_
 refine Xa (Yg (cs := [.slice _ _ _, .slice _ _ _]) rfl Tryz.underlying29 rfl inf29.size X6) ?_
 refine Xx (Xy (New_good oneF oneP _ _ _ (kForest.mono Zk hf10) (kParts.mono Zk hp10) small_one cheap_one good_one) rfl Tryz.func13 rfl rfl rfl ?_)
 rintro v23 H3 ⟨hle3, tb, rfl, htr⟩; rw [tree_one] at htr
 refine Xa (Zl rfl) ?_
 refine Xa (Ym rfl rfl) ?_
 refine Xa (Ym rfl rfl) ?_
 refine Xa (Zy rfl) ?_
 refine Xa (Xn rfl) ?_
 refine Xe ?_
 have leH3 : H.le H3 := Hp.le_trans leH2 (Hp.le_trans t_le hle3)
 clear hle3
 refine Xu ?_
 refine Xa (Xz rfl) ?_
 refine Xx (Xy (Start_36 _) rfl Tryz.func41 rfl rfl rfl ?_)
 rintro v28 H4 ⟨rfl, le4⟩
 refine Xx (Xy (Next_T goodT_one alive_one startM _ _ (htr.mono le4) (start_rep _) start_big (by decide)) rfl Tryz.func17 rfl rfl rfl ?_)
 rintro v29 H5 ⟨⟨o, rest, A5, k5, x, B5, k6, rfl, sl5, sx5, _, hnx⟩, le5⟩; obtain ⟨hn1, hn2, hn3⟩ := hnx ⟨start_good, .inl rfl⟩; have ho1 := (hn1.2.1 rfl rfl).1; rw [first_one] at ho1; subst ho1; have hx := hn3 _ rfl; subst hx; have leH5 := Hp.le_trans leH3 (Hp.le_trans le4 le5); have z5 := leH5.1
 refine Xa (Zl rfl) ?_
 refine Xa (Ym rfl rfl) ?_
 refine Xa (Ym rfl rfl) ?_
 refine Xa (Ym rfl rfl) ?_
 refine X0 (Yy (l := [.slice none 0 0, .int .i64 0, .int .u64 0]) inf46.zero rfl (by decide)) ?_
 refine X0 (Yy (l := [.int .i64 0, .bool false, .slice none 0 0, .int .u64 0, .slice none 0 0]) inf33.zero rfl (by decide)) ?_
 refine Xx (Yf (vs := [.slice _ _ _, .int .i64 _, .int .u64 _]) rfl rfl inf46.size Yb Yd rfl rfl ?_)
 refine Xx (Yf (vs := [.int .i64 _, .bool _, .slice _ _ _, .int .u64 _, .slice _ _ _]) rfl rfl inf33.size Yb Yd rfl rfl ?_)
 refine Xa (Xm rfl) ?_
 refine Xe ?_
 refine Xu ?_
 refine Xa (Xc rfl) ?_
 refine Xa (Zr rfl rfl) ?_
 refine Xa (Xo rfl) ?_
 refine X7 rfl rfl rfl ?_ ?_
 intro hg1
 have hp1 := hg1; try simp only [Ys] at hp1
 refine Xi (Xh rfl rfl rfl hg1) (av_move_str rfl) ?_
 refine Xi (Xh rfl rfl rfl hg1) (av_str_eql rfl rfl) ?_
 refine Xa (Xk (Yv hg1) rfl) ?_
 refine Xa (Xo rfl) ?_
 refine X7 rfl rfl rfl ?_ ?_
 intro hg2
 have hp2 := hg2; try simp only [Ys] at hp2
 refine Xi (Xh rfl rfl rfl hg2) (Xc rfl) ?_
 refine Xi (Xh rfl rfl rfl hg2) (Zr rfl rfl) ?_
 refine Xa (Xk (Yv hg2) rfl) ?_
 refine Xa (Xo rfl) ?_
 refine X7 rfl rfl rfl ?_ ?_
 intro hg3
 have hp3 := hg3; try simp only [Ys] at hp3
 refine Xi (Xh rfl rfl rfl hg3) (Xo rfl) ?_
 refine Xa (Xk (Yv hg3) rfl) ?_
 refine Xa (Xo rfl) ?_
 refine X7 rfl rfl rfl ?_ ?_
 intro hg4
 have hp4 := hg4; try simp only [Ys] at hp4
 refine Xi (Xh rfl rfl rfl hg4) (Xf (off := 2) rfl Tryz.underlying46 rfl inf30.size (by decide) rfl) ?_
 refine Xi (Xh rfl rfl rfl hg4) (Xj rfl Tryz.underlying30 rfl Xp) ?_
 refine Xi (Xh rfl rfl rfl hg4) (Zr rfl rfl) ?_
 refine Xa (Xk (Yv hg4) rfl) ?_
 refine Xa (Xo rfl) ?_
 refine X7 rfl rfl rfl ?_ ?_
 intro hg5
 have hp5 := hg5; try simp only [Ys] at hp5
 refine Xi (Xh rfl rfl rfl hg5) (Xf (off := 0) rfl Tryz.underlying33 rfl inf3.size (by decide) rfl) ?_
 refine Xi (Xh rfl rfl rfl hg5) (Xj rfl Tryz.underlying3 rfl Xp) ?_
 refine Xi (Xh rfl rfl rfl hg5) (Zr rfl rfl) ?_
 refine Xa (Xk (Yv hg5) rfl) ?_
 refine Xa (Xo rfl) ?_
 refine X7 rfl rfl rfl ?_ ?_
 intro hg6
 have hp6 := hg6; try simp only [Ys] at hp6
 refine Xi (Xh rfl rfl rfl hg6) (Xf (off := 2) rfl Tryz.underlying33 rfl inf23.size (by decide) rfl) ?_
 refine Xi (Xh rfl rfl rfl hg6) (Xj rfl Tryz.underlying23 rfl Xp) ?_
 refine Xi (Xh rfl rfl rfl hg6) (Yp rfl Tryz.underlying23) ?_
 refine Xi (Xh rfl rfl rfl hg6) (Zr rfl rfl) ?_
 refine Xa (Xk (Yv hg6) rfl) ?_
 refine Xa (Xm rfl) ?_
 refine X1 ?_
 ·exact ⟨.bool true, Xw (Xt rfl), rfl, Hp.le_put_new (Hp.le_put_new (Hp.le_push' (Hp.le_push' leH5 _) _) (by first | omega | (simp; done) | (simp; omega)) _) (by first | omega | (simp; done) | (simp; omega)) _⟩
 intro hg6
 exact absurd rfl (of_decide_eq_false hg6)
 intro hg5
 exact absurd rfl (of_decide_eq_false hg5)
 intro hg4
 exact absurd hg4 (by decide)
 intro hg3
 exact absurd hg3 (by decide)
 intro hg2
 exact absurd hg2 (by decide)
 intro hg1
 exact absurd hg1 (by decide)
def IsBeh (rows : List RowT) (ns : List Int) (k : Nat) : Prop := k ≤ rows.length ∧ (∀ r ∈ rows.take k, ¬ 0 < Vj r.nodes ns) ∧ ∀ h : k < rows.length, 0 < Vj rows[k].nodes ns
theorem beh_head {rows : List RowT} {ns : List Int} {k : Nat} (h : IsBeh rows ns k) : ((rows.map RowT.nodes).filter fun x => decide (0 < Vj x ns)).head? = (rows[k]?).map RowT.nodes := by
 obtain ⟨h1, h2, h3⟩ := h
 have e : rows = rows.take k ++ rows.drop k := (List.take_append_drop k rows).symm
 conv => lhs; rw [e]
 rw [List.map_append, List.filter_append, List.filter_eq_nil_iff.2 (fun x hx => by
  obtain ⟨r, hr, rfl⟩ := List.mem_map.1 hx
  simpa using h2 r hr), List.nil_append]
 by_cases hk : k < rows.length
 ·rw [List.drop_eq_getElem_cons hk, List.map_cons, List.filter_cons, if_pos (decide_eq_true (h3 hk)), List.getElem?_eq_getElem hk]
  rfl
 ·rw [List.drop_of_length_le (by omega), List.getElem?_eq_none (by omega)]
  rfl
theorem tells_row_at {T : TreeT} {rows : List RowT} {ns : List Int} {k : Nat} (hb : IsBeh rows ns k) (hrm : rows.map RowT.nodes = Zx T T.vars.length []) (hrr : ∀ r ∈ rows, Z9 T r.nodes = some r) {o : Option RowT} (ho : TellsH T o (behN T ns)) : o = rows[k]? := by
 obtain ⟨h1, h2⟩ := ho
 unfold behN at h1
 rw [← hrm, beh_head hb] at h1
 cases o with
 | none => cases hk : rows[k]? with
  | none => rfl
  | some r => rw [hk] at h1; cases h1
 | some r => cases hk : rows[k]? with
  | none => rw [hk] at h1; cases h1
  | some s =>
   rw [hk] at h1
   injection h1 with h1
   rw [rows_eq h1 (h2 r rfl) (hrr s (List.mem_of_getElem? hk))]
theorem first_row {T : TreeT} (hT : GoodT T) (hA : Uu T) {rows : List RowT} (hrest0 : Vd T w0 = rows.map RowT.nodes) (hrr : ∀ r ∈ rows, Z9 T r.nodes = some r) : (Vu T w0).2 = rows[0]? := by
 have h0 := (next_tells hT hA _ w0 (val_w0 T) (Nat.le_refl _)).2.1
 cases hn : (Vu T w0).2 with
 | none =>
  rw [hn] at h0
  have h1 : Vd T w0 = [] := h0.1
  rw [hrest0] at h1
  have : rows = [] := by simpa using h1
  rw [this]; rfl
 | some r =>
  rw [hn] at h0
  have h1 : Vd T w0 = r.nodes :: _ ∧ _ := h0
  rw [hrest0] at h1
  cases hrw : rows with
  | nil => rw [hrw] at h1; exact absurd h1.1 (by simp)
  | cons a l =>
   have h2 := h1.1
   rw [hrw, List.map_cons, List.cons.injEq] at h2
   have ha : a ∈ rows := by rw [hrw]; simp
   rw [rows_eq h2.1.symm h1.2 (hrr a ha)]; rfl

theorem row_cell {H : Hp} {b o i : Nat} {cs : List Value} (h : Cells H b (o + i * 3) cs) {j : Nat} {v : Value} (hv : cs[j]? = some v) : H.cell? b (o + ((i : Int)).toNat * 3 + j) = some v := h j v hv


theorem rows_path {T : TreeT} (hT : GoodT T) {rows : List RowT} (hrm : rows.map RowT.nodes = Zx T T.vars.length []) {ns : List Int} (hl : ns.length = T.vars.length) : Path T ns ↔ ∃ r ∈ rows, r.nodes = ns := by
 constructor
 ·intro hp
  have h : ns ∈ (Zx T T.vars.length []).filter (fun r => decide (r.take ns.length = ns)) := by
   rw [ext_preC hT hp (by omega) ns.length T.vars.length [] (by simp) (by simp) (by simp), show T.vars.length - ns.length = 0 by omega, Zx]
   simp
  have h2 := (List.mem_filter.1 h).1
  rw [← hrm] at h2
  obtain ⟨r, hr, e⟩ := List.mem_map.1 h2
  exact ⟨r, hr, e⟩
 ·rintro ⟨r, hr, rfl⟩
  exact ext_pathC hT T.vars.length [] r.nodes (by simp) (path_nil T) (by rw [← hrm]; exact List.mem_map.2 ⟨r, hr, rfl⟩)
theorem find_rowT {T : TreeT} (hT : GoodT T) {rows : List RowT} (hrm : rows.map RowT.nodes = Zx T T.vars.length []) (hrr : ∀ r ∈ rows, Z9 T r.nodes = some r) {ns : List Int} : (∀ i : Nat, V3 rows ns = i → ∃ h : i < rows.length, Z9 T ns = some rows[i]) ∧ (∀ r, Z9 T ns = some r → ∃ i : Nat, V3 rows ns = i ∧ ∃ h : i < rows.length, rows[i] = r) := by
  constructor
  · intro i hi
    rcases findRow_cases rows ns with ⟨h1, h2⟩ | ⟨j, h1, hj, h2⟩
    · rw [h1] at hi; exact absurd hi (by omega)
    · rw [h1] at hi
      obtain rfl : j = i := by omega
      exact ⟨hj, by rw [← h2]; exact hrr _ (List.getElem_mem hj)⟩
  · intro r hr
    obtain ⟨_, q1, q2⟩ := row_most hr
    rcases findRow_cases rows ns with ⟨h1, h2⟩ | ⟨j, h1, hj, h2⟩
    · have hp : Path T ns := by
        have h3 : (Zs T ns T.vars.length).isSome = true := by
          unfold Z9 at hr
          rw [if_pos q2] at hr
          obtain ⟨cn, h4, _⟩ := Option.map_eq_some_iff.1 hr
          rw [h4]; rfl
        intro i hi
        have h4 : (Zs T ns (i + 1)).isSome = true := by
          cases hx : Zs T ns (i + 1) with
          | some _ => rfl
          | none =>
            have := rowAcc_none hx T.vars.length (by omega)
            rw [this] at h3; cases h3
        rw [Zs] at h4
        obtain ⟨cn, h5⟩ := Option.isSome_iff_exists.1 h4
        obtain ⟨cm, _, h6⟩ := Option.bind_eq_some_iff.1 h5
        obtain ⟨y, h7, _⟩ := Option.map_eq_some_iff.1 h6
        obtain ⟨h8, h9⟩ := (Uo (hT.sort _ _)).1 h7
        exact ⟨y, h8, h9⟩
      obtain ⟨r', hr', e⟩ := (rows_path hT hrm q2).1 hp
      exact absurd e (h2 r' hr')
    · refine ⟨j, h1, hj, ?_⟩
      exact rows_eq (by rw [h2, q1]) (hrr _ (List.getElem_mem hj)) (by rw [q1]; exact hr)
def FitsR (rows : List RowT) (m : MarkT) : Prop := GoodM m ∧ (m.nodes.length = 0 ∨ ∃ i : Nat, V3 rows m.nodes = i ∧ ∃ h : i < rows.length, m.rest < rows[i].n)
theorem fits_same {T : TreeT} (hT : GoodT T) {rows : List RowT} (hrm : rows.map RowT.nodes = Zx T T.vars.length []) (hrr : ∀ r ∈ rows, Z9 T r.nodes = some r) (m : MarkT) : FitsT T m ↔ FitsR rows m := by
 obtain ⟨f1, f2⟩ := find_rowT (ns := m.nodes) hT hrm hrr
 unfold FitsT FitsR
 refine and_congr_right fun _ => or_congr_right ?_
 constructor
 ·rintro ⟨r, h1, h2⟩
  obtain ⟨i, h3, h4, rfl⟩ := f2 r h1
  exact ⟨i, h3, h4, h2⟩
 ·rintro ⟨i, h3, h4, h5⟩
  obtain ⟨_, h6⟩ := f1 i h3
  exact ⟨_, h6, h5⟩
theorem FitsR_ref (rows : List RowT) (u : Value) (m : MarkT) (cs : List Value) (H : Hp) (hs : Sl kRow H u rows) (hl : rows.length ≤ 1000000) (hm : kMark.rep H m cs) (hb : BigM m) (hr0 : 0 ≤ m.rest) (hn : m.nodes.length ≤ 1000000) :
    ACalls Tryz.prog 19 #[u, .agg cs.toArray] H (fun r H' => (∃ g, r = .bool g ∧ (g = true ↔ FitsR rows m)) ∧ H' = H) := by
  refine ACalls.pure (R := fun r => ∃ g, r = .bool g ∧ (g = true ↔ FitsR rows m)) (fun v ⟨g, h, _⟩ => by rw [h]; rfl) ?_
  have hs := hs.mono H.sees_ro
  have hm := kMark.mono H.sees_ro hm
  have hm0 := hm
  obtain ⟨v, w, rfl, hv, hw⟩ := hm
  obtain ⟨A, c, rfl⟩ := hv.shape
  obtain ⟨W, cW, rfl⟩ := hw.shape
  obtain ⟨D, cD, rfl⟩ := hs.shape
  obtain ⟨K, hK⟩ : ∃ K, K = H.ro.push (.own 0 [.int .i64 m.told, .bool m.over, .slice A m.nodes.length c, .int .u64 m.rest, .slice W m.items.length cW]) := ⟨_, rfl⟩
  have kg : K.get H.ro.size = .own 0 [.int .i64 m.told, .bool m.over, .slice A m.nodes.length c, .int .u64 m.rest, .slice W m.items.length cW] := by rw [hK]; exact Hp.push_new _ _
  have kz : K.size = H.ro.size + 1 := by rw [hK]; simp
  have leK : H.ro.le K := by rw [hK]; exact H.ro.le_push _
  refine Xv Tryz.func19 rfl rfl rfl (by simp) ?_
  refine Xe ?_
  refine Xu ?_
  refine X0 (Yt rfl) ?_
  refine Xa (Xm rfl) ?_
  refine Xe ?_
  refine Xe ?_
  change ACode _ _ _ _ _ _ (H.ro.push (.own 0 [.int .i64 m.told, .bool m.over, .slice A m.nodes.length c, .int .u64 m.rest, .slice W m.items.length cW]))
  rw [← hK]
  refine Xu ?_
  refine Xa (Yg (cs := [.int .i64 _, .bool _, .slice _ _ _, .int .u64 _, .slice _ _ _]) rfl Tryz.underlying33 rfl inf33.size X6) ?_
  refine Xx (Xy (goodR_36 m _ _ (kMark.mono leK.sees hm0) hb hr0) rfl Tryz.func24 rfl rfl rfl ?_)
  rintro v7 K1 ⟨⟨g, rfl, hg⟩, hK1⟩; subst hK1
  refine Xa (Z0 rfl) ?_
  refine Xa (Xo rfl) ?_
  refine X7 rfl rfl rfl ?_ ?_
  intro hg1
  have hgf : g = false := by have h := hg1; simpa using h
  refine Xb (Xg rfl rfl rfl hg1 rfl) ?_
  refine Xb (Xg rfl rfl rfl hg1 rfl) ?_
  refine Xb (Xg rfl rfl rfl hg1 rfl) ?_
  refine Xb (Xg rfl rfl rfl hg1 rfl) ?_
  refine Xa (Xk (Yv hg1) rfl) ?_
  refine Yu rfl rfl ?_
  refine Xe ?_
  refine Xu ?_
  refine Xa (Yg (cs := [.int .i64 _, .bool _, .slice _ _ _, .int .u64 _, .slice _ _ _]) rfl Tryz.underlying33 rfl inf33.size X6) ?_
  refine Xx (Xy (goodR_36 m _ _ (kMark.mono leK.sees hm0) hb hr0) rfl Tryz.func24 rfl rfl rfl ?_)
  rintro v16 K2 ⟨⟨g2, rfl, hg2⟩, hK2⟩; subst hK2
  refine Xa (Xm rfl) ?_
  refine X1 ?_
  refine ⟨_, Xw (Xt rfl), g2, rfl, ?_⟩
  first
    | exact ⟨fun h => ⟨hg2.1 h, .inl hn0⟩, fun h => hg2.2 h.1⟩
    | exact ⟨fun h => (by have := hg.2 (hg2.1 h); rw [hgf] at this; cases this), fun h => hg2.2 h.1⟩
  intro hg1
  have hgt : g = true := by have h := hg1; simpa using h
  refine Xi (Xh rfl rfl rfl hg1) (Xf (off := 2) rfl Tryz.underlying33 rfl inf23.size (by decide) rfl) ?_
  refine Xi (Xh rfl rfl rfl hg1) (Xj rfl Tryz.underlying23 rfl Xp) ?_
  refine Xi (Xh rfl rfl rfl hg1) (Yp rfl Tryz.underlying23) ?_
  refine Xi (Xh rfl rfl rfl hg1) (Zr rfl rfl) ?_
  refine Xa (Xk (Yv hg1) rfl) ?_
  refine X5 rfl rfl ?_ ?_
  intro hc3
  have hn0 : m.nodes.length = 0 := by have := of_decide_eq_true hc3; omega
  refine Xe ?_
  refine Xu ?_
  refine Xa (Yg (cs := [.int .i64 _, .bool _, .slice _ _ _, .int .u64 _, .slice _ _ _]) rfl Tryz.underlying33 rfl inf33.size X6) ?_
  refine Xx (Xy (goodR_36 m _ _ (kMark.mono leK.sees hm0) hb hr0) rfl Tryz.func24 rfl rfl rfl ?_)
  rintro v16 K2 ⟨⟨g2, rfl, hg2⟩, hK2⟩; subst hK2
  refine Xa (Xm rfl) ?_
  refine X1 ?_
  refine ⟨_, Xw (Xt rfl), g2, rfl, ?_⟩
  first
    | exact ⟨fun h => ⟨hg2.1 h, .inl hn0⟩, fun h => hg2.2 h.1⟩
    | exact ⟨fun h => (by have := hg.2 (hg2.1 h); rw [hgf] at this; cases this), fun h => hg2.2 h.1⟩
  intro hc3
  have hn0 : ¬ m.nodes.length = 0 := by have := of_decide_eq_false hc3; omega
  refine Ya ?_
  refine Xe ?_
  refine Xu ?_
  refine Xa (X2 rfl) ?_
  refine Xa (Xf (off := 2) rfl Tryz.underlying33 rfl inf23.size (by decide) rfl) ?_
  refine Xa (Xj rfl Tryz.underlying23 rfl Xp) ?_
  refine Xx (Xy (FindR_ref rows m.nodes _ _ _ (hs.mono leK.sees) (hv.mono leK.sees) hl hn) rfl Tryz.func32 rfl rfl rfl ?_)
  rintro v20 K3 ⟨rfl, hK3⟩; subst hK3; obtain ⟨fr, hfr⟩ : ∃ fr, V3 rows m.nodes = fr := ⟨_, rfl⟩; rw [hfr]
  refine Xa (Xn rfl) ?_
  refine Xe ?_
  refine Yw (by kernel_rfl) (Y1 (B := [0, 1, 3, 7, 15, 7, 7, 103, 231, 487, 1023, 2047, 4095]) (π := [0, 1, 2, 3, 4, 5, 6, 7, 8, 9, 10, 11, 12]) (by kernel_rfl)) ?_
  refine Xd rfl rfl (Xc rfl) Xq ?_
  refine Xd rfl rfl (av_ge rfl rfl) Xq ?_
  refine Xd rfl rfl (Xo rfl) Xq ?_
  refine Zw rfl rfl rfl rfl ?_ ?_
  intro hg4
  have hge : fr ≥ 0 := of_decide_eq_true hg4
  obtain ⟨i, rfl⟩ : ∃ i : Nat, fr = i := ⟨fr.toNat, by omega⟩
  have hi := hfr
  have hil : i < rows.length := by
    rcases findRow_cases rows m.nodes with ⟨h1, _⟩ | ⟨j, h1, hj, _⟩
    · omega
    · omega
  obtain ⟨bD, oD, wD, eD, hbD, hcD2, hwD⟩ := (hs.mono leK.sees).row_at hil
  have hcell := row_cell (j := 2) hcD2 rfl
  subst eD
  refine Yl rfl (Xh rfl rfl rfl hg4) rfl (Xf (off := 3) rfl Tryz.underlying33 rfl inf30.size (by decide) rfl) Xq ?_
  refine Yl rfl (Xh rfl rfl rfl hg4) rfl (Xj rfl Tryz.underlying30 rfl Xp) Xq ?_
  refine Yl rfl (Xh rfl rfl rfl hg4) rfl (X2 rfl) Xq ?_
  refine Yl rfl (Xh rfl rfl rfl hg4) rfl (Xc rfl) Xq ?_
  refine Yl rfl (Xh rfl rfl rfl hg4) rfl (Xs rfl rfl Tryz.underlying43 inf54.size X4 X4) Xq ?_
  refine Yl rfl (Xh rfl rfl rfl hg4) rfl (Xf (off := 2) rfl Tryz.underlying54 rfl inf30.size (by decide) rfl) Xq ?_
  refine Yl rfl (Xh rfl rfl rfl hg4) rfl (Xj rfl Tryz.underlying30 rfl Xp) Xq ?_
  refine Yl rfl (Xh rfl rfl rfl hg4) rfl (Y5 rfl rfl) Xq ?_
  refine Xd rfl rfl (Xk (Yv hg4) rfl) Xq ?_
  refine Xd rfl rfl (Xm rfl) Xq ?_
  refine X1 ?_
  refine ⟨_, Xw (Xt rfl), _, rfl, ?_⟩
  first
    | exact ⟨fun h => ⟨hg.1 hgt, .inr ⟨i, hi, hil, of_decide_eq_true h⟩⟩, fun h => decide_eq_true (by
        rcases h.2 with h2 | ⟨j, h2, h3, h4⟩
        · exact absurd h2 hn0
        · rw [hi] at h2
          obtain rfl : i = j := by omega
          exact h4)⟩
    | exact ⟨fun h => (by cases h), fun h => (by
        rcases h.2 with h2 | ⟨j, h2, h3, h4⟩
        · exact absurd h2 hn0
        · omega)⟩
  intro hg4
  have hge : ¬ fr ≥ 0 := of_decide_eq_false hg4
  refine X3 rfl (Xg rfl rfl rfl hg4 rfl) ?_
  refine X3 rfl (Xg rfl rfl rfl hg4 rfl) ?_
  refine X3 rfl (Xg rfl rfl rfl hg4 rfl) ?_
  refine X3 rfl (Xg rfl rfl rfl hg4 rfl) ?_
  refine X3 rfl (Xg rfl rfl rfl hg4 rfl) ?_
  refine X3 rfl (Xg rfl rfl rfl hg4 rfl) ?_
  refine X3 rfl (Xg rfl rfl rfl hg4 rfl) ?_
  refine X3 rfl (Xg rfl rfl rfl hg4 rfl) ?_
  refine Xd rfl rfl (Xk (Yv hg4) rfl) Xq ?_
  refine Xd rfl rfl (Xm rfl) Xq ?_
  refine X1 ?_
  refine ⟨_, Xw (Xt rfl), _, rfl, ?_⟩
  first
    | exact ⟨fun h => ⟨hg.1 hgt, .inr ⟨i, hi, hil, of_decide_eq_true h⟩⟩, fun h => decide_eq_true (by
        rcases h.2 with h2 | ⟨j, h2, h3, h4⟩
        · exact absurd h2 hn0
        · rw [hi] at h2
          obtain rfl : i = j := by omega
          exact h4)⟩
    | exact ⟨fun h => (by cases h), fun h => (by
        rcases h.2 with h2 | ⟨j, h2, h3, h4⟩
        · exact absurd h2 hn0
        · omega)⟩
def NextRIs (rows : List RowT) (m : MarkT) (at_ rest : Int) : Prop :=
 (m.over = true ∨ rows.length = 0 → at_ = -1 ∧ rest = 0) ∧ (m.over = false → rows.length ≠ 0 → m.nodes.length = 0 → at_ = 0 ∧ rest = 0) ∧
 (m.over = false → rows.length ≠ 0 → m.nodes.length ≠ 0 → ∀ (i : Nat) (h : i < rows.length), V3 rows m.nodes = i → (m.rest + 1 < rows[i].n → at_ = i ∧ rest = m.rest + 1) ∧ (¬ m.rest + 1 < rows[i].n → i + 1 = rows.length → at_ = -1 ∧ rest = 0) ∧ (¬ m.rest + 1 < rows[i].n → i + 1 ≠ rows.length → at_ = i + 1 ∧ rest = 0))
theorem NextR_ref (rows : List RowT) (u : Value) (m : MarkT) (cs : List Value) (H : Hp) (hs : Sl kRow H u rows) (hl : rows.length ≤ 1000000) (hm : kMark.rep H m cs) (hb : BigM m) (hr0 : 0 ≤ m.rest) (hf : FitsR rows m) (hrn : ∀ r ∈ rows, r.n ≤ 4611686018427387904) :
  ACalls Tryz.prog 21 #[u, .agg cs.toArray] H (fun r H' => (∃ at_ rest, r = .tuple #[.int .i64 at_, .int .u64 rest] ∧ NextRIs rows m at_ rest) ∧ H.le H') := by
 have hm0 := hm
 obtain ⟨v, w, rfl, hv, hw⟩ := hm
 obtain ⟨A, c, rfl⟩ := hv.shape
 obtain ⟨W, cW, rfl⟩ := hw.shape
 obtain ⟨D, cD, rfl⟩ := hs.shape
 have hn12 := hf.1.n
 obtain ⟨K, hK⟩ : ∃ K, K = H.push (.own 0 [.int .i64 m.told, .bool m.over, .slice A m.nodes.length c, .int .u64 m.rest, .slice W m.items.length cW]) := ⟨_, rfl⟩
 have kg : K.get H.size = .own 0 [.int .i64 m.told, .bool m.over, .slice A m.nodes.length c, .int .u64 m.rest, .slice W m.items.length cW] := by rw [hK]; exact Hp.push_new _ _
 have kz : K.size = H.size + 1 := by rw [hK]; simp
 have leK : H.le K := by rw [hK]; exact H.le_push _
 have hsK := hs.mono leK.sees
 refine Xv Tryz.func21 rfl rfl rfl (by simp) ?_
 refine Xe ?_
 refine Xu ?_
 refine X0 (Yt rfl) ?_
 refine Xa (Xn rfl) ?_
 refine Xa (Xn rfl) ?_
 refine Xe ?_
 refine Xe ?_
 change ACode true _ _ _ _ _ (H.push (.own 0 [.int .i64 m.told, .bool m.over, .slice A m.nodes.length c, .int .u64 m.rest, .slice W m.items.length cW]))
 rw [← hK]
 refine Xu ?_
 refine Xa (Xf (off := 1) rfl Tryz.underlying33 rfl inf4.size (by decide) rfl) ?_
 refine Xa (Xj rfl Tryz.underlying4 rfl Xp) ?_
 refine Xa (Xo rfl) ?_
 refine X7 rfl rfl rfl ?_ ?_
 intro hg1
 have ho : m.over = true := hg1
 have hz : m.over = true ∨ rows.length = 0 := .inl ho
 refine Xb (Xg rfl rfl rfl hg1 rfl) ?_
 refine Xb (Xg rfl rfl rfl hg1 rfl) ?_
 refine Xb (Xg rfl rfl rfl hg1 rfl) ?_
 refine Xa (Xk (Yv hg1) rfl) ?_
 refine Yu rfl rfl ?_
 refine Xe ?_
 refine Xu ?_
 refine Xa (Xn rfl) ?_
 refine Xa (Xn rfl) ?_
 refine X1 ?_
 exact ⟨_, Y9 (Xt rfl) (Xt rfl), ⟨-1, 0, rfl, fun _ => ⟨rfl, rfl⟩, fun h1 h2 => absurd hz (by rw [h1]; intro h; rcases h with h | h; (· cases h); (· exact h2 h)), fun h1 h2 => absurd hz (by rw [h1]; intro h; rcases h with h | h; (· cases h); (· exact h2 h))⟩, leK⟩
 intro hg1
 have ho : m.over = false := hg1
 refine Xi (Xh rfl rfl rfl hg1) (X2 rfl) ?_
 refine Xi (Xh rfl rfl rfl hg1) (Yp rfl Tryz.underlying43) ?_
 refine Xi (Xh rfl rfl rfl hg1) (Zr rfl rfl) ?_
 refine Xa (Xk (Yv hg1) rfl) ?_
 refine X5 rfl rfl ?_ ?_
 intro hc3
 have hz : m.over = true ∨ rows.length = 0 := .inr (by have := of_decide_eq_true hc3; omega)
 refine Xe ?_
 refine Xu ?_
 refine Xa (Xn rfl) ?_
 refine Xa (Xn rfl) ?_
 refine X1 ?_
 exact ⟨_, Y9 (Xt rfl) (Xt rfl), ⟨-1, 0, rfl, fun _ => ⟨rfl, rfl⟩, fun h1 h2 => absurd hz (by rw [h1]; intro h; rcases h with h | h; (· cases h); (· exact h2 h)), fun h1 h2 => absurd hz (by rw [h1]; intro h; rcases h with h | h; (· cases h); (· exact h2 h))⟩, leK⟩
 intro hc3
 have hz0 : rows.length ≠ 0 := by have := of_decide_eq_false hc3; omega
 refine Ya ?_
 refine Xe ?_
 refine Xe ?_
 refine Xu ?_
 refine Xa (Xf (off := 2) rfl Tryz.underlying33 rfl inf23.size (by decide) rfl) ?_
 refine Xa (Xj rfl Tryz.underlying23 rfl Xp) ?_
 refine Xa (Yp rfl Tryz.underlying23) ?_
 refine Xa (Zr rfl rfl) ?_
 refine X5 rfl rfl ?_ ?_
 intro hc4
 have hn0 : m.nodes.length = 0 := by have := of_decide_eq_true hc4; omega
 refine Xe ?_
 refine Xu ?_
 refine Xa (Xn rfl) ?_
 refine Xa (Xn rfl) ?_
 refine X1 ?_
 exact ⟨_, Y9 (Xt rfl) (Xt rfl), ⟨0, 0, rfl, fun h => (by rcases h with h | h; (· rw [ho] at h; cases h); (· exact absurd h hz0)), fun _ _ _ => ⟨rfl, rfl⟩, fun _ _ h => absurd hn0 h⟩, leK⟩
 intro hc4
 have hn0 : ¬ m.nodes.length = 0 := by have := of_decide_eq_false hc4; omega
 obtain ⟨i, hi, hil, hlt⟩ := hf.2.resolve_left hn0
 have hrm := hrn _ (List.getElem_mem hil)
 obtain ⟨bD, oD, wD, eD, hbD, hcD2, hwD⟩ := hsK.row_at hil
 obtain ⟨x, hx⟩ : ∃ x, x = rows[i].n := ⟨_, rfl⟩
 rw [← hx] at hcD2 hlt hrm
 have hcell := row_cell (j := 2) hcD2 rfl
 have hwr : IntKind.u64.wrap (m.rest + 1) = m.rest + 1 := wrap_u64a (by omega) (by omega)
 have hothers : ∀ (at_ rest : Int), ((m.rest + 1 < x → at_ = i ∧ rest = m.rest + 1) ∧ (¬ m.rest + 1 < x → i + 1 = rows.length → at_ = -1 ∧ rest = 0) ∧ (¬ m.rest + 1 < x → i + 1 ≠ rows.length → at_ = i + 1 ∧ rest = 0)) → NextRIs rows m at_ rest := fun at_ rest h => by
  refine ⟨fun h2 => ?_, fun _ _ h2 => absurd h2 hn0, fun _ _ _ j hj hfj => ?_⟩
  ·rcases h2 with h2 | h2
   ·rw [ho] at h2; cases h2
   ·exact absurd h2 hz0
  ·rw [hi] at hfj
   obtain rfl : i = j := by omega
   rw [← hx]; exact h
 refine Ya ?_
 refine Xe ?_
 refine Xu ?_
 refine Xa (X2 rfl) ?_
 refine Xa (Xf (off := 2) rfl Tryz.underlying33 rfl inf23.size (by decide) rfl) ?_
 refine Xa (Xj rfl Tryz.underlying23 rfl Xp) ?_
 refine Xx (Xy (FindR_ref rows m.nodes _ _ _ hsK (hv.mono leK.sees) hl (by omega)) rfl Tryz.func32 rfl rfl rfl ?_)
 rintro v21 K3 ⟨rfl, hK3⟩; subst hK3; rw [hi]
 refine Xa (Xn rfl) ?_
 refine Xe ?_
 refine Xe ?_
 subst eD
 refine Yw (by kernel_rfl) (Y1 (B := [0, 1, 3, 0, 0, 24, 56, 120, 255]) (π := [0, 1, 2, 3, 4, 5, 6, 7, 8]) (by kernel_rfl)) ?_
 refine Xd rfl rfl (Xf (off := 3) rfl Tryz.underlying33 rfl inf30.size (by decide) rfl) Xq ?_
 refine Xd rfl rfl (Xj rfl Tryz.underlying30 rfl Xp) Xq ?_
 refine Xd rfl rfl (av_addn_is hwr rfl rfl) Xq ?_
 refine Xd rfl rfl (X2 rfl) Xq ?_
 refine Xd rfl rfl (Xc rfl) Xq ?_
 refine Xd rfl rfl (Xs rfl rfl Tryz.underlying43 inf54.size X4 X4) Xq ?_
 refine Xd rfl rfl (Xf (off := 2) rfl Tryz.underlying54 rfl inf30.size (by decide) rfl) Xq ?_
 refine Xd rfl rfl (Xj rfl Tryz.underlying30 rfl Xp) Xq ?_
 refine Xd rfl rfl (Y5 rfl rfl) Xq ?_
 refine X5 rfl rfl ?_ ?_
 intro hc5
 have hlt2 : m.rest + 1 < x := of_decide_eq_true hc5
 refine Xe ?_
 refine Yw (by kernel_rfl) (Y1 (B := [0, 0, 2, 6, 1, 31]) (π := [0, 1, 2, 3, 4, 5]) (by kernel_rfl)) ?_
 refine Xd rfl rfl (Xc rfl) Xq ?_
 refine Xd rfl rfl (Xf (off := 3) rfl Tryz.underlying33 rfl inf30.size (by decide) rfl) Xq ?_
 refine Xd rfl rfl (Xj rfl Tryz.underlying30 rfl Xp) Xq ?_
 refine Xd rfl rfl (av_addn_is hwr rfl rfl) Xq ?_
 refine Xd rfl rfl (Xn rfl) Xq ?_
 refine Xd rfl rfl (Xn rfl) Xq ?_
 refine X1 ?_
 exact ⟨_, Y9 (Xt rfl) (Xt rfl), ⟨i, m.rest + 1, rfl, hothers _ _ ⟨fun _ => ⟨rfl, rfl⟩, fun h => absurd hlt2 h, fun h => absurd hlt2 h⟩⟩, leK⟩
 intro hc5
 have hlt2 : ¬ m.rest + 1 < x := of_decide_eq_false hc5
 refine Ya ?_
 refine Xe ?_
 refine Xe ?_
 refine Xu ?_
 refine Xa (Xc rfl) ?_
 refine Xa (Yo rfl rfl Y0) ?_
 refine Xa (X2 rfl) ?_
 refine Xa (Yp rfl Tryz.underlying43) ?_
 refine Xa (Zr rfl rfl) ?_
 refine X5 rfl rfl ?_ ?_
 intro hc6
 have hend : i + 1 = rows.length := by have := of_decide_eq_true hc6; omega
 refine Xe ?_
 refine Xu ?_
 refine Xa (Xn rfl) ?_
 refine Xa (Xn rfl) ?_
 refine X1 ?_
 exact ⟨_, Y9 (Xt rfl) (Xt rfl), ⟨-1, 0, rfl, hothers _ _ ⟨fun h => absurd h hlt2, fun _ _ => ⟨rfl, rfl⟩, fun _ h => absurd hend h⟩⟩, leK⟩
 intro hc6
 have hend : i + 1 ≠ rows.length := by have := of_decide_eq_false hc6; omega
 refine Ya ?_
 refine Xe ?_
 refine Xu ?_
 refine Xa (Xc rfl) ?_
 refine Xa (Yo rfl rfl Y0) ?_
 refine Xa (Xn rfl) ?_
 refine Xa (Xn rfl) ?_
 refine X1 ?_
 exact ⟨_, Y9 (Xt rfl) (Xt rfl), ⟨(i : Int) + 1, 0, rfl, hothers _ _ ⟨fun h => absurd h hlt2, fun _ h => absurd h hend, fun _ _ => ⟨rfl, rfl⟩⟩⟩, leK⟩
theorem rows_even {f : Forest} {p : Parts} (hG : GoodP f p) : ∀ i, i ≤ f.vars.length → ∀ r ∈ Zq f p i, ∀ n ∈ r.nodes, ¬ oddI n
 | 0, _, r, hr, n, hn => by
  rw [Zq, List.mem_singleton] at hr
  subst hr
  cases hn
 | i + 1, hi, r, hr, n, hn => by
  rw [Zq] at hr
  obtain ⟨r0, h0, h1⟩ := List.mem_flatMap.1 hr
  obtain ⟨y, hy, h2⟩ := List.mem_filterMap.1 h1
  have h3 : r.nodes = r0.nodes ++ [y.a] := Ub h2
  rw [h3, List.mem_append, List.mem_singleton] at hn
  rcases hn with hn | rfl
  ·exact rows_even hG i (by omega) r0 h0 n hn
  ·have hv := (hG.gf.vAt_lt (s := i) (by omega)).1
   obtain ⟨j, hj, rfl⟩ := List.getElem_of_mem hy
   have h4 := ((hG.ok _ hv).1 j hj).1
   unfold oddI
   have h5 := h4.1
   have h6 := h4.2.1
   change 0 ≤ (nd p (Vc f i))[j].a at h5
   change (nd p (Vc f i))[j].a ≤ 9999 at h6
   omega
theorem extW_pos {T : TreeT} (hpos : ∀ i a, ∀ z ∈ T.group i a, 1 ≤ z.n) : ∀ (d : Nat) (q : List Int) (w : Nat), 1 ≤ w → ∀ x ∈ extW T d q w, 1 ≤ x.2
 | 0, q, w, h, x, hx => by rw [extW, List.mem_singleton] at hx; rw [hx]; exact h
 | d + 1, q, w, h, x, hx => by
  rw [extW] at hx
  obtain ⟨l, hl, hx⟩ := List.mem_flatMap.1 hx
  have h1 := hpos _ _ l hl
  exact extW_pos hpos d _ _ (Nat.le_trans (by decide : 1 ≤ 1 * 1) (Nat.mul_le_mul h (by omega))) x hx
theorem rows_pos {T : TreeT} (hT : GoodT T) (hpos : ∀ i a, ∀ z ∈ T.group i a, 1 ≤ z.n) {rows : List RowT} (hrm : rows.map RowT.nodes = Zx T T.vars.length []) (hrr : ∀ r ∈ rows, Z9 T r.nodes = some r) : ∀ r ∈ rows, 1 ≤ r.n := fun r hr => by
 have h : (r.nodes, r.n) ∈ (extW T T.vars.length [] 1).map fun x => (x.1, capI x.2) := by
  rw [← extW_rows hT hrm hrr]; exact List.mem_map.2 ⟨r, hr, rfl⟩
 obtain ⟨x, hx, he⟩ := List.mem_map.1 h
 simp only [Prod.mk.injEq] at he
 have h1 := extW_pos hpos _ _ 1 (Nat.le_refl _) x hx
 have hM := most_pos
 rw [← he.2]
 unfold capI
 omega
theorem first_is {T : TreeT} (hT : GoodT T) (hA : Uu T) {rows : List RowT} (hrm : rows.map RowT.nodes = Zx T T.vars.length []) (hrr : ∀ r ∈ rows, Z9 T r.nodes = some r) : (Vu T w0).2 = rows[0]? := by
 refine first_row hT hA ?_ hrr
 rw [hrm]
 show Zx T (T.vars.length - 0) [] ++ [] = _
 rw [List.append_nil, Nat.sub_zero]
theorem beh_after {T : TreeT} (hT : GoodT T) {rows : List RowT} (hrm : rows.map RowT.nodes = Zx T T.vars.length []) {i : Nat} (hi : i < rows.length) : IsBeh rows rows[i].nodes (i + 1) := by
 have hs := rows_sorted hT hrm
 refine ⟨hi, fun r hr => ?_, fun h => ?_⟩
 ·obtain ⟨j, hj, rfl⟩ := List.getElem_of_mem hr
  rw [List.length_take] at hj
  rw [List.getElem_take]
  rcases Nat.lt_or_ge j i with h | h
  ·have := List.pairwise_iff_getElem.1 hs j i (by omega) hi h
   omega
  ·obtain rfl : j = i := by omega
   rw [cmpZ_self]; decide
 ·have h1 := List.pairwise_iff_getElem.1 hs i (i + 1) hi h (Nat.lt_succ_self i)
  rw [cmpZ_anti]
  omega
theorem next_link {T : TreeT} (hT : GoodT T) (hA : Uu T) {rows : List RowT} (hrm : rows.map RowT.nodes = Zx T T.vars.length []) (hrr : ∀ r ∈ rows, Z9 T r.nodes = some r) {m : MarkT} (hf : FitsT T m) {o : Option RowT} {rest at_ restR : Int} (h1 : NextIs T m o rest) (h2 : NextRIs rows m at_ restR) :
  (at_ < 0 ∧ o = none) ∨ ∃ i : Nat, at_ = i ∧ ∃ h : i < rows.length, o = some rows[i] ∧ rest = restR := by
 cases ho : m.over with
 | true => exact .inl ⟨by have := (h2.1 (.inl ho)).1; omega, (h1.1 ho).1⟩
 | false =>
  rcases Nat.eq_zero_or_pos m.nodes.length with hn | hn
  ·obtain ⟨h3, h4⟩ := h1.2.1 ho hn
   rw [first_is hT hA hrm hrr] at h3
   rcases Nat.eq_zero_or_pos rows.length with hr | hr
   ·exact .inl ⟨by have := (h2.1 (.inr hr)).1; omega, by rw [h3, List.getElem?_eq_none (by omega)]⟩
   ·obtain ⟨h5, h6⟩ := h2.2.1 ho (by omega) hn
    exact .inr ⟨0, h5, hr, by rw [h3, List.getElem?_eq_getElem hr], by rw [h4, h6]⟩
  ·obtain ⟨r, h3, h4⟩ := hf.2.resolve_left (by omega)
   obtain ⟨i, h5, hi, rfl⟩ := (find_rowT hT hrm hrr).2 r h3
   obtain ⟨a1, a2⟩ := h1.2.2 ho (by omega) _ h3
   obtain ⟨b1, b2, b3⟩ := h2.2.2 ho (by omega) (by omega) i hi h5
   by_cases hlt : m.rest + 1 < rows[i].n
   ·exact .inr ⟨i, (b1 hlt).1, hi, (a1 hlt).1, by rw [(a1 hlt).2, (b1 hlt).2]⟩
   ·have hnode : rows[i].nodes = m.nodes := (row_most h3).2.1
    have h6 := (a2 hlt).1
    rw [← hnode] at h6
    have h7 := tells_row_at (beh_after hT hrm hi) hrm hrr h6
    by_cases he : i + 1 = rows.length
    ·exact .inl ⟨by have := (b2 hlt he).1; omega, by rw [h7, List.getElem?_eq_none (by omega)]⟩
    ·obtain ⟨c1, c2⟩ := b3 hlt he
     have hi2 : i + 1 < rows.length := by omega
     exact .inr ⟨i + 1, by rw [c1]; omega, hi2, by rw [h7, List.getElem?_eq_getElem hi2], by rw [(a2 hlt).2, c2]⟩
theorem next_row {T : TreeT} (hT : GoodT T) (hA : Uu T) {rows : List RowT} (hrm : rows.map RowT.nodes = Zx T T.vars.length []) (hrr : ∀ r ∈ rows, Z9 T r.nodes = some r) {m : MarkT} (hf : FitsT T m) {o : Option RowT} {rest : Int} (h1 : NextIs T m o rest) {r : RowT} (ho : o = some r) : ∃ i, ∃ h : i < rows.length, rows[i] = r := by
 subst ho
 cases hov : m.over with
 | true => exact absurd (h1.1 hov).1 (by simp)
 | false =>
  rcases Nat.eq_zero_or_pos m.nodes.length with hn | hn
  ·have h3 := (h1.2.1 hov hn).1
   rw [first_is hT hA hrm hrr] at h3
   obtain ⟨h4, h5⟩ := List.getElem?_eq_some_iff.1 h3.symm
   exact ⟨0, h4, h5⟩
  ·obtain ⟨q, h3, h4⟩ := hf.2.resolve_left (by omega)
   obtain ⟨i, h5, hi, rfl⟩ := (find_rowT hT hrm hrr).2 q h3
   obtain ⟨a1, a2⟩ := h1.2.2 hov (by omega) _ h3
   by_cases hlt : m.rest + 1 < rows[i].n
   ·have h6 := (a1 hlt).1
    injection h6 with h6
    exact ⟨i, hi, h6.symm⟩
   ·have hnode : rows[i].nodes = m.nodes := (row_most h3).2.1
    have h6 := (a2 hlt).1
    rw [← hnode] at h6
    have h7 := tells_row_at (beh_after hT hrm hi) hrm hrr h6
    obtain ⟨h8, h9⟩ := List.getElem?_eq_some_iff.1 h7.symm
    exact ⟨i + 1, h8, h9⟩
theorem next_lt {T : TreeT} {rows : List RowT} {m : MarkT} {i : Nat} {restR : Int} (h2 : NextRIs rows m i restR) (hf : FitsT T m) (hrp : ∀ r ∈ rows, 1 ≤ r.n) (hi : i < rows.length) (hrm : rows.map RowT.nodes = Zx T T.vars.length []) (hrr : ∀ r ∈ rows, Z9 T r.nodes = some r) (hT : GoodT T) : restR < rows[i].n := by
 have hp := hrp _ (List.getElem_mem hi)
 cases ho : m.over with
 | true => have := (h2.1 (.inl ho)).1; omega
 | false =>
  rcases Nat.eq_zero_or_pos m.nodes.length with hn | hn
  ·have := (h2.2.1 ho (by omega) hn).2; omega
  ·obtain ⟨q, h3, h4⟩ := hf.2.resolve_left (by omega)
   obtain ⟨j, h5, hj, rfl⟩ := (find_rowT hT hrm hrr).2 q h3
   obtain ⟨b1, b2, b3⟩ := h2.2.2 ho (by omega) (by omega) j hj h5
   by_cases hlt : m.rest + 1 < rows[j].n
   ·obtain ⟨c1, c2⟩ := b1 hlt
    obtain rfl : i = j := by omega
    omega
   ·by_cases he : j + 1 = rows.length
    ·have := (b2 hlt he).1; omega
    ·have := (b3 hlt he).2; omega
theorem few36_raw (f : Forest) (p : Parts) (cs ds : List Value) (H : Hp) (hp : kForest.rep H f cs) (hq : kParts.rep H p ds) (hsm : Small f p) :
  ACalls Tryz.prog 14 #[.agg cs.toArray, .agg ds.toArray] H (fun r _ => ∃ b, r = .bool b ∧ (b = true ↔ GoodP f p ∧ f.vars.length < 5)) := by
 have hp0 := hp
 have hq0 := hq
 obtain ⟨v0, v1, v2, v3, v4, rfl, hs0, hs1, hs2, hs3, hs4⟩ := hp
 obtain ⟨A0, c0, rfl⟩ := hs0.shape
 obtain ⟨A1, c1, rfl⟩ := hs1.shape
 obtain ⟨A2, c2, rfl⟩ := hs2.shape
 obtain ⟨A3, c3, rfl⟩ := hs3.shape
 obtain ⟨A4, c4, rfl⟩ := hs4.shape
 obtain ⟨u0, u1, rfl, hn0, hn1⟩ := hq
 obtain ⟨B0, d0, rfl⟩ := hn0.shape
 obtain ⟨B1, d1, rfl⟩ := hn1.shape
 refine Xv Tryz.func14 rfl rfl rfl (by simp) ?_
 refine Xe ?_
 refine Xu ?_
 refine X0 (Yt rfl) ?_
 refine X0 (Yt rfl) ?_
 refine Xa (Xm rfl) ?_
 refine Xe ?_
 refine Xu ?_
 refine Xa (Yg (cs := [.slice _ _ _, .slice _ _ _, .slice _ _ _, .slice _ _ _, .slice _ _ _]) rfl Tryz.underlying26 rfl inf26.size X6) ?_
 refine Xa (Yg (cs := [.slice _ _ _, .slice _ _ _]) rfl Tryz.underlying29 rfl inf29.size X6) ?_
 refine Xx (Xy (GoodP_ref f p _ _ _ (kForest.mono Zk hp0) (kParts.mono Zk hq0) hsm) rfl Tryz.func53 rfl rfl rfl ?_)
 rintro v5 H5 ⟨⟨g, rfl, hg⟩, rfl⟩
 refine Xa (Xo rfl) ?_
 refine X7 rfl rfl rfl ?_ ?_
 intro hg1
 have hgt : g = true := hg1
 have hG := hg.1 hgt
 refine Xi (Xh rfl rfl rfl hg1) (Xf (off := 0) rfl Tryz.underlying26 rfl inf22.size (by decide) rfl) ?_
 refine Xi (Xh rfl rfl rfl hg1) (Xj rfl Tryz.underlying22 rfl Xp) ?_
 refine Xi (Xh rfl rfl rfl hg1) (Yp rfl Tryz.underlying22) ?_
 refine Xi (Xh rfl rfl rfl hg1) (Y5 rfl rfl) ?_
 refine Xa (Xk (Yv hg1) rfl) ?_
 refine Xa (Xm rfl) ?_
 refine X1 ?_
 refine ⟨_, Xw (Xt rfl), _, rfl, ?_⟩
 first
  | exact ⟨fun h => ⟨hG, by have := of_decide_eq_true h; omega⟩, fun h => decide_eq_true (by have := h.2; omega)⟩
  | exact ⟨fun h => (by cases h), fun h => (by have := hg.2 h.1; rw [hgf] at this; cases this)⟩
 intro hg1
 have hgf : g = false := hg1
 refine Xb (Xg rfl rfl rfl hg1 rfl) ?_
 refine Xb (Xg rfl rfl rfl hg1 rfl) ?_
 refine Xb (Xg rfl rfl rfl hg1 rfl) ?_
 refine Xb (Xg rfl rfl rfl hg1 rfl) ?_
 refine Xa (Xk (Yv hg1) rfl) ?_
 refine Xa (Xm rfl) ?_
 refine X1 ?_
 refine ⟨_, Xw (Xt rfl), _, rfl, ?_⟩
 first
  | exact ⟨fun h => ⟨hG, by have := of_decide_eq_true h; omega⟩, fun h => decide_eq_true (by have := h.2; omega)⟩
  | exact ⟨fun h => (by cases h), fun h => (by have := hg.2 h.1; rw [hgf] at this; cases this)⟩
theorem few36_ok (f : Forest) (p : Parts) (cs ds : List Value) (H : Hp) (hp : kForest.rep H f cs) (hq : kParts.rep H p ds) (hsm : Small f p) :
  ACalls Tryz.prog 14 #[.agg cs.toArray, .agg ds.toArray] H (fun r H' => (∃ b, r = .bool b ∧ (b = true ↔ GoodP f p ∧ f.vars.length < 5)) ∧ H' = H) :=
 ACalls.pure (fun v ⟨b, h, _⟩ => by rw [h]; rfl) (few36_raw f p cs ds H.ro (kForest.mono H.sees_ro hp) (kParts.mono H.sees_ro hq) hsm)
set_option maxHeartbeats 8000000 in
theorem CursorNext_ok (f : Forest) (p : Parts) (mk : MarkT) (cs ds ms : List Value) (H : Hp) (hp : kForest.rep H f cs) (hq : kParts.rep H p ds) (hmk : kMark.rep H mk ms) (hbf : BigF f) (hbp : BigP p) (hbmk : BigM mk) (hmr : 0 ≤ mk.rest) :
  ACalls Tryz.prog 3 #[.agg cs.toArray, .agg ds.toArray, .agg ms.toArray] H (fun r H' => r = .bool true ∧ H.le H') := by
 have hp0 := hp
 have hq0 := hq
 obtain ⟨v0, v1, v2, v3, v4, rfl, hs0, hs1, hs2, hs3, hs4⟩ := hp
 obtain ⟨A0, c0, rfl⟩ := hs0.shape
 obtain ⟨A1, c1, rfl⟩ := hs1.shape
 obtain ⟨A2, c2, rfl⟩ := hs2.shape
 obtain ⟨A3, c3, rfl⟩ := hs3.shape
 obtain ⟨A4, c4, rfl⟩ := hs4.shape
 obtain ⟨u0, u1, rfl, hn0, hn1⟩ := hq
 obtain ⟨B0, d0, rfl⟩ := hn0.shape
 obtain ⟨B1, d1, rfl⟩ := hn1.shape
 have hmk0 := hmk
 obtain ⟨vm, wm, rfl, hvm, hwm⟩ := hmk
 obtain ⟨Am, cm, rfl⟩ := hvm.shape
 obtain ⟨Wm, cWm, rfl⟩ := hwm.shape
 have hbM := bigM_cut mk
 have hcc := cut_cut mk
 have hrM : 0 ≤ mk.cut.rest := hmr
 have hsm := small_few f p
 have hbq := bigP_few p
 have hbg := bigF_few f
 have hpp := few4_few4 p
 have hff := ffew_ffew f
 have htn : GoodP f.few p.few4 → f.few.vars.length < 6 → Tiny f.few p.few4 := tiny_few
 have hch : GoodP f.few p.few4 → Cheap p.few4 := cheap_few
 have hvar := few_vars f
 obtain ⟨F, hF⟩ : ∃ F, F = f.few := ⟨_, rfl⟩
 obtain ⟨Q, hQ⟩ : ∃ Q, Q = p.few4 := ⟨_, rfl⟩
 obtain ⟨M, hMe⟩ : ∃ M, M = mk.cut := ⟨_, rfl⟩
 rw [← hMe] at hbM hcc hrM
 rw [← hF, ← hQ] at hsm htn hch
 rw [← hQ] at hpp hbq
 rw [← hF] at hff hbg hvar
 refine Xv Tryz.func3 rfl rfl rfl (by simp) ?_
 refine Xe ?_
 refine Xu ?_
 refine X0 (Yt rfl) ?_
 refine X0 (Yt rfl) ?_
 refine X0 (Yt rfl) ?_
 refine Xa (Xm rfl) ?_
 refine Xe ?_
 refine Yw (by kernel_rfl) (Y1 (B := [0, 1, 0, 7, 0, 31, 63, 127, 255]) (π := [0, 2, 4, 1, 3, 5, 6, 7, 8]) (by kernel_rfl)) ?_
 refine Xd rfl rfl (Yg (cs := [.slice _ _ _, .slice _ _ _, .slice _ _ _, .slice _ _ _, .slice _ _ _]) rfl Tryz.underlying26 rfl inf26.size X6) Xq ?_
 refine Xd rfl rfl (Yg (cs := [.slice _ _ _, .slice _ _ _]) rfl Tryz.underlying29 rfl inf29.size X6) Xq ?_
 refine Xd rfl rfl (Yg (cs := [.int .i64 _, .bool _, .slice _ _ _, .int .u64 _, .slice _ _ _]) rfl Tryz.underlying33 rfl inf33.size X6) Xq ?_
 refine Yk rfl rfl (Xy (Forest_28 f _ _ (kForest.mono Zk hp0) hbf) rfl Tryz.func10 rfl rfl rfl ?_)
 rintro v5 H5 ⟨hle5, es, rfl, hes⟩; rw [← hF] at hes; have hf5 := hes; obtain ⟨a0, a1, a2, a3, a4, rfl, ht0, ht1, ht2, ht3, ht4⟩ := hes; obtain ⟨C0, k0, rfl⟩ := ht0.shape; obtain ⟨C1, k1, rfl⟩ := ht1.shape; obtain ⟨C2, k2, rfl⟩ := ht2.shape; obtain ⟨C3, k3, rfl⟩ := ht3.shape; obtain ⟨C4, k4, rfl⟩ := ht4.shape; have hz5 := hle5.1; simp only [Hp.push_size] at hz5
 refine ⟨Ye, ?_⟩
 refine Yk rfl rfl (Xy (Few4_parts p _ _ (kParts.mono Zk hq0) hbp.l0 hbp.l1 hbp.s0 hbp.s1) rfl Tryz.func11 rfl rfl rfl ?_)
 rintro v6 H6 ⟨hle6, es, rfl, hes⟩; rw [← hQ] at hes; have hq6 := hes; obtain ⟨b0, b1, rfl, hm0, hm1⟩ := hes; obtain ⟨D0, m0, rfl⟩ := hm0.shape; obtain ⟨D1, m1, rfl⟩ := hm1.shape; have hz6 := hle6.1; have hf6 := kForest.mono hle6.sees hf5
 refine ⟨Ye, ?_⟩
 refine Yk rfl rfl (Xy (Mark_36 mk _ _ (kMark.mono Zk hmk0) hbmk) rfl Tryz.func12 rfl rfl rfl ?_)
 rintro v22 H7 ⟨hle7, dsM, rfl, hM7⟩; rw [← hMe] at hM7; have hM70 := hM7; obtain ⟨vM, wM, rfl, hvM, hwM⟩ := hM7; obtain ⟨E0, n0, rfl⟩ := hvM.shape; obtain ⟨W0, cW0, rfl⟩ := hwM.shape; have hz7 := hle7.1; have hf7 := kForest.mono hle7.sees hf6; have hq7 := kParts.mono hle7.sees hq6; have h70 : H7.get H.size = .own 0 [.slice A0 f.vars.length c0, .slice A1 f.order.length c1, .slice A2 f.parent.length c2, .slice A3 f.links.length c3, .slice A4 f.loops.length c4] := Xr (Hp.le_trans hle5 (Hp.le_trans hle6 hle7)) (by simp <;> omega) (by intro e; cases e) Yb; have h71 : H7.get (H.size + 1) = .own 0 [.slice B0 p.nodes.length d0, .slice B1 p.links.length d1] := Xr (Hp.le_trans hle5 (Hp.le_trans hle6 hle7)) (by simp <;> omega) (by intro e; cases e) Yb; have h72 : H7.get (H.size + 1 + 1) = .own 0 [.int .i64 mk.told, .bool mk.over, .slice Am mk.nodes.length cm, .int .u64 mk.rest, .slice Wm mk.items.length cWm] := Xr (Hp.le_trans hle5 (Hp.le_trans hle6 hle7)) (by simp <;> omega) (by intro e; cases e) Yb
 refine ⟨Ye, ?_⟩
 refine Yk rfl rfl (Yf (vs := [.slice _ _ _, .slice _ _ _, .slice _ _ _, .slice _ _ _, .slice _ _ _]) rfl rfl inf26.size Yb Yd rfl rfl ?_)
 refine ⟨Ye, ?_⟩
 refine Yk rfl rfl (Yf (vs := [.slice _ _ _, .slice _ _ _]) rfl rfl inf29.size Yb Yd rfl rfl ?_)
 refine ⟨Ye, ?_⟩
 refine Yk rfl rfl (Yf (vs := [.int .i64 _, .bool _, .slice _ _ _, .int .u64 _, .slice _ _ _]) rfl rfl inf33.size Yb Yd rfl rfl ?_)
 refine ⟨Ye, ?_⟩
 refine Xe ?_
 obtain ⟨HA, hHA⟩ : ∃ HA, HA = ((H7.put H.size (.own 0 [.slice C0 F.vars.length k0, .slice C1 F.order.length k1, .slice C2 F.parent.length k2, .slice C3 F.links.length k3, .slice C4 F.loops.length k4])).put (H.size + 1) (.own 0 [.slice D0 Q.nodes.length m0, .slice D1 Q.links.length m1])).put (H.size + 1 + 1) (.own 0 [.int .i64 M.told, .bool M.over, .slice E0 M.nodes.length n0, .int .u64 M.rest, .slice W0 M.items.length cW0]) := ⟨_, rfl⟩
 have g5 : H7.sees (H7.put H.size (.own 0 [.slice C0 F.vars.length k0, .slice C1 F.order.length k1, .slice C2 F.parent.length k2, .slice C3 F.links.length k3, .slice C4 F.loops.length k4])) := Hp.sees_box _ h70
 have g6 : (H7.put H.size (.own 0 [.slice C0 F.vars.length k0, .slice C1 F.order.length k1, .slice C2 F.parent.length k2, .slice C3 F.links.length k3, .slice C4 F.loops.length k4])).sees ((H7.put H.size (.own 0 [.slice C0 F.vars.length k0, .slice C1 F.order.length k1, .slice C2 F.parent.length k2, .slice C3 F.links.length k3, .slice C4 F.loops.length k4])).put (H.size + 1) (.own 0 [.slice D0 Q.nodes.length m0, .slice D1 Q.links.length m1])) := Hp.sees_box _ (by rw [Hp.put_other _ _ (by omega)]; exact h71)
 have g7 : ((H7.put H.size (.own 0 [.slice C0 F.vars.length k0, .slice C1 F.order.length k1, .slice C2 F.parent.length k2, .slice C3 F.links.length k3, .slice C4 F.loops.length k4])).put (H.size + 1) (.own 0 [.slice D0 Q.nodes.length m0, .slice D1 Q.links.length m1])).sees HA := by rw [hHA]; exact Hp.sees_box _ (by rw [Hp.put_other _ _ (by omega), Hp.put_other _ _ (by omega)]; exact h72)
 have fA := kForest.mono ((g5.trans g6).trans g7) hf7
 have qA := kParts.mono ((g5.trans g6).trans g7) hq7
 have MA := kMark.mono ((g5.trans g6).trans g7) hM70
 have leA : H.le HA := by rw [hHA]; exact Hp.le_put_new (Hp.le_put_new (Hp.le_put_new (Hp.le_trans (Hp.le_trans (Hp.le_push' (Hp.le_push' (H.le_push _) _) _) hle5) (Hp.le_trans hle6 hle7)) (by omega) _) (by omega) _) (by omega) _
 have zA : H.size + 3 ≤ HA.size := by rw [hHA]; simp; omega
 have A0' : HA.get H.size = .own 0 [.slice C0 F.vars.length k0, .slice C1 F.order.length k1, .slice C2 F.parent.length k2, .slice C3 F.links.length k3, .slice C4 F.loops.length k4] := by rw [hHA, Hp.put_other _ _ (by omega), Hp.put_other _ _ (by omega)]; exact Hp.put_same _ _ _
 have A1' : HA.get (H.size + 1) = .own 0 [.slice D0 Q.nodes.length m0, .slice D1 Q.links.length m1] := by rw [hHA, Hp.put_other _ _ (by omega)]; exact Hp.put_same _ _ _
 have A2' : HA.get (H.size + 1 + 1) = .own 0 [.int .i64 M.told, .bool M.over, .slice E0 M.nodes.length n0, .int .u64 M.rest, .slice W0 M.items.length cW0] := by rw [hHA]; exact Hp.put_same _ _ _
 change ACode true _ _ _ _ _ (((H7.put H.size (.own 0 [.slice C0 F.vars.length k0, .slice C1 F.order.length k1, .slice C2 F.parent.length k2, .slice C3 F.links.length k3, .slice C4 F.loops.length k4])).put (H.size + 1) (.own 0 [.slice D0 Q.nodes.length m0, .slice D1 Q.links.length m1])).put (H.size + 1 + 1) (.own 0 [.int .i64 M.told, .bool M.over, .slice E0 M.nodes.length n0, .int .u64 M.rest, .slice W0 M.items.length cW0]))
 rw [← hHA]
 clear hHA g5 g6 g7 h70 h71 h72 hf7 hq7 hf6 hq6 hle5 hle6 hle7 hz5 hz6 hz7 hf5 hM70
 refine Yw (by kernel_rfl) (Y1 (B := [0, 1, 0, 7, 15, 31, 63, 63, 127, 511]) (π := [0, 2, 1, 3, 4, 5, 6, 7, 8, 9]) (by kernel_rfl)) ?_
 refine Xd rfl rfl (Yg (cs := [.slice _ _ _, .slice _ _ _, .slice _ _ _, .slice _ _ _, .slice _ _ _]) rfl Tryz.underlying26 rfl inf26.size X6) Xq ?_
 refine Xd rfl rfl (Yg (cs := [.slice _ _ _, .slice _ _ _]) rfl Tryz.underlying29 rfl inf29.size X6) Xq ?_
 refine Yk rfl rfl (Xy (Forest_28 F _ _ fA hbg) rfl Tryz.func10 rfl rfl rfl ?_)
 rintro v8 H8 ⟨hle8, es, rfl, hes⟩; rw [hff] at hes; have f8 := hes; obtain ⟨a5, a6, a7, a8, a9, rfl, hu0, hu1, hu2, hu3, hu4⟩ := hes; obtain ⟨E1, l1, rfl⟩ := hu0.shape; obtain ⟨E2, l2, rfl⟩ := hu1.shape; obtain ⟨E3, l3, rfl⟩ := hu2.shape; obtain ⟨E4, l4, rfl⟩ := hu3.shape; obtain ⟨E5, l5, rfl⟩ := hu4.shape
 refine ⟨Ye, ?_⟩
 refine Yk rfl rfl (Xy (Few4_parts Q _ _ (kParts.mono hle8.sees qA) hbq.l0 hbq.l1 hbq.s0 hbq.s1) rfl Tryz.func11 rfl rfl rfl ?_)
 rintro v9 H9 ⟨hle9, es, rfl, hes⟩; rw [hpp] at hes; have q9 := hes; obtain ⟨b2, b3, rfl, hm2, hm3⟩ := hes; obtain ⟨D2, m2, rfl⟩ := hm2.shape; obtain ⟨D3, m3, rfl⟩ := hm3.shape
 refine ⟨Ye, ?_⟩
 refine Yk rfl rfl (Xy (New_tree F Q _ _ _ (kForest.mono hle9.sees f8) q9 hsm hch) rfl Tryz.func13 rfl rfl rfl ?_)
 rintro v10 HB ⟨hle10, g, tv, hg, rfl, htv⟩
 refine ⟨Ye, ?_⟩
 refine Xd rfl rfl (Zl rfl) Xq ?_
 refine Xd rfl rfl (Ym rfl rfl) Xq ?_
 refine Xd rfl rfl (Ym rfl rfl) Xq ?_
 refine Xd rfl rfl (Vg rfl) Xq ?_
 refine Xd rfl rfl (Xn rfl) Xq ?_
 refine Xe ?_
 refine Xe ?_
 have leAB := Hp.le_trans hle8 (Hp.le_trans hle9 hle10)
 have leB := Hp.le_trans leA leAB
 have zAB := leAB.1
 have fB := kForest.mono leAB.sees fA
 have qB := kParts.mono leAB.sees qA
 have MB := kMark.mono leAB.sees MA
 have B0' := Xr leAB (by omega) (by intro e; cases e) A0'
 have B1' := Xr leAB (by omega) (by intro e; cases e) A1'
 have B2' := Xr leAB (by omega) (by intro e; cases e) A2'
 clear hle8 hle9 hle10 f8 q9 hm2 hm3 hu0 hu1 hu2 hu3 hu4
 refine Xu ?_
 refine Xa (Yg (cs := [.slice _ _ _, .slice _ _ _, .slice _ _ _, .slice _ _ _, .slice _ _ _]) rfl Tryz.underlying26 rfl inf26.size X6) ?_
 refine Xa (Yg (cs := [.slice _ _ _, .slice _ _ _]) rfl Tryz.underlying29 rfl inf29.size X6) ?_
 refine Xx (Xy (few36_ok F Q _ _ _ fB qB hsm) rfl Tryz.func14 rfl rfl rfl ?_)
 rintro v33 HB ⟨⟨bf, rfl, hbf2⟩, rfl⟩
 refine Xa (Z0 rfl) ?_
 refine X5 rfl rfl ?_ ?_
 intro hc1
 obtain rfl : bf = false := by simpa using hc1
 have hbad : ¬ (GoodP F Q ∧ F.vars.length < 5) := fun h => by have := hbf2.2 h; cases this
 refine Xe ?_
 refine Xu ?_
 refine Xa (Xc rfl) ?_
 refine Xa (Z3 rfl rfl) ?_
 refine Xa (Xo rfl) ?_
 refine X7 rfl rfl rfl ?_ ?_
 intro hg2
 have hgf : True := trivial
 refine Xb (Xg rfl rfl rfl hg2 rfl) ?_
 refine Xb (Xg rfl rfl rfl hg2 rfl) ?_
 refine Xb (Xg rfl rfl rfl hg2 rfl) ?_
 refine Xb (Xg rfl rfl rfl hg2 rfl) ?_
 refine Xa (Xk (Yv hg2) rfl) ?_
 refine Xa (Xo rfl) ?_
 refine Z6 (Xh rfl rfl rfl rfl) (Xy (lives36_ok _) rfl Tryz.func15 rfl rfl rfl ?_)
 rintro v H' ⟨rfl, hlv⟩
 refine Xa (Xk (congrArg Value.bool rfl) rfl) ?_
 refine Xa (Xm rfl) ?_
 refine X1 ?_
 exact ⟨.bool true, Xw (Xt rfl), rfl, Hp.le_trans leB hlv⟩
 intro hg2
 have hgt : g = true := by cases g with | true => rfl | false => exact absurd hg2 (by simp)
 have hmany : ¬ F.vars.length < 5 := fun h => hbad ⟨hg.1 hgt, h⟩
 refine Xi (Xh rfl rfl rfl hg2) (Xf (off := 0) rfl Tryz.underlying26 rfl inf22.size (by decide) rfl) ?_
 refine Xi (Xh rfl rfl rfl hg2) (Xj rfl Tryz.underlying22 rfl Xp) ?_
 refine Xi (Xh rfl rfl rfl hg2) (Yp rfl Tryz.underlying22) ?_
 refine Xi (Xh rfl rfl rfl hg2) (Vo rfl rfl) ?_
 refine Xa (Xk (Yv hg2) rfl) ?_
 refine Xa (Xo rfl) ?_
 refine X7 rfl rfl rfl ?_ ?_
 intro hg3
 have hp3 := hg3; try simp only [Ys] at hp3
 refine Z6 (Xh rfl rfl rfl hg3) (Xy (lives36_ok _) rfl Tryz.func15 rfl rfl rfl ?_)
 rintro v H' ⟨rfl, hlv⟩
 refine Xa (Xk (Yv hg3) rfl) ?_
 refine Xa (Xm rfl) ?_
 refine X1 ?_
 exact ⟨.bool true, Xw (Xt rfl), rfl, Hp.le_trans leB hlv⟩
 intro hg3
 (have h := of_decide_eq_false hg3; omega)
 intro hc1
 obtain rfl : bf = true := by simpa using hc1
 obtain ⟨hG, hfive⟩ := hbf2.1 rfl
 obtain rfl : g = true := hg.2 hG
 rw [if_pos rfl] at htv
 obtain ⟨tb, _, _, _, _, _, etv, _⟩ := id htv
 subst etv
 have ht := htn hG (by omega)
 obtain ⟨k1', k2', k3', k4'⟩ := ofP_all hG
 have hX := ofP_good hG
 have hsx := small_sub hsm k1' k2'
 have hT := good_tree hX hsx ((hch hG).sub k2') (by omega)
 have hA := alive_tree hG
 have hpos := fun i a z hz => (group_pos hX k3' i a z hz).1
 obtain ⟨hrm, hrr⟩ := rows_ext hG
 have hol : F.order.length = F.vars.length := hG.gf.l1
 obtain ⟨tl1, tl2, tl3⟩ := Uj (f := F) (ofP F Q)
 have hrl : (Uq F Q).length ≤ 256 := Nat.le_trans (rowsK_len ht F.order.length) (Nat.pow_le_pow_right (by omega) (by omega : F.order.length ≤ 4))
 have hrn : ∀ r ∈ Uq F Q, r.nodes.length = F.vars.length := fun r hr => by have := rows_len (f := F) (p := Q) F.order.length r hr; omega
 have hev : ∀ r ∈ Uq F Q, ∀ n ∈ r.nodes, ¬ oddI n := fun r hr => rows_even hG F.order.length (by omega) r hr
 obtain ⟨T, hTe⟩ : ∃ T, T = Zd F (ofP F Q) := ⟨_, rfl⟩
 rw [← hTe] at htv hT hA hrm tl1 tl2 tl3
 simp only [← hTe] at hrr hpos
 obtain ⟨rows, hrows⟩ : ∃ rows, rows = Uq F Q := ⟨_, rfl⟩
 rw [← hrows] at hrm hrl
 simp only [← hrows] at hrn hrr hev
 have hvl : T.vars.length = F.vars.length := tl1.trans hol
 rw [← hvl] at hrm
 have hrp := rows_pos hT hpos hrm hrr
 have hfs := fits_same hT hrm hrr M
 refine Ya ?_
 refine Xe ?_
 refine Xu ?_
 refine Xa (Yg (cs := [.slice _ _ _, .slice _ _ _, .slice _ _ _, .slice _ _ _, .slice _ _ _]) rfl Tryz.underlying26 rfl inf26.size X6) ?_
 refine Xa (Yg (cs := [.slice _ _ _, .slice _ _ _]) rfl Tryz.underlying29 rfl inf29.size X6) ?_
 refine Xx (Xy (Rows_ref F Q _ _ _ fB qB hG hsm ht) rfl Tryz.func16 rfl rfl rfl ?_)
 rintro v48 HR ⟨hleR, hrR⟩; rw [← hrows] at hrR; obtain ⟨Dr, mr, rfl⟩ := hrR.shape; have zR := hleR.1; have R0' := Xr hleR (by omega) (by intro e; cases e) B0'; have R2' := Xr hleR (by omega) (by intro e; cases e) B2'; have MR := kMark.mono hleR.sees MB; have trR := htv.mono hleR
 refine Xa (Yi rfl) ?_
 refine Xe ?_
 refine Xu ?_
 refine Xa (Xz rfl) ?_
 refine Xa (Yg (cs := [.int .i64 _, .bool _, .slice _ _ _, .int .u64 _, .slice _ _ _]) rfl Tryz.underlying33 rfl inf33.size X6) ?_
 refine Xx (Xy (Mark_36 M _ _ MR hbM) rfl Tryz.func12 rfl rfl rfl ?_)
 rintro v52 H7 ⟨le7, ds7, rfl, hM7⟩; rw [hcc] at hM7; have hM70 := hM7; obtain ⟨v7, w7, rfl, hv7, hw7⟩ := hM7; obtain ⟨A7, c7', rfl⟩ := hv7.shape; obtain ⟨W7, cW7, rfl⟩ := hw7.shape
 refine Xx (Xy (Next_T hT hA M _ _ (trR.mono le7) hM70 hbM hrM) rfl Tryz.func17 rfl rfl rfl ?_)
 rintro v53 H8 ⟨⟨o, rest, A8, c8, x, B8, k8, rfl, sl8, sx8, hxn, hxf⟩, le8⟩; have leR8 := Hp.le_trans le7 le8; have z8 := leR8.1
 refine Xa (Zl rfl) ?_
 refine Xa (Ym rfl rfl) ?_
 refine Xa (Ym rfl rfl) ?_
 refine Xa (Ym rfl rfl) ?_
 refine X0 (Yy (l := [.slice none 0 0, .int .i64 0, .int .u64 0]) inf46.zero rfl (by decide)) ?_
 refine X0 (Yy (l := [.int .i64 0, .bool false, .slice none 0 0, .int .u64 0, .slice none 0 0]) inf33.zero rfl (by decide)) ?_
 refine Xx (Yf (vs := [.slice _ _ _, .int .i64 _, .int .u64 _]) rfl rfl inf46.size Yb Yd rfl rfl ?_)
 refine Xx (Yf (vs := [.int .i64 _, .bool _, .slice _ _ _, .int .u64 _, .slice _ _ _]) rfl rfl inf33.size Yb Yd rfl rfl ?_)
 refine Xa (Xm rfl) ?_
 refine Xe ?_
 refine Xe ?_
 obtain ⟨H9, hH9⟩ : ∃ H9, H9 = (((H8.push (.own 0 [.slice none 0 0, .int .i64 0, .int .u64 0])).push (.own 0 [.int .i64 0, .bool false, .slice none 0 0, .int .u64 0, .slice none 0 0])).put H8.size (.own 0 [.slice A8 (Uv o).length c8, .int .i64 (rowC o), .int .u64 (rowM o)])).put (H8.size + 1) (.own 0 [.int .i64 x.told, .bool x.over, .slice B8 x.nodes.length k8, .int .u64 x.rest, .slice none 0 0]) := ⟨_, rfl⟩
 have le89 : H8.le H9 := by rw [hH9]; exact Hp.le_put_new (Hp.le_put_new (Hp.le_push' (H8.le_push _) _) (Nat.le_refl _) _) (Nat.le_succ _) _
 have x90 : H9.get H8.size = .own 0 [.slice A8 (Uv o).length c8, .int .i64 (rowC o), .int .u64 (rowM o)] := by rw [hH9, Hp.put_other _ _ (by omega)]; exact Hp.put_same _ _ _
 have x91 : H9.get (H8.size + 1) = .own 0 [.int .i64 x.told, .bool x.over, .slice B8 x.nodes.length k8, .int .u64 x.rest, .slice none 0 0] := by rw [hH9]; exact Hp.put_same _ _ _
 have z9 : H9.size = H8.size + 2 := by rw [hH9]; simp
 change ACode true _ _ _ _ _ ((((H8.push (.own 0 [.slice none 0 0, .int .i64 0, .int .u64 0])).push (.own 0 [.int .i64 0, .bool false, .slice none 0 0, .int .u64 0, .slice none 0 0])).put H8.size (.own 0 [.slice A8 (Uv o).length c8, .int .i64 (rowC o), .int .u64 (rowM o)])).put (H8.size + 1) (.own 0 [.int .i64 x.told, .bool x.over, .slice B8 x.nodes.length k8, .int .u64 x.rest, .slice none 0 0]))
 rw [← hH9]
 clear hH9
 have leR9 := Hp.le_trans leR8 le89
 have M9 := kMark.mono leR9.sees MR
 have r9 := hrR.mono leR9.sees
 have tr9 := trR.mono leR9
 have y90 := Xr leR9 (by omega) (by intro e; cases e) R0'
 have y92 := Xr leR9 (by omega) (by intro e; cases e) R2'
 have sl9 := sl8.mono le89.sees
 have sx9 := sx8.mono le89.sees
 have hxi : x.items = [] := by
  by_cases h : FitsT T M
  ·obtain ⟨h1, h2, h3⟩ := hxf h
   cases ho : o with
   | none => rw [h2 ho]
   | some r => rw [h3 r ho]
  ·rw [(hxn h).2]; rfl
 have X9 : kMark.rep H9 x [.int .i64 x.told, .bool x.over, .slice B8 x.nodes.length k8, .int .u64 x.rest, .slice none 0 0] := ⟨_, _, rfl, sx9, by rw [hxi]; exact Sl.nil _ _⟩
 have hnn : x.nodes.length ≤ 1000000 := by
  by_cases h : FitsT T M
  ·obtain ⟨h1, h2, h3⟩ := hxf h
   cases ho : o with
   | none => rw [h2 ho]; exact Nat.zero_le _
   | some r =>
    rw [h3 r ho]
    rcases next_row hT hA hrm hrr h h1 ho with ⟨i, hi, rfl⟩
    have := hrn _ (List.getElem_mem hi)
    show rows[i].nodes.length ≤ _
    omega
  ·rw [(hxn h).2]; exact Nat.zero_le _
 have hbx : BigM x := ⟨by omega, by rw [hxi]; exact Nat.zero_le _, fun y hy => by rw [hxi] at hy; cases hy⟩
 refine Yw (by kernel_rfl) (Y1 (B := [0, 0, 2, 7, 0, 0, 63, 127]) (π := [0, 1, 4, 5, 2, 3, 6, 7]) (by kernel_rfl)) ?_
 refine Xd rfl rfl (Xz rfl) Xq ?_
 refine Xd rfl rfl (Yg (cs := [.int .i64 _, .bool _, .slice _ _ _, .int .u64 _, .slice _ _ _]) rfl Tryz.underlying33 rfl inf33.size X6) Xq ?_
 refine Xd rfl rfl (X2 rfl) Xq ?_
 refine Xd rfl rfl (Yg (cs := [.int .i64 _, .bool _, .slice _ _ _, .int .u64 _, .slice _ _ _]) rfl Tryz.underlying33 rfl inf33.size X6) Xq ?_
 refine Yk rfl rfl (Xy (Mark_36 M _ _ M9 hbM) rfl Tryz.func12 rfl rfl rfl ?_)
 rintro v59 H10 ⟨le10, ds10, rfl, hM10⟩; rw [hcc] at hM10; have hM100 := hM10; obtain ⟨v10, w10, rfl, hv10, hw10⟩ := hM10; obtain ⟨A10, c10', rfl⟩ := hv10.shape; obtain ⟨W10, cW10, rfl⟩ := hw10.shape; have z10 := le10.1; have y102 := Xr le10 (by omega) (by intro e; cases e) y92
 refine ⟨Ye, ?_⟩
 refine Yk rfl rfl (Xy (Fits_T hT M _ _ (tr9.mono le10) hM100 hbM) rfl Tryz.func18 rfl rfl rfl ?_)
 rintro v60 H11 ⟨⟨g1, rfl, hg1⟩, le11⟩; have z11 := le11.1; have le911 := Hp.le_trans le10 le11; have y112 := Xr le11 (by omega) (by intro e; cases e) y102; have y110 := Xr le911 (by omega) (by intro e; cases e) y90; have x110 := Xr le911 (by omega) (by intro e; cases e) x90; have x111 := Xr le911 (by omega) (by intro e; cases e) x91; have M11 := kMark.mono le911.sees M9; have r11 := r9.mono le911.sees; have tr11 := tr9.mono le911; have X11 := kMark.mono le911.sees X9; have sl11 := sl9.mono le911.sees; have leH11 := Hp.le_trans (Hp.le_trans leB hleR) (Hp.le_trans leR9 le911); have zR11 := Hp.le_trans leR9 le911
 refine ⟨Ye, ?_⟩
 refine Yk rfl rfl (Xy (FitsR_ref rows _ M _ _ r11 (by omega) M11 hbM hrM (by have := hbM; rw [hMe]; show (mk.nodes.take 14).length ≤ _; rw [List.length_take]; omega)) rfl Tryz.func19 rfl rfl rfl ?_)
 rintro v63 H11 ⟨⟨g2, rfl, hg2⟩, rfl⟩; have hgg : g1 = g2 := (by rw [Bool.eq_iff_iff, hg1, hg2, hfs])
 refine ⟨Ye, ?_⟩
 refine Xd rfl rfl (av_bne rfl rfl Tryz.underlying4) Xq ?_
 refine X5 rfl rfl ?_ ?_
 intro hc4
 (have h := hc4; rw [hgg] at h; simp at h)
 intro hc4
 (try simp only [Ys] at hc4)
 refine Ya ?_
 refine Xe ?_
 refine Xe ?_
 refine Xu ?_
 refine Xa (X2 rfl) ?_
 refine Xa (Yg (cs := [.int .i64 _, .bool _, .slice _ _ _, .int .u64 _, .slice _ _ _]) rfl Tryz.underlying33 rfl inf33.size X6) ?_
 refine Xx (Xy (FitsR_ref rows _ M _ _ r11 (by omega) M11 hbM hrM (by rw [hMe]; show (mk.nodes.take 14).length ≤ _; rw [List.length_take]; omega)) rfl Tryz.func19 rfl rfl rfl ?_)
 rintro v67 H11 ⟨⟨g3, rfl, hg3⟩, rfl⟩
 refine Xa (Z0 rfl) ?_
 refine X5 rfl rfl ?_ ?_
 intro hc5
 have hnf : ¬ FitsT T M := fun h => by have h2 := hc5; rw [hg3.2 (hfs.1 h)] at h2; cases h2
 obtain ⟨rfl, rfl⟩ := hxn hnf
 refine Xe ?_
 refine Xu ?_
 refine Xa (Xf (off := 0) rfl Tryz.underlying46 rfl inf23.size (by decide) rfl) ?_
 refine Xa (Xj rfl Tryz.underlying23 rfl Xp) ?_
 refine Xa (Yp rfl Tryz.underlying23) ?_
 refine Xa (Zr rfl rfl) ?_
 refine Xa (Xo rfl) ?_
 refine X7 rfl rfl rfl ?_ ?_
 intro hg6
 have hp6 := hg6; try simp only [Ys] at hp6
 refine Xi (Xh rfl rfl rfl hg6) (Xf (off := 2) rfl Tryz.underlying46 rfl inf30.size (by decide) rfl) ?_
 refine Xi (Xh rfl rfl rfl hg6) (Xj rfl Tryz.underlying30 rfl Xp) ?_
 refine Xi (Xh rfl rfl rfl hg6) (Zr rfl rfl) ?_
 refine Xa (Xk (Yv hg6) rfl) ?_
 refine Xa (Xo rfl) ?_
 refine X7 rfl rfl rfl ?_ ?_
 intro hg7
 have hp7 := hg7; try simp only [Ys] at hp7
 refine Xi (Xh rfl rfl rfl hg7) (Yg (cs := [.int .i64 _, .bool _, .slice _ _ _, .int .u64 _, .slice _ _ _]) rfl Tryz.underlying33 rfl inf33.size X6) ?_
 refine Xi (Xh rfl rfl rfl hg7) (Y6 (pl := [(0, 1), (1, 1), (2, 1), (3, 1), (4, 1)]) (r := [.int .i64 _, .bool _, .slice _ _ _, .int .u64 _, .slice _ _ _]) Tryz.underlying33 inf33.zero (by decide) rfl rfl) ?_
 refine Z6 (Xh rfl rfl rfl hg7) (Xy (sameM_36 startM startM _ _ _ X11 (start_rep _) hbx start_big) rfl Tryz.func20 rfl rfl rfl ?_)
 rintro v81 H11 ⟨⟨gs, rfl, hgs⟩, rfl⟩; obtain rfl : gs = true := hgs.2 ⟨rfl, rfl, rfl, rfl⟩
 refine Xa (Xk (Yv hg7) rfl) ?_
 refine Xa (Xo rfl) ?_
 refine X7 rfl rfl rfl ?_ ?_
 intro hg8
 have hp8 := hg8; try simp only [Ys] at hp8
 refine Xi (Xh rfl rfl rfl hg8) (Xo rfl) ?_
 refine Xi (Xh rfl rfl rfl hg8) (Z0 rfl) ?_
 refine Xa (Xk (Yv hg8) rfl) ?_
 refine Xa (Xo rfl) ?_
 refine X7 rfl rfl rfl ?_ ?_
 intro hg9
 have hp9 := hg9; try simp only [Ys] at hp9
 refine Z6 (Xh rfl rfl rfl hg9) (Xy (lives36_ok _) rfl Tryz.func15 rfl rfl rfl ?_)
 rintro v H' ⟨rfl, hlv⟩
 refine Xa (Xk (Yv hg9) rfl) ?_
 refine Xa (Xm rfl) ?_
 refine X1 ?_
 exact ⟨.bool true, Xw (Xt rfl), rfl, Hp.le_trans leH11 hlv⟩
 intro hg9
 exact absurd hg9 (by decide)
 intro hg8
 exact absurd hg8 (by decide)
 intro hg7
 exact absurd hg7 (by decide)
 intro hg6
 exact absurd hg6 (by decide)
 intro hc5
 have hft : FitsT T M := hfs.2 (hg3.1 (by have h := hc5; simpa using h))
 obtain ⟨hnx, hx1, hx2⟩ := hxf hft
 have hgd := hft.1
 have ht0 := hgd.t0
 have ht1 := hgd.t1
 refine Ya ?_
 refine Xe ?_
 refine Xu ?_
 refine Xa (X2 rfl) ?_
 refine Xa (Yg (cs := [.int .i64 _, .bool _, .slice _ _ _, .int .u64 _, .slice _ _ _]) rfl Tryz.underlying33 rfl inf33.size X6) ?_
 refine Xx (Xy (NextR_ref rows _ M _ _ r11 (by omega) M11 hbM hrM (hfs.1 hft) (fun r hr => (row_most (hrr r hr)).1)) rfl Tryz.func21 rfl rfl rfl ?_)
 rintro v93 HN ⟨⟨at_, restR, rfl, hnr⟩, leN⟩; have zN := leN.1; have hlink := next_link hT hA hrm hrr hft hnx hnr; have n112 := Xr leN (by omega) (by intro e; cases e) y112; have n110 := Xr leN (by omega) (by intro e; cases e) y110; have nx0 := Xr leN (by omega) (by intro e; cases e) x110; have nx1 := Xr leN (by omega) (by intro e; cases e) x111; have MN := kMark.mono leN.sees M11; have rN := r11.mono leN.sees; have trN := tr11.mono leN; have XN := kMark.mono leN.sees X11; have slN := sl11.mono leN.sees; have leHN := Hp.le_trans leH11 leN
 refine Xa (Zl rfl) ?_
 refine Xa (Ym rfl rfl) ?_
 refine Xa (Ym rfl rfl) ?_
 refine Xa (Xn rfl) ?_
 refine Xa (Xn rfl) ?_
 refine Xe ?_
 refine Xe ?_
 refine Xu ?_
 refine Xa (Xc rfl) ?_
 refine Xa (Y5 rfl rfl) ?_
 refine X5 rfl rfl ?_ ?_
 intro hc10
 have hneg : at_ < 0 := of_decide_eq_true hc10
 have hon : o = none := by
  rcases hlink with ⟨_, h⟩ | ⟨i, h, _⟩
  ·exact h
  ·omega
 subst hon
 have hxe := hx1 rfl
 subst hxe
 refine Xe ?_
 refine Xu ?_
 refine Xa (Xf (off := 0) rfl Tryz.underlying46 rfl inf23.size (by decide) rfl) ?_
 refine Xa (Xj rfl Tryz.underlying23 rfl Xp) ?_
 refine Xa (Yp rfl Tryz.underlying23) ?_
 refine Xa (Zr rfl rfl) ?_
 refine Xa (Xo rfl) ?_
 refine X7 rfl rfl rfl ?_ ?_
 intro hg11
 have hp11 := hg11; try simp only [Ys] at hp11
 refine Xi (Xh rfl rfl rfl hg11) (Xo rfl) ?_
 refine Xi (Xh rfl rfl rfl hg11) (Z0 rfl) ?_
 refine Xa (Xk (Yv hg11) rfl) ?_
 refine Xa (Xo rfl) ?_
 refine X7 rfl rfl rfl ?_ ?_
 intro hg12
 have hp12 := hg12; try simp only [Ys] at hp12
 refine Xi (Xh rfl rfl rfl hg12) (Yg (cs := [.int .i64 _, .bool _, .slice _ _ _, .int .u64 _, .slice _ _ _]) rfl Tryz.underlying33 rfl inf33.size X6) ?_
 refine Xi (Xh rfl rfl rfl hg12) (Xf (off := 0) rfl Tryz.underlying33 rfl inf3.size (by decide) rfl) ?_
 refine Xi (Xh rfl rfl rfl hg12) (Xj rfl Tryz.underlying3 rfl Xp) ?_
 refine Xi (Xh rfl rfl rfl hg12) (Y6 (pl := [(0, 1), (1, 1), (2, 1), (3, 1), (4, 1)]) (r := [.int .i64 _, .bool _, .slice _ _ _, .int .u64 _, .slice _ _ _]) Tryz.underlying33 inf33.zero (by decide) rfl rfl) ?_
 refine Z6 (Xh rfl rfl rfl hg12) (Xy (sameM_36 ⟨M.told, true, [], 0, []⟩ ⟨M.told, true, [], 0, []⟩ _ [.int .i64 M.told, .bool true, .slice none 0 0, .int .u64 0, .slice none 0 0] _ XN ⟨_, _, rfl, Sl.nil _ _, Sl.nil _ _⟩ hbx hbx) rfl Tryz.func20 rfl rfl rfl ?_)
 rintro v111 HN ⟨⟨gs, rfl, hgs⟩, rfl⟩; obtain rfl : gs = true := hgs.2 ⟨rfl, rfl, rfl, rfl⟩
 refine Xa (Xk (Yv hg12) rfl) ?_
 refine Xa (Xo rfl) ?_
 refine X7 rfl rfl rfl ?_ ?_
 intro hg13
 have hp13 := hg13; try simp only [Ys] at hp13
 refine Z6 (Xh rfl rfl rfl hg13) (Xy (lives36_ok _) rfl Tryz.func15 rfl rfl rfl ?_)
 rintro v H' ⟨rfl, hlv⟩
 refine Xa (Xk (Yv hg13) rfl) ?_
 refine Xa (Xm rfl) ?_
 refine X1 ?_
 exact ⟨.bool true, Xw (Xt rfl), rfl, Hp.le_trans leHN hlv⟩
 intro hg13
 exact absurd hg13 (by decide)
 intro hg12
 exact absurd hg12 (by decide)
 intro hg11
 exact absurd hg11 (by decide)
 intro hc10
 have hneg : ¬ at_ < 0 := of_decide_eq_false hc10
 obtain ⟨i, rfl, hi, rfl, rfl⟩ : ∃ i : Nat, at_ = i ∧ ∃ h : i < rows.length, o = some rows[i] ∧ rest = restR := by
  rcases hlink with ⟨h, _⟩ | h
  ·exact absurd h hneg
  ·exact h
 obtain ⟨r, hr⟩ : ∃ r, r = rows[i] := ⟨_, rfl⟩
 have hxe := hx2 _ rfl
 have hrow := hrr _ (List.getElem_mem hi)
 have hrnl := hrn _ (List.getElem_mem hi)
 have hrev := hev _ (List.getElem_mem hi)
 have hrlt := next_lt hnr hft hrp hi hrm hrr hT
 obtain ⟨bD, oD, wD, eD, hbD, hcD2, hwD⟩ := rN.row_at hi
 rw [← hr] at hxe hrow hrnl hrev hrlt hcD2 hwD slN
 have nx0 : HN.get H8.size = .own 0 [.slice A8 r.nodes.length c8, .int .i64 r.cost, .int .u64 r.n] := by rw [hr]; exact nx0
 obtain ⟨AD, cD, rfl⟩ := hwD.shape
 have hcD0 : HN.cell? bD (oD + ((i : Int)).toNat * 3 + 0) = some (.slice AD r.nodes.length cD) := hcD2 0 _ rfl
 have hcDr : Cells HN bD (oD + ((i : Int)).toNat * 3) [.slice AD r.nodes.length cD, .int .i64 r.cost, .int .u64 r.n] := hcD2
 subst eD
 refine Ya ?_
 refine Xe ?_
 refine Xu ?_
 refine Xa (Xf (off := 0) rfl Tryz.underlying33 rfl inf3.size (by decide) rfl) ?_
 refine Xa (Xj rfl Tryz.underlying3 rfl Xp) ?_
 refine Xa (Yo rfl rfl Y0) ?_
 refine Xa (Xn rfl) ?_
 refine Xe ?_
 refine Xe ?_
 refine Xu ?_
 refine Xa (Xc rfl) ?_
 refine Xa (Vo rfl rfl) ?_
 refine ac_cut (fun t H' => H' = HN ∧ t 3 = .pointer (some ⟨H.size, 0, none⟩) ∧ t 7 = .pointer (some ⟨tb, 0, none⟩) ∧ t 9 = .slice (some ⟨bD, oD, none⟩) rows.length mr ∧ t 10 = .pointer (some ⟨H8.size, 0, none⟩) ∧ t 11 = .pointer (some ⟨H8.size + 1, 0, none⟩) ∧ t 12 = .bool true ∧ t 13 = .int .i64 i ∧ t 14 = .int .u64 rest ∧ t 15 = .int .i64 (if 9007199254740992 < M.told + 1 then 9007199254740992 else M.told + 1)) ?_ ?_
 refine X5 rfl rfl ?_ ?_
 intro hc14
 have hcl : 9007199254740992 < M.told + 1 := of_decide_eq_true hc14
 refine Xu ?_
 refine Xa (Xn rfl) ?_
 first
  | exact ⟨rfl, rfl, rfl, rfl, rfl, rfl, rfl, rfl, rfl, congrArg (Value.int .i64) (if_pos hcl).symm⟩
  | exact ⟨rfl, rfl, rfl, rfl, rfl, rfl, rfl, rfl, rfl, congrArg (Value.int .i64) (if_neg hcl).symm⟩
 intro hc14
 have hcl : ¬ 9007199254740992 < M.told + 1 := of_decide_eq_false hc14
 refine Ya ?_
 first
  | exact ⟨rfl, rfl, rfl, rfl, rfl, rfl, rfl, rfl, rfl, congrArg (Value.int .i64) (if_pos hcl).symm⟩
  | exact ⟨rfl, rfl, rfl, rfl, rfl, rfl, rfl, rfl, rfl, congrArg (Value.int .i64) (if_neg hcl).symm⟩
 rintro t HN ⟨rfl, e3, e7, e9, e10, e11, e12, e13, e14, e15⟩
 refine Xe ?_
 refine Xu ?_
 refine Xa (Xc Xl) ?_
 refine Xa (X2 Xl) ?_
 refine Xa (Xc Xl) ?_
 refine Xa (Xs rfl rfl Tryz.underlying43 inf54.size X4 X4) ?_
 refine Xa (Xf (off := 0) rfl Tryz.underlying54 rfl inf23.size (by decide) rfl) ?_
 refine Xa (Xj rfl Tryz.underlying23 rfl Xp) ?_
 refine Xa (Xc Xl) ?_
 refine Xa (Y6 (pl := [(0, 1), (1, 1), (2, 1), (3, 1), (4, 1)]) (r := [.int .i64 _, .bool _, .slice _ _ _, .int .u64 _, .slice _ _ _]) Tryz.underlying33 inf33.zero (by decide) rfl rfl) ?_
 refine X0 (Yy (l := [.int .i64 0, .bool false, .slice none 0 0, .int .u64 0, .slice none 0 0]) inf33.zero rfl (by decide)) ?_
 refine Xx (Yf (vs := [.int .i64 _, .bool _, .slice _ _ _, .int .u64 _, .slice _ _ _]) rfl rfl inf33.size Yb Yd rfl rfl ?_)
 refine Xe ?_
 obtain ⟨HW, hHW⟩ : ∃ HW, HW = (HN.push (.own 0 [.int .i64 0, .bool false, .slice none 0 0, .int .u64 0, .slice none 0 0])).put HN.size (.own 0 [.int .i64 (if 9007199254740992 < M.told + 1 then 9007199254740992 else M.told + 1), .bool false, .slice AD r.nodes.length cD, .int .u64 rest, .slice none 0 0]) := ⟨_, rfl⟩
 have leW : HN.le HW := by rw [hHW]; exact Hp.le_put_new (HN.le_push _) (Nat.le_refl _) _
 have w1 : HW.get HN.size = .own 0 [.int .i64 (if 9007199254740992 < M.told + 1 then 9007199254740992 else M.told + 1), .bool false, .slice AD r.nodes.length cD, .int .u64 rest, .slice none 0 0] := by rw [hHW]; exact Hp.put_same _ _ _
 have zW : HW.size = HN.size + 1 := by rw [hHW]; simp
 change ACode true _ _ _ _ _ ((HN.push (.own 0 [.int .i64 0, .bool false, .slice none 0 0, .int .u64 0, .slice none 0 0])).put HN.size (.own 0 [.int .i64 (if 9007199254740992 < M.told + 1 then 9007199254740992 else M.told + 1), .bool false, .slice AD r.nodes.length cD, .int .u64 rest, .slice none 0 0]))
 rw [← hHW]
 clear hHW
 have wx0 := Xr leW (by omega) (by intro e; cases e) nx0
 have wx1 := Xr leW (by omega) (by intro e; cases e) nx1
 have XW := kMark.mono leW.sees XN
 have slW := slN.mono leW.sees
 have hwDW := hwD.mono leW.sees
 have trW := trN.mono leW
 have leHW := Hp.le_trans leHN leW
 have hcW0 : HW.cell? bD (oD + ((i : Int)).toNat * 3 + 0) = some (.slice AD r.nodes.length cD) := leW.cell1 hbD hcD0
 have hcWr : Cells HW bD (oD + ((i : Int)).toNat * 3) [.slice AD r.nodes.length cD, .int .i64 r.cost, .int .u64 r.n] := leW.cells hbD hcDr
 have hbDW : bD < HW.size := by omega
 have WW : kMark.rep HW ⟨(if 9007199254740992 < M.told + 1 then 9007199254740992 else M.told + 1), false, r.nodes, rest, []⟩ [.int .i64 (if 9007199254740992 < M.told + 1 then 9007199254740992 else M.told + 1), .bool false, .slice AD r.nodes.length cD, .int .u64 rest, .slice none 0 0] := ⟨_, _, rfl, hwDW, Sl.nil _ _⟩
 have hgx : GoodM ⟨(if 9007199254740992 < M.told + 1 then 9007199254740992 else M.told + 1), false, r.nodes, rest, []⟩ ∨ r.nodes.length = 0 := by
  rcases Nat.eq_zero_or_pos r.nodes.length with h | h
  ·exact .inr h
  ·exact .inl ⟨rfl, by show (0 : Int) ≤ (if 9007199254740992 < M.told + 1 then 9007199254740992 else M.told + 1); split <;> omega, by show (if 9007199254740992 < M.told + 1 then 9007199254740992 else M.told + 1) ≤ 9007199254740992; split <;> omega, by show r.nodes.length ≤ 12; omega, hrev, .inl ⟨h, rfl⟩⟩
 refine Yw (by kernel_rfl) (Y1 (B := [0, 1, 3, 3, 3, 27, 59, 123, 255, 511, 1023, 2047, 2047, 8191, 16383, 32767, 65535, 65535, 262143, 524287, 1048575, 2097151, 4194303, 8388607, 16777215, 16777215, 67108863, 134217727, 268435455, 536870911, 1073741823, 2147483647, 4294967295]) (π := [0, 1, 2, 3, 4, 5, 6, 7, 8, 9, 10, 11, 12, 13, 14, 15, 16, 17, 18, 19, 20, 21, 22, 23, 24, 25, 26, 27, 28, 29, 30, 31, 32]) (by kernel_rfl)) ?_
 refine Xd rfl rfl (Xo Xl) Xq ?_
 refine Xd rfl rfl (Xo rfl) Xq ?_
 refine Zw rfl rfl rfl rfl ?_ ?_
 intro hg15
 have hp15 := hg15; try simp only [Ys] at hp15
 refine Yl rfl (Xh rfl rfl rfl hg15) rfl (Yg (cs := [.slice _ _ _, .int .i64 _, .int .u64 _]) Xl Tryz.underlying46 Xl inf46.size X6) Xq ?_
 refine Yl rfl (Xh rfl rfl rfl hg15) rfl (X2 Xl) Xq ?_
 refine Yl rfl (Xh rfl rfl rfl hg15) rfl (Xc Xl) Xq ?_
 refine Yl rfl (Xh rfl rfl rfl hg15) rfl (Xs rfl rfl Tryz.underlying43 inf54.size X4 X4) Xq ?_
 refine Yl rfl (Xh rfl rfl rfl hg15) rfl (Yg (cs := [.slice _ _ _, .int .i64 _, .int .u64 _]) rfl Tryz.underlying54 rfl inf54.size X6) Xq ?_
 refine Ui rfl (Xh rfl rfl rfl hg15) rfl (Xy (OfRow_ref _ _ _ _ _ _) rfl Tryz.func23 rfl rfl rfl ?_)
 rintro v136 HY ⟨rfl, leY⟩; have zY := leY.1; have yx0 := Xr leY (by omega) (by intro e; cases e) wx0; have yx1 := Xr leY (by omega) (by intro e; cases e) wx1; have yw := Xr leY (by omega) (by intro e; cases e) w1; have hsame : ∀ q ∈ [bD], HY.get q = HW.get q := (fun q hq => by rw [List.mem_singleton] at hq; subst hq; exact leY.2 _ hbDW (fun e => by have h := hcW0; unfold Hp.cell? at h; rw [e] at h; cases h)); have hcY0 := leY.cell1 hbDW hcW0
 refine ⟨Ye, ?_⟩
 refine Ui rfl (Xh rfl rfl rfl hg15) rfl (Xy (SameRow_true r.nodes r.cost r.n A8 AD c8 cD _ (slW.mono leY.sees) (hwDW.mono leY.sees) (by omega)) rfl Tryz.func22 rfl rfl rfl ?_)
 rintro v137 HY ⟨rfl, rfl⟩
 refine ⟨Ye, ?_⟩
 refine Xd rfl rfl (Xk (Yv hg15) rfl) Xq ?_
 refine Xd rfl rfl (Xo rfl) Xq ?_
 refine Zw rfl rfl rfl rfl ?_ ?_
 intro hg16
 have hp16 := hg16; try simp only [Ys] at hp16
 refine Yl rfl (Xh rfl rfl rfl hg16) rfl (Yg (cs := [.int .i64 _, .bool _, .slice _ _ _, .int .u64 _, .slice _ _ _]) Xl Tryz.underlying33 Xl inf33.size X6) Xq ?_
 refine Yl rfl (Xh rfl rfl rfl hg16) rfl (Yg (cs := [.int .i64 _, .bool _, .slice _ _ _, .int .u64 _, .slice _ _ _]) rfl Tryz.underlying33 rfl inf33.size X6) Xq ?_
 refine Ui rfl (Xh rfl rfl rfl hg16) rfl (Xy (sameM_36 x ⟨(if 9007199254740992 < M.told + 1 then 9007199254740992 else M.told + 1), false, r.nodes, rest, []⟩ _ _ _ (kMark.mono leY.sees XW) (kMark.mono leY.sees WW) hbx (by rw [← hxe]; exact hbx)) rfl Tryz.func20 rfl rfl rfl ?_)
 rintro v142 HY ⟨⟨gs, rfl, hgs⟩, rfl⟩; obtain rfl : gs = true := hgs.2 (by rw [hxe]; exact ⟨rfl, rfl, rfl, rfl⟩)
 refine ⟨Ye, ?_⟩
 refine Xd rfl rfl (Xk (Yv hg16) rfl) Xq ?_
 refine Xd rfl rfl (Xo rfl) Xq ?_
 refine Zw rfl rfl rfl rfl ?_ ?_
 intro hg17
 have hp17 := hg17; try simp only [Ys] at hp17
 refine Yl rfl (Xh rfl rfl rfl hg17) rfl (X2 Xl) Xq ?_
 refine Yl rfl (Xh rfl rfl rfl hg17) rfl (Xc Xl) Xq ?_
 refine Yl rfl (Xh rfl rfl rfl hg17) rfl (Xs rfl rfl Tryz.underlying43 inf54.size X4 X4) Xq ?_
 refine Yl rfl (Xh rfl rfl rfl hg17) rfl (Xf (off := 0) rfl Tryz.underlying54 rfl inf23.size (by decide) rfl) Xq ?_
 refine Yl rfl (Xh rfl rfl rfl hg17) rfl (Xj rfl Tryz.underlying23 rfl Xp) Xq ?_
 refine Yl rfl (Xh rfl rfl rfl hg17) rfl (Yp rfl Tryz.underlying23) Xq ?_
 refine Yl rfl (Xh rfl rfl rfl hg17) rfl (Zr rfl rfl) Xq ?_
 refine Yl rfl (Xh rfl rfl rfl hg17) rfl (Xo rfl) Xq ?_
 refine Zw rfl rfl rfl rfl ?_ ?_
 intro hg18
 have hn0 : r.nodes.length = 0 := by have := of_decide_eq_true hg18; omega
 refine X3 rfl (Xg rfl rfl rfl hg18 rfl) ?_
 refine X3 rfl (Xg rfl rfl rfl hg18 rfl) ?_
 refine X3 rfl (Xg rfl rfl rfl hg18 rfl) ?_
 refine Yl rfl (Xh rfl rfl rfl hg17) rfl (Xk (Yv hg18) Xl) Xq ?_
 refine Xd rfl rfl (Xk (Yv hg17) rfl) Xq ?_
 refine Xd rfl rfl (Xo rfl) Xq ?_
 refine Ui rfl (Xh rfl rfl rfl rfl) rfl (Xy (lives36_ok _) rfl Tryz.func15 rfl rfl rfl ?_)
 rintro v H' ⟨rfl, hlv⟩
 refine ⟨Ye, ?_⟩
 refine Xd rfl rfl (Xk (congrArg Value.bool rfl) rfl) Xq ?_
 refine Xd rfl rfl (Xm rfl) Xq ?_
 refine X1 ?_
 first
  | exact ⟨.bool true, Xw (Xt rfl), rfl, Hp.le_trans (Hp.le_trans leHW leY) hlv⟩
  | exact ⟨.bool true, Xw (Xt rfl), rfl, Hp.le_trans (Hp.le_trans (Hp.le_trans leHW leY) leZ) hlv⟩
 intro hg18
 have hn0 : ¬ r.nodes.length = 0 := by have := of_decide_eq_false hg18; omega
 refine Yl rfl (Xh rfl rfl rfl hg18) rfl (Xz Xl) Xq ?_
 refine Yl rfl (Xh rfl rfl rfl hg18) rfl (Yg (cs := [.int .i64 _, .bool _, .slice _ _ _, .int .u64 _, .slice _ _ _]) Xl Tryz.underlying33 Xl inf33.size X6) Xq ?_
 refine Ui rfl (Xh rfl rfl rfl hg18) rfl (Xy (Fits_T hT x _ _ (trW.mono leY) (kMark.mono leY.sees XW) hbx) rfl Tryz.func18 rfl rfl rfl ?_)
 rintro v155 HZ ⟨⟨gf, rfl, hgf⟩, leZ⟩; obtain rfl : gf = true := hgf.2 (by rw [hxe]; exact ⟨hgx.resolve_right hn0, .inr ⟨r, hrow, hrlt⟩⟩)
 refine ⟨Ye, ?_⟩
 refine Yl rfl (Xh rfl rfl rfl hg17) rfl (Xk (Yv hg18) rfl) Xq ?_
 refine Xd rfl rfl (Xk (Yv hg17) rfl) Xq ?_
 refine Xd rfl rfl (Xo rfl) Xq ?_
 refine Zw rfl rfl rfl rfl ?_ ?_
 intro hg19
 have hp19 := hg19; try simp only [Ys] at hp19
 refine Ui rfl (Xh rfl rfl rfl hg19) rfl (Xy (lives36_ok _) rfl Tryz.func15 rfl rfl rfl ?_)
 rintro v H' ⟨rfl, hlv⟩
 refine ⟨Ye, ?_⟩
 refine Xd rfl rfl (Xk (Yv hg19) rfl) Xq ?_
 refine Xd rfl rfl (Xm rfl) Xq ?_
 refine X1 ?_
 first
  | exact ⟨.bool true, Xw (Xt rfl), rfl, Hp.le_trans (Hp.le_trans leHW leY) hlv⟩
  | exact ⟨.bool true, Xw (Xt rfl), rfl, Hp.le_trans (Hp.le_trans (Hp.le_trans leHW leY) leZ) hlv⟩
 intro hg19
 exact absurd hg19 (by decide)
 intro hg17
 exact absurd hg17 (by decide)
 intro hg16
 exact absurd hg16 (by decide)
 intro hg15
 exact absurd hg15 (by decide)
theorem Un : Tryz.prog.cellsOf 3 = 1 := by kernel_rfl
theorem cells_u64 : Tryz.prog.cellsOf 30 = 1 := by kernel_rfl
theorem cells_link : Tryz.prog.cellsOf 96 = 4 := by kernel_rfl
theorem opens_ints : Opens Tryz.prog (Vs (Y3 .i64)) 23 (fun xs => xs.length ≤ maxLen ∧ ∀ x ∈ xs, fits .i64 x) := opens_sl Tryz.underlying23 Un (Vx Tryz.underlying3)
theorem opens_link : Opens Tryz.prog kLink 96 (fun x => fits .i64 x.a ∧ fits .i64 x.b ∧ fits .i64 x.cost ∧ fits .u64 x.n) := fun Hh enc W fuel cs x h => by
 obtain ⟨xs, n, _, _, hl, hxs, hf⟩ := DataW.trod_struct Tryz.underlying96 h
 rw [cells_link] at hl
 have hxs : xs.length = 4 := hxs
 match cs, hl with
 | [c0, c1, c2, c3], _ =>
  have f0 : DataW.trod enc Tryz.prog W 0 (fun _ => true) true n 3 (([c0, c1, c2, c3].drop 0).take (Tryz.prog.cellsOf 3)) = xs[0]? := hf 0 _ rfl
  have f1 : DataW.trod enc Tryz.prog W 0 (fun _ => true) true n 3 (([c0, c1, c2, c3].drop 1).take (Tryz.prog.cellsOf 3)) = xs[1]? := hf 1 _ rfl
  have f2 : DataW.trod enc Tryz.prog W 0 (fun _ => true) true n 3 (([c0, c1, c2, c3].drop 2).take (Tryz.prog.cellsOf 3)) = xs[2]? := hf 2 _ rfl
  have f3 : DataW.trod enc Tryz.prog W 0 (fun _ => true) true n 30 (([c0, c1, c2, c3].drop 3).take (Tryz.prog.cellsOf 30)) = xs[3]? := hf 3 _ rfl
  rw [Un, List.getElem?_eq_getElem (show 0 < xs.length by omega)] at f0
  rw [Un, List.getElem?_eq_getElem (show 1 < xs.length by omega)] at f1
  rw [Un, List.getElem?_eq_getElem (show 2 < xs.length by omega)] at f2
  rw [cells_u64, List.getElem?_eq_getElem (show 3 < xs.length by omega)] at f3
  obtain ⟨y0, r0, b0, v0⟩ := Vx (P := Tryz.prog) Tryz.underlying3 Hh enc W n _ _ f0
  obtain ⟨y1, r1, b1, v1⟩ := Vx (P := Tryz.prog) Tryz.underlying3 Hh enc W n _ _ f1
  obtain ⟨y2, r2, b2, v2⟩ := Vx (P := Tryz.prog) Tryz.underlying3 Hh enc W n _ _ f2
  obtain ⟨y3, r3, b3, v3⟩ := Vx (P := Tryz.prog) Tryz.underlying30 Hh enc W n _ _ f3
  refine ⟨⟨y0, y1, y2, y3⟩, ?_, ⟨b0, b1, b2, b3⟩, fun v hv => ?_⟩
  ·have e0 : [V0 W c0] = [Value.int .i64 y0] := r0
   have e1 : [V0 W c1] = [Value.int .i64 y1] := r1
   have e2 : [V0 W c2] = [Value.int .i64 y2] := r2
   have e3 : [V0 W c3] = [Value.int .u64 y3] := r3
   simp only [List.cons.injEq, and_true] at e0 e1 e2 e3
   simp [kLink, e0, e1, e2, e3]
  ·simp at hv
   rcases hv with rfl | rfl | rfl | rfl
   ·exact v0 _ (List.mem_singleton.2 rfl)
   ·exact v1 _ (List.mem_singleton.2 rfl)
   ·exact v2 _ (List.mem_singleton.2 rfl)
   ·exact v3 _ (List.mem_singleton.2 rfl)
theorem opens_links : Opens Tryz.prog (Vs kLink) 83 (fun xs => xs.length ≤ maxLen ∧ ∀ x ∈ xs, fits .i64 x.a ∧ fits .i64 x.b ∧ fits .i64 x.cost ∧ fits .u64 x.n) := opens_sl Tryz.underlying83 cells_link opens_link
theorem cells_links : Tryz.prog.cellsOf 83 = 1 := by kernel_rfl
theorem cells_ints : Tryz.prog.cellsOf 23 = 1 := by kernel_rfl
theorem cells_str : Tryz.prog.cellsOf 9 = 1 := by kernel_rfl
theorem cells_strs : Tryz.prog.cellsOf 22 = 1 := by kernel_rfl
theorem cells_intss : Tryz.prog.cellsOf 24 = 1 := by kernel_rfl
theorem cells_linkss : Tryz.prog.cellsOf 27 = 1 := by kernel_rfl
theorem cells_parts : Tryz.prog.cellsOf 29 = 2 := by kernel_rfl
theorem cells_forest : Tryz.prog.cellsOf 26 = 5 := by kernel_rfl
theorem opens_strs : Opens Tryz.prog (Vs kStr) 22 (fun xs => xs.length ≤ maxLen ∧ ∀ x ∈ xs, x.size ≤ maxLen) := opens_sl Tryz.underlying22 cells_str (opens_str Tryz.underlying9)
theorem opens_intss : Opens Tryz.prog (Vs (Vs (Y3 .i64))) 24 (fun xs => xs.length ≤ maxLen ∧ ∀ x ∈ xs, x.length ≤ maxLen ∧ ∀ n ∈ x, fits .i64 n) := opens_sl Tryz.underlying24 cells_ints opens_ints
theorem opens_linkss : Opens Tryz.prog (Vs (Vs kLink)) 27 (fun xs : List (List Link) => xs.length ≤ maxLen ∧ ∀ l ∈ xs, l.length ≤ maxLen ∧ ∀ x ∈ l, fits .i64 x.a ∧ fits .i64 x.b ∧ fits .i64 x.cost ∧ fits .u64 x.n) := opens_sl Tryz.underlying27 cells_links opens_links
theorem opens_parts : Opens Tryz.prog kParts 29 BigP := fun Hh enc W fuel cs x h => by
 obtain ⟨xs, n, _, _, hl, hxs, hf⟩ := DataW.trod_struct Tryz.underlying29 h
 rw [cells_parts] at hl
 have hxs : xs.length = 2 := hxs
 match cs, hl with
 | [c0, c1], _ =>
  have f0 : DataW.trod enc Tryz.prog W 0 (fun _ => true) true n 27 (([c0, c1].drop 0).take (Tryz.prog.cellsOf 27)) = xs[0]? := hf 0 _ rfl
  have f1 : DataW.trod enc Tryz.prog W 0 (fun _ => true) true n 27 (([c0, c1].drop 1).take (Tryz.prog.cellsOf 27)) = xs[1]? := hf 1 _ rfl
  rw [cells_linkss, List.getElem?_eq_getElem (show 0 < xs.length by omega)] at f0
  rw [cells_linkss, List.getElem?_eq_getElem (show 1 < xs.length by omega)] at f1
  obtain ⟨y0, ⟨w0, r0, s0⟩, b0, v0⟩ := opens_linkss Hh enc W n _ _ f0
  obtain ⟨y1, ⟨w1, r1, s1⟩, b1, v1⟩ := opens_linkss Hh enc W n _ _ f1
  refine ⟨⟨y0, y1⟩, ⟨w0, w1, ?_, s0, s1⟩, ⟨b0.1, b1.1, fun l hl => (b0.2 l hl).1, fun l hl => (b1.2 l hl).1⟩, fun v hv => ?_⟩
  ·have e0 : [V0 W c0] = [w0] := r0
   have e1 : [V0 W c1] = [w1] := r1
   simp only [List.cons.injEq, and_true] at e0 e1
   simp [e0, e1]
  ·simp at hv
   rcases hv with rfl | rfl
   ·exact v0 _ (List.mem_singleton.2 rfl)
   ·exact v1 _ (List.mem_singleton.2 rfl)
theorem opens_forest : Opens Tryz.prog kForest 26 BigF := fun Hh enc W fuel cs x h => by
 obtain ⟨xs, n, _, _, hl, hxs, hf⟩ := DataW.trod_struct Tryz.underlying26 h
 rw [cells_forest] at hl
 have hxs : xs.length = 5 := hxs
 match cs, hl with
 | [c0, c1, c2, c3, c4], _ =>
  have f0 : DataW.trod enc Tryz.prog W 0 (fun _ => true) true n 22 (([c0, c1, c2, c3, c4].drop 0).take (Tryz.prog.cellsOf 22)) = xs[0]? := hf 0 _ rfl
  have f1 : DataW.trod enc Tryz.prog W 0 (fun _ => true) true n 23 (([c0, c1, c2, c3, c4].drop 1).take (Tryz.prog.cellsOf 23)) = xs[1]? := hf 1 _ rfl
  have f2 : DataW.trod enc Tryz.prog W 0 (fun _ => true) true n 23 (([c0, c1, c2, c3, c4].drop 2).take (Tryz.prog.cellsOf 23)) = xs[2]? := hf 2 _ rfl
  have f3 : DataW.trod enc Tryz.prog W 0 (fun _ => true) true n 24 (([c0, c1, c2, c3, c4].drop 3).take (Tryz.prog.cellsOf 24)) = xs[3]? := hf 3 _ rfl
  have f4 : DataW.trod enc Tryz.prog W 0 (fun _ => true) true n 24 (([c0, c1, c2, c3, c4].drop 4).take (Tryz.prog.cellsOf 24)) = xs[4]? := hf 4 _ rfl
  rw [cells_strs, List.getElem?_eq_getElem (show 0 < xs.length by omega)] at f0
  rw [cells_ints, List.getElem?_eq_getElem (show 1 < xs.length by omega)] at f1
  rw [cells_ints, List.getElem?_eq_getElem (show 2 < xs.length by omega)] at f2
  rw [cells_intss, List.getElem?_eq_getElem (show 3 < xs.length by omega)] at f3
  rw [cells_intss, List.getElem?_eq_getElem (show 4 < xs.length by omega)] at f4
  obtain ⟨y0, ⟨w0, r0, s0⟩, b0, v0⟩ := opens_strs Hh enc W n _ _ f0
  obtain ⟨y1, ⟨w1, r1, s1⟩, b1, v1⟩ := opens_ints Hh enc W n _ _ f1
  obtain ⟨y2, ⟨w2, r2, s2⟩, b2, v2⟩ := opens_ints Hh enc W n _ _ f2
  obtain ⟨y3, ⟨w3, r3, s3⟩, b3, v3⟩ := opens_intss Hh enc W n _ _ f3
  obtain ⟨y4, ⟨w4, r4, s4⟩, b4, v4⟩ := opens_intss Hh enc W n _ _ f4
  refine ⟨⟨y0, y1, y2, y3, y4⟩, ⟨w0, w1, w2, w3, w4, ?_, s0, s1, s2, s3, s4⟩, ⟨b0.1, b1.1, b2.1, b3.1, b4.1, fun l hl => (b3.2 l hl).1, fun l hl => (b4.2 l hl).1⟩, fun v hv => ?_⟩
  ·have e0 : [V0 W c0] = [w0] := r0
   have e1 : [V0 W c1] = [w1] := r1
   have e2 : [V0 W c2] = [w2] := r2
   have e3 : [V0 W c3] = [w3] := r3
   have e4 : [V0 W c4] = [w4] := r4
   simp only [List.cons.injEq, and_true] at e0 e1 e2 e3 e4
   simp [e0, e1, e2, e3, e4]
  ·simp at hv
   rcases hv with rfl | rfl | rfl | rfl | rfl
   ·exact v0 _ (List.mem_singleton.2 rfl)
   ·exact v1 _ (List.mem_singleton.2 rfl)
   ·exact v2 _ (List.mem_singleton.2 rfl)
   ·exact v3 _ (List.mem_singleton.2 rfl)
   ·exact v4 _ (List.mem_singleton.2 rfl)
theorem cells_itemT : Tryz.prog.cellsOf 85 = 4 := by kernel_rfl
theorem cells_itemsT : Tryz.prog.cellsOf 31 = 1 := by kernel_rfl
theorem cells_boolM : Tryz.prog.cellsOf 4 = 1 := by kernel_rfl
theorem cells_mark : Tryz.prog.cellsOf 33 = 5 := by kernel_rfl
theorem opens_itemT : Opens Tryz.prog kItemT 85 (fun x => fits .i64 x.cost ∧ (x.nodes.length ≤ maxLen ∧ ∀ n ∈ x.nodes, fits .i64 n) ∧ fits .i64 x.place ∧ fits .i64 x.rank) := fun Hh enc W fuel cs x h => by
 obtain ⟨xs, n, _, _, hl, hxs, hf⟩ := DataW.trod_struct Tryz.underlying85 h
 rw [cells_itemT] at hl
 have hxs : xs.length = 4 := hxs
 match cs, hl with
 | [c0, c1, c2, c3], _ =>
  have f0 : DataW.trod enc Tryz.prog W 0 (fun _ => true) true n 3 (([c0, c1, c2, c3].drop 0).take (Tryz.prog.cellsOf 3)) = xs[0]? := hf 0 _ rfl
  have f1 : DataW.trod enc Tryz.prog W 0 (fun _ => true) true n 23 (([c0, c1, c2, c3].drop 1).take (Tryz.prog.cellsOf 23)) = xs[1]? := hf 1 _ rfl
  have f2 : DataW.trod enc Tryz.prog W 0 (fun _ => true) true n 3 (([c0, c1, c2, c3].drop 2).take (Tryz.prog.cellsOf 3)) = xs[2]? := hf 2 _ rfl
  have f3 : DataW.trod enc Tryz.prog W 0 (fun _ => true) true n 3 (([c0, c1, c2, c3].drop 3).take (Tryz.prog.cellsOf 3)) = xs[3]? := hf 3 _ rfl
  rw [Un, List.getElem?_eq_getElem (show 0 < xs.length by omega)] at f0
  rw [cells_ints, List.getElem?_eq_getElem (show 1 < xs.length by omega)] at f1
  rw [Un, List.getElem?_eq_getElem (show 2 < xs.length by omega)] at f2
  rw [Un, List.getElem?_eq_getElem (show 3 < xs.length by omega)] at f3
  obtain ⟨y0, r0, b0, v0⟩ := Vx (P := Tryz.prog) Tryz.underlying3 Hh enc W n _ _ f0
  obtain ⟨y1, ⟨w, r1, s1⟩, b1, v1⟩ := opens_ints Hh enc W n _ _ f1
  obtain ⟨y2, r2, b2, v2⟩ := Vx (P := Tryz.prog) Tryz.underlying3 Hh enc W n _ _ f2
  obtain ⟨y3, r3, b3, v3⟩ := Vx (P := Tryz.prog) Tryz.underlying3 Hh enc W n _ _ f3
  refine ⟨⟨y0, y1, y2, y3⟩, ⟨w, ?_, s1⟩, ⟨b0, b1, b2, b3⟩, fun v hv => ?_⟩
  ·have e0 : [V0 W c0] = [Value.int .i64 y0] := r0
   have e1 : [V0 W c1] = [w] := r1
   have e2 : [V0 W c2] = [Value.int .i64 y2] := r2
   have e3 : [V0 W c3] = [Value.int .i64 y3] := r3
   simp only [List.cons.injEq, and_true] at e0 e1 e2 e3
   simp [e0, e1, e2, e3]
  ·simp at hv
   rcases hv with rfl | rfl | rfl | rfl
   ·exact v0 _ (List.mem_singleton.2 rfl)
   ·exact v1 _ (List.mem_singleton.2 rfl)
   ·exact v2 _ (List.mem_singleton.2 rfl)
   ·exact v3 _ (List.mem_singleton.2 rfl)
theorem opens_itemsT : Opens Tryz.prog (Vs kItemT) 31 (fun xs => xs.length ≤ maxLen ∧ ∀ x ∈ xs, fits .i64 x.cost ∧ (x.nodes.length ≤ maxLen ∧ ∀ n ∈ x.nodes, fits .i64 n) ∧ fits .i64 x.place ∧ fits .i64 x.rank) := opens_sl Tryz.underlying31 cells_itemT opens_itemT
theorem opens_mark : Opens Tryz.prog kMark 33 (fun m => BigM m ∧ 0 ≤ m.rest ∧ m.rest < 18446744073709551616) := fun Hh enc W fuel cs x h => by
 obtain ⟨xs, n, _, _, hl, hxs, hf⟩ := DataW.trod_struct Tryz.underlying33 h
 rw [cells_mark] at hl
 have hxs : xs.length = 5 := hxs
 match cs, hl with
 | [c0, c1, c2, c3, c4], _ =>
  have f0 : DataW.trod enc Tryz.prog W 0 (fun _ => true) true n 3 (([c0, c1, c2, c3, c4].drop 0).take (Tryz.prog.cellsOf 3)) = xs[0]? := hf 0 _ rfl
  have f1 : DataW.trod enc Tryz.prog W 0 (fun _ => true) true n 4 (([c0, c1, c2, c3, c4].drop 1).take (Tryz.prog.cellsOf 4)) = xs[1]? := hf 1 _ rfl
  have f2 : DataW.trod enc Tryz.prog W 0 (fun _ => true) true n 23 (([c0, c1, c2, c3, c4].drop 2).take (Tryz.prog.cellsOf 23)) = xs[2]? := hf 2 _ rfl
  have f3 : DataW.trod enc Tryz.prog W 0 (fun _ => true) true n 30 (([c0, c1, c2, c3, c4].drop 3).take (Tryz.prog.cellsOf 30)) = xs[3]? := hf 3 _ rfl
  have f4 : DataW.trod enc Tryz.prog W 0 (fun _ => true) true n 31 (([c0, c1, c2, c3, c4].drop 4).take (Tryz.prog.cellsOf 31)) = xs[4]? := hf 4 _ rfl
  rw [Un, List.getElem?_eq_getElem (show 0 < xs.length by omega)] at f0
  rw [cells_boolM, List.getElem?_eq_getElem (show 1 < xs.length by omega)] at f1
  rw [cells_ints, List.getElem?_eq_getElem (show 2 < xs.length by omega)] at f2
  rw [cells_u64, List.getElem?_eq_getElem (show 3 < xs.length by omega)] at f3
  rw [cells_itemsT, List.getElem?_eq_getElem (show 4 < xs.length by omega)] at f4
  obtain ⟨y0, r0, b0, v0⟩ := Vx (P := Tryz.prog) Tryz.underlying3 Hh enc W n _ _ f0
  obtain ⟨y1, r1, b1, v1⟩ := opens_bool (P := Tryz.prog) Tryz.underlying4 Hh enc W n _ _ f1
  obtain ⟨y2, ⟨w2, r2, s2⟩, b2, v2⟩ := opens_ints Hh enc W n _ _ f2
  obtain ⟨y3, r3, b3, v3⟩ := Vx (P := Tryz.prog) Tryz.underlying30 Hh enc W n _ _ f3
  obtain ⟨y4, ⟨w4, r4, s4⟩, b4, v4⟩ := opens_itemsT Hh enc W n _ _ f4
  refine ⟨⟨y0, y1, y2, y3, y4⟩, ⟨w2, w4, ?_, s2, s4⟩, ⟨⟨b2.1, b4.1, fun x hx => (b4.2 x hx).2.1.1⟩, (lit_u64 b3).1, Int.lt_of_le_of_lt (lit_u64 b3).2 (by decide)⟩, fun v hv => ?_⟩
  ·have e0 : [V0 W c0] = [Value.int .i64 y0] := r0
   have e1 : [V0 W c1] = [Value.bool y1] := r1
   have e2 : [V0 W c2] = [w2] := r2
   have e3 : [V0 W c3] = [Value.int .u64 y3] := r3
   have e4 : [V0 W c4] = [w4] := r4
   simp only [List.cons.injEq, and_true] at e0 e1 e2 e3 e4
   simp [e0, e1, e2, e3, e4]
  ·simp at hv
   rcases hv with rfl | rfl | rfl | rfl | rfl
   ·exact v0 _ (List.mem_singleton.2 rfl)
   ·exact v1 _ (List.mem_singleton.2 rfl)
   ·exact v2 _ (List.mem_singleton.2 rfl)
   ·exact v3 _ (List.mem_singleton.2 rfl)
   ·exact v4 _ (List.mem_singleton.2 rfl)
end Go.Proofs.YtmakkmcjocjgmaaGreat.Am
