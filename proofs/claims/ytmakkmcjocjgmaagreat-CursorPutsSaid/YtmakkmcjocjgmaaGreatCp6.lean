/- Texts that the proof rests on, part 6: lemmas for every heap that is related to a world, no condition beyond each lemma's own. -/
import Derived.Test.YtmakkmcjocjgmaaGreatCp5
import Derived.Test.YtmakkmcjocjgmaaGreatCp1
import Derived.Test.YtmakkmcjocjgmaaGreatCpRow
import Derived.Test.YtmakkmcjocjgmaaGreatCp4
namespace Go.Proofs.YtmakkmcjocjgmaaGreat.Am
open Go Go.RowKit
set_option linter.unusedVariables false
set_option linter.unusedSimpArgs false
set_option maxRecDepth 100000
theorem putM_size {m : MarkT} (hg : Zv m) (hr : 0 ≤ m.rest ∧ m.rest < 18446744073709551616) : (Y9 (Va (Zu m))).size ≤ 60000 := by
 rw [bytes_size _ (putA_byte _)]
 have h1 := putA_len (Zu m) (fun x hx => (nums_ok hg hr x hx).2)
 rw [nums_len] at h1
 have := hg.n
 omega
set_option maxHeartbeats 8000000 in
theorem CursorPuts_ok (mk ok : MarkT) (cs ds : List Value) (H : Hp) (hm : kMark.rep H mk cs) (ho : kMark.rep H ok ds) (hbm : BigM mk) (hbo : BigM ok) (hrm0 : 0 ≤ mk.rest ∧ mk.rest < 18446744073709551616) (hro0 : 0 ≤ ok.rest) :
  ACalls Tryz.prog 9 #[.agg cs.toArray, .agg ds.toArray] H (fun r H' => r = .bool true ∧ H.le H') := by
 have hm0 := hm
 have ho0 := ho
 obtain ⟨vm, wm, rfl, hvm, hwm⟩ := hm
 obtain ⟨Am, cm, rfl⟩ := hvm.shape
 obtain ⟨Wm, cWm, rfl⟩ := hwm.shape
 obtain ⟨vo, wo, rfl, hvo, hwo⟩ := ho
 obtain ⟨Ao, co, rfl⟩ := hvo.shape
 obtain ⟨Wo, cWo, rfl⟩ := hwo.shape
 have hbM := bigM_cut mk
 have hcM := cut_cut mk
 have hrM : 0 ≤ mk.cut.rest ∧ mk.cut.rest < 18446744073709551616 := hrm0
 have hbO := bigM_cut ok
 have hcO := cut_cut ok
 obtain ⟨M, hMe⟩ : ∃ M, M = mk.cut := ⟨_, rfl⟩
 obtain ⟨O, hOe⟩ : ∃ O, O = ok.cut := ⟨_, rfl⟩
 rw [← hMe] at hbM hcM hrM
 rw [← hOe] at hbO hcO
 refine Xu Tryz.func9 rfl rfl rfl (by simp) ?_
 refine Xc ?_
 refine Xs ?_
 refine Xz (Yp rfl) ?_
 refine Xz (Yp rfl) ?_
 refine Xa (Xi rfl) ?_
 refine Xc ?_
 refine Yy (by kernel_rfl) (Y4 (B := [0, 1, 0, 7, 15, 31]) (π := [0, 2, 1, 3, 4, 5]) (by kernel_rfl)) ?_
 refine Xe rfl rfl (Yj (cs := [.int .i64 _, .bool _, .slice _ _ _, .int .u64 _, .slice _ _ _]) rfl Tryz.underlying33 rfl inf33.size X5) Xt ?_
 refine Xe rfl rfl (Yj (cs := [.int .i64 _, .bool _, .slice _ _ _, .int .u64 _, .slice _ _ _]) rfl Tryz.underlying33 rfl inf33.size X5) Xt ?_
 refine Yk rfl rfl (Xy (Mark_36 mk _ _ (kMark.mono Zh hm0) hbm) rfl Tryz.func12 rfl rfl rfl ?_)
 rintro v10 H5 ⟨hle5, dsM, rfl, hM5⟩; rw [← hMe] at hM5; have hM50 := hM5; obtain ⟨vM, wM, rfl, hvM, hwM⟩ := hM5; obtain ⟨E0, n0, rfl⟩ := hvM.shape; obtain ⟨W0, cW0, rfl⟩ := hwM.shape; have hz5 := hle5.1; simp only [Hp.push_size] at hz5
 refine ⟨Yi, ?_⟩
 refine Yk rfl rfl (Xy (Mark_36 ok _ _ (kMark.mono Zh ho0) hbo) rfl Tryz.func12 rfl rfl rfl ?_)
 rintro v12 H7 ⟨hle7, dsO, rfl, hO7⟩; rw [← hOe] at hO7; have hO70 := hO7; obtain ⟨vO, wO, rfl, hvO, hwO⟩ := hO7; obtain ⟨E1, n1, rfl⟩ := hvO.shape; obtain ⟨W1, cW1, rfl⟩ := hwO.shape; have hz7 := hle7.1; have hM7 := kMark.mono hle7.sees hM50; have h70 : H7.get H.size = .own 0 [.int .i64 mk.told, .bool mk.over, .slice Am mk.nodes.length cm, .int .u64 mk.rest, .slice Wm mk.items.length cWm] := Xr (Hp.le_trans hle5 hle7) (by simp <;> omega) (by intro e; cases e) Ya; have h71 : H7.get (H.size + 1) = .own 0 [.int .i64 ok.told, .bool ok.over, .slice Ao ok.nodes.length co, .int .u64 ok.rest, .slice Wo ok.items.length cWo] := Xr (Hp.le_trans hle5 hle7) (by simp <;> omega) (by intro e; cases e) Ya
 refine ⟨Yi, ?_⟩
 refine Yk rfl rfl (Ye (vs := [.int .i64 _, .bool _, .slice _ _ _, .int .u64 _, .slice _ _ _]) rfl rfl inf33.size Ya Yd rfl rfl ?_)
 refine ⟨Yi, ?_⟩
 refine Yk rfl rfl (Ye (vs := [.int .i64 _, .bool _, .slice _ _ _, .int .u64 _, .slice _ _ _]) rfl rfl inf33.size Ya Yd rfl rfl ?_)
 refine ⟨Yi, ?_⟩
 refine Xc ?_
 obtain ⟨HA, hHA⟩ : ∃ HA, HA = ((H7.put H.size (.own 0 [.int .i64 M.told, .bool M.over, .slice E0 M.nodes.length n0, .int .u64 M.rest, .slice W0 M.items.length cW0])).put (H.size + 1) (.own 0 [.int .i64 O.told, .bool O.over, .slice E1 O.nodes.length n1, .int .u64 O.rest, .slice W1 O.items.length cW1])) := ⟨_, rfl⟩
 have g5 : H7.sees (H7.put H.size (.own 0 [.int .i64 M.told, .bool M.over, .slice E0 M.nodes.length n0, .int .u64 M.rest, .slice W0 M.items.length cW0])) := Hp.sees_box _ h70
 have g6 : (H7.put H.size (.own 0 [.int .i64 M.told, .bool M.over, .slice E0 M.nodes.length n0, .int .u64 M.rest, .slice W0 M.items.length cW0])).sees HA := by rw [hHA]; exact Hp.sees_box _ (by rw [Hp.put_other _ _ (by omega)]; exact h71)
 have aM := kMark.mono (g5.trans g6) hM7
 have aO := kMark.mono (g5.trans g6) hO70
 have leA : H.le HA := by rw [hHA]; exact Hp.le_put_new (Hp.le_put_new (Hp.le_trans (Hp.le_push' (H.le_push _) _) (Hp.le_trans hle5 hle7)) (by omega) _) (by omega) _
 have zA : H.size + 2 ≤ HA.size := by rw [hHA]; simp; omega
 have a0 : HA.get H.size = .own 0 [.int .i64 M.told, .bool M.over, .slice E0 M.nodes.length n0, .int .u64 M.rest, .slice W0 M.items.length cW0] := by rw [hHA, Hp.put_other _ _ (by omega)]; exact Hp.put_same _ _ _
 have a1 : HA.get (H.size + 1) = .own 0 [.int .i64 O.told, .bool O.over, .slice E1 O.nodes.length n1, .int .u64 O.rest, .slice W1 O.items.length cW1] := by rw [hHA]; exact Hp.put_same _ _ _
 change ACode true _ _ _ _ _ ((H7.put H.size (.own 0 [.int .i64 M.told, .bool M.over, .slice E0 M.nodes.length n0, .int .u64 M.rest, .slice W0 M.items.length cW0])).put (H.size + 1) (.own 0 [.int .i64 O.told, .bool O.over, .slice E1 O.nodes.length n1, .int .u64 O.rest, .slice W1 O.items.length cW1]))
 rw [← hHA]
 clear hHA g5 g6 h70 h71 hle5 hle7 hz5 hz7 hM50 hM7 hO70
 refine Xs ?_
 refine Xa (Yj (cs := [.int .i64 _, .bool _, .slice _ _ _, .int .u64 _, .slice _ _ _]) rfl Tryz.underlying33 rfl inf33.size X5) ?_
 refine Xv (Xy (Mark_36 M _ _ aM hbM) rfl Tryz.func12 rfl rfl rfl ?_)
 rintro v15 HB ⟨leAB, ds2, rfl, hM2⟩; rw [hcM] at hM2; have hM20 := hM2; obtain ⟨v2, w2, rfl, hv2, hw2⟩ := hM2; obtain ⟨A2, c2, rfl⟩ := hv2.shape; obtain ⟨W2, cW2, rfl⟩ := hw2.shape; have b0 := Xr leAB (by omega) (by intro e; cases e) a0; have b1 := Xr leAB (by omega) (by intro e; cases e) a1; have bM := kMark.mono leAB.sees aM; have bO := kMark.mono leAB.sees aO; have zb := leAB.1
 refine Xv (Xy (Put_36 M _ _ hM20 hbM hrM) rfl Tryz.func42 rfl rfl rfl ?_)
 rintro v16 HC ⟨hput, leBC⟩; obtain ⟨S, e, rfl, hSe⟩ : ∃ S e, v16 = .tuple #[.string S, .int .i64 e] ∧ ((Zv M ∧ S = Y9 (Va (Zu M)) ∧ e = 0) ∨ (¬ Zv M ∧ S = ByteArray.empty ∧ e = 1)) := (by rcases hput with ⟨h1, h2⟩ | ⟨h1, h2⟩; (· exact ⟨_, _, h2, .inl ⟨h1, rfl, rfl⟩⟩); (· exact ⟨_, _, h2, .inr ⟨h1, rfl, rfl⟩⟩)); have c0 := Xr leBC (by omega) (by intro e; cases e) b0; have c1 := Xr leBC (by omega) (by intro e; cases e) b1; have cM := kMark.mono leBC.sees bM; have cO := kMark.mono leBC.sees bO; have zc := leBC.1; have leHC := Hp.le_trans leA (Hp.le_trans leAB leBC)
 refine Xa (Zi rfl) ?_
 refine Xa (Yf rfl rfl) ?_
 refine Xa (Yf rfl rfl) ?_
 refine Xa (Yx rfl) ?_
 refine Xa (Xj rfl) ?_
 refine Xc ?_
 refine Xc ?_
 refine Yy (by kernel_rfl) (Y4 (B := [0, 1, 3, 0, 15, 31, 63, 127, 255, 127, 1023, 2047, 127, 127, 16383, 32767, 65535]) (π := [0, 3, 1, 2, 4, 5, 6, 7, 9, 12, 13, 8, 10, 11, 14, 15, 16]) (by kernel_rfl)) ?_
 refine Xe rfl rfl (Yj (cs := [.int .i64 _, .bool _, .slice _ _ _, .int .u64 _, .slice _ _ _]) rfl Tryz.underlying33 rfl inf33.size X5) Xt ?_
 refine Xe rfl rfl (Yj (cs := [.int .i64 _, .bool _, .slice _ _ _, .int .u64 _, .slice _ _ _]) rfl Tryz.underlying33 rfl inf33.size X5) Xt ?_
 refine Yk rfl rfl (Xy (Mark_36 M _ _ cM hbM) rfl Tryz.func12 rfl rfl rfl ?_)
 rintro v20 HD ⟨leCD, ds3, rfl, hM3⟩; rw [hcM] at hM3; have hM30 := hM3; obtain ⟨v3, w3, rfl, hv3, hw3⟩ := hM3; obtain ⟨A3, c3, rfl⟩ := hv3.shape; obtain ⟨W3, cW3, rfl⟩ := hw3.shape; have d0 := Xr leCD (by omega) (by intro e; cases e) c0; have d1 := Xr leCD (by omega) (by intro e; cases e) c1; have dM := kMark.mono leCD.sees cM; have dO := kMark.mono leCD.sees cO; have zd := leCD.1; have leHD := Hp.le_trans leHC leCD
 refine ⟨Yi, ?_⟩
 refine Yk rfl rfl (Xy (GoodC_36 M _ _ hM30 hbM) rfl Tryz.func43 rfl rfl rfl ?_)
 rintro v21 HD ⟨⟨g1, rfl, hg1⟩, rfl⟩
 refine ⟨Yi, ?_⟩
 refine Yk rfl rfl (Xy (goodR_36 M _ _ dM hbM hrM.1) rfl Tryz.func24 rfl rfl rfl ?_)
 rintro v23 HD ⟨⟨g2, rfl, hg2⟩, rfl⟩; have hgg : g1 = g2 := (by rw [Bool.eq_iff_iff, hg1, hg2])
 refine ⟨Yi, ?_⟩
 refine Xe rfl rfl (av_bne rfl rfl Tryz.underlying4) Xt ?_
 refine Xe rfl rfl (Xq rfl) Xt ?_
 refine Vk rfl rfl rfl rfl ?_ ?_
 intro hg1
 (have h := hg1; rw [hgg] at h; simp at h)
 intro hg1
 have hp1 := hg1; try simp only [Y5] at hp1
 refine Yr rfl (Xh rfl rfl rfl hg1) rfl (Yj (cs := [.int .i64 _, .bool _, .slice _ _ _, .int .u64 _, .slice _ _ _]) rfl Tryz.underlying33 rfl inf33.size X5) Xt ?_
 refine Yr rfl (Xh rfl rfl rfl hg1) rfl (Yj (cs := [.int .i64 _, .bool _, .slice _ _ _, .int .u64 _, .slice _ _ _]) rfl Tryz.underlying33 rfl inf33.size X5) Xt ?_
 refine Yr rfl (Xh rfl rfl rfl hg1) rfl (Yj (cs := [.int .i64 _, .bool _, .slice _ _ _, .int .u64 _, .slice _ _ _]) rfl Tryz.underlying33 rfl inf33.size X5) Xt ?_
 refine Yr rfl (Xh rfl rfl rfl hg1) rfl (Yj (cs := [.int .i64 _, .bool _, .slice _ _ _, .int .u64 _, .slice _ _ _]) rfl Tryz.underlying33 rfl inf33.size X5) Xt ?_
 refine adr_wop rfl (Xh rfl rfl rfl hg1) rfl (Xy (Mark_36 M _ _ dM hbM) rfl Tryz.func12 rfl rfl rfl ?_)
 rintro v27 HE ⟨leDE, ds4, rfl, hM4⟩; rw [hcM] at hM4; have hM40 := hM4; obtain ⟨v4, w4, rfl, hv4, hw4⟩ := hM4; obtain ⟨A4, c4, rfl⟩ := hv4.shape; obtain ⟨W4, cW4, rfl⟩ := hw4.shape; have e0 := Xr leDE (by omega) (by intro e; cases e) d0; have e1 := Xr leDE (by omega) (by intro e; cases e) d1; have eM := kMark.mono leDE.sees dM; have eO := kMark.mono leDE.sees dO; have ze := leDE.1; have leHE := Hp.le_trans leHD leDE
 refine ⟨Yi, ?_⟩
 refine adr_wop rfl (Xh rfl rfl rfl hg1) rfl (Xy (Mark_36 O _ _ eO hbO) rfl Tryz.func12 rfl rfl rfl ?_)
 rintro v29 HF ⟨leEF, ds5, rfl, hO5⟩; rw [hcO] at hO5; have hO50 := hO5; obtain ⟨v5, w5, rfl, hv5, hw5⟩ := hO5; obtain ⟨A5, c5, rfl⟩ := hv5.shape; obtain ⟨W5, cW5, rfl⟩ := hw5.shape; have hM4F := kMark.mono leEF.sees hM40; have f0 := Xr leEF (by omega) (by intro e; cases e) e0; have f1 := Xr leEF (by omega) (by intro e; cases e) e1; have fM := kMark.mono leEF.sees eM; have fO := kMark.mono leEF.sees eO; have zf := leEF.1; have leHF := Hp.le_trans leHE leEF
 refine ⟨Yi, ?_⟩
 refine adr_wop rfl (Xh rfl rfl rfl hg1) rfl (Xy (Same_36 M O _ _ _ hM4F hO50 hbM hbO) rfl Tryz.func44 rfl rfl rfl ?_)
 rintro v30 HF ⟨⟨g3, rfl, hg3⟩, rfl⟩
 refine ⟨Yi, ?_⟩
 refine adr_wop rfl (Xh rfl rfl rfl hg1) rfl (Xy (sameM_36 M O _ _ _ fM fO hbM hbO) rfl Tryz.func20 rfl rfl rfl ?_)
 rintro v33 HF ⟨⟨g4, rfl, hg4⟩, rfl⟩; have hgs : g3 = g4 := (by rw [Bool.eq_iff_iff, hg3, hg4])
 refine ⟨Yi, ?_⟩
 refine Yr rfl (Xh rfl rfl rfl hg1) rfl (av_bne rfl rfl Tryz.underlying4) Xt ?_
 refine Xe rfl rfl (Xm (Yu hg1) rfl) Xt ?_
 refine X4 rfl rfl ?_ ?_
 intro hc2
 (have h := hc2; rw [hgs] at h; simp at h)
 intro hc2
 (try simp only [Y5] at hc2)
 refine X9 ?_
 refine Xc ?_
 refine Xc ?_
 refine Xs ?_
 refine Xa (Yj (cs := [.int .i64 _, .bool _, .slice _ _ _, .int .u64 _, .slice _ _ _]) rfl Tryz.underlying33 rfl inf33.size X5) ?_
 refine Xv (Xy (goodR_36 M _ _ fM hbM hrM.1) rfl Tryz.func24 rfl rfl rfl ?_)
 rintro v37 HF ⟨⟨g5, rfl, hg5⟩, rfl⟩
 refine Xa (Z3 rfl) ?_
 refine X4 rfl rfl ?_ ?_
 intro hc3
 have hno : ¬ Zv M := fun h => by have h2 := hc3; rw [hg5.2 h] at h2; cases h2
 obtain ⟨hS, he⟩ : S = ByteArray.empty ∧ e = 1 := by rcases hSe with h | h; (· exact absurd h.1 hno); (· exact h.2)
 refine Xc ?_
 refine Xs ?_
 refine Xa (Zo rfl) ?_
 refine Xa (av_str_eql rfl rfl) ?_
 refine Xa (Xq rfl) ?_
 refine Yb rfl rfl rfl ?_ ?_
 intro hg4
 have hp4 := hg4; try simp only [Y5] at hp4
 refine Xk (Xh rfl rfl rfl hg4) (Xb rfl) ?_
 refine Xk (Xh rfl rfl rfl hg4) (Zs rfl rfl) ?_
 refine Xa (Xm (Yu hg4) rfl) ?_
 refine Xa (Xq rfl) ?_
 refine Yb rfl rfl rfl ?_ ?_
 intro hg5
 have hp5 := hg5; try simp only [Y5] at hp5
 refine Vg (Xh rfl rfl rfl hg5) (Xy (lives36_ok _) rfl Tryz.func15 rfl rfl rfl ?_)
 rintro v H' ⟨rfl, hlv⟩
 refine Xa (Xm (Yu hg5) rfl) ?_
 refine Xa (Xi rfl) ?_
 refine X2 ?_
 exact ⟨.bool true, X0 (Xp rfl), rfl, Hp.le_trans leHF hlv⟩
 intro hg5
 exact absurd he (of_decide_eq_false hg5)
 intro hg4
 exact absurd hS (of_decide_eq_false hg4)
 intro hc3
 have hyes : Zv M := hg5.1 (by have h := hc3; simpa using h)
 obtain ⟨hS, he⟩ : S = Y9 (Va (Zu M)) ∧ e = 0 := by rcases hSe with h | h; (· exact h.2); (· exact absurd hyes h.1)
 refine X9 ?_
 refine Xc ?_
 refine Xs ?_
 refine Xa (Yj (cs := [.int .i64 _, .bool _, .slice _ _ _, .int .u64 _, .slice _ _ _]) rfl Tryz.underlying33 rfl inf33.size X5) ?_
 refine Xv (Xy (putR_36 M _ _ fM hyes hrM) rfl Tryz.func40 rfl rfl rfl ?_)
 rintro v50 HG ⟨rfl, leFG⟩; have g0 := Xr leFG (by omega) (by intro e; cases e) f0; have g1 := Xr leFG (by omega) (by intro e; cases e) f1; have gM := kMark.mono leFG.sees fM; have gO := kMark.mono leFG.sees fO; have zg := leFG.1; have leHG := Hp.le_trans leHF leFG
 refine Xv (Xy (Get_s (Y9 (Va (Zu M))) _ (putM_size hyes hrM)) rfl Tryz.func39 rfl rfl rfl ?_)
 rintro v51 HI ⟨⟨x, ds6, e2, rfl, hx, hbx, hrx, hxi, hxe⟩, leGI⟩; have hx0 := hx; obtain ⟨v6, w6, rfl, hv6, hw6⟩ := hx; obtain ⟨A6, c6, rfl⟩ := hv6.shape; obtain ⟨W6, cW6, rfl⟩ := hw6.shape; obtain ⟨he2, hgx, hsx⟩ : e2 = 0 ∧ Zv x ∧ Y9 (Va (Zu M)) = Y9 (Va (Zu x)) := (by rcases hxe with h | h; (· exact h); (· exact absurd rfl (h.2.2 M hyes hrM))); have hsam := put_inj hgx hrx hyes hrM hsx.symm; have i0 := Xr leGI (by omega) (by intro e; cases e) g0; have i1 := Xr leGI (by omega) (by intro e; cases e) g1; have iM := kMark.mono leGI.sees gM; have iO := kMark.mono leGI.sees gO; have zi := leGI.1; have leHI := Hp.le_trans leHG leGI
 refine Xa (Zi rfl) ?_
 refine Xa (Yf rfl rfl) ?_
 refine Xa (Yf rfl rfl) ?_
 refine Xz (Ys (l := [.int .i64 0, .bool false, .slice none 0 0, .int .u64 0, .slice none 0 0]) inf33.zero rfl (by decide)) ?_
 refine Xv (Ye (vs := [.int .i64 _, .bool _, .slice _ _ _, .int .u64 _, .slice _ _ _]) rfl rfl inf33.size Ya Yd rfl rfl ?_)
 refine Xa (Xj rfl) ?_
 refine Xc ?_
 obtain ⟨HJ, hHJ⟩ : ∃ HJ, HJ = (HI.push (.own 0 [.int .i64 0, .bool false, .slice none 0 0, .int .u64 0, .slice none 0 0])).put HI.size (.own 0 [.int .i64 x.told, .bool x.over, .slice A6 x.nodes.length c6, .int .u64 x.rest, .slice W6 x.items.length cW6]) := ⟨_, rfl⟩
 have leIJ : HI.le HJ := by rw [hHJ]; exact Hp.le_put_new (HI.le_push _) (Nat.le_refl _) _
 have jx : HJ.get HI.size = .own 0 [.int .i64 x.told, .bool x.over, .slice A6 x.nodes.length c6, .int .u64 x.rest, .slice W6 x.items.length cW6] := by rw [hHJ]; exact Hp.put_same _ _ _
 have zJ : HJ.size = HI.size + 1 := by rw [hHJ]; simp
 change ACode true _ _ _ _ _ ((HI.push (.own 0 [.int .i64 0, .bool false, .slice none 0 0, .int .u64 0, .slice none 0 0])).put HI.size (.own 0 [.int .i64 x.told, .bool x.over, .slice A6 x.nodes.length c6, .int .u64 x.rest, .slice W6 x.items.length cW6]))
 rw [← hHJ]
 clear hHJ
 have jX := kMark.mono leIJ.sees hx0
 have j0 := Xr leIJ (by omega) (by intro e; cases e) i0
 have j1 := Xr leIJ (by omega) (by intro e; cases e) i1
 have jM := kMark.mono leIJ.sees iM
 have jO := kMark.mono leIJ.sees iO
 have zj := leIJ.1
 have leHJ := Hp.le_trans leHI leIJ
 refine Xs ?_
 refine Xa (Zo rfl) ?_
 refine Xa (Yj (cs := [.int .i64 _, .bool _, .slice _ _ _, .int .u64 _, .slice _ _ _]) rfl Tryz.underlying33 rfl inf33.size X5) ?_
 refine Xv (Xy (putR_36 M _ _ jM hyes hrM) rfl Tryz.func40 rfl rfl rfl ?_)
 rintro v56 HK ⟨rfl, leJK⟩; have kX := kMark.mono leJK.sees jX; have kx := Xr leJK (by omega) (by intro e; cases e) jx; have k0 := Xr leJK (by omega) (by intro e; cases e) j0; have k1 := Xr leJK (by omega) (by intro e; cases e) j1; have kM := kMark.mono leJK.sees jM; have kO := kMark.mono leJK.sees jO; have zk := leJK.1; have leHK := Hp.le_trans leHJ leJK
 refine Xa (av_str_eql rfl rfl) ?_
 refine Xa (Xq rfl) ?_
 refine Yb rfl rfl rfl ?_ ?_
 intro hg6
 have hp6 := hg6; try simp only [Y5] at hp6
 refine Xk (Xh rfl rfl rfl hg6) (Xb rfl) ?_
 refine Xk (Xh rfl rfl rfl hg6) (Zs rfl rfl) ?_
 refine Xa (Xm (Yu hg6) rfl) ?_
 refine Xa (Xq rfl) ?_
 refine Yb rfl rfl rfl ?_ ?_
 intro hg7
 have hp7 := hg7; try simp only [Y5] at hp7
 refine Xk (Xh rfl rfl rfl hg7) (Yj (cs := [.int .i64 _, .bool _, .slice _ _ _, .int .u64 _, .slice _ _ _]) rfl Tryz.underlying33 rfl inf33.size X5) ?_
 refine Xk (Xh rfl rfl rfl hg7) (Yj (cs := [.int .i64 _, .bool _, .slice _ _ _, .int .u64 _, .slice _ _ _]) rfl Tryz.underlying33 rfl inf33.size X5) ?_
 refine Vg (Xh rfl rfl rfl hg7) (Xy (sameM_36 x M _ _ _ kX kM hbx hbM) rfl Tryz.func20 rfl rfl rfl ?_)
 rintro v65 HK ⟨⟨g6, rfl, hg6⟩, rfl⟩; obtain rfl : g6 = true := hg6.2 hsam
 refine Xa (Xm (Yu hg7) rfl) ?_
 refine Xa (Xq rfl) ?_
 refine Yb rfl rfl rfl ?_ ?_
 intro hg8
 have hp8 := hg8; try simp only [Y5] at hp8
 refine Xk (Xh rfl rfl rfl hg8) (Xb rfl) ?_
 refine Xk (Xh rfl rfl rfl hg8) (Zs rfl rfl) ?_
 refine Xa (Xm (Yu hg8) rfl) ?_
 refine Xa (Xq rfl) ?_
 refine Yb rfl rfl rfl ?_ ?_
 intro hg9
 have hp9 := hg9; try simp only [Y5] at hp9
 refine Vg (Xh rfl rfl rfl hg9) (Xy (lives36_ok _) rfl Tryz.func15 rfl rfl rfl ?_)
 rintro v H' ⟨rfl, hlv⟩
 refine Xa (Xm (Yu hg9) rfl) ?_
 refine Xa (Xi rfl) ?_
 refine X2 ?_
 exact ⟨.bool true, X0 (Xp rfl), rfl, Hp.le_trans leHK hlv⟩
 intro hg9
 exact absurd he2 (of_decide_eq_false hg9)
 intro hg8
 exact absurd hg8 (by decide)
 intro hg7
 exact absurd he (of_decide_eq_false hg7)
 intro hg6
 exact absurd hS (of_decide_eq_false hg6)
theorem cells_i64 : Tryz.prog.cellsOf 3 = 1 := by kernel_rfl
theorem cells_u64 : Tryz.prog.cellsOf 30 = 1 := by kernel_rfl
theorem opens_ints : Opens Tryz.prog (kSl (Yv .i64)) 23 (fun xs => xs.length ≤ maxLen ∧ ∀ x ∈ xs, fits .i64 x) := opens_sl Tryz.underlying23 cells_i64 (opens_int Tryz.underlying3)
theorem cells_ints : Tryz.prog.cellsOf 23 = 1 := by kernel_rfl
theorem cells_itemT : Tryz.prog.cellsOf 85 = 4 := by kernel_rfl
theorem cells_itemsT : Tryz.prog.cellsOf 31 = 1 := by kernel_rfl
theorem cells_boolM : Tryz.prog.cellsOf 4 = 1 := by kernel_rfl
theorem cells_mark : Tryz.prog.cellsOf 33 = 5 := by kernel_rfl
theorem opens_itemT : Opens Tryz.prog kItemT 85 (fun x => fits .i64 x.cost ∧ (x.nodes.length ≤ maxLen ∧ ∀ n ∈ x.nodes, fits .i64 n) ∧ fits .i64 x.place ∧ fits .i64 x.rank) := fun Hh enc W fuel cs x h => by
 obtain ⟨xs, n, _, _, hl, hxs, hf⟩ := DataW.trod_struct Tryz.underlying85 h
 rw [cells_itemT] at hl
 have hxs : xs.length = 4 := hxs
 match cs, hl with
 | [c0, c1, c2, c3], _ =>
  have f0 : DataW.trod enc Tryz.prog W 0 (fun _ => true) true n 3 (([c0, c1, c2, c3].drop 0).take (Tryz.prog.cellsOf 3)) = xs[0]? := hf 0 _ rfl
  have f1 : DataW.trod enc Tryz.prog W 0 (fun _ => true) true n 23 (([c0, c1, c2, c3].drop 1).take (Tryz.prog.cellsOf 23)) = xs[1]? := hf 1 _ rfl
  have f2 : DataW.trod enc Tryz.prog W 0 (fun _ => true) true n 3 (([c0, c1, c2, c3].drop 2).take (Tryz.prog.cellsOf 3)) = xs[2]? := hf 2 _ rfl
  have f3 : DataW.trod enc Tryz.prog W 0 (fun _ => true) true n 3 (([c0, c1, c2, c3].drop 3).take (Tryz.prog.cellsOf 3)) = xs[3]? := hf 3 _ rfl
  rw [cells_i64, List.getElem?_eq_getElem (show 0 < xs.length by omega)] at f0
  rw [cells_ints, List.getElem?_eq_getElem (show 1 < xs.length by omega)] at f1
  rw [cells_i64, List.getElem?_eq_getElem (show 2 < xs.length by omega)] at f2
  rw [cells_i64, List.getElem?_eq_getElem (show 3 < xs.length by omega)] at f3
  obtain ⟨y0, r0, b0, v0⟩ := opens_int (P := Tryz.prog) Tryz.underlying3 Hh enc W n _ _ f0
  obtain ⟨y1, ⟨w, r1, s1⟩, b1, v1⟩ := opens_ints Hh enc W n _ _ f1
  obtain ⟨y2, r2, b2, v2⟩ := opens_int (P := Tryz.prog) Tryz.underlying3 Hh enc W n _ _ f2
  obtain ⟨y3, r3, b3, v3⟩ := opens_int (P := Tryz.prog) Tryz.underlying3 Hh enc W n _ _ f3
  refine ⟨⟨y0, y1, y2, y3⟩, ⟨w, ?_, s1⟩, ⟨b0, b1, b2, b3⟩, fun v hv => ?_⟩
  ·have e0 : [absV W c0] = [Value.int .i64 y0] := r0
   have e1 : [absV W c1] = [w] := r1
   have e2 : [absV W c2] = [Value.int .i64 y2] := r2
   have e3 : [absV W c3] = [Value.int .i64 y3] := r3
   simp only [List.cons.injEq, and_true] at e0 e1 e2 e3
   simp [e0, e1, e2, e3]
  ·simp at hv
   rcases hv with rfl | rfl | rfl | rfl
   ·exact v0 _ (List.mem_singleton.2 rfl)
   ·exact v1 _ (List.mem_singleton.2 rfl)
   ·exact v2 _ (List.mem_singleton.2 rfl)
   ·exact v3 _ (List.mem_singleton.2 rfl)
theorem opens_itemsT : Opens Tryz.prog (kSl kItemT) 31 (fun xs => xs.length ≤ maxLen ∧ ∀ x ∈ xs, fits .i64 x.cost ∧ (x.nodes.length ≤ maxLen ∧ ∀ n ∈ x.nodes, fits .i64 n) ∧ fits .i64 x.place ∧ fits .i64 x.rank) := opens_sl Tryz.underlying31 cells_itemT opens_itemT
theorem opens_mark : Opens Tryz.prog kMark 33 (fun m => BigM m ∧ 0 ≤ m.rest ∧ m.rest < 18446744073709551616) := fun Hh enc W fuel cs x h => by
 obtain ⟨xs, n, _, _, hl, hxs, hf⟩ := DataW.trod_struct Tryz.underlying33 h
 rw [cells_mark] at hl
 have hxs : xs.length = 5 := hxs
 match cs, hl with
 | [c0, c1, c2, c3, c4], _ =>
  have f0 : DataW.trod enc Tryz.prog W 0 (fun _ => true) true n 3 (([c0, c1, c2, c3, c4].drop 0).take (Tryz.prog.cellsOf 3)) = xs[0]? := hf 0 _ rfl
  have f1 : DataW.trod enc Tryz.prog W 0 (fun _ => true) true n 4 (([c0, c1, c2, c3, c4].drop 1).take (Tryz.prog.cellsOf 4)) = xs[1]? := hf 1 _ rfl
  have f2 : DataW.trod enc Tryz.prog W 0 (fun _ => true) true n 23 (([c0, c1, c2, c3, c4].drop 2).take (Tryz.prog.cellsOf 23)) = xs[2]? := hf 2 _ rfl
  have f3 : DataW.trod enc Tryz.prog W 0 (fun _ => true) true n 30 (([c0, c1, c2, c3, c4].drop 3).take (Tryz.prog.cellsOf 30)) = xs[3]? := hf 3 _ rfl
  have f4 : DataW.trod enc Tryz.prog W 0 (fun _ => true) true n 31 (([c0, c1, c2, c3, c4].drop 4).take (Tryz.prog.cellsOf 31)) = xs[4]? := hf 4 _ rfl
  rw [cells_i64, List.getElem?_eq_getElem (show 0 < xs.length by omega)] at f0
  rw [cells_boolM, List.getElem?_eq_getElem (show 1 < xs.length by omega)] at f1
  rw [cells_ints, List.getElem?_eq_getElem (show 2 < xs.length by omega)] at f2
  rw [cells_u64, List.getElem?_eq_getElem (show 3 < xs.length by omega)] at f3
  rw [cells_itemsT, List.getElem?_eq_getElem (show 4 < xs.length by omega)] at f4
  obtain ⟨y0, r0, b0, v0⟩ := opens_int (P := Tryz.prog) Tryz.underlying3 Hh enc W n _ _ f0
  obtain ⟨y1, r1, b1, v1⟩ := opens_bool (P := Tryz.prog) Tryz.underlying4 Hh enc W n _ _ f1
  obtain ⟨y2, ⟨w2, r2, s2⟩, b2, v2⟩ := opens_ints Hh enc W n _ _ f2
  obtain ⟨y3, r3, b3, v3⟩ := opens_int (P := Tryz.prog) Tryz.underlying30 Hh enc W n _ _ f3
  obtain ⟨y4, ⟨w4, r4, s4⟩, b4, v4⟩ := opens_itemsT Hh enc W n _ _ f4
  refine ⟨⟨y0, y1, y2, y3, y4⟩, ⟨w2, w4, ?_, s2, s4⟩, ⟨⟨b2.1, b4.1, fun x hx => (b4.2 x hx).2.1.1⟩, (lit_u64 b3).1, Int.lt_of_le_of_lt (lit_u64 b3).2 (by decide)⟩, fun v hv => ?_⟩
  ·have e0 : [absV W c0] = [Value.int .i64 y0] := r0
   have e1 : [absV W c1] = [Value.bool y1] := r1
   have e2 : [absV W c2] = [w2] := r2
   have e3 : [absV W c3] = [Value.int .u64 y3] := r3
   have e4 : [absV W c4] = [w4] := r4
   simp only [List.cons.injEq, and_true] at e0 e1 e2 e3 e4
   simp [e0, e1, e2, e3, e4]
  ·simp at hv
   rcases hv with rfl | rfl | rfl | rfl | rfl
   ·exact v0 _ (List.mem_singleton.2 rfl)
   ·exact v1 _ (List.mem_singleton.2 rfl)
   ·exact v2 _ (List.mem_singleton.2 rfl)
   ·exact v3 _ (List.mem_singleton.2 rfl)
   ·exact v4 _ (List.mem_singleton.2 rfl)
end Go.Proofs.YtmakkmcjocjgmaaGreat.Am
