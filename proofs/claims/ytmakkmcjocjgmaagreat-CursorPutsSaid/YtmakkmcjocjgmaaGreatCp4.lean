/- Texts that the proof rests on, part 4: lemmas for every heap that is related to a world, no condition beyond each lemma's own. -/
import Derived.Test.YtmakkmcjocjgmaaGreatCp3
import Derived.Test.YtmakkmcjocjgmaaGreatCpOwnL
import Derived.Test.YtmakkmcjocjgmaaGreatCp2
import Derived.Test.YtmakkmcjocjgmaaGreatCpBytes
import Derived.Test.YtmakkmcjocjgmaaGreatCpGrow
import Derived.Test.YtmakkmcjocjgmaaGreatCpSlice3
namespace Go.Proofs.YtmakkmcjocjgmaaGreat.Am
open Go Go.RowKit
set_option linter.unusedVariables false
set_option linter.unusedSimpArgs false
set_option maxRecDepth 100000
def apartL (ways : Int) (m : Nat) : List Link := (List.range m).map fun (k : Nat) => ⟨k, k, k, ways⟩
def apartF (k : Nat) : Forest := ⟨List.replicate k ⟨#[120]⟩, (List.range k).map fun (i : Nat) => (i : Int), List.replicate k (-1), List.replicate k [], List.replicate k []⟩
def apartP (ways : Int) (sizes : List Int) : Parts := ⟨sizes.map fun m => apartL ways m.toNat, sizes.map fun _ => []⟩
theorem apartL_next (ways : Int) (m : Nat) : apartL ways (m + 1) = apartL ways m ++ [⟨m, m, m, ways⟩] := by
 unfold apartL
 rw [List.range_succ, List.map_append]; rfl
theorem apartL_len (ways : Int) (m : Nat) : (apartL ways m).length = m := by unfold apartL; simp
structure ApartR (G : Hp) (ways : Int) (sizes : List Int) (i : Nat) (nds : List (List Value)) : Prop where
 len : nds.length = i
 at_ : ∀ (j : Nat) (h : j < nds.length) (h' : j < sizes.length), ∃ w, nds[j] = [w] ∧ Sl kLink G w (apartL ways sizes[j].toNat)
theorem ApartR.mono {G G' : Hp} (h : G.sees G') {ways : Int} {sizes : List Int} {i : Nat} {nds : List (List Value)} (hr : ApartR G ways sizes i nds) : ApartR G' ways sizes i nds :=
 ⟨hr.len, fun j a b => let ⟨w, h1, h2⟩ := hr.at_ j a b; ⟨w, h1, h2.mono h⟩⟩
theorem ApartR.snoc {G : Hp} {ways : Int} {sizes : List Int} {i : Nat} {nds : List (List Value)} (hr : ApartR G ways sizes i nds) (hi : i < sizes.length) {w : Value} (hs : Sl kLink G w (apartL ways sizes[i].toNat)) : ApartR G ways sizes (i + 1) (nds ++ [[w]]) := by
 have hl := hr.len
 refine ⟨by simp [hl], fun j a b => ?_⟩
 rw [List.length_append, List.length_singleton] at a
 by_cases h : j < nds.length
 ·rw [List.getElem_append_left h]; exact hr.at_ j h b
 ·obtain rfl : j = nds.length := by omega
  rw [List.getElem_append_right (Nat.le_refl _)]
  simp only [Nat.sub_self, List.getElem_cons_zero]
  subst hl
  exact ⟨w, rfl, hs⟩
theorem rep_next {α : Type} (n : Nat) (x : α) : List.replicate n x ++ [x] = List.replicate (n + 1) x := by rw [List.replicate_succ']
def eStr (v : Value) (i : Nat) : Ent := ⟨1, by decide, v, List.replicate i [.string ⟨#[120]⟩]⟩
def eInt (v : Value) (i : Nat) : Ent := ⟨1, by decide, v, (List.range i).map fun (k : Nat) => [.int .i64 k]⟩
def eNeg (v : Value) (i : Nat) : Ent := ⟨1, by decide, v, List.replicate i [.int .i64 (-1)]⟩
def V7 (v : Value) (i : Nat) : Ent := ⟨1, by decide, v, List.replicate i [.slice none 0 0]⟩
def eNds (v : Value) (nds : List (List Value)) : Ent := ⟨1, by decide, v, nds⟩
theorem range_cells (i : Nat) : ((List.range i).map fun (k : Nat) => [Value.int .i64 k]) ++ [[.int .i64 i]] = (List.range (i + 1)).map fun (k : Nat) => [Value.int .i64 k] := by rw [List.range_succ, List.map_append]; rfl
theorem eStr_next (v w : Value) (i : Nat) : (⟨(eStr v i).sz, (eStr v i).pos, w, (eStr v i).raws ++ [[.string ⟨#[120]⟩]]⟩ : Ent) = eStr w (i + 1) := by unfold eStr; simp only [rep_next]
theorem eInt_next (v w : Value) (i : Nat) : (⟨(eInt v i).sz, (eInt v i).pos, w, (eInt v i).raws ++ [[.int .i64 i]]⟩ : Ent) = eInt w (i + 1) := by unfold eInt; simp only [range_cells]
theorem eNeg_next (v w : Value) (i : Nat) : (⟨(eNeg v i).sz, (eNeg v i).pos, w, (eNeg v i).raws ++ [[.int .i64 (-1)]]⟩ : Ent) = eNeg w (i + 1) := by unfold eNeg; simp only [rep_next]
theorem eNil_next (v w : Value) (i : Nat) : (⟨(V7 v i).sz, (V7 v i).pos, w, (V7 v i).raws ++ [[.slice none 0 0]]⟩ : Ent) = V7 w (i + 1) := by unfold V7; simp only [rep_next]
theorem eNds_next (v w : Value) (nds : List (List Value)) (x : List Value) : (⟨(eNds v nds).sz, (eNds v nds).pos, w, (eNds v nds).raws ++ [x]⟩ : Ent) = eNds w (nds ++ [x]) := rfl
def BxP (H G : Hp) (b2 b3 : List Value) : Prop := H.le G ∧ H.size + 4 ≤ G.size ∧ G.get H.size = .own 0 [.slice none 0 0, .slice none 0 0, .slice none 0 0, .slice none 0 0, .slice none 0 0] ∧ G.get (H.size + 1) = .own 0 [.slice none 0 0, .slice none 0 0] ∧ G.get (H.size + 2) = .own 0 b2 ∧ G.get (H.size + 3) = .own 0 b3
theorem BxP.le {H G G' : Hp} {b2 b3 : List Value} (h : BxP H G b2 b3) (hle : G.le G') : BxP H G' b2 b3 :=
 ⟨Hp.le_trans h.1 hle, Nat.le_trans h.2.1 hle.1, Xr hle (by have := h.2.1; omega) (by intro e; cases e) h.2.2.1, Xr hle (by have := h.2.1; omega) (by intro e; cases e) h.2.2.2.1, Xr hle (by have := h.2.1; omega) (by intro e; cases e) h.2.2.2.2.1, Xr hle (by have := h.2.1; omega) (by intro e; cases e) h.2.2.2.2.2⟩
theorem BxP.put2 {H G : Hp} {b2 b3 : List Value} (h : BxP H G b2 b3) (b2' : List Value) : BxP H (G.put (H.size + 2) (.own 0 b2')) b2' b3 :=
 ⟨Hp.le_put_new h.1 (by omega) _, h.2.1, by rw [Hp.put_other _ _ (by omega)]; exact h.2.2.1, by rw [Hp.put_other _ _ (by omega)]; exact h.2.2.2.1, Hp.put_same _ _ _, by rw [Hp.put_other _ _ (by omega)]; exact h.2.2.2.2.2⟩
theorem BxP.put3 {H G : Hp} {b2 b3 : List Value} (h : BxP H G b2 b3) (b3' : List Value) : BxP H (G.put (H.size + 3) (.own 0 b3')) b2 b3' :=
 ⟨Hp.le_put_new h.1 (by omega) _, h.2.1, by rw [Hp.put_other _ _ (by omega)]; exact h.2.2.1, by rw [Hp.put_other _ _ (by omega)]; exact h.2.2.2.1, by rw [Hp.put_other _ _ (by omega)]; exact h.2.2.2.2.1, Hp.put_same _ _ _⟩
theorem Zx {H : Hp} {h : 1 ≠ 0} {v : Value} {raws : List (List Value)} {i : Nat} (hs : Sl (kCel 1 h) H v raws) (hl : raws.length = i) : ∃ A c, v = .slice A i c := by
 obtain ⟨A, c, e⟩ := hs.shape
 exact ⟨A, c, by rw [e, hl]⟩
set_option maxHeartbeats 4000000 in
theorem Apart_ok (ways : Int) (sizes : List Int) (u : Value) (H : Hp) (hs : Sl (Yv .i64) H u sizes) (hl : sizes.length ≤ 1000) (hm : ∀ m ∈ sizes, m ≤ 100000) :
    ACalls Tryz.prog 54 #[.int .u64 ways, u] H (fun r H' => ∃ cs ds, r = .tuple #[.agg cs.toArray, .agg ds.toArray] ∧ kForest.rep H' (apartF sizes.length) cs ∧ kParts.rep H' (apartP ways sizes) ds ∧ H.le H') := by
  obtain ⟨Au, cu, rfl⟩ := hs.shape
  refine Xu Tryz.func54 rfl rfl rfl (by simp) ?_
  refine Xc ?_
  refine Xs ?_
  refine Xz (Ys (l := [.slice none 0 0, .slice none 0 0, .slice none 0 0, .slice none 0 0, .slice none 0 0]) inf26.zero rfl (by decide)) ?_
  refine Xz (Ys (l := [.slice none 0 0, .slice none 0 0]) inf29.zero rfl (by decide)) ?_
  refine Xc ?_
  refine Xs ?_
  refine Xa (Y0 (pl := [(0, 1), (1, 1), (2, 1), (3, 1), (4, 1)]) (r := [.slice _ _ _, .slice _ _ _, .slice _ _ _, .slice _ _ _, .slice _ _ _]) Tryz.underlying26 inf26.zero (by decide) rfl rfl) ?_
  refine Xa (Y0 (pl := [(0, 1), (1, 1)]) (r := [.slice _ _ _, .slice _ _ _]) Tryz.underlying29 inf29.zero (by decide) rfl rfl) ?_
  refine Xz (Ys (l := [.slice none 0 0, .slice none 0 0, .slice none 0 0, .slice none 0 0, .slice none 0 0]) inf26.zero rfl (by decide)) ?_
  refine Xz (Ys (l := [.slice none 0 0, .slice none 0 0]) inf29.zero rfl (by decide)) ?_
  refine Xv (Ye (vs := [.slice _ _ _, .slice _ _ _, .slice _ _ _, .slice _ _ _, .slice _ _ _]) rfl rfl inf26.size Ya Yd rfl rfl ?_)
  refine Xv (Ye (vs := [.slice _ _ _, .slice _ _ _]) rfl rfl inf29.size Ya Yd rfl rfl ?_)
  refine Xc ?_
  refine Xc ?_
  refine Xs ?_
  refine Xa (Xj rfl) ?_
  refine Yh ?_
  refine Y6 (fun n t H' => ∃ (i : Nat) (G : Hp) (v0 v1 v2 v3 v4 v5 v6 : Value) (nds : List (List Value)), i ≤ sizes.length ∧ n = sizes.length - i ∧ BxP H G [v0, v1, v2, v3, v4] [v5, v6] ∧ OwnL G [eStr v0 i, eInt v1 i, eNeg v2 i, V7 v3 i, V7 v4 i, eNds v5 nds, V7 v6 i] H' ∧ ApartR G ways sizes i nds ∧ t 0 = .int .u64 ways ∧ t 1 = .slice Au sizes.length cu ∧ t 4 = .pointer (some ⟨H.size, 0, none⟩) ∧ t 5 = .pointer (some ⟨H.size + 1, 0, none⟩) ∧ t 6 = .pointer (some ⟨H.size + 2, 0, none⟩) ∧ t 7 = .pointer (some ⟨H.size + 3, 0, none⟩) ∧ t 8 = .int .i64 i) (sizes.length) (⟨0, _, .slice none 0 0, .slice none 0 0, .slice none 0 0, .slice none 0 0, .slice none 0 0, .slice none 0 0, .slice none 0 0, [], by omega, rfl, ⟨t_le, by simp, Ya, Ya, Ya, Ya⟩, ⟨_, OwnP.nil _ _, _, OwnP.nil _ _, _, OwnP.nil _ _, _, OwnP.nil _ _, _, OwnP.nil _ _, _, OwnP.nil _ _, _, OwnP.nil _ _, rfl⟩, ⟨rfl, fun j h _ => absurd h (Nat.not_lt_zero _)⟩, rfl, rfl, rfl, rfl, rfl, rfl, rfl⟩) ?_
  rintro n t H1 ⟨i, G, v0, v1, v2, v3, v4, v5, v6, nds, hi, rfl, hb, hown, hr, e0, e1, e4, e5, e6, e7, e8⟩
  obtain ⟨A0, k0, rfl⟩ := Zx (hown.sl (eStr v0 i) (by simp)) (List.length_replicate)
  obtain ⟨A1, k1, rfl⟩ := Zx (hown.sl (eInt v1 i) (by simp)) (show ((List.range i).map fun (k : Nat) => [Value.int .i64 k]).length = i by simp)
  obtain ⟨A2, k2, rfl⟩ := Zx (hown.sl (eNeg v2 i) (by simp)) (List.length_replicate)
  obtain ⟨A3, k3, rfl⟩ := Zx (hown.sl (V7 v3 i) (by simp)) (List.length_replicate)
  obtain ⟨A4, k4, rfl⟩ := Zx (hown.sl (V7 v4 i) (by simp)) (List.length_replicate)
  obtain ⟨A5, k5, rfl⟩ := Zx (hown.sl (eNds v5 nds) (by simp)) hr.len
  obtain ⟨A6, k6, rfl⟩ := Zx (hown.sl (V7 v6 i) (by simp)) (List.length_replicate)
  have bH := hb.le hown.le
  obtain ⟨leH1, zH1, q0, q1, q2, q3⟩ := id bH
  have zz := hown.size
  refine Xc ?_
  refine Xc ?_
  refine Xs ?_
  refine Xa (Xb Xn) ?_
  refine Xa (X1 Xn) ?_
  refine Xa (Yo rfl Tryz.underlying23) ?_
  refine Xa (Zf rfl rfl) ?_
  refine X4 rfl rfl ?_ ?_
  intro hc1
  (try simp only [Y5] at hc1)
  refine X9 ?_
  refine Xc ?_
  refine Yh ?_
  refine Xc ?_
  have hix : i < sizes.length := by omega
  have zz5 := hown.size
  have hL := (((hown.push (.own 1 [.string ⟨#[120]⟩])).push (.own 1 [.int .i64 i])).push (.own 1 [.int .i64 (-1)]))
  have leP : G.le (((G.push (.own 1 [.string ⟨#[120]⟩])).push (.own 1 [.int .i64 i])).push (.own 1 [.int .i64 (-1)])) := Hp.le_trans (Hp.le_trans (Hp.le_push (G) (.own 1 [.string ⟨#[120]⟩])) (Hp.le_push ((G.push (.own 1 [.string ⟨#[120]⟩]))) (.own 1 [.int .i64 i]))) (Hp.le_push (((G.push (.own 1 [.string ⟨#[120]⟩])).push (.own 1 [.int .i64 i]))) (.own 1 [.int .i64 (-1)]))
  have bL := hb.le leP
  have rL := hr.mono leP.sees
  have l0 : (((G.push (.own 1 [.string ⟨#[120]⟩])).push (.own 1 [.int .i64 i])).push (.own 1 [.int .i64 (-1)])).get (H1.size) = .own 1 [.string ⟨#[120]⟩] := by rw [zz5]; exact Ya
  have l1 : (((G.push (.own 1 [.string ⟨#[120]⟩])).push (.own 1 [.int .i64 i])).push (.own 1 [.int .i64 (-1)])).get (H1.size + 1) = .own 1 [.int .i64 i] := by rw [zz5]; exact Ya
  have l2 : (((G.push (.own 1 [.string ⟨#[120]⟩])).push (.own 1 [.int .i64 i])).push (.own 1 [.int .i64 (-1)])).get (H1.size + 2) = .own 1 [.int .i64 (-1)] := by rw [zz5]; exact Ya
  have zL : H1.size + 3 ≤ (((G.push (.own 1 [.string ⟨#[120]⟩])).push (.own 1 [.int .i64 i])).push (.own 1 [.int .i64 (-1)])).size := by simp; omega
  obtain ⟨GP, hGP⟩ : ∃ GP, GP = (((G.push (.own 1 [.string ⟨#[120]⟩])).push (.own 1 [.int .i64 i])).push (.own 1 [.int .i64 (-1)])) := ⟨_, rfl⟩
  rw [← hGP] at hL bL rL zL l0 l1 l2
  clear hGP leP
  refine Yy (by kernel_rfl) (Y4 (B := [0, 1, 0, 7, 0, 16, 0, 64, 255, 0, 512, 0, 4095, 1599, 16383, 32767, 65535, 131071, 262143]) (π := [0, 1, 2, 4, 5, 6, 7, 9, 10, 11, 3, 13, 8, 12, 14, 15, 16, 17, 18]) (by kernel_rfl)) ?_
  refine Xe rfl rfl (Xf (off := 0) Xn Tryz.underlying26 Xn inf22.size (by decide) Xn) Xt ?_
  refine Xe rfl rfl (Xl rfl Tryz.underlying22 rfl Xo) Xt ?_
  first | refine Zd rfl rfl (Yg (r := [.string _]) Tryz.underlying22 inf9.size inf9.zero rfl (by decide) (by decide) (by decide) rfl) ?_
  refine Xe rfl rfl (Xf (off := 1) Xn Tryz.underlying26 Xn inf23.size (by decide) Xn) Xt ?_
  refine Xe rfl rfl (Xl rfl Tryz.underlying23 rfl Xo) Xt ?_
  refine Xe rfl rfl (Xb Xn) Xt ?_
  first | refine Zd rfl rfl (Yg (r := [.int .i64 _]) Tryz.underlying23 inf3.size inf3.zero rfl (by decide) (by decide) (by decide) rfl) ?_
  refine Xe rfl rfl (Xf (off := 2) Xn Tryz.underlying26 Xn inf23.size (by decide) Xn) Xt ?_
  refine Xe rfl rfl (Xl rfl Tryz.underlying23 rfl Xo) Xt ?_
  first | refine Zd rfl rfl (Yg (r := [.int .i64 _]) Tryz.underlying23 inf3.size inf3.zero rfl (by decide) (by decide) (by decide) rfl) ?_
  obtain ⟨Ga0, leGa0, ha0, back0⟩ := hL.rot.last
  have zGa := leGa0.1
  obtain ⟨_, zA, qa, qb, qc, qd⟩ := bL.le leGa0
  have m0 := Xr leGa0 (by omega) (by intro e; cases e) l0
  have m1 := Xr leGa0 (by omega) (by intro e; cases e) l1
  have m2 := Xr leGa0 (by omega) (by intro e; cases e) l2
  refine Yk rfl rfl (Ent.append ha0 Tryz.underlying22 inf9 Xn Xn rfl (lb := H1.size) (by omega) m0 rfl (by intro v hv; simp at hv; subst hv; rfl) (by simp only [eStr, List.length_replicate]; omega) (by decide) ?_)
  rintro w0 Gb0 Hb0 leb0 hb0
  have hsameO := Ent.sameO ha0 leb0 hb0
  obtain ⟨Gc0, lec0, hc0⟩ := back0 Gb0 Hb0 _ leb0 hb0
  rw [eStr_next] at hc0 hb0
  obtain ⟨W0, cw0, rfl⟩ : ∃ A c, w0 = Value.slice A (i + 1) c := Zx (i := i + 1) (OwnP.sl hb0) (by simp [eStr])
  have bb0 := (bL.le lec0).le hc0.le
  obtain ⟨_, zb, qa0, qb0, qc0, qd0⟩ := id bb0
  have l1b := Xr hc0.le (by have := lec0.1; omega) (by intro e; cases e) (Xr lec0 (by omega) (by intro e; cases e) l1)
  have l2b := Xr hc0.le (by have := lec0.1; omega) (by intro e; cases e) (Xr lec0 (by omega) (by intro e; cases e) l2)
  refine ⟨Yi, ?_⟩
  clear hsameO qa qb qc qd m0 m1 m2
  clear l1b
  have l1 := Xr lec0 (by omega) (by intro e; cases e) l1
  clear l2b
  have l2 := Xr lec0 (by omega) (by intro e; cases e) l2
  replace bL := bL.le lec0
  replace rL := rL.mono lec0.sees
  replace zL := Nat.le_trans zL lec0.1
  clear hL
  have hL := hc0
  have zH0 := hL.size
  refine Xe rfl rfl (Xf (off := 0) Xn Tryz.underlying26 Xn inf22.size (by decide) Xn) Xt ?_
  obtain ⟨Ga1, leGa1, ha1, back1⟩ := hL.rot.last
  have zGa := leGa1.1
  obtain ⟨_, zA, qa, qb, qc, qd⟩ := bL.le leGa1
  have m0 := Xr leGa1 (by omega) (by intro e; cases e) l1
  have m1 := Xr leGa1 (by omega) (by intro e; cases e) l2
  refine Yk rfl rfl (Ent.append ha1 Tryz.underlying23 inf3 Xn Xn rfl (lb := H1.size + 1) (by omega) m0 rfl (by intro v hv; simp at hv; subst hv; rfl) (by simp only [eInt, List.length_map, List.length_range]; omega) (by decide) ?_)
  rintro w1 Gb1 Hb1 leb1 hb1
  have hsameO := Ent.sameO ha1 leb1 hb1
  obtain ⟨Gc1, lec1, hc1⟩ := back1 Gb1 Hb1 _ leb1 hb1
  rw [eInt_next] at hc1 hb1
  obtain ⟨W1, cw1, rfl⟩ : ∃ A c, w1 = Value.slice A (i + 1) c := Zx (i := i + 1) (OwnP.sl hb1) (by simp [eInt])
  have bb1 := (bL.le lec1).le hc1.le
  obtain ⟨_, zb, qa1, qb1, qc1, qd1⟩ := id bb1
  have l2b := Xr hc1.le (by have := lec1.1; omega) (by intro e; cases e) (Xr lec1 (by omega) (by intro e; cases e) l2)
  refine ⟨Yi, ?_⟩
  clear hsameO qa qb qc qd m0 m1
  clear l2b
  have l2 := Xr lec1 (by omega) (by intro e; cases e) l2
  replace bL := bL.le lec1
  replace rL := rL.mono lec1.sees
  replace zL := Nat.le_trans zL lec1.1
  clear hL
  have hL := hc1
  have zH1 := hL.size
  obtain ⟨Ga2, leGa2, ha2, back2⟩ := hL.rot.last
  have zGa := leGa2.1
  obtain ⟨_, zA, qa, qb, qc, qd⟩ := bL.le leGa2
  have m0 := Xr leGa2 (by omega) (by intro e; cases e) l2
  refine Yk rfl rfl (Ent.append ha2 Tryz.underlying23 inf3 Xn Xn rfl (lb := H1.size + 2) (by omega) m0 rfl (by intro v hv; simp at hv; subst hv; rfl) (by simp only [eNeg, List.length_replicate]; omega) (by decide) ?_)
  rintro w2 Gb2 Hb2 leb2 hb2
  have hsameO := Ent.sameO ha2 leb2 hb2
  obtain ⟨Gc2, lec2, hc2⟩ := back2 Gb2 Hb2 _ leb2 hb2
  rw [eNeg_next] at hc2 hb2
  obtain ⟨W2, cw2, rfl⟩ : ∃ A c, w2 = Value.slice A (i + 1) c := Zx (i := i + 1) (OwnP.sl hb2) (by simp [eNeg])
  have bb2 := (bL.le lec2).le hc2.le
  obtain ⟨_, zb, qa2, qb2, qc2, qd2⟩ := id bb2
  refine ⟨Yi, ?_⟩
  clear hsameO qa qb qc qd m0
  replace bL := bL.le lec2
  replace rL := rL.mono lec2.sees
  replace zL := Nat.le_trans zL lec2.1
  clear hL
  have hL := hc2
  have zH2 := hL.size
  first | refine Yk rfl rfl (Yz rfl rfl rfl inf22.size Ya Yd rfl ?_)
  refine ⟨Yi, ?_⟩
  refine Xe rfl rfl (Xf (off := 1) Xn Tryz.underlying26 Xn inf23.size (by decide) Xn) Xt ?_
  first | refine Yk rfl rfl (Yz rfl rfl rfl inf23.size Ya Yd rfl ?_)
  refine ⟨Yi, ?_⟩
  refine Xe rfl rfl (Xf (off := 2) Xn Tryz.underlying26 Xn inf23.size (by decide) Xn) Xt ?_
  first | refine Yk rfl rfl (Yz rfl rfl rfl inf23.size Ya Yd rfl ?_)
  refine ⟨Yi, ?_⟩
  refine Xc ?_
  obtain ⟨H6, hH6⟩ : ∃ H6, H6 = Hb2.put (H.size + 2) (.own 0 [.slice W0 (i + 1) cw0, .slice W1 (i + 1) cw1, .slice W2 (i + 1) cw2, .slice A3 i k3, .slice A4 i k4]) := ⟨_, rfl⟩
  obtain ⟨G6, hG6⟩ : ∃ G6, G6 = Gc2.put (H.size + 2) (.own 0 [.slice W0 (i + 1) cw0, .slice W1 (i + 1) cw1, .slice W2 (i + 1) cw2, .slice A3 i k3, .slice A4 i k4]) := ⟨_, rfl⟩
  have ownG6 := hL.put_box (by have := bL.2.1; omega) bL.2.2.2.2.1 [.slice W0 (i + 1) cw0, .slice W1 (i + 1) cw1, .slice W2 (i + 1) cw2, .slice A3 i k3, .slice A4 i k4]
  have bG6 := bL.put2 [.slice W0 (i + 1) cw0, .slice W1 (i + 1) cw1, .slice W2 (i + 1) cw2, .slice A3 i k3, .slice A4 i k4]
  have rG6 := rL.mono (Hp.sees_box (cs' := [.slice W0 (i + 1) cw0, .slice W1 (i + 1) cw1, .slice W2 (i + 1) cw2, .slice A3 i k3, .slice A4 i k4]) _ bL.2.2.2.2.1)
  rw [← hG6] at ownG6 bG6 rG6
  rw [← hH6] at ownG6
  change ACode true _ _ _ _ _ (((Hb2.put (H.size + 2) (.own 0 [.slice W0 (i + 1) cw0, .slice A1 i k1, .slice A2 i k2, .slice A3 i k3, .slice A4 i k4])).put (H.size + 2) (.own 0 [.slice W0 (i + 1) cw0, .slice W1 (i + 1) cw1, .slice A2 i k2, .slice A3 i k3, .slice A4 i k4])).put (H.size + 2) (.own 0 [.slice W0 (i + 1) cw0, .slice W1 (i + 1) cw1, .slice W2 (i + 1) cw2, .slice A3 i k3, .slice A4 i k4]))
  rw [Hp.put_put]
  rw [Hp.put_put]
  rw [← hH6]
  clear hH6 hG6 hL bL rL zL
  have bbH6 := bG6.le ownG6.le
  obtain ⟨_, zzH6, s0H6, s1H6, s2H6, s3H6⟩ := id bbH6
  have zz6 := ownG6.size
  have hL := ((ownG6.push (.own 1 [.slice none 0 0])).push (.own 1 [.slice none 0 0]))
  have leP : G6.le ((G6.push (.own 1 [.slice none 0 0])).push (.own 1 [.slice none 0 0])) := Hp.le_trans (Hp.le_push (G6) (.own 1 [.slice none 0 0])) (Hp.le_push ((G6.push (.own 1 [.slice none 0 0]))) (.own 1 [.slice none 0 0]))
  have bL := bG6.le leP
  have rL := rG6.mono leP.sees
  have l0 : ((G6.push (.own 1 [.slice none 0 0])).push (.own 1 [.slice none 0 0])).get (H6.size) = .own 1 [.slice none 0 0] := by rw [zz6]; exact Ya
  have l1 : ((G6.push (.own 1 [.slice none 0 0])).push (.own 1 [.slice none 0 0])).get (H6.size + 1) = .own 1 [.slice none 0 0] := by rw [zz6]; exact Ya
  have zL : H6.size + 2 ≤ ((G6.push (.own 1 [.slice none 0 0])).push (.own 1 [.slice none 0 0])).size := by simp; omega
  obtain ⟨GP, hGP⟩ : ∃ GP, GP = ((G6.push (.own 1 [.slice none 0 0])).push (.own 1 [.slice none 0 0])) := ⟨_, rfl⟩
  rw [← hGP] at hL bL rL zL l0 l1
  clear hGP leP
  refine Yy (by kernel_rfl) (Y4 (B := [0, 1, 0, 7, 0, 16, 0, 127, 63, 511, 1023, 2047]) (π := [0, 1, 2, 4, 5, 6, 3, 8, 7, 9, 10, 11]) (by kernel_rfl)) ?_
  refine Xe rfl rfl (Xf (off := 3) Xn Tryz.underlying26 Xn inf24.size (by decide) Xn) Xt ?_
  refine Xe rfl rfl (Xl rfl Tryz.underlying24 rfl Xo) Xt ?_
  refine Zd rfl rfl (Yg (r := [.slice _ _ _]) Tryz.underlying24 inf23.size inf23.zero rfl (by decide) (by decide) (by decide) rfl) ?_
  refine Xe rfl rfl (Xf (off := 4) Xn Tryz.underlying26 Xn inf24.size (by decide) Xn) Xt ?_
  refine Xe rfl rfl (Xl rfl Tryz.underlying24 rfl Xo) Xt ?_
  refine Zd rfl rfl (Yg (r := [.slice _ _ _]) Tryz.underlying24 inf23.size inf23.zero rfl (by decide) (by decide) (by decide) rfl) ?_
  obtain ⟨Ga3, leGa3, ha3, back3⟩ := hL.rot.last
  have zGa := leGa3.1
  obtain ⟨_, zA, qa, qb, qc, qd⟩ := bL.le leGa3
  have m0 := Xr leGa3 (by omega) (by intro e; cases e) l0
  have m1 := Xr leGa3 (by omega) (by intro e; cases e) l1
  refine Yk rfl rfl (Ent.append ha3 Tryz.underlying24 inf23 Xn Xn rfl (lb := H6.size) (by omega) m0 rfl (by intro v hv; simp at hv; subst hv; rfl) (by simp only [V7, List.length_replicate]; omega) (by decide) ?_)
  rintro w3 Gb3 Hb3 leb3 hb3
  have hsameO := Ent.sameO ha3 leb3 hb3
  obtain ⟨Gc3, lec3, hc3⟩ := back3 Gb3 Hb3 _ leb3 hb3
  rw [eNil_next] at hc3 hb3
  obtain ⟨W3, cw3, rfl⟩ : ∃ A c, w3 = Value.slice A (i + 1) c := Zx (i := i + 1) (OwnP.sl hb3) (by simp [V7])
  have bb3 := (bL.le lec3).le hc3.le
  obtain ⟨_, zb, qa3, qb3, qc3, qd3⟩ := id bb3
  have l1b := Xr hc3.le (by have := lec3.1; omega) (by intro e; cases e) (Xr lec3 (by omega) (by intro e; cases e) l1)
  refine ⟨Yi, ?_⟩
  clear hsameO qa qb qc qd m0 m1
  clear l1b
  have l1 := Xr lec3 (by omega) (by intro e; cases e) l1
  replace bL := bL.le lec3
  replace rL := rL.mono lec3.sees
  replace zL := Nat.le_trans zL lec3.1
  clear hL
  have hL := hc3
  have zH3 := hL.size
  refine Xe rfl rfl (Xf (off := 3) Xn Tryz.underlying26 Xn inf24.size (by decide) Xn) Xt ?_
  obtain ⟨Ga4, leGa4, ha4, back4⟩ := hL.rot.last
  have zGa := leGa4.1
  obtain ⟨_, zA, qa, qb, qc, qd⟩ := bL.le leGa4
  have m0 := Xr leGa4 (by omega) (by intro e; cases e) l1
  refine Yk rfl rfl (Ent.append ha4 Tryz.underlying24 inf23 Xn Xn rfl (lb := H6.size + 1) (by omega) m0 rfl (by intro v hv; simp at hv; subst hv; rfl) (by simp only [V7, List.length_replicate]; omega) (by decide) ?_)
  rintro w4 Gb4 Hb4 leb4 hb4
  have hsameO := Ent.sameO ha4 leb4 hb4
  obtain ⟨Gc4, lec4, hc4⟩ := back4 Gb4 Hb4 _ leb4 hb4
  rw [eNil_next] at hc4 hb4
  obtain ⟨W4, cw4, rfl⟩ : ∃ A c, w4 = Value.slice A (i + 1) c := Zx (i := i + 1) (OwnP.sl hb4) (by simp [V7])
  have bb4 := (bL.le lec4).le hc4.le
  obtain ⟨_, zb, qa4, qb4, qc4, qd4⟩ := id bb4
  refine ⟨Yi, ?_⟩
  clear hsameO qa qb qc qd m0
  replace bL := bL.le lec4
  replace rL := rL.mono lec4.sees
  replace zL := Nat.le_trans zL lec4.1
  clear hL
  have hL := hc4
  have zH4 := hL.size
  first | refine Yk rfl rfl (Yz rfl rfl rfl inf24.size Ya Yd rfl ?_)
  refine ⟨Yi, ?_⟩
  refine Xe rfl rfl (Xf (off := 4) Xn Tryz.underlying26 Xn inf24.size (by decide) Xn) Xt ?_
  first | refine Yk rfl rfl (Yz rfl rfl rfl inf24.size Ya Yd rfl ?_)
  refine ⟨Yi, ?_⟩
  refine Xc ?_
  obtain ⟨H7, hH7⟩ : ∃ H7, H7 = Hb4.put (H.size + 2) (.own 0 [.slice W0 (i + 1) cw0, .slice W1 (i + 1) cw1, .slice W2 (i + 1) cw2, .slice W3 (i + 1) cw3, .slice W4 (i + 1) cw4]) := ⟨_, rfl⟩
  obtain ⟨G7, hG7⟩ : ∃ G7, G7 = Gc4.put (H.size + 2) (.own 0 [.slice W0 (i + 1) cw0, .slice W1 (i + 1) cw1, .slice W2 (i + 1) cw2, .slice W3 (i + 1) cw3, .slice W4 (i + 1) cw4]) := ⟨_, rfl⟩
  have ownG7 := hL.put_box (by have := bL.2.1; omega) bL.2.2.2.2.1 [.slice W0 (i + 1) cw0, .slice W1 (i + 1) cw1, .slice W2 (i + 1) cw2, .slice W3 (i + 1) cw3, .slice W4 (i + 1) cw4]
  have bG7 := bL.put2 [.slice W0 (i + 1) cw0, .slice W1 (i + 1) cw1, .slice W2 (i + 1) cw2, .slice W3 (i + 1) cw3, .slice W4 (i + 1) cw4]
  have rG7 := rL.mono (Hp.sees_box (cs' := [.slice W0 (i + 1) cw0, .slice W1 (i + 1) cw1, .slice W2 (i + 1) cw2, .slice W3 (i + 1) cw3, .slice W4 (i + 1) cw4]) _ bL.2.2.2.2.1)
  rw [← hG7] at ownG7 bG7 rG7
  rw [← hH7] at ownG7
  change ACode true _ _ _ _ _ ((Hb4.put (H.size + 2) (.own 0 [.slice W0 (i + 1) cw0, .slice W1 (i + 1) cw1, .slice W2 (i + 1) cw2, .slice W3 (i + 1) cw3, .slice A4 i k4])).put (H.size + 2) (.own 0 [.slice W0 (i + 1) cw0, .slice W1 (i + 1) cw1, .slice W2 (i + 1) cw2, .slice W3 (i + 1) cw3, .slice W4 (i + 1) cw4]))
  rw [Hp.put_put]
  rw [← hH7]
  clear hH7 hG7 hL bL rL zL
  have bbH7 := bG7.le ownG7.le
  obtain ⟨_, zzH7, s0H7, s1H7, s2H7, s3H7⟩ := id bbH7
  have lit7 := OwnP.lit kLink H7 (cs := [])
  have own7 := ownG7.push .dead
  have b7 := bG7.le (G7.le_push .dead)
  have r7 := rG7.mono (G7.le_push .dead).sees
  obtain ⟨bs, os, es, hbs, hcs⟩ := (hs.mono leH1.sees).int_at (i := (i : Int)) (by omega) (by omega)
  subst es
  rw [Int.toNat_natCast, Za hix] at hcs
  have hmi := hm _ (List.getElem_mem hix)
  have hcs0 : H.cell? bs (os + i * 1) = some (.int .i64 sizes[i]) := by
    obtain ⟨b9, o9, e9, hb9, hc9⟩ := hs.int_at (i := (i : Int)) (by omega) (by omega)
    simp only [Option.some.injEq, Addr.mk.injEq, and_true] at e9
    obtain ⟨rfl, rfl⟩ := e9
    rwa [Int.toNat_natCast, Za hix] at hc9
  have hbs0 : bs < H.size := by
    obtain ⟨b9, o9, e9, hb9, hc9⟩ := hs.int_at (i := (i : Int)) (by omega) (by omega)
    simp only [Option.some.injEq, Addr.mk.injEq, and_true] at e9
    obtain ⟨rfl, rfl⟩ := e9
    exact hb9
  have hlen7 : nds.length = i := hr.len
  refine Xs ?_
  first | refine Xz (Yg (r := []) Tryz.underlying83 inf96.size inf96.zero rfl (by decide) (by decide) (by decide) rfl) ?_
  refine Xa (X8 rfl) ?_
  refine Xc ?_
  refine Xc ?_
  refine Xs ?_
  refine Xa (Xj rfl) ?_
  refine Yh ?_
  refine Y6 (fun n t H' => ∃ (k : Nat) (Gx Gm : Hp) (C : Option Addr) (c9 : Nat), k ≤ sizes[i].toNat ∧ n = sizes[i].toNat - k ∧ BxP H Gx [.slice W0 (i + 1) cw0, .slice W1 (i + 1) cw1, .slice W2 (i + 1) cw2, .slice W3 (i + 1) cw3, .slice W4 (i + 1) cw4] [.slice A5 i k5, .slice A6 i k6] ∧ OwnL Gx [eNds (.slice A5 i k5) nds, V7 (.slice A6 i k6) i, eStr (.slice W0 (i + 1) cw0) (i + 1), eInt (.slice W1 (i + 1) cw1) (i + 1), eNeg (.slice W2 (i + 1) cw2) (i + 1), V7 (.slice W3 (i + 1) cw3) (i + 1), V7 (.slice W4 (i + 1) cw4) (i + 1)] Gm ∧ ApartR Gx ways sizes i nds ∧ OwnP kLink Gm H' (.slice C k c9) (apartL ways k) ∧ t 0 = .int .u64 ways ∧ t 1 = .slice (some ⟨bs, os, none⟩) sizes.length cu ∧ t 4 = .pointer (some ⟨H.size, 0, none⟩) ∧ t 5 = .pointer (some ⟨H.size + 1, 0, none⟩) ∧ t 6 = .pointer (some ⟨H.size + 2, 0, none⟩) ∧ t 7 = .pointer (some ⟨H.size + 3, 0, none⟩) ∧ t 8 = .int .i64 i ∧ t 9 = .slice C k c9 ∧ t 10 = .int .i64 k) (sizes[i].toNat) (⟨0, _, _, _, _, by omega, rfl, b7, own7, r7, lit7, e0, e1, e4, e5, e6, e7, e8, rfl, rfl⟩) ?_
  rintro n t H8 ⟨k, Gx, Gm, C, c9, hk, rfl, bx, ownx, rx, ownl, e0, e1, e4, e5, e6, e7, e8, e9, e10⟩
  have leH8 := (bx.le (Hp.le_trans ownx.le ownl.le)).1
  have hcs8 := leH8.cell1 hbs0 hcs0
  have hll := apartL_len ways k
  have zl := ownl.size
  refine Xc ?_
  refine Xc ?_
  refine Xs ?_
  refine Xa (Xb Xn) ?_
  refine Xa (X1 Xn) ?_
  refine Xa (Xb Xn) ?_
  refine Xa (Xx rfl rfl Tryz.underlying23 inf3.size Yc Yc) ?_
  refine Xa (Xl rfl Tryz.underlying3 rfl Xo) ?_
  refine Xa (Zf rfl rfl) ?_
  refine X4 rfl rfl ?_ ?_
  intro hc2
  (try simp only [Y5] at hc2)
  refine X9 ?_
  refine Xc ?_
  refine Yh ?_
  refine Xs ?_
  refine Xa (X1 Xn) ?_
  refine Xa (Xb Xn) ?_
  refine Xa (Xb Xn) ?_
  refine Xa (Xb Xn) ?_
  refine Xa (Xb Xn) ?_
  refine Xa (Y0 (pl := [(0, 1), (1, 1), (2, 1), (3, 1)]) (r := [.int .i64 _, .int .i64 _, .int .i64 _, .int .u64 _]) Tryz.underlying96 inf96.zero (by decide) rfl rfl) ?_
  first | refine Xz (Yg (r := [.int .i64 _, .int .i64 _, .int .i64 _, .int .u64 _]) Tryz.underlying83 inf96.size inf96.zero rfl (by decide) (by decide) (by decide) rfl) ?_
  refine Xv (OwnP.append (ys := [⟨k, k, k, ways⟩]) (ownl.push _) Tryz.underlying83 inf96 Xn Xn rfl (Zw (k := kLink) rfl rfl ownl.size rfl) (by rw [hll]; simp only [List.length_singleton]; omega) (by rw [hll]; simp only [List.length_singleton]; omega) ?_)
  rintro w9 G9 H9 le9 own9
  obtain ⟨C9, c99, e99⟩ := own9.shape
  rw [← apartL_next] at own9
  rw [List.length_append, hll, List.length_singleton] at e99
  subst e99
  obtain ⟨Gy, ley, owny⟩ := ownx.later (Hp.le_trans (Gm.le_push _) le9)
  refine Xa (X8 rfl) ?_
  refine Xs ?_
  refine Xa (Xb Xn) ?_
  refine Xa (Yq rfl rfl Y2) ?_
  refine Xa (Xj rfl) ?_
  exact ⟨sizes[i].toNat - (k + 1), by omega, k + 1, Gy, G9, C9, c99, by omega, rfl, bx.le ley, owny, rx.mono ley.sees, own9, e0, e1, e4, e5, e6, e7, e8, rfl, rfl⟩
  intro hc2
  (try simp only [Y5] at hc2)
  refine Y3 ?_
  obtain rfl : k = sizes[i].toNat := by omega
  obtain ⟨Gy, ley, owny⟩ := ownx.later ownl.le
  have by' := bx.le ley
  have slN := owny.below (k' := kLink) (fun st => Ze st) (by intro e he; simp at he; rcases he with rfl | rfl | rfl | rfl | rfl | rfl | rfl <;> exact (show (1 : Nat) ≠ 4 by decide)) ownl.sl
  have ry := rx.mono ley.sees
  obtain ⟨_, zz8, s08, s18, s28, s38⟩ := by'.le owny.le
  have zz12 := owny.size
  have hL := ((owny.push (.own 1 [.slice C sizes[i].toNat c9])).push (.own 1 [.slice none 0 0]))
  have leP : Gy.le ((Gy.push (.own 1 [.slice C sizes[i].toNat c9])).push (.own 1 [.slice none 0 0])) := Hp.le_trans (Hp.le_push (Gy) (.own 1 [.slice C sizes[i].toNat c9])) (Hp.le_push ((Gy.push (.own 1 [.slice C sizes[i].toNat c9]))) (.own 1 [.slice none 0 0]))
  have bL := by'.le leP
  have rL := ry.mono leP.sees
  have sN := slN.mono leP.sees
  have l0 : ((Gy.push (.own 1 [.slice C sizes[i].toNat c9])).push (.own 1 [.slice none 0 0])).get (H8.size) = .own 1 [.slice C sizes[i].toNat c9] := by rw [zz12]; exact Ya
  have l1 : ((Gy.push (.own 1 [.slice C sizes[i].toNat c9])).push (.own 1 [.slice none 0 0])).get (H8.size + 1) = .own 1 [.slice none 0 0] := by rw [zz12]; exact Ya
  have zL : H8.size + 2 ≤ ((Gy.push (.own 1 [.slice C sizes[i].toNat c9])).push (.own 1 [.slice none 0 0])).size := by simp; omega
  obtain ⟨GP, hGP⟩ : ∃ GP, GP = ((Gy.push (.own 1 [.slice C sizes[i].toNat c9])).push (.own 1 [.slice none 0 0])) := ⟨_, rfl⟩
  rw [← hGP] at hL bL rL zL sN l0 l1
  clear hGP leP
  refine Yy (by kernel_rfl) (Y4 (B := [0, 1, 0, 4, 15, 0, 32, 0, 255, 127, 1023, 2047, 4095]) (π := [0, 1, 2, 3, 5, 6, 7, 4, 9, 8, 10, 11, 12]) (by kernel_rfl)) ?_
  refine Xe rfl rfl (Xf (off := 0) Xn Tryz.underlying29 Xn inf27.size (by decide) Xn) Xt ?_
  refine Xe rfl rfl (Xl rfl Tryz.underlying27 rfl Xo) Xt ?_
  refine Xe rfl rfl (X1 Xn) Xt ?_
  refine Zd rfl rfl (Yg (r := [.slice _ _ _]) Tryz.underlying27 inf83.size inf83.zero rfl (by decide) (by decide) (by decide) rfl) ?_
  refine Xe rfl rfl (Xf (off := 1) Xn Tryz.underlying29 Xn inf27.size (by decide) Xn) Xt ?_
  refine Xe rfl rfl (Xl rfl Tryz.underlying27 rfl Xo) Xt ?_
  refine Zd rfl rfl (Yg (r := [.slice _ _ _]) Tryz.underlying27 inf83.size inf83.zero rfl (by decide) (by decide) (by decide) rfl) ?_
  obtain ⟨Ga5, leGa5, ha5, back5⟩ := hL.rot.last
  have zGa := leGa5.1
  obtain ⟨_, zA, qa, qb, qc, qd⟩ := bL.le leGa5
  have m0 := Xr leGa5 (by omega) (by intro e; cases e) l0
  have m1 := Xr leGa5 (by omega) (by intro e; cases e) l1
  refine Yk rfl rfl (Ent.append ha5 Tryz.underlying27 inf83 Xn Xn rfl (lb := H8.size) (by omega) m0 rfl (by intro v hv; simp at hv; subst hv; rfl) (by simp only [eNds, rL.len]; omega) (by decide) ?_)
  rintro w5 Gb5 Hb5 leb5 hb5
  have hsameO := Ent.sameO ha5 leb5 hb5
  obtain ⟨Gc5, lec5, hc5⟩ := back5 Gb5 Hb5 _ leb5 hb5
  rw [eNds_next] at hc5 hb5
  obtain ⟨W5, cw5, rfl⟩ : ∃ A c, w5 = Value.slice A (i + 1) c := Zx (i := i + 1) (OwnP.sl hb5) (by simp [eNds, rL.len])
  have bb5 := (bL.le lec5).le hc5.le
  obtain ⟨_, zb, qa5, qb5, qc5, qd5⟩ := id bb5
  have l1b := Xr hc5.le (by have := lec5.1; omega) (by intro e; cases e) (Xr lec5 (by omega) (by intro e; cases e) l1)
  refine ⟨Yi, ?_⟩
  clear hsameO qa qb qc qd m0 m1
  clear l1b
  have l1 := Xr lec5 (by omega) (by intro e; cases e) l1
  replace bL := bL.le lec5
  replace sN := sN.mono lec5.sees
  replace rL := rL.mono lec5.sees
  replace zL := Nat.le_trans zL lec5.1
  clear hL
  have hL := hc5
  have zH5 := hL.size
  refine Xe rfl rfl (Xf (off := 0) Xn Tryz.underlying29 Xn inf27.size (by decide) Xn) Xt ?_
  obtain ⟨Ga6, leGa6, ha6, back6⟩ := hL.rot.last
  have zGa := leGa6.1
  obtain ⟨_, zA, qa, qb, qc, qd⟩ := bL.le leGa6
  have m0 := Xr leGa6 (by omega) (by intro e; cases e) l1
  refine Yk rfl rfl (Ent.append ha6 Tryz.underlying27 inf83 Xn Xn rfl (lb := H8.size + 1) (by omega) m0 rfl (by intro v hv; simp at hv; subst hv; rfl) (by simp only [V7, List.length_replicate]; omega) (by decide) ?_)
  rintro w6 Gb6 Hb6 leb6 hb6
  have hsameO := Ent.sameO ha6 leb6 hb6
  obtain ⟨Gc6, lec6, hc6⟩ := back6 Gb6 Hb6 _ leb6 hb6
  rw [eNil_next] at hc6 hb6
  obtain ⟨W6, cw6, rfl⟩ : ∃ A c, w6 = Value.slice A (i + 1) c := Zx (i := i + 1) (OwnP.sl hb6) (by simp [V7])
  have bb6 := (bL.le lec6).le hc6.le
  obtain ⟨_, zb, qa6, qb6, qc6, qd6⟩ := id bb6
  refine ⟨Yi, ?_⟩
  clear hsameO qa qb qc qd m0
  replace bL := bL.le lec6
  replace sN := sN.mono lec6.sees
  replace rL := rL.mono lec6.sees
  replace zL := Nat.le_trans zL lec6.1
  clear hL
  have hL := hc6
  have zH6 := hL.size
  first | refine Yk rfl rfl (Yz rfl rfl rfl inf27.size Ya Yd rfl ?_)
  refine ⟨Yi, ?_⟩
  refine Xe rfl rfl (Xf (off := 1) Xn Tryz.underlying29 Xn inf27.size (by decide) Xn) Xt ?_
  first | refine Yk rfl rfl (Yz rfl rfl rfl inf27.size Ya Yd rfl ?_)
  refine ⟨Yi, ?_⟩
  obtain ⟨H4, hH4⟩ : ∃ H4, H4 = Hb6.put (H.size + 3) (.own 0 [.slice W5 (i + 1) cw5, .slice W6 (i + 1) cw6]) := ⟨_, rfl⟩
  obtain ⟨G4, hG4⟩ : ∃ G4, G4 = Gc6.put (H.size + 3) (.own 0 [.slice W5 (i + 1) cw5, .slice W6 (i + 1) cw6]) := ⟨_, rfl⟩
  have ownG4 := hL.put_box (by have := bL.2.1; omega) bL.2.2.2.2.2 [.slice W5 (i + 1) cw5, .slice W6 (i + 1) cw6]
  have bG4 := bL.put3 [.slice W5 (i + 1) cw5, .slice W6 (i + 1) cw6]
  have rG4 := rL.mono (Hp.sees_box (cs' := [.slice W5 (i + 1) cw5, .slice W6 (i + 1) cw6]) _ bL.2.2.2.2.2)
  rw [← hG4] at ownG4 bG4 rG4
  rw [← hH4] at ownG4
  change ACode true _ _ _ _ _ ((Hb6.put (H.size + 3) (.own 0 [.slice W5 (i + 1) cw5, .slice A6 i k6])).put (H.size + 3) (.own 0 [.slice W5 (i + 1) cw5, .slice W6 (i + 1) cw6]))
  rw [Hp.put_put]
  rw [← hH4]
  have sN4 := sN.mono (Hp.sees_box (cs' := [.slice W5 (i + 1) cw5, .slice W6 (i + 1) cw6]) _ bL.2.2.2.2.2)
  rw [← hG4] at sN4
  clear hH4 hG4 hL bL rL zL
  have bbH4 := bG4.le ownG4.le
  obtain ⟨_, zzH4, s0H4, s1H4, s2H4, s3H4⟩ := id bbH4
  refine Xs ?_
  refine Xa (Xb Xn) ?_
  refine Xa (Yq rfl rfl Y2) ?_
  refine Xa (Xj rfl) ?_
  exact ⟨sizes.length - (i + 1), by omega, i + 1, G4, _, _, _, _, _, _, _, (nds ++ [[Value.slice C sizes[i].toNat c9]] : List (List Value)), by omega, rfl, bG4, ownG4, rG4.snoc hix sN4, e0, e1, e4, e5, e6, e7, rfl⟩
  intro hc1
  (try simp only [Y5] at hc1)
  refine Y3 ?_
  refine Xc ?_
  refine Yy (by kernel_rfl) (Y4 (B := [0, 0, 1, 7]) (π := [0, 1, 2, 3]) (by kernel_rfl)) ?_
  refine Xe rfl rfl (Yj (cs := [.slice _ _ _, .slice _ _ _, .slice _ _ _, .slice _ _ _, .slice _ _ _]) Xn Tryz.underlying26 Xn inf26.size X5) Xt ?_
  refine Xe rfl rfl (Yj (cs := [.slice _ _ _, .slice _ _ _]) Xn Tryz.underlying29 Xn inf29.size X5) Xt ?_
  refine Yk rfl rfl (Ye (vs := [.slice _ _ _, .slice _ _ _, .slice _ _ _, .slice _ _ _, .slice _ _ _]) Xn Xn inf26.size Ya Yd Xn Xn ?_)
  refine ⟨Yi, ?_⟩
  refine Yk rfl rfl (Ye (vs := [.slice _ _ _, .slice _ _ _]) Xn Xn inf29.size Ya Yd Xn Xn ?_)
  refine ⟨Yi, ?_⟩
  refine X2 ?_
  obtain rfl : i = sizes.length := by omega
  have se := hown.le.sees
  have p0 := hown.sl (eStr (.slice A0 sizes.length k0) sizes.length) (by simp)
  have p1 := hown.sl (eInt (.slice A1 sizes.length k1) sizes.length) (by simp)
  have p2 := hown.sl (eNeg (.slice A2 sizes.length k2) sizes.length) (by simp)
  have p3 := hown.sl (V7 (.slice A3 sizes.length k3) sizes.length) (by simp)
  have p4 := hown.sl (V7 (.slice A4 sizes.length k4) sizes.length) (by simp)
  have p5 := hown.sl (eNds (.slice A5 sizes.length k5) nds) (by simp)
  have p6 := hown.sl (V7 (.slice A6 sizes.length k6) sizes.length) (by simp)
  have hrl := hr.len
  have hz1 : H1.sees (H1.put H.size (.own 0 [.slice A0 sizes.length k0, .slice A1 sizes.length k1, .slice A2 sizes.length k2, .slice A3 sizes.length k3, .slice A4 sizes.length k4])) := Hp.sees_box _ q0
  have hz2 : (H1.put H.size (.own 0 [.slice A0 sizes.length k0, .slice A1 sizes.length k1, .slice A2 sizes.length k2, .slice A3 sizes.length k3, .slice A4 sizes.length k4])).sees ((H1.put H.size (.own 0 [.slice A0 sizes.length k0, .slice A1 sizes.length k1, .slice A2 sizes.length k2, .slice A3 sizes.length k3, .slice A4 sizes.length k4])).put (H.size + 1) (.own 0 [.slice A5 sizes.length k5, .slice A6 sizes.length k6])) := Hp.sees_box (cs := [.slice none 0 0, .slice none 0 0]) _ (by rw [Hp.put_other _ _ (by omega)]; exact q1)
  have hz := hz1.trans hz2
  refine ⟨_, Yt (Ym Xn (Yl (cs := [.slice A0 sizes.length k0, .slice A1 sizes.length k1, .slice A2 sizes.length k2, .slice A3 sizes.length k3, .slice A4 sizes.length k4]) Tryz.underlying26 rfl inf26.size X5)) (Ym Xn (Yl (cs := [.slice A5 sizes.length k5, .slice A6 sizes.length k6]) Tryz.underlying29 rfl inf29.size X5)), [_, _, _, _, _], [_, _], rfl, ⟨_, _, _, _, _, rfl, ?_, ?_, ?_, ?_, ?_⟩, ⟨_, _, rfl, ?_, ?_⟩, Hp.le_put_new (Hp.le_put_new leH1 (Nat.le_refl _) _) (by omega) _⟩
  · exact Sl.conv (k := kStr) (p0.mono hz) (by simp [eStr, apartF]) (fun j a b => by simp [eStr, apartF, kStr])
  · exact Sl.conv (k := Yv .i64) (p1.mono hz) (by simp [eInt, apartF]) (fun j a b => by simp [eInt, apartF, Yv])
  · exact Sl.conv (k := Yv .i64) (p2.mono hz) (by simp [eNeg, apartF]) (fun j a b => by simp [eNeg, apartF, Yv])
  · exact Sl.conv (k := kSl (Yv .i64)) (p3.mono hz) (by simp [V7, apartF]) (fun j a b => by simp only [V7, apartF, List.getElem_replicate]; exact ⟨_, rfl, Sl.nil _ _⟩)
  · exact Sl.conv (k := kSl (Yv .i64)) (p4.mono hz) (by simp [V7, apartF]) (fun j a b => by simp only [V7, apartF, List.getElem_replicate]; exact ⟨_, rfl, Sl.nil _ _⟩)
  · exact Sl.conv (k := kSl kLink) (p5.mono hz) (by simp [eNds, apartP, hrl]) (fun j a b => by
      obtain ⟨w, h1, h2⟩ := hr.at_ j a (by simpa [apartP] using b)
      simp only [apartP, List.getElem_map]
      exact ⟨w, h1, (h2.mono se).mono hz⟩)
  · exact Sl.conv (k := kSl kLink) (p6.mono hz) (by simp [V7, apartP]) (fun j a b => by simp only [V7, apartP, List.getElem_replicate, List.getElem_map]; exact ⟨_, rfl, Sl.nil _ _⟩)

structure BigF (f : Forest) : Prop where
 l0 : f.vars.length ≤ 9223372036854775807
 l1 : f.order.length ≤ 9223372036854775807
 l2 : f.parent.length ≤ 9223372036854775807
 l3 : f.links.length ≤ 9223372036854775807
 l4 : f.loops.length ≤ 9223372036854775807
 s3 : ∀ l ∈ f.links, l.length ≤ 9223372036854775807
 s4 : ∀ l ∈ f.loops, l.length ≤ 9223372036854775807
structure BigP (p : Parts) : Prop where
 l0 : p.nodes.length ≤ 9223372036854775807
 l1 : p.links.length ≤ 9223372036854775807
 s0 : ∀ l ∈ p.nodes, l.length ≤ 9223372036854775807
 s1 : ∀ l ∈ p.links, l.length ≤ 9223372036854775807
theorem Link.few_few (x : Link) : x.few.few = x.few := by
 unfold Link.few
 by_cases h : 1000000000 < x.cost
 ·rw [if_pos h]; simp
 ·rw [if_neg h, if_neg h]


def Reach (T : TreeT) : Prop := ∀ (i : Nat) (a : Int), i < T.vars.length → T.group i a ≠ [] → (T.parent.getD i 0 = -1 → a = -1) → a ∈ aboveT T T.vars.length i
def hasB (T : TreeT) (i : Nat) (b : Int) : Prop := ∃ a, ∃ x ∈ T.group i a, x.b = b
structure NewS (T : TreeT) (K : Hp) (tb cb mb ms m : Nat) (H : Hp) (es1 es2 : List (Value × Value)) : Prop where
 le : K.le H
 hc : H.get cb = .own 0 [.pointer (some ⟨tb, 0, none⟩), .map (some mb), .map (some ms)]
 lc : cb < H.size
 hb : H.get mb = .map es1
 lb : mb < H.size
 hs : H.get ms = .map es2
 ls : ms < H.size
 i1 : IntsM es1
 i2 : IntsM es2
 no : ∀ (k : Nat) b, k < m → Y7 es1 (Zj k b) = none ∧ Y7 es2 (Zj k b) = none
 c1 : ∀ (k : Nat) b, m ≤ k → k < T.vars.length → Y7 es1 (Zj k b) = none ∨ (Y7 es1 (Zj k b) = some (.int .u64 (belT T T.vars.length k b)) ∧ hasB T k b)
 c2 : ∀ (k : Nat) b, m ≤ k → k < T.vars.length → Y7 es2 (Zj k b) = none ∨ Y7 es2 (Zj k b) = some (.int .u64 (sumT T T.vars.length k b))
 d1 : ∀ (k : Nat), m ≤ k → k < T.vars.length → ∀ a ∈ aboveT T T.vars.length k, ∀ x ∈ T.group k a, Y7 es1 (Zj k x.b) = some (.int .u64 (belT T T.vars.length k x.b))
 d2 : ∀ (k : Nat), m ≤ k → k < T.vars.length → ∀ a ∈ aboveT T T.vars.length k, Y7 es2 (Zj k a) = some (.int .u64 (sumT T T.vars.length k a))
theorem NewS.fill {T : TreeT} {K : Hp} {tb cb mb ms i : Nat} {H : Hp} {es1 es2 : List (Value × Value)} (h : NewS T K tb cb mb ms (i + 1) H es1 es2) : FillS T K tb cb mb ms i es1 es2 H es1 es2 :=
 ⟨h.le, h.hc, h.lc, h.hb, h.lb, h.hs, h.ls, h.i1, h.i2, fun _ _ _ => rfl, fun _ _ _ => rfl, fun b => .inl (h.no i b (Nat.lt_succ_self i)).1, fun b => .inl (h.no i b (Nat.lt_succ_self i)).2⟩
theorem NewS.step {T : TreeT} {K : Hp} {tb cb mb ms i : Nat} {H H' : Hp} {es1 es2 es1' es2' : List (Value × Value)} (h : NewS T K tb cb mb ms (i + 1) H es1 es2) (hf : FillS T K tb cb mb ms i es1 es2 H' es1' es2')
  (h2 : ∀ a ∈ aboveT T T.vars.length i, Y7 es2' (Zj i a) = some (.int .u64 (sumT T T.vars.length i a))) (h1 : ∀ a ∈ aboveT T T.vars.length i, ∀ x ∈ T.group i a, Y7 es1' (Zj i x.b) = some (.int .u64 (belT T T.vars.length i x.b))) : NewS T K tb cb mb ms i H' es1' es2' := by
 refine ⟨hf.le, hf.hc, hf.lc, hf.hb, hf.lb, hf.hs, hf.ls, hf.i1, hf.i2, fun k b hk => ?_, fun k b hk hk2 => ?_, fun k b hk hk2 => ?_, fun k hk hk2 a ha x hx => ?_, fun k hk hk2 a ha => ?_⟩
 ·rw [hf.o1 k b (by omega), hf.o2 k b (by omega)]; exact h.no k b (by omega)
 ·by_cases he : k = i
  ·subst he; exact hf.v1 b
  ·rw [hf.o1 k b (by omega)]; exact h.c1 k b (by omega) hk2
 ·by_cases he : k = i
  ·subst he; exact hf.v2 b
  ·rw [hf.o2 k b (by omega)]; exact h.c2 k b (by omega) hk2
 ·by_cases he : k = i
  ·subst he; exact h1 a ha x hx
  ·rw [hf.o1 k _ (by omega)]; exact h.d1 k (by omega) hk2 a ha x hx
 ·by_cases he : k = i
  ·subst he; exact h2 a ha
  ·rw [hf.o2 k _ (by omega)]; exact h.d2 k (by omega) hk2 a ha
structure CntsV (T : TreeT) (es1 es2 : List (Value × Value)) : Prop where
 i1 : IntsM es1
 i2 : IntsM es2
 sum : ∀ (i : Nat) (a : Int), i < T.vars.length → cntAt es2 i (if T.parent.getD i 0 = -1 then -1 else a) = sumT T T.vars.length i a
 bel : ∀ (i : Nat) (b : Int), i < T.vars.length → (hasB T i b → cntAt es1 i b = belT T T.vars.length i b) ∧ (¬ hasB T i b → cntAt es1 i b = 0)
theorem cntAt_some {es : List (Value × Value)} {i a n : Int} (h : Y7 es (Zj i a) = some (.int .u64 n)) : cntAt es i a = n := by unfold cntAt; rw [h]
theorem cntAt_none {es : List (Value × Value)} {i a : Int} (h : Y7 es (Zj i a) = none) : cntAt es i a = 0 := by unfold cntAt; rw [h]
theorem group_root {T : TreeT} {i : Nat} (h : T.parent.getD i 0 = -1) (a b : Int) : T.group i a = T.group i b := by
 unfold TreeT.group TreeT.row
 rw [Int.toNat_natCast, if_pos h, if_pos h]
theorem sumT_root {T : TreeT} (hT : GoodT T) {i : Nat} (hi : i < T.vars.length) (h : T.parent.getD i 0 = -1) (a b : Int) : sumT T T.vars.length i a = sumT T T.vars.length i b := by
 rw [sum_is hT hi, sum_is hT hi, group_root h a b]
theorem NewS.done {T : TreeT} (hT : GoodT T) (hR : Reach T) {K : Hp} {tb cb mb ms : Nat} {H : Hp} {es1 es2 : List (Value × Value)} (h : NewS T K tb cb mb ms 0 H es1 es2) : CntsV T es1 es2 := by
 refine ⟨h.i1, h.i2, fun i a hi => ?_, fun i b hi => ⟨fun ⟨a, x, hx, hb⟩ => ?_, fun hno => ?_⟩⟩
 ·obtain ⟨a', ha'⟩ : ∃ a', a' = if T.parent.getD i 0 = -1 then -1 else a := ⟨_, rfl⟩
  have hr : T.parent.getD i 0 = -1 → a' = -1 := fun e => by rw [ha', if_pos e]
  have hs : sumT T T.vars.length i a = sumT T T.vars.length i a' := by
   by_cases e : T.parent.getD i 0 = -1
   ·exact sumT_root hT hi e a a'
   ·rw [ha', if_neg e]
  rw [← ha', hs]
  by_cases hg : T.group i a' = []
  ·have h0 : sumT T T.vars.length i a' = 0 := by rw [sum_is hT hi, hg]; rfl
   rw [h0]
   rcases h.c2 i a' (Nat.zero_le _) hi with h2 | h2
   ·exact cntAt_none h2
   ·rw [cntAt_some h2, h0]
  ·exact cntAt_some (h.d2 i (Nat.zero_le _) hi a' (hR i a' hi hg hr))
 ·obtain ⟨a', ha'⟩ : ∃ a', a' = if T.parent.getD i 0 = -1 then -1 else a := ⟨_, rfl⟩
  have hr : T.parent.getD i 0 = -1 → a' = -1 := fun e => by rw [ha', if_pos e]
  have hg : T.group i a = T.group i a' := by
   by_cases e : T.parent.getD i 0 = -1
   ·exact group_root e a a'
   ·rw [ha', if_neg e]
  rw [hg] at hx
  rw [← hb]
  exact cntAt_some (h.d1 i (Nat.zero_le _) hi a' (hR i a' hi (List.ne_nil_of_mem hx) hr) x hx)
 ·rcases h.c1 i b (Nat.zero_le _) hi with h1 | h1
  ·exact cntAt_none h1
  ·exact absurd h1.2 hno
def CntR (H : Hp) (cb tb : Nat) (T : TreeT) : Prop := ∃ mb ms es1 es2, cb < H.size ∧ mb < H.size ∧ ms < H.size ∧ H.get cb = .own 0 [.pointer (some ⟨tb, 0, none⟩), .map (some mb), .map (some ms)] ∧ H.get mb = .map es1 ∧ H.get ms = .map es2 ∧ TreeR H (.pointer (some ⟨tb, 0, none⟩)) T ∧ CntsV T es1 es2
theorem CntR.mono {H H' : Hp} (hle : H.le H') {cb tb : Nat} {T : TreeT} (h : CntR H cb tb T) : CntR H' cb tb T := by
 obtain ⟨mb, ms, es1, es2, h1, h2, h3, h4, h5, h6, h7, h8⟩ := h
 exact ⟨mb, ms, es1, es2, Nat.lt_of_lt_of_le h1 hle.1, Nat.lt_of_lt_of_le h2 hle.1, Nat.lt_of_lt_of_le h3 hle.1, Xr hle h1 (by intro e; cases e) h4, Xr hle h2 (by intro e; cases e) h5, Xr hle h3 (by intro e; cases e) h6, h7.mono hle, h8⟩

structure ItemT where
 cost : Int
 nodes : List Int
 place : Int
 rank : Int
def kItemT : Kd ItemT where
 sz := 4
 pos := by decide
 rep H x cs := ∃ v, cs = [.int .i64 x.cost, v, .int .i64 x.place, .int .i64 x.rank] ∧ Sl (Yv .i64) H v x.nodes
 len h := by obtain ⟨v, rfl, _⟩ := h; rfl
 mono he h := by obtain ⟨v, rfl, hs⟩ := h; exact ⟨v, rfl, hs.mono he⟩
 one h u hu := by
  obtain ⟨v, rfl, hs⟩ := h
  obtain ⟨A, c, rfl⟩ := hs.shape
  simp at hu
  rcases hu with rfl | rfl | rfl | rfl <;> rfl
def ItemT.cut (x : ItemT) : ItemT := { x with nodes := x.nodes.take 5 }
theorem ItemT_item (x : ItemT) (cs : List Value) (H : Hp) (hx : kItemT.rep H x cs) (hl : x.nodes.length ≤ 9223372036854775807) :
  ACalls Tryz.prog 47 #[.agg cs.toArray] H (fun r H' => H.le H' ∧ ∃ ds, r = .agg ds.toArray ∧ kItemT.rep H' x.cut ds) := by
 obtain ⟨v, rfl, hv⟩ := hx
 obtain ⟨A, c, rfl⟩ := hv.shape
 refine Xu Tryz.func47 rfl rfl rfl (by simp) ?_
 refine Xc ?_
 refine Xs ?_
 refine Xz (Yp rfl) ?_
 refine Xz (Ys (l := [.int .i64 0, .slice none 0 0, .int .i64 0, .int .i64 0]) inf85.zero rfl (by decide)) ?_
 refine Xc ?_
 refine Xs ?_
 refine Xa (Xf (off := 1) rfl Tryz.underlying85 rfl inf23.size (by decide) rfl) ?_
 refine Xa (Xl rfl Tryz.underlying23 rfl Xo) ?_
 refine Xv (Xy (Few_ints x.nodes _ 5 _ (hv.mono Zh) hl (by omega) (by omega)) rfl Tryz.func25 rfl rfl rfl ?_)
 rintro v5 H5 ⟨hle5, hs5⟩; have hz5 := hle5.1; simp only [Hp.push_size, Hp.put_size] at hz5; obtain ⟨A5, c5, rfl⟩ := hs5.shape
 refine Xa (Xf (off := 1) rfl Tryz.underlying85 rfl inf23.size (by decide) rfl) ?_
 first | refine Xv (Yz rfl rfl rfl inf23.size Ya Yd rfl ?_)
 refine Xc ?_
 refine Xs ?_
 refine Xa (Yj (cs := [.int .i64 _, .slice _ _ _, .int .i64 _, .int .i64 _]) rfl Tryz.underlying85 rfl inf85.size X5) ?_
 refine Xv (Ye (vs := [.int .i64 _, .slice _ _ _, .int .i64 _, .int .i64 _]) rfl rfl inf85.size Ya Yd rfl rfl ?_)
 refine X2 ?_
 refine ⟨.agg #[.int .i64 x.cost, .slice A5 (x.nodes.take 5).length c5, .int .i64 x.place, .int .i64 x.rank], X0 (Ym rfl (Yl (cs := [.int .i64 x.cost, .slice A5 (x.nodes.take 5).length c5, .int .i64 x.place, .int .i64 x.rank]) Tryz.underlying85 rfl inf85.size X5)), t_le, _, rfl, _, rfl, hs5.mono Zh⟩
structure MarkT where
 told : Int
 over : Bool
 nodes : List Int
 rest : Int
 items : List ItemT
def kMark : Kd MarkT where
 sz := 5
 pos := by decide
 rep H m cs := ∃ v w, cs = [.int .i64 m.told, .bool m.over, v, .int .u64 m.rest, w] ∧ Sl (Yv .i64) H v m.nodes ∧ Sl kItemT H w m.items
 len h := by obtain ⟨v, w, rfl, _⟩ := h; rfl
 mono he h := by obtain ⟨v, w, rfl, h1, h2⟩ := h; exact ⟨v, w, rfl, h1.mono he, h2.mono he⟩
 one h u hu := by
  obtain ⟨v, w, rfl, h1, h2⟩ := h
  obtain ⟨A, c, rfl⟩ := h1.shape
  obtain ⟨B, c2, rfl⟩ := h2.shape
  simp at hu
  rcases hu with rfl | rfl | rfl | rfl | rfl <;> rfl
def MarkT.cut (m : MarkT) : MarkT := ⟨m.told, m.over, m.nodes.take 14, m.rest, (m.items.take 4).map ItemT.cut⟩
theorem cut_cut (m : MarkT) : m.cut.cut = m.cut := by
 unfold MarkT.cut
 simp only [List.take_take, Nat.min_self, List.map_take, List.map_map, MarkT.mk.injEq, true_and]
 refine congrArg _ (List.map_congr_left fun x _ => ?_)
 show ItemT.cut (ItemT.cut x) = ItemT.cut x
 unfold ItemT.cut
 simp [List.take_take]
structure BigM (m : MarkT) : Prop where
 n : m.nodes.length ≤ 9223372036854775807
 i : m.items.length ≤ 9223372036854775807
 x : ∀ x ∈ m.items, x.nodes.length ≤ 9223372036854775807
theorem bigM_cut (m : MarkT) : BigM m.cut := by
 refine ⟨?_, ?_, fun x hx => ?_⟩
 ·show (m.nodes.take 14).length ≤ _
  rw [List.length_take]; omega
 ·show ((m.items.take 4).map ItemT.cut).length ≤ _
  rw [List.length_map, List.length_take]; omega
 ·obtain ⟨y, _, rfl⟩ := List.mem_map.1 (show x ∈ (m.items.take 4).map ItemT.cut from hx)
  show (y.nodes.take 5).length ≤ _
  rw [List.length_take]; omega
set_option maxHeartbeats 2000000 in
theorem Mark_36 (m : MarkT) (cs : List Value) (H : Hp) (hm : kMark.rep H m cs) (hb : BigM m) :
  ACalls Tryz.prog 12 #[.agg cs.toArray] H (fun r H' => H.le H' ∧ ∃ ds, r = .agg ds.toArray ∧ kMark.rep H' m.cut ds) := by
 obtain ⟨v, w, rfl, hv, hw⟩ := hm
 obtain ⟨A, c, rfl⟩ := hv.shape
 obtain ⟨W, cW, rfl⟩ := hw.shape
 refine Xu Tryz.func12 rfl rfl rfl (by simp) ?_
 refine Xc ?_
 refine Xs ?_
 refine Xz (Yp rfl) ?_
 refine Xz (Ys (l := [.int .i64 0, .bool false, .slice none 0 0, .int .u64 0, .slice none 0 0]) inf33.zero rfl (by decide)) ?_
 refine Xc ?_
 refine Yy (by kernel_rfl) (Y4 (B := [0, 1, 0, 4, 0, 16, 48, 0, 128, 511, 0, 2047]) (π := [0, 1, 2, 3, 4, 5, 7, 8, 10, 6, 9, 11]) (by kernel_rfl)) ?_
 refine Xe rfl rfl (Xf (off := 0) rfl Tryz.underlying33 rfl inf3.size (by decide) rfl) Xt ?_
 refine Xe rfl rfl (Xl rfl Tryz.underlying3 rfl Xo) Xt ?_
 refine Xe rfl rfl (Xf (off := 1) rfl Tryz.underlying33 rfl inf4.size (by decide) rfl) Xt ?_
 refine Xe rfl rfl (Xl rfl Tryz.underlying4 rfl Xo) Xt ?_
 refine Xe rfl rfl (Xf (off := 2) rfl Tryz.underlying33 rfl inf23.size (by decide) rfl) Xt ?_
 refine Xe rfl rfl (Xl rfl Tryz.underlying23 rfl Xo) Xt ?_
 refine Xe rfl rfl (Xf (off := 3) rfl Tryz.underlying33 rfl inf30.size (by decide) rfl) Xt ?_
 refine Xe rfl rfl (Xl rfl Tryz.underlying30 rfl Xo) Xt ?_
 refine Zd rfl rfl (Ys (l := [.int .i64 0, .bool false, .slice none 0 0, .int .u64 0, .slice none 0 0]) inf33.zero rfl (by decide)) ?_
 refine Yk rfl rfl (Xy (Few_ints m.nodes _ 14 _ (hv.mono Zh) hb.n (by omega) (by omega)) rfl Tryz.func25 rfl rfl rfl ?_)
 rintro v11 H5 ⟨hle5, hs5⟩; have hz5 := hle5.1; simp only [Hp.push_size, Hp.put_size] at hz5; change Sl (Yv .i64) H5 v11 (m.nodes.take 14) at hs5; obtain ⟨A5, c5, rfl⟩ := hs5.shape; have h50 : H5.get H.size = .own 0 [.int .i64 m.told, .bool m.over, .slice A m.nodes.length c, .int .u64 m.rest, .slice W m.items.length cW] := Xr hle5 (by simp <;> omega) (by intro e; cases e) Ya; have h51 : H5.get (H.size + 1) = .own 0 [.int .i64 0, .bool false, .slice none 0 0, .int .u64 0, .slice none 0 0] := Xr hle5 (by simp <;> omega) (by intro e; cases e) Ya; have h52 : H5.get (H.size + 1 + 1) = .own 0 [.int .i64 0, .bool false, .slice none 0 0, .int .u64 0, .slice none 0 0] := Xr hle5 (by simp <;> omega) (by intro e; cases e) Ya
 refine ⟨Yi, ?_⟩
 refine Xe rfl rfl (Y0 (pl := [(0, 1), (1, 1), (2, 1), (3, 1), (4, 1)]) (r := [.int .i64 _, .bool _, .slice _ _ _, .int .u64 _, .slice _ _ _]) Tryz.underlying33 inf33.zero (by decide) rfl rfl) Xt ?_
 refine Yk rfl rfl (Ye (vs := [.int .i64 _, .bool _, .slice _ _ _, .int .u64 _, .slice _ _ _]) rfl rfl inf33.size Ya Yd rfl rfl ?_)
 refine ⟨Yi, ?_⟩
 refine Xc ?_
 refine Xc ?_
 obtain ⟨K, hK⟩ : ∃ K, K = H5.put (H.size + 1 + 1) (.own 0 [.int .i64 m.told, .bool m.over, .slice A5 (m.nodes.take 14).length c5, .int .u64 m.rest, .slice none 0 0]) := ⟨_, rfl⟩
 have k0 : K.get H.size = .own 0 [.int .i64 m.told, .bool m.over, .slice A m.nodes.length c, .int .u64 m.rest, .slice W m.items.length cW] := by rw [hK, Hp.put_other _ _ (by omega)]; exact h50
 have k1 : K.get (H.size + 1) = .own 0 [.int .i64 0, .bool false, .slice none 0 0, .int .u64 0, .slice none 0 0] := by rw [hK, Hp.put_other _ _ (by omega)]; exact h51
 have k2 : K.get (H.size + 1 + 1) = .own 0 [.int .i64 m.told, .bool m.over, .slice A5 (m.nodes.take 14).length c5, .int .u64 m.rest, .slice none 0 0] := by rw [hK]; exact Hp.put_same _ _ _
 have leK : H.le K := by rw [hK]; exact Hp.le_put_new (Hp.le_trans (Hp.le_push' (Hp.le_push' (H.le_push _) _) _) hle5) (by omega) _
 have zK : H.size + 3 ≤ K.size := by rw [hK]; simp; omega
 have sK := hs5.mono (show H5.sees K by rw [hK]; exact Hp.sees_box _ h52)
 change ACode true _ _ _ _ _ (H5.put (H.size + 1 + 1) (.own 0 [.int .i64 m.told, .bool m.over, .slice A5 (m.nodes.take 14).length c5, .int .u64 m.rest, .slice none 0 0]))
 rw [← hK]
 clear hK h50 h51 h52 hle5 hz5 hs5
 refine Xs ?_
 refine Xa (Xj rfl) ?_
 refine Yh ?_
 refine Y6 (fun n t H' => ∃ (i : Nat) (G : Hp) (B : Option Addr) (cB : Nat) (E : Option Addr), n = m.items.length - i ∧ i ≤ m.items.length ∧ i ≤ 4 ∧ Away (H.size + 1 + 1) K G ∧ G.get (H.size + 1 + 1) = .own 0 [.int .i64 m.told, .bool m.over, .slice A5 (m.nodes.take 14).length c5, .int .u64 m.rest, .slice B i cB] ∧ OwnP kItemT G H' (.slice B i cB) ((m.items.take i).map ItemT.cut) ∧ K.get H.size = .own 0 [.int .i64 m.told, .bool m.over, .slice A m.nodes.length c, .int .u64 m.rest, .slice E m.items.length cW] ∧ Sl kItemT H (.slice E m.items.length cW) m.items ∧ t 1 = .pointer (some ⟨H.size, 0, none⟩) ∧ t 2 = .pointer (some ⟨H.size + 1, 0, none⟩) ∧ t 3 = .pointer (some ⟨H.size + 1 + 1, 0, none⟩) ∧ t 4 = .int .i64 i) (m.items.length) (⟨0, K, none, 0, _, rfl, Nat.zero_le _, Nat.zero_le _, .refl _ _, k2, OwnP.nil _ _, k0, hw, rfl, rfl, rfl, rfl⟩) ?_
 rintro n t H1 ⟨i, G, B, cB, E, rfl, hi, hi4, aw, g2, hown, k0, hw, e1, e2, e3, e4⟩
 have zG := aw.size
 have zz := hown.size
 have g0 := aw.keep (b := H.size) (by omega) (by omega) (by intro e; cases e) k0
 have g1 := aw.keep (b := H.size + 1) (by omega) (by omega) (by intro e; cases e) k1
 have h0 := Xr hown.le (by omega) (by intro e; cases e) g0
 have h1 := Xr hown.le (by omega) (by intro e; cases e) g1
 have h2 := Xr hown.le (by omega) (by intro e; cases e) g2
 have sGK := aw.sees k2
 have hlenT : ((m.items.take i).map ItemT.cut).length = i := by rw [List.length_map, List.length_take]; omega
 refine Xc ?_
 refine Xc ?_
 refine Xs ?_
 refine Xa (Xb Xn) ?_
 refine Xa (Xf (off := 4) Xn Tryz.underlying33 Xn inf31.size (by decide) Xn) ?_
 refine Xa (Xl rfl Tryz.underlying31 rfl Xo) ?_
 refine Xa (Yo rfl Tryz.underlying31) ?_
 refine Xa (Zf rfl rfl) ?_
 refine Xa (Xq rfl) ?_
 refine Yb rfl rfl rfl ?_ ?_
 intro hg1
 have hil : i < m.items.length := by have := of_decide_eq_true hg1; omega
 refine Xk (Xh rfl rfl rfl hg1) (Xb Xn) ?_
 refine Xk (Xh rfl rfl rfl hg1) (Zf rfl rfl) ?_
 refine Xa (Xm (Yu hg1) rfl) ?_
 refine X4 rfl rfl ?_ ?_
 intro hc2
 have hi4l : i < 4 := by have := of_decide_eq_true hc2; omega
 obtain ⟨b, o, cs', eE, hbE, hr, hcell0⟩ := ((hw.mono leK.sees).mono sGK).elem_at hil
 obtain ⟨u, rfl, hu⟩ := hr
 obtain ⟨A6, c6, rfl⟩ := hu.shape
 have hcells := hown.le.cells hbE hcell0
 subst eE
 have hxl := hb.x _ (List.getElem_mem hil)
 generalize hit : m.items[i] = x at *
 have hcells2 : Cells H1 b (o + ((i : Int)).toNat * 4) [.int .i64 x.cost, .slice A6 x.nodes.length c6, .int .i64 x.place, .int .i64 x.rank] := hcells
 refine X9 ?_
 refine Xc ?_
 refine Yh ?_
 refine Yy (by kernel_rfl) (Y4 (B := [0, 1, 0, 4, 0, 28, 60, 124, 252, 511, 1023, 2047]) (π := [0, 1, 2, 3, 4, 5, 6, 7, 8, 9, 10, 11]) (by kernel_rfl)) ?_
 refine Xe rfl rfl (Xf (off := 4) Xn Tryz.underlying33 Xn inf31.size (by decide) Xn) Xt ?_
 refine Xe rfl rfl (Xl rfl Tryz.underlying31 rfl Xo) Xt ?_
 refine Xe rfl rfl (Xf (off := 4) Xn Tryz.underlying33 Xn inf31.size (by decide) Xn) Xt ?_
 refine Xe rfl rfl (Xl rfl Tryz.underlying31 rfl Xo) Xt ?_
 refine Xe rfl rfl (Xb Xn) Xt ?_
 refine Xe rfl rfl (Xx rfl rfl Tryz.underlying31 inf85.size Yc Yc) Xt ?_
 refine Xe rfl rfl (Yj (cs := [.int .i64 _, .slice _ _ _, .int .i64 _, .int .i64 _]) rfl Tryz.underlying85 rfl inf85.size X5) Xt ?_
 refine Yk rfl rfl (Xy (hown.calls (ItemT_item x _ G ⟨_, rfl, hu⟩ hxl) (fun _ _ h => h.1)) rfl Tryz.func47 rfl rfl rfl ?_)
 rintro v33 H5 ⟨G5, ⟨hle5, ds, rfl, u5, rfl, hu5⟩, hown5, hleH5⟩; have z5 := hle5.1; have zz5 := hown5.size; have g50 := Xr hle5 (by omega) (by intro e; cases e) g0; have g51 := Xr hle5 (by omega) (by intro e; cases e) g1; have g52 := Xr hle5 (by omega) (by intro e; cases e) g2; have h50 := Xr hown5.le (by omega) (by intro e; cases e) g50; have h51 := Xr hown5.le (by omega) (by intro e; cases e) g51; have h52 := Xr hown5.le (by omega) (by intro e; cases e) g52; have hsame : ∀ q ∈ [b], H5.get q = H1.get q := (fun q hq => by rw [List.mem_singleton] at hq; subst hq; exact hleH5.2 _ (by omega) (fun e => by have h := hcells 0 _ rfl; unfold Hp.cell? at h; rw [e] at h; cases h))
 refine ⟨Yi, ?_⟩
 refine Zd rfl rfl (Yg (r := [.int .i64 _, _, .int .i64 _, .int .i64 _]) Tryz.underlying31 inf85.size inf85.zero rfl (by decide) (by decide) (by decide) rfl) ?_
 refine Yk rfl rfl (OwnP.append (ys := [x.cut]) (hown5.push _) Tryz.underlying31 inf85 rfl rfl rfl (Zw (k := kItemT) ⟨_, rfl, hu5⟩ rfl hown5.size rfl) (by simp; omega) (by simp; omega) ?_)
 rintro v35 G6 H6 hle6 hown6
 have hsameO := OwnP.sameO (hown5.push _) hle6 hown6
 have le56 := Hp.le_trans (Hp.le_push _ _) hle6
 have z6 := le56.1
 have zz6 := hown6.size
 have g60 := Xr le56 (by omega) (by intro e; cases e) g50
 have g61 := Xr le56 (by omega) (by intro e; cases e) g51
 have g62 := Xr le56 (by omega) (by intro e; cases e) g52
 have h60 := Xr hown6.le (by omega) (by intro e; cases e) g60
 have h62 := Xr hown6.le (by omega) (by intro e; cases e) g62
 obtain ⟨B', c', rfl⟩ := hown6.shape
 rw [show (List.map ItemT.cut (m.items.take i)) ++ [x.cut] = (m.items.take (i + 1)).map ItemT.cut by rw [← Zb hil, List.map_append, hit]; rfl] at hown6 ⊢
 have hlen2 : ((m.items.take (i + 1)).map ItemT.cut).length = i + 1 := by rw [List.length_map, List.length_take]; omega
 rw [hlen2] at hown6 ⊢
 refine ⟨Yi, ?_⟩
 refine Xe rfl rfl (Xf (off := 4) Xn Tryz.underlying33 Xn inf31.size (by decide) Xn) Xt ?_
 first | refine Yk rfl rfl (Yz rfl rfl rfl inf31.size Ya Yd rfl ?_)
 refine ⟨Yi, ?_⟩
 refine Xs ?_
 refine Xa (Xb Xn) ?_
 refine Xa (Yq rfl rfl Y2) ?_
 refine Xa (Xj rfl) ?_
 exact ⟨m.items.length - (i + 1), by omega, i + 1, G6.put (H.size + 1 + 1) (.own 0 [.int .i64 m.told, .bool m.over, .slice A5 (m.nodes.take 14).length c5, .int .u64 m.rest, .slice B' (i + 1) c']), B', c', _, rfl, by omega, by omega, (aw.trans (.of_le (Hp.le_trans hle5 le56))).put _, Hp.put_same _ _ _, hown6.put (by rw [g62]; intro e; cases e) _ (Hp.sees_box _ g62), k0, hw, e1, e2, e3, rfl⟩
 intro hc2
 have hi4l : i = 4 := by have := of_decide_eq_false hc2; omega
 have hend : m.items.take 4 = m.items.take i := by rw [hi4l]
 refine Y3 ?_
 refine Xc ?_
 refine Xs ?_
 refine Xa (Yj (cs := [.int .i64 _, .bool _, .slice _ _ _, .int .u64 _, .slice _ _ _]) Xn Tryz.underlying33 Xn inf33.size X5) ?_
 refine Xv (Ye (vs := [.int .i64 _, .bool _, .slice _ _ _, .int .u64 _, .slice _ _ _]) Xn Xn inf33.size Ya Yd Xn Xn ?_)
 refine X2 ?_
 refine ⟨_, X0 (Ym Xn (Yl (cs := [_, _, _, _, _]) Tryz.underlying33 rfl inf33.size X5)), Hp.le_put_new (Hp.le_trans (aw.base leK (by omega)) hown.le) (by omega) _, [.int .i64 m.told, .bool m.over, .slice A5 (m.nodes.take 14).length c5, .int .u64 m.rest, .slice B i cB], rfl, .slice A5 (m.nodes.take 14).length c5, .slice B i cB, rfl, ?_, ?_⟩
 ·exact ((sK.mono sGK).mono hown.le.sees).mono (Hp.sees_box _ h1)
 ·show Sl kItemT _ (.slice B i cB) ((m.items.take 4).map ItemT.cut)
  rw [hend]
  exact hown.sl.mono (Hp.sees_box _ h1)
 intro hg1
 have hil : i = m.items.length := by have := of_decide_eq_false hg1; omega
 have hend : m.items.take 4 = m.items.take i := by rw [List.take_of_length_le (by omega), List.take_of_length_le (by omega)]
 refine Xd (Xg rfl rfl rfl hg1 rfl) ?_
 refine Xd (Xg rfl rfl rfl hg1 rfl) ?_
 refine Xa (Xm (Yu hg1) Xn) ?_
 refine Zg rfl rfl ?_
 refine Y3 ?_
 refine Xc ?_
 refine Xs ?_
 refine Xa (Yj (cs := [.int .i64 _, .bool _, .slice _ _ _, .int .u64 _, .slice _ _ _]) Xn Tryz.underlying33 Xn inf33.size X5) ?_
 refine Xv (Ye (vs := [.int .i64 _, .bool _, .slice _ _ _, .int .u64 _, .slice _ _ _]) Xn Xn inf33.size Ya Yd Xn Xn ?_)
 refine X2 ?_
 refine ⟨_, X0 (Ym Xn (Yl (cs := [_, _, _, _, _]) Tryz.underlying33 rfl inf33.size X5)), Hp.le_put_new (Hp.le_trans (aw.base leK (by omega)) hown.le) (by omega) _, [.int .i64 m.told, .bool m.over, .slice A5 (m.nodes.take 14).length c5, .int .u64 m.rest, .slice B i cB], rfl, .slice A5 (m.nodes.take 14).length c5, .slice B i cB, rfl, ?_, ?_⟩
 ·exact ((sK.mono sGK).mono hown.le.sees).mono (Hp.sees_box _ h1)
 ·show Sl kItemT _ (.slice B i cB) ((m.items.take 4).map ItemT.cut)
  rw [hend]
  exact hown.sl.mono (Hp.sees_box _ h1)
def oddI (n : Int) : Prop := n < 0 ∨ 10000 ≤ n
instance (n : Int) : Decidable (oddI n) := by unfold oddI; infer_instance
theorem Odd_int (n : Int) (H : Hp) : ACalls Tryz.prog 102 #[.int .i64 n] H (fun r H' => r = .bool (decide (oddI n)) ∧ H' = H) := by
 refine ACalls.pure (R := fun r => r = .bool (decide (oddI n))) (fun v h => by rw [h]; rfl) ?_
 refine Xu Tryz.func102 rfl rfl rfl (by simp) ?_
 refine Xc ?_
 refine Xs ?_
 refine Xa (Xi rfl) ?_
 refine Xc ?_
 refine Xs ?_
 refine Xa (Xb rfl) ?_
 refine Xa (Zf rfl rfl) ?_
 refine Xa (Xq rfl) ?_
 refine Yb rfl rfl rfl ?_ ?_
 intro hg1
 have h1 : n < 0 := of_decide_eq_true hg1
 refine Xd (Xg rfl rfl rfl hg1 rfl) ?_
 refine Xd (Xg rfl rfl rfl hg1 rfl) ?_
 refine Xa (Xm (Yu hg1) rfl) ?_
 refine Xa (Xi rfl) ?_
 refine X2 ?_
 first
  | exact ⟨.bool true, X0 (Xp rfl), congrArg Value.bool (decide_eq_true (.inl h1)).symm⟩
  | exact ⟨.bool (decide (n ≥ 10000)), X0 (Xp rfl), congrArg Value.bool (decide_eq_decide.2 ⟨fun h => .inr h, fun h => h.resolve_left h1⟩)⟩
 intro hg1
 have h1 : ¬ n < 0 := of_decide_eq_false hg1
 refine Xk (Xh rfl rfl rfl hg1) (Xb rfl) ?_
 refine Xk (Xh rfl rfl rfl hg1) (av_ge rfl rfl) ?_
 refine Xa (Xm (Yu hg1) rfl) ?_
 refine Xa (Xi rfl) ?_
 refine X2 ?_
 first
  | exact ⟨.bool true, X0 (Xp rfl), congrArg Value.bool (decide_eq_true (.inl h1)).symm⟩
  | exact ⟨.bool (decide (n ≥ 10000)), X0 (Xp rfl), congrArg Value.bool (decide_eq_decide.2 ⟨fun h => .inr h, fun h => h.resolve_left h1⟩)⟩
theorem IndexI_raw (xs : List Int) (v : Value) (H : Hp) (hs : Sl (Yv .i64) H v xs) (hl : xs.length ≤ 9223372036854775807) :
  ACalls Tryz.prog 126 #[v, .func (.func 102) #[] #[]] H (fun r _ => ∃ k : Int, r = .int .i64 k ∧ -1 ≤ k ∧ (0 ≤ k ↔ ¬ ∀ x ∈ xs, ¬ oddI x)) := by
 obtain ⟨A, c, rfl⟩ := hs.shape
 refine Xu Tryz.func126 rfl rfl rfl (by simp) ?_
 refine Xc ?_
 refine Xs ?_
 refine Xa (Xj rfl) ?_
 refine Xc ?_
 refine Xc ?_
 refine Xs ?_
 refine Xa (X1 rfl) ?_
 refine Xa (Yo rfl Tryz.underlying23) ?_
 refine Xa (Xb rfl) ?_
 refine Yh ?_
 refine Y6 (fun n t H' => ∃ (i : Nat), i ≤ xs.length ∧ n = xs.length - i ∧ H' = H ∧ (∀ x ∈ xs.take i, ¬ oddI x) ∧ t 0 = .slice A xs.length c ∧ t 1 = .func (.func 102) #[] #[] ∧ t 7 = .int .i64 xs.length ∧ t 8 = .int .i64 i) (xs.length) (⟨0, by omega, rfl, rfl, by simp, rfl, rfl, rfl, rfl⟩) ?_
 rintro n t _ ⟨i, hi, rfl, rfl, hno, e0, e1, e7, e8⟩
 refine Xc ?_
 refine Xs ?_
 refine Xa (Zf Xn Xn) ?_
 refine Xc ?_
 refine X4 rfl rfl ?_ ?_
 intro hc1
 (try simp only [Y5] at hc1)
 refine X9 ?_
 refine Xc ?_
 refine Yh ?_
 refine Xc ?_
 refine Xs ?_
 refine Xa (Xb Xn) ?_
 refine Xa (Xj rfl) ?_
 refine Xc ?_
 refine Xs ?_
 refine Xa (Zz Xn) ?_
 refine Xa (X1 Xn) ?_
 refine Xa (Xb rfl) ?_
 have hix : i < xs.length := by omega
 obtain ⟨b, o, rfl, hb, hcell1⟩ := hs.int_at (i := (i : Int)) (by omega) (by omega)
 rw [Int.toNat_natCast, Za hix] at hcell1
 refine Xa (Xx rfl rfl Tryz.underlying23 inf3.size Yc Yc) ?_
 refine Xa (Xl rfl Tryz.underlying3 rfl Xo) ?_
 refine Xv (Xy (Odd_int xs[i] _) rfl Tryz.func102 rfl rfl rfl ?_)
 rintro v5 H1 ⟨rfl, rfl⟩
 refine X4 rfl rfl ?_ ?_
 intro hc2
 have hne : oddI xs[i] := of_decide_eq_true hc2
 refine Xc ?_
 refine Xs ?_
 refine Xa (Xb rfl) ?_
 refine Xa (Xj rfl) ?_
 refine X2 ?_
 exact ⟨.int .i64 i, X0 (Xp Xn), i, rfl, by omega, fun _ h => h _ (List.getElem_mem hix) hne, fun _ => by omega⟩
 intro hc2
 have heq : ¬ oddI xs[i] := of_decide_eq_false hc2
 refine X9 ?_
 refine Xs ?_
 refine Xa (Yq Xn Xn Y2) ?_
 refine Xa (Xb rfl) ?_
 refine ⟨xs.length - (i + 1), by omega, i + 1, by omega, rfl, rfl, ?_, e0, e1, e7, rfl⟩
 rw [← Zb hix]
 intro x hx
 rcases List.mem_append.1 hx with hx | hx
 ·exact hno x hx
 ·simp at hx; rw [hx]; exact heq
 intro hc1
 (try simp only [Y5] at hc1)
 refine Y3 ?_
 refine Xc ?_
 refine Xs ?_
 refine Xa (Xj rfl) ?_
 refine X2 ?_
 rw [List.take_of_length_le (by omega)] at hno
 exact ⟨.int .i64 (-1), X0 (Xp rfl), -1, rfl, by omega, fun h => by omega, fun h => absurd hno h⟩
theorem Contains_ints (xs : List Int) (v : Value) (H : Hp) (hs : Sl (Yv .i64) H v xs) (hl : xs.length ≤ 9223372036854775807) :
  ACalls Tryz.prog 103 #[v, .func (.func 102) #[] #[]] H (fun r H' => (∃ g, r = .bool g ∧ (g = false ↔ ∀ x ∈ xs, ¬ oddI x)) ∧ H' = H) := by
 refine ACalls.pure (R := fun r => ∃ g, r = .bool g ∧ (g = false ↔ ∀ x ∈ xs, ¬ oddI x)) (fun v ⟨g, h, _⟩ => by rw [h]; rfl) ?_
 have hs := hs.mono H.sees_ro
 obtain ⟨A, c, rfl⟩ := hs.shape
 refine Xu Tryz.func103 rfl rfl rfl (by simp) ?_
 refine Xc ?_
 refine Xs ?_
 refine Xa (Xi rfl) ?_
 refine Xc ?_
 refine Xs ?_
 refine Xa (X1 rfl) ?_
 refine Xa (Zz rfl) ?_
 refine Xv (Xy (IndexI_raw xs _ _ hs hl) rfl Tryz.func126 rfl rfl rfl ?_)
 rintro v2 H2 ⟨k, rfl, hk, hk2⟩
 refine Xa (av_ge rfl rfl) ?_
 refine Xa (Xi rfl) ?_
 refine X2 ?_
 refine ⟨_, X0 (Xp rfl), decide (k ≥ 0), rfl, ?_⟩
 rw [decide_eq_false_iff_not]
 exact ⟨fun h => Decidable.not_not.1 fun h2 => h (hk2.2 h2), fun h h2 => hk2.1 h2 h⟩
structure Zv (m : MarkT) : Prop where
 i : m.items.length = 0
 t0 : 0 ≤ m.told
 t1 : m.told ≤ 9007199254740992
 n : m.nodes.length ≤ 12
 x : ∀ n ∈ m.nodes, ¬ oddI n
 e : (0 < m.nodes.length ∧ m.over = false) ∨ (m.nodes.length = 0 ∧ m.rest = 0)
theorem good_raw (m : MarkT) (cs : List Value) (H : Hp) (hm : kMark.rep H m cs) (hb : BigM m) :
    ACalls Tryz.prog 75 #[.agg cs.toArray] H (fun r _ => ∃ g, r = .bool g ∧ (g = true ↔ Zv m)) := by
  obtain ⟨v, w, rfl, hv, hw⟩ := hm
  obtain ⟨A, c, rfl⟩ := hv.shape
  obtain ⟨W, cW, rfl⟩ := hw.shape
  have hbn := hb.n
  have hbi := hb.i
  obtain ⟨gx, hgx⟩ : ∃ gx : Bool, (gx = true ↔ (m.items.length = 0 ∧ 0 ≤ m.told ∧ m.told ≤ 9007199254740992 ∧ m.nodes.length ≤ 12 ∧ ∀ n ∈ m.nodes, ¬ oddI n)) := ⟨decide (m.items.length = 0 ∧ 0 ≤ m.told ∧ m.told ≤ 9007199254740992 ∧ m.nodes.length ≤ 12 ∧ ∀ n ∈ m.nodes, ¬ oddI n), decide_eq_true_iff⟩
  obtain ⟨K, hK⟩ : ∃ K, K = H.push (.own 0 [.int .i64 m.told, .bool m.over, .slice A m.nodes.length c, .int .u64 m.rest, .slice W m.items.length cW]) := ⟨_, rfl⟩
  have kg : K.get H.size = .own 0 [.int .i64 m.told, .bool m.over, .slice A m.nodes.length c, .int .u64 m.rest, .slice W m.items.length cW] := by rw [hK]; exact Hp.push_new _ _
  have kz : K.size = H.size + 1 := by rw [hK]; simp
  refine Xu Tryz.func75 rfl rfl rfl (by simp) ?_
  refine Xc ?_
  refine Xs ?_
  refine Xz (Yp rfl) ?_
  refine Xa (Xi rfl) ?_
  refine Xc ?_
  refine Xs ?_
  refine Xa (V8 rfl) ?_
  refine Xc ?_
  refine Xc ?_
  change ACode true _ _ _ _ _ (H.push (.own 0 [.int .i64 m.told, .bool m.over, .slice A m.nodes.length c, .int .u64 m.rest, .slice W m.items.length cW]))
  have hvK : Sl (Yv .i64) K (.slice A m.nodes.length c) m.nodes := by rw [hK]; exact hv.mono (H.le_push _).sees
  rw [← hK]
  refine ac_cut (fun t H' => H' = K ∧ t 1 = .pointer (some ⟨H.size, 0, none⟩) ∧ t 29 = .bool (!gx)) ?_ ?_
  refine Xs ?_
  refine Xa (Xf (off := 4) rfl Tryz.underlying33 rfl inf31.size (by decide) rfl) ?_
  refine Xa (Xl rfl Tryz.underlying31 rfl Xo) ?_
  refine Xa (Yo rfl Tryz.underlying31) ?_
  refine Xa (av_gt rfl rfl) ?_
  refine Xa (Xq rfl) ?_
  refine Yb rfl rfl rfl ?_ ?_
  intro hg1
  have p1 : ¬ m.items.length = 0 := by have := of_decide_eq_true hg1; omega
  have hgf : gx = false := by cases gx with | false => rfl | true => exact absurd (hgx.1 rfl).1 p1
  refine Xd (Xg rfl rfl rfl hg1 rfl) ?_
  refine Xd (Xg rfl rfl rfl hg1 rfl) ?_
  refine Xd (Xg rfl rfl rfl hg1 rfl) ?_
  refine Xa (Xm (Yu hg1) rfl) ?_
  refine Xa (Xq rfl) ?_
  refine Xd (Xg rfl rfl rfl rfl rfl) ?_
  refine Xd (Xg rfl rfl rfl rfl rfl) ?_
  refine Xd (Xg rfl rfl rfl rfl rfl) ?_
  refine Xa (Xm (congrArg Value.bool rfl) rfl) ?_
  refine Xa (Xq rfl) ?_
  refine Xd (Xg rfl rfl rfl rfl rfl) ?_
  refine Xd (Xg rfl rfl rfl rfl rfl) ?_
  refine Xd (Xg rfl rfl rfl rfl rfl) ?_
  refine Xd (Xg rfl rfl rfl rfl rfl) ?_
  refine Xa (Xm (congrArg Value.bool rfl) rfl) ?_
  refine Xa (Xq rfl) ?_
  refine Xd (Xg rfl rfl rfl rfl rfl) ?_
  refine Xd (Xg rfl rfl rfl rfl rfl) ?_
  refine Xd (Xg rfl rfl rfl rfl rfl) ?_
  refine Xd (Xg rfl rfl rfl rfl rfl) ?_
  refine Xa (Xm (congrArg Value.bool rfl) rfl) ?_
  first
    | exact ⟨rfl, rfl, congrArg Value.bool (by rw [hgf]; rfl)⟩
    | exact ⟨rfl, rfl, congrArg Value.bool (by rw [hgg]; simp)⟩
  intro hg1
  have p1 : m.items.length = 0 := by have := of_decide_eq_false hg1; omega
  refine Xk (Xh rfl rfl rfl hg1) (Xf (off := 0) rfl Tryz.underlying33 rfl inf3.size (by decide) rfl) ?_
  refine Xk (Xh rfl rfl rfl hg1) (Xl rfl Tryz.underlying3 rfl Xo) ?_
  refine Xk (Xh rfl rfl rfl hg1) (Zf rfl rfl) ?_
  refine Xa (Xm (Yu hg1) rfl) ?_
  refine Xa (Xq rfl) ?_
  refine Yb rfl rfl rfl ?_ ?_
  intro hg2
  have p2 : m.told < 0 := of_decide_eq_true hg2
  have hgf : gx = false := by cases gx with | false => rfl | true => exact absurd (hgx.1 rfl).2.1 (by omega)
  refine Xd (Xg rfl rfl rfl hg2 rfl) ?_
  refine Xd (Xg rfl rfl rfl hg2 rfl) ?_
  refine Xd (Xg rfl rfl rfl hg2 rfl) ?_
  refine Xa (Xm (Yu hg2) rfl) ?_
  refine Xa (Xq rfl) ?_
  refine Xd (Xg rfl rfl rfl rfl rfl) ?_
  refine Xd (Xg rfl rfl rfl rfl rfl) ?_
  refine Xd (Xg rfl rfl rfl rfl rfl) ?_
  refine Xd (Xg rfl rfl rfl rfl rfl) ?_
  refine Xa (Xm (congrArg Value.bool rfl) rfl) ?_
  refine Xa (Xq rfl) ?_
  refine Xd (Xg rfl rfl rfl rfl rfl) ?_
  refine Xd (Xg rfl rfl rfl rfl rfl) ?_
  refine Xd (Xg rfl rfl rfl rfl rfl) ?_
  refine Xd (Xg rfl rfl rfl rfl rfl) ?_
  refine Xa (Xm (congrArg Value.bool rfl) rfl) ?_
  first
    | exact ⟨rfl, rfl, congrArg Value.bool (by rw [hgf]; rfl)⟩
    | exact ⟨rfl, rfl, congrArg Value.bool (by rw [hgg]; simp)⟩
  intro hg2
  have p2 : ¬ m.told < 0 := of_decide_eq_false hg2
  refine Xk (Xh rfl rfl rfl hg2) (Xf (off := 0) rfl Tryz.underlying33 rfl inf3.size (by decide) rfl) ?_
  refine Xk (Xh rfl rfl rfl hg2) (Xl rfl Tryz.underlying3 rfl Xo) ?_
  refine Xk (Xh rfl rfl rfl hg2) (av_gt rfl rfl) ?_
  refine Xa (Xm (Yu hg2) rfl) ?_
  refine Xa (Xq rfl) ?_
  refine Yb rfl rfl rfl ?_ ?_
  intro hg3
  have p3 : m.told > 9007199254740992 := of_decide_eq_true hg3
  have hgf : gx = false := by cases gx with | false => rfl | true => exact absurd (hgx.1 rfl).2.2.1 (by omega)
  refine Xd (Xg rfl rfl rfl hg3 rfl) ?_
  refine Xd (Xg rfl rfl rfl hg3 rfl) ?_
  refine Xd (Xg rfl rfl rfl hg3 rfl) ?_
  refine Xd (Xg rfl rfl rfl hg3 rfl) ?_
  refine Xa (Xm (Yu hg3) rfl) ?_
  refine Xa (Xq rfl) ?_
  refine Xd (Xg rfl rfl rfl rfl rfl) ?_
  refine Xd (Xg rfl rfl rfl rfl rfl) ?_
  refine Xd (Xg rfl rfl rfl rfl rfl) ?_
  refine Xd (Xg rfl rfl rfl rfl rfl) ?_
  refine Xa (Xm (congrArg Value.bool rfl) rfl) ?_
  first
    | exact ⟨rfl, rfl, congrArg Value.bool (by rw [hgf]; rfl)⟩
    | exact ⟨rfl, rfl, congrArg Value.bool (by rw [hgg]; simp)⟩
  intro hg3
  have p3 : ¬ m.told > 9007199254740992 := of_decide_eq_false hg3
  refine Xk (Xh rfl rfl rfl hg3) (Xf (off := 2) rfl Tryz.underlying33 rfl inf23.size (by decide) rfl) ?_
  refine Xk (Xh rfl rfl rfl hg3) (Xl rfl Tryz.underlying23 rfl Xo) ?_
  refine Xk (Xh rfl rfl rfl hg3) (Yo rfl Tryz.underlying23) ?_
  refine Xk (Xh rfl rfl rfl hg3) (av_gt rfl rfl) ?_
  refine Xa (Xm (Yu hg3) rfl) ?_
  refine Xa (Xq rfl) ?_
  refine Yb rfl rfl rfl ?_ ?_
  intro hg4
  have p4 : m.nodes.length > 12 := by have := of_decide_eq_true hg4; omega
  have hgf : gx = false := by cases gx with | false => rfl | true => exact absurd (hgx.1 rfl).2.2.2.1 (by omega)
  refine Xd (Xg rfl rfl rfl hg4 rfl) ?_
  refine Xd (Xg rfl rfl rfl hg4 rfl) ?_
  refine Xd (Xg rfl rfl rfl hg4 rfl) ?_
  refine Xd (Xg rfl rfl rfl hg4 rfl) ?_
  refine Xa (Xm (Yu hg4) rfl) ?_
  first
    | exact ⟨rfl, rfl, congrArg Value.bool (by rw [hgf]; rfl)⟩
    | exact ⟨rfl, rfl, congrArg Value.bool (by rw [hgg]; simp)⟩
  intro hg4
  have p4 : ¬ m.nodes.length > 12 := by have := of_decide_eq_false hg4; omega
  refine Xk (Xh rfl rfl rfl hg4) (Xf (off := 2) rfl Tryz.underlying33 rfl inf23.size (by decide) rfl) ?_
  refine Xk (Xh rfl rfl rfl hg4) (Xl rfl Tryz.underlying23 rfl Xo) ?_
  refine Xk (Xh rfl rfl rfl hg4) (Zz rfl) ?_
  refine Vg (Xh rfl rfl rfl hg4) (Xy (Contains_ints m.nodes _ _ hvK hbn) rfl Tryz.func103 rfl rfl rfl ?_)
  rintro v28 K ⟨⟨g, rfl, hg⟩, rfl⟩; have hgg : gx = !g := (by
      cases g with
      | false => exact hgx.2 ⟨p1, by omega, by omega, by omega, hg.1 rfl⟩
      | true =>
        cases gx with
        | false => rfl
        | true => exact absurd (hg.2 (hgx.1 rfl).2.2.2.2) (by decide))
  refine Xa (Xm (Yu hg4) rfl) ?_
  first
    | exact ⟨rfl, rfl, congrArg Value.bool (by rw [hgf]; rfl)⟩
    | exact ⟨rfl, rfl, congrArg Value.bool (by rw [hgg]; simp)⟩
  rintro t K ⟨rfl, e1, e29⟩
  refine X4 Xn rfl ?_ ?_
  intro hc5
  have hgf : gx = false := by have h := hc5; simpa using h
  refine Xc ?_
  refine Xs ?_
  refine Xa (Xi rfl) ?_
  refine X2 ?_
  exact ⟨_, X0 (Xp rfl), false, rfl, ⟨fun h => (by cases h), fun h => (by rw [hgx.2 ⟨h.i, h.t0, h.t1, h.n, h.x⟩] at hgf; cases hgf)⟩⟩
  intro hc5
  have hgt : gx = true := by have h := hc5; simpa using h
  obtain ⟨q1, q2, q3, q4, q5⟩ := hgx.1 hgt
  refine X9 ?_
  refine Xc ?_
  refine Xs ?_
  refine Xa (Xf (off := 2) Xn Tryz.underlying33 Xn inf23.size (by decide) Xn) ?_
  refine Xa (Xl rfl Tryz.underlying23 rfl Xo) ?_
  refine Xa (Yo rfl Tryz.underlying23) ?_
  refine Xa (av_gt rfl rfl) ?_
  refine Xa (Xq rfl) ?_
  refine Yb rfl rfl rfl ?_ ?_
  intro hg6
  have r1 : 0 < m.nodes.length := by have := of_decide_eq_true hg6; omega
  refine Xk (Xh rfl rfl rfl hg6) (Xf (off := 1) Xn Tryz.underlying33 Xn inf4.size (by decide) Xn) ?_
  refine Xk (Xh rfl rfl rfl hg6) (Xl rfl Tryz.underlying4 rfl Xo) ?_
  refine Xk (Xh rfl rfl rfl hg6) (Z3 rfl) ?_
  refine Xa (Xm (Yu hg6) rfl) ?_
  refine Xa (Xq rfl) ?_
  refine Yb rfl rfl rfl ?_ ?_
  intro hg7
  have r2 : m.over = false := by have h := hg7; simpa using h
  refine Xd (Xg rfl rfl rfl hg7 rfl) ?_
  refine Xd (Xg rfl rfl rfl hg7 rfl) ?_
  refine Xd (Xg rfl rfl rfl hg7 rfl) ?_
  refine Xd (Xg rfl rfl rfl hg7 rfl) ?_
  refine Xd (Xg rfl rfl rfl hg7 rfl) ?_
  refine Xd (X6 rfl rfl rfl) ?_
  refine Xd (X6 rfl rfl rfl) ?_
  refine Xd (X6 rfl rfl rfl) ?_
  refine Xd (Xg rfl rfl rfl hg7 rfl) ?_
  refine Xa (Xm (Yu hg7) Xn) ?_
  refine Xa (Xi rfl) ?_
  refine X2 ?_
  refine ⟨_, X0 (Xp rfl), _, rfl, ?_⟩
  first
    | exact absurd r1 r3
    | exact ⟨fun _ => ⟨q1, q2, q3, q4, q5, .inl ⟨r1, r2⟩⟩, fun _ => rfl⟩
    | exact ⟨fun h => ⟨q1, q2, q3, q4, q5, .inr ⟨r1, of_decide_eq_true h⟩⟩, fun h => decide_eq_true (h.e.resolve_left (fun h2 => by omega)).2⟩
    | exact ⟨fun h => (by cases h), fun h => (by rcases h.e with h2 | h2; (· rw [r2] at h2; exact absurd h2.2 (by decide)); (· omega))⟩
    | exact ⟨fun h => ⟨q1, q2, q3, q4, q5, .inr ⟨r3, of_decide_eq_true h⟩⟩, fun h => decide_eq_true (h.e.resolve_left (fun h2 => by omega)).2⟩
  intro hg7
  have r2 : m.over = true := by have h := hg7; simpa using h
  refine Xk (Xh rfl rfl rfl hg7) (Xf (off := 2) Xn Tryz.underlying33 Xn inf23.size (by decide) Xn) ?_
  refine Xk (Xh rfl rfl rfl hg7) (Xl rfl Tryz.underlying23 rfl Xo) ?_
  refine Xk (Xh rfl rfl rfl hg7) (Yo rfl Tryz.underlying23) ?_
  refine Xk (Xh rfl rfl rfl hg7) (Zs rfl rfl) ?_
  refine Xk (Xh rfl rfl rfl hg7) (Xq rfl) ?_
  refine Yb rfl rfl rfl ?_ ?_
  intro hg8
  have r3 : m.nodes.length = 0 := by have := of_decide_eq_true hg8; omega
  refine Xk (Xh rfl rfl rfl hg8) (Xf (off := 3) Xn Tryz.underlying33 Xn inf30.size (by decide) Xn) ?_
  refine Xk (Xh rfl rfl rfl hg8) (Xl rfl Tryz.underlying30 rfl Xo) ?_
  refine Xk (Xh rfl rfl rfl hg8) (Zs rfl rfl) ?_
  refine Xk (Xh rfl rfl rfl hg7) (Xm (Yu hg8) rfl) ?_
  refine Xa (Xm (Yu hg7) rfl) ?_
  refine Xa (Xi rfl) ?_
  refine X2 ?_
  refine ⟨_, X0 (Xp rfl), _, rfl, ?_⟩
  first
    | exact absurd r1 r3
    | exact ⟨fun _ => ⟨q1, q2, q3, q4, q5, .inl ⟨r1, r2⟩⟩, fun _ => rfl⟩
    | exact ⟨fun h => ⟨q1, q2, q3, q4, q5, .inr ⟨r1, of_decide_eq_true h⟩⟩, fun h => decide_eq_true (h.e.resolve_left (fun h2 => by omega)).2⟩
    | exact ⟨fun h => (by cases h), fun h => (by rcases h.e with h2 | h2; (· rw [r2] at h2; exact absurd h2.2 (by decide)); (· omega))⟩
    | exact ⟨fun h => ⟨q1, q2, q3, q4, q5, .inr ⟨r3, of_decide_eq_true h⟩⟩, fun h => decide_eq_true (h.e.resolve_left (fun h2 => by omega)).2⟩
  intro hg8
  have r3 : ¬ m.nodes.length = 0 := by have := of_decide_eq_false hg8; omega
  refine Xd (Xg rfl rfl rfl hg8 rfl) ?_
  refine Xd (Xg rfl rfl rfl hg8 rfl) ?_
  refine Xd (Xg rfl rfl rfl hg8 rfl) ?_
  refine Xk (Xh rfl rfl rfl hg7) (Xm (Yu hg8) Xn) ?_
  refine Xa (Xm (Yu hg7) rfl) ?_
  refine Xa (Xi rfl) ?_
  refine X2 ?_
  refine ⟨_, X0 (Xp rfl), _, rfl, ?_⟩
  first
    | exact absurd r1 r3
    | exact ⟨fun _ => ⟨q1, q2, q3, q4, q5, .inl ⟨r1, r2⟩⟩, fun _ => rfl⟩
    | exact ⟨fun h => ⟨q1, q2, q3, q4, q5, .inr ⟨r1, of_decide_eq_true h⟩⟩, fun h => decide_eq_true (h.e.resolve_left (fun h2 => by omega)).2⟩
    | exact ⟨fun h => (by cases h), fun h => (by rcases h.e with h2 | h2; (· rw [r2] at h2; exact absurd h2.2 (by decide)); (· omega))⟩
    | exact ⟨fun h => ⟨q1, q2, q3, q4, q5, .inr ⟨r3, of_decide_eq_true h⟩⟩, fun h => decide_eq_true (h.e.resolve_left (fun h2 => by omega)).2⟩
  intro hg6
  have r1 : m.nodes.length = 0 := by have := of_decide_eq_false hg6; omega
  refine Xd (Xg rfl rfl rfl hg6 rfl) ?_
  refine Xd (Xg rfl rfl rfl hg6 rfl) ?_
  refine Xd (Xg rfl rfl rfl hg6 rfl) ?_
  refine Xa (Xm (Yu hg6) Xn) ?_
  refine Xa (Xq rfl) ?_
  refine Xk (Xh rfl rfl rfl rfl) (Xf (off := 2) Xn Tryz.underlying33 Xn inf23.size (by decide) Xn) ?_
  refine Xk (Xh rfl rfl rfl rfl) (Xl rfl Tryz.underlying23 rfl Xo) ?_
  refine Xk (Xh rfl rfl rfl rfl) (Yo rfl Tryz.underlying23) ?_
  refine Xk (Xh rfl rfl rfl rfl) (Zs rfl rfl) ?_
  refine Xk (Xh rfl rfl rfl rfl) (Xq rfl) ?_
  refine Yb rfl rfl rfl ?_ ?_
  intro hg9
  have r3 : m.nodes.length = 0 := by have := of_decide_eq_true hg9; omega
  refine Xk (Xh rfl rfl rfl hg9) (Xf (off := 3) Xn Tryz.underlying33 Xn inf30.size (by decide) Xn) ?_
  refine Xk (Xh rfl rfl rfl hg9) (Xl rfl Tryz.underlying30 rfl Xo) ?_
  refine Xk (Xh rfl rfl rfl hg9) (Zs rfl rfl) ?_
  refine Xk (Xh rfl rfl rfl rfl) (Xm (Yu hg9) rfl) ?_
  refine Xa (Xm (congrArg Value.bool rfl) rfl) ?_
  refine Xa (Xi rfl) ?_
  refine X2 ?_
  refine ⟨_, X0 (Xp rfl), _, rfl, ?_⟩
  first
    | exact absurd r1 r3
    | exact ⟨fun _ => ⟨q1, q2, q3, q4, q5, .inl ⟨r1, r2⟩⟩, fun _ => rfl⟩
    | exact ⟨fun h => ⟨q1, q2, q3, q4, q5, .inr ⟨r1, of_decide_eq_true h⟩⟩, fun h => decide_eq_true (h.e.resolve_left (fun h2 => by omega)).2⟩
    | exact ⟨fun h => (by cases h), fun h => (by rcases h.e with h2 | h2; (· rw [r2] at h2; exact absurd h2.2 (by decide)); (· omega))⟩
    | exact ⟨fun h => ⟨q1, q2, q3, q4, q5, .inr ⟨r3, of_decide_eq_true h⟩⟩, fun h => decide_eq_true (h.e.resolve_left (fun h2 => by omega)).2⟩
  intro hg9
  have r3 : ¬ m.nodes.length = 0 := by have := of_decide_eq_false hg9; omega
  refine Xd (Xg rfl rfl rfl hg9 rfl) ?_
  refine Xd (Xg rfl rfl rfl hg9 rfl) ?_
  refine Xd (Xg rfl rfl rfl hg9 rfl) ?_
  refine Xk (Xh rfl rfl rfl rfl) (Xm (Yu hg9) Xn) ?_
  refine Xa (Xm (congrArg Value.bool rfl) rfl) ?_
  refine Xa (Xi rfl) ?_
  refine X2 ?_
  refine ⟨_, X0 (Xp rfl), _, rfl, ?_⟩
  first
    | exact absurd r1 r3
    | exact ⟨fun _ => ⟨q1, q2, q3, q4, q5, .inl ⟨r1, r2⟩⟩, fun _ => rfl⟩
    | exact ⟨fun h => ⟨q1, q2, q3, q4, q5, .inr ⟨r1, of_decide_eq_true h⟩⟩, fun h => decide_eq_true (h.e.resolve_left (fun h2 => by omega)).2⟩
    | exact ⟨fun h => (by cases h), fun h => (by rcases h.e with h2 | h2; (· rw [r2] at h2; exact absurd h2.2 (by decide)); (· omega))⟩
    | exact ⟨fun h => ⟨q1, q2, q3, q4, q5, .inr ⟨r3, of_decide_eq_true h⟩⟩, fun h => decide_eq_true (h.e.resolve_left (fun h2 => by omega)).2⟩
theorem good_36 (m : MarkT) (cs : List Value) (H : Hp) (hm : kMark.rep H m cs) (hb : BigM m) :
  ACalls Tryz.prog 75 #[.agg cs.toArray] H (fun r H' => (∃ g, r = .bool g ∧ (g = true ↔ Zv m)) ∧ H' = H) :=
 ACalls.pure (fun v ⟨g, h, _⟩ => by rw [h]; rfl) (good_raw m cs H.ro (kMark.mono H.sees_ro hm) hb)
theorem goodR_raw (m : MarkT) (cs : List Value) (H : Hp) (hm : kMark.rep H m cs) (hb : BigM m) (hr : 0 ≤ m.rest) :
  ACalls Tryz.prog 24 #[.agg cs.toArray] H (fun r _ => ∃ g, r = .bool g ∧ (g = true ↔ Zv m)) := by
 obtain ⟨v, w, rfl, hv, hw⟩ := hm
 obtain ⟨A, c, rfl⟩ := hv.shape
 obtain ⟨W, cW, rfl⟩ := hw.shape
 have hbn := hb.n
 have hbi := hb.i
 obtain ⟨K, hK⟩ : ∃ K, K = H.push (.own 0 [.int .i64 m.told, .bool m.over, .slice A m.nodes.length c, .int .u64 m.rest, .slice W m.items.length cW]) := ⟨_, rfl⟩
 have kg : K.get H.size = .own 0 [.int .i64 m.told, .bool m.over, .slice A m.nodes.length c, .int .u64 m.rest, .slice W m.items.length cW] := by rw [hK]; exact Hp.push_new _ _
 have kz : K.size = H.size + 1 := by rw [hK]; simp
 have leK : H.le K := by rw [hK]; exact H.le_push _
 refine Xu Tryz.func24 rfl rfl rfl (by simp) ?_
 refine Xc ?_
 refine Xs ?_
 refine Xz (Yp rfl) ?_
 refine Xa (Xi rfl) ?_
 refine Xc ?_
 refine Xc ?_
 refine Xs ?_
 refine Xa (Xj rfl) ?_
 refine Yh ?_
 refine Y6 (fun n t H' => ∃ (i : Nat) (E : Option Addr), n = m.nodes.length - i ∧ i ≤ m.nodes.length ∧ H' = K ∧ K.get H.size = .own 0 [.int .i64 m.told, .bool m.over, .slice E m.nodes.length c, .int .u64 m.rest, .slice W m.items.length cW] ∧ Sl (Yv .i64) H (.slice E m.nodes.length c) m.nodes ∧ (∀ x ∈ m.nodes.take i, ¬ oddI x) ∧ t 1 = .pointer (some ⟨H.size, 0, none⟩) ∧ t 3 = .int .i64 i) (m.nodes.length) (⟨0, _, rfl, Nat.zero_le _, hK.symm, kg, hv, by simp, rfl, rfl⟩) ?_
 rintro n t K2 ⟨i, E, rfl, hi, hK2, kg, hv, hno, e1, e3⟩
 subst hK2
 refine Xc ?_
 refine Xc ?_
 refine Xs ?_
 refine Xa (Xb Xn) ?_
 refine Xa (Xf (off := 2) Xn Tryz.underlying33 Xn inf23.size (by decide) Xn) ?_
 refine Xa (Xl rfl Tryz.underlying23 rfl Xo) ?_
 refine Xa (Yo rfl Tryz.underlying23) ?_
 refine Xa (Zf rfl rfl) ?_
 refine X4 rfl rfl ?_ ?_
 intro hc1
 have hil : i < m.nodes.length := by have := of_decide_eq_true hc1; omega
 obtain ⟨b, o, eE, hbE, hcell⟩ := (hv.mono leK.sees).int_at (i := (i : Int)) (by omega) (by omega)
 rw [Int.toNat_natCast, Za hil] at hcell
 subst eE
 refine X9 ?_
 refine Xc ?_
 refine Yh ?_
 refine Xc ?_
 refine Xs ?_
 refine Xa (Xf (off := 2) Xn Tryz.underlying33 Xn inf23.size (by decide) Xn) ?_
 refine Xa (Xl rfl Tryz.underlying23 rfl Xo) ?_
 refine Xa (Xb Xn) ?_
 refine Xa (Xx rfl rfl Tryz.underlying23 inf3.size Yc Yc) ?_
 refine Xa (Xl rfl Tryz.underlying3 rfl Xo) ?_
 refine Xa (Zf rfl rfl) ?_
 refine Xa (Xq rfl) ?_
 refine Yb rfl rfl rfl ?_ ?_
 intro hg2
 have hneg : m.nodes[i] < 0 := of_decide_eq_true hg2
 refine Xd (Xg rfl rfl rfl hg2 rfl) ?_
 refine Xd (Xg rfl rfl rfl hg2 rfl) ?_
 refine Xd (Xg rfl rfl rfl hg2 rfl) ?_
 refine Xd (Xg rfl rfl rfl hg2 rfl) ?_
 refine Xd (Xg rfl rfl rfl hg2 rfl) ?_
 refine Xd (Xg rfl rfl rfl hg2 rfl) ?_
 refine Xa (Xm (Yu hg2) Xn) ?_
 refine Yw rfl rfl ?_
 refine Xc ?_
 refine Xs ?_
 refine Xa (Xi rfl) ?_
 refine X2 ?_
 exact ⟨.bool false, X0 (Xp rfl), false, rfl, ⟨fun h => (by cases h), fun h => absurd (by first | exact .inl hneg | exact hod) (h.x _ (List.getElem_mem hil))⟩⟩
 intro hg2
 have hneg : ¬ m.nodes[i] < 0 := of_decide_eq_false hg2
 refine Xk (Xh rfl rfl rfl hg2) (Xf (off := 2) Xn Tryz.underlying33 Xn inf23.size (by decide) Xn) ?_
 refine Xk (Xh rfl rfl rfl hg2) (Xl rfl Tryz.underlying23 rfl Xo) ?_
 refine Xk (Xh rfl rfl rfl hg2) (Xb Xn) ?_
 refine Xk (Xh rfl rfl rfl hg2) (Xx rfl rfl Tryz.underlying23 inf3.size Yc Yc) ?_
 refine Xk (Xh rfl rfl rfl hg2) (Xl rfl Tryz.underlying3 rfl Xo) ?_
 refine Xk (Xh rfl rfl rfl hg2) (av_gt rfl rfl) ?_
 refine Xa (Xm (Yu hg2) rfl) ?_
 refine X4 rfl rfl ?_ ?_
 intro hc4
 have hod : oddI m.nodes[i] := by
  unfold oddI
  first
   | exact .inl hneg
   | (have := of_decide_eq_true hc4; omega)
 refine Xc ?_
 refine Xs ?_
 refine Xa (Xi rfl) ?_
 refine X2 ?_
 exact ⟨.bool false, X0 (Xp rfl), false, rfl, ⟨fun h => (by cases h), fun h => absurd (by first | exact .inl hneg | exact hod) (h.x _ (List.getElem_mem hil))⟩⟩
 intro hc4
 have hod : ¬ oddI m.nodes[i] := by
  unfold oddI
  have := of_decide_eq_false hc4
  omega
 refine X9 ?_
 refine Xs ?_
 refine Xa (Xb Xn) ?_
 refine Xa (Yq rfl rfl Y2) ?_
 refine Xa (Xj rfl) ?_
 refine ⟨m.nodes.length - (i + 1), by omega, i + 1, _, rfl, by omega, rfl, kg, hv, ?_, e1, rfl⟩
 rw [← Zb hil]
 intro x hx
 rcases List.mem_append.1 hx with hx | hx
 ·exact hno x hx
 ·simp at hx; rw [hx]; exact hod
 intro hc1
 have hil : i = m.nodes.length := by have := of_decide_eq_false hc1; omega
 rw [hil, List.take_length] at hno
 refine Y3 ?_
 refine Xc ?_
 refine Xc ?_
 refine ac_cut (fun t H' => H' = K2 ∧ t 1 = .pointer (some ⟨H.size, 0, none⟩) ∧ t 43 = .bool (decide ((m.nodes.length = 0 ∧ 0 < m.rest) ∨ (m.over = true ∧ 0 < m.nodes.length)))) ?_ ?_
 refine Xs ?_
 refine Xa (Xf (off := 2) Xn Tryz.underlying33 Xn inf23.size (by decide) Xn) ?_
 refine Xa (Xl rfl Tryz.underlying23 rfl Xo) ?_
 refine Xa (Yo rfl Tryz.underlying23) ?_
 refine Xa (Zs rfl rfl) ?_
 refine Xa (Xq rfl) ?_
 refine Yb rfl rfl rfl ?_ ?_
 intro hg5
 have r1 : m.nodes.length = 0 := by have := of_decide_eq_true hg5; omega
 refine Xk (Xh rfl rfl rfl hg5) (Xf (off := 3) Xn Tryz.underlying33 Xn inf30.size (by decide) Xn) ?_
 refine Xk (Xh rfl rfl rfl hg5) (Xl rfl Tryz.underlying30 rfl Xo) ?_
 refine Xk (Xh rfl rfl rfl hg5) (av_gt rfl rfl) ?_
 refine Xa (Xm (Yu hg5) rfl) ?_
 refine Xa (Xq rfl) ?_
 refine Yb rfl rfl rfl ?_ ?_
 intro hg6
 have r2 : 0 < m.rest := by have := of_decide_eq_true hg6; omega
 refine Xd (Xg rfl rfl rfl hg6 rfl) ?_
 refine Xd (Xg rfl rfl rfl hg6 rfl) ?_
 refine Xd (Xg rfl rfl rfl hg6 rfl) ?_
 refine Xd (X6 rfl rfl rfl) ?_
 refine Xd (X6 rfl rfl rfl) ?_
 refine Xd (X6 rfl rfl rfl) ?_
 refine Xd (X6 rfl rfl rfl) ?_
 refine Xd (Xg rfl rfl rfl hg6 rfl) ?_
 refine Xa (Xm (Yu hg6) Xn) ?_
 first
  | exact ⟨rfl, e1, congrArg Value.bool (by symm; apply decide_eq_true; exact .inl ⟨r1, r2⟩)⟩
  | exact ⟨rfl, e1, congrArg Value.bool (by rw [decide_eq_decide]; exact ⟨fun h => .inr ⟨r3, by omega⟩, fun h => by rcases h with h | h <;> omega⟩)⟩
  | exact ⟨rfl, e1, congrArg Value.bool (by symm; rw [decide_eq_false_iff_not]; intro h; rcases h with h | h; (· omega); (· rw [r3] at h; exact absurd h.1 (by decide)))⟩
  | exact ⟨rfl, e1, congrArg Value.bool (by rw [decide_eq_decide]; exact ⟨fun h => .inr ⟨r3, by omega⟩, fun h => by rcases h with h | h; (· omega); (· have := h.2; omega)⟩)⟩
 intro hg6
 have r2 : ¬ 0 < m.rest := by have := of_decide_eq_false hg6; omega
 refine Xk (Xh rfl rfl rfl hg6) (Xf (off := 1) Xn Tryz.underlying33 Xn inf4.size (by decide) Xn) ?_
 refine Xk (Xh rfl rfl rfl hg6) (Xl rfl Tryz.underlying4 rfl Xo) ?_
 refine Xk (Xh rfl rfl rfl hg6) (Xq rfl) ?_
 refine Yb rfl rfl rfl ?_ ?_
 intro hg7
 have r3 : m.over = true := hg7
 refine Xk (Xh rfl rfl rfl hg7) (Xf (off := 2) Xn Tryz.underlying33 Xn inf23.size (by decide) Xn) ?_
 refine Xk (Xh rfl rfl rfl hg7) (Xl rfl Tryz.underlying23 rfl Xo) ?_
 refine Xk (Xh rfl rfl rfl hg7) (Yo rfl Tryz.underlying23) ?_
 refine Xk (Xh rfl rfl rfl hg7) (av_gt rfl rfl) ?_
 refine Xk (Xh rfl rfl rfl hg6) (Xm (Yu hg7) rfl) ?_
 refine Xa (Xm (Yu hg6) rfl) ?_
 first
  | exact ⟨rfl, e1, congrArg Value.bool (by symm; apply decide_eq_true; exact .inl ⟨r1, r2⟩)⟩
  | exact ⟨rfl, e1, congrArg Value.bool (by rw [decide_eq_decide]; exact ⟨fun h => .inr ⟨r3, by omega⟩, fun h => by rcases h with h | h <;> omega⟩)⟩
  | exact ⟨rfl, e1, congrArg Value.bool (by symm; rw [decide_eq_false_iff_not]; intro h; rcases h with h | h; (· omega); (· rw [r3] at h; exact absurd h.1 (by decide)))⟩
  | exact ⟨rfl, e1, congrArg Value.bool (by rw [decide_eq_decide]; exact ⟨fun h => .inr ⟨r3, by omega⟩, fun h => by rcases h with h | h; (· omega); (· have := h.2; omega)⟩)⟩
 intro hg7
 have r3 : m.over = false := hg7
 refine Xd (Xg rfl rfl rfl hg7 rfl) ?_
 refine Xd (Xg rfl rfl rfl hg7 rfl) ?_
 refine Xd (Xg rfl rfl rfl hg7 rfl) ?_
 refine Xd (Xg rfl rfl rfl hg7 rfl) ?_
 refine Xk (Xh rfl rfl rfl hg6) (Xm (Yu hg7) Xn) ?_
 refine Xa (Xm (Yu hg6) rfl) ?_
 first
  | exact ⟨rfl, e1, congrArg Value.bool (by symm; apply decide_eq_true; exact .inl ⟨r1, r2⟩)⟩
  | exact ⟨rfl, e1, congrArg Value.bool (by rw [decide_eq_decide]; exact ⟨fun h => .inr ⟨r3, by omega⟩, fun h => by rcases h with h | h <;> omega⟩)⟩
  | exact ⟨rfl, e1, congrArg Value.bool (by symm; rw [decide_eq_false_iff_not]; intro h; rcases h with h | h; (· omega); (· rw [r3] at h; exact absurd h.1 (by decide)))⟩
  | exact ⟨rfl, e1, congrArg Value.bool (by rw [decide_eq_decide]; exact ⟨fun h => .inr ⟨r3, by omega⟩, fun h => by rcases h with h | h; (· omega); (· have := h.2; omega)⟩)⟩
 intro hg5
 have r1 : ¬ m.nodes.length = 0 := by have := of_decide_eq_false hg5; omega
 refine Xd (Xg rfl rfl rfl hg5 rfl) ?_
 refine Xd (Xg rfl rfl rfl hg5 rfl) ?_
 refine Xd (Xg rfl rfl rfl hg5 rfl) ?_
 refine Xa (Xm (Yu hg5) Xn) ?_
 refine Xa (Xq rfl) ?_
 refine Xk (Xh rfl rfl rfl rfl) (Xf (off := 1) Xn Tryz.underlying33 Xn inf4.size (by decide) Xn) ?_
 refine Xk (Xh rfl rfl rfl rfl) (Xl rfl Tryz.underlying4 rfl Xo) ?_
 refine Xk (Xh rfl rfl rfl rfl) (Xq rfl) ?_
 refine Yb rfl rfl rfl ?_ ?_
 intro hg8
 have r3 : m.over = true := hg8
 refine Xk (Xh rfl rfl rfl hg8) (Xf (off := 2) Xn Tryz.underlying33 Xn inf23.size (by decide) Xn) ?_
 refine Xk (Xh rfl rfl rfl hg8) (Xl rfl Tryz.underlying23 rfl Xo) ?_
 refine Xk (Xh rfl rfl rfl hg8) (Yo rfl Tryz.underlying23) ?_
 refine Xk (Xh rfl rfl rfl hg8) (av_gt rfl rfl) ?_
 refine Xk (Xh rfl rfl rfl rfl) (Xm (Yu hg8) rfl) ?_
 refine Xa (Xm (congrArg Value.bool rfl) rfl) ?_
 first
  | exact ⟨rfl, e1, congrArg Value.bool (by symm; apply decide_eq_true; exact .inl ⟨r1, r2⟩)⟩
  | exact ⟨rfl, e1, congrArg Value.bool (by rw [decide_eq_decide]; exact ⟨fun h => .inr ⟨r3, by omega⟩, fun h => by rcases h with h | h <;> omega⟩)⟩
  | exact ⟨rfl, e1, congrArg Value.bool (by symm; rw [decide_eq_false_iff_not]; intro h; rcases h with h | h; (· omega); (· rw [r3] at h; exact absurd h.1 (by decide)))⟩
  | exact ⟨rfl, e1, congrArg Value.bool (by rw [decide_eq_decide]; exact ⟨fun h => .inr ⟨r3, by omega⟩, fun h => by rcases h with h | h; (· omega); (· have := h.2; omega)⟩)⟩
 intro hg8
 have r3 : m.over = false := hg8
 refine Xd (Xg rfl rfl rfl hg8 rfl) ?_
 refine Xd (Xg rfl rfl rfl hg8 rfl) ?_
 refine Xd (Xg rfl rfl rfl hg8 rfl) ?_
 refine Xd (Xg rfl rfl rfl hg8 rfl) ?_
 refine Xk (Xh rfl rfl rfl rfl) (Xm (Yu hg8) Xn) ?_
 refine Xa (Xm (congrArg Value.bool rfl) rfl) ?_
 first
  | exact ⟨rfl, e1, congrArg Value.bool (by symm; apply decide_eq_true; exact .inl ⟨r1, r2⟩)⟩
  | exact ⟨rfl, e1, congrArg Value.bool (by rw [decide_eq_decide]; exact ⟨fun h => .inr ⟨r3, by omega⟩, fun h => by rcases h with h | h <;> omega⟩)⟩
  | exact ⟨rfl, e1, congrArg Value.bool (by symm; rw [decide_eq_false_iff_not]; intro h; rcases h with h | h; (· omega); (· rw [r3] at h; exact absurd h.1 (by decide)))⟩
  | exact ⟨rfl, e1, congrArg Value.bool (by rw [decide_eq_decide]; exact ⟨fun h => .inr ⟨r3, by omega⟩, fun h => by rcases h with h | h; (· omega); (· have := h.2; omega)⟩)⟩
 rintro t K3 ⟨hK3, e1, e43⟩
 subst hK3
 refine X4 Xn rfl ?_ ?_
 intro hc9
 have hbad : ¬ Zv m := fun h => by
  have h2 := of_decide_eq_true hc9
  rcases h.e with h3 | h3
  ·rcases h2 with h4 | h4
   ·omega
   ·rw [h3.2] at h4; exact absurd h4.1 (by decide)
  ·rcases h2 with h4 | h4 <;> omega
 refine Xc ?_
 refine Xs ?_
 refine Xa (Xi rfl) ?_
 refine X2 ?_
 exact ⟨.bool false, X0 (Xp rfl), false, rfl, ⟨fun h => (by cases h), fun h => absurd h hbad⟩⟩
 intro hc9
 have hgoodE : (0 < m.nodes.length ∧ m.over = false) ∨ (m.nodes.length = 0 ∧ m.rest = 0) := by
  have h2 := of_decide_eq_false hc9
  rcases Nat.eq_zero_or_pos m.nodes.length with h3 | h3
  ·exact .inr ⟨h3, Decidable.byContradiction fun h4 => h2 (.inl ⟨h3, by omega⟩)⟩
  ·refine .inl ⟨h3, ?_⟩
   cases ho : m.over with
   | false => rfl
   | true => exact absurd (.inr ⟨ho, h3⟩) h2
 refine X9 ?_
 refine Xc ?_
 refine Xs ?_
 refine Xa (Xf (off := 4) Xn Tryz.underlying33 Xn inf31.size (by decide) Xn) ?_
 refine Xa (Xl rfl Tryz.underlying31 rfl Xo) ?_
 refine Xa (Yo rfl Tryz.underlying31) ?_
 refine Xa (Zs rfl rfl) ?_
 refine Xa (Xq rfl) ?_
 refine Yb rfl rfl rfl ?_ ?_
 intro hg10
 have s1 : m.items.length = 0 := by have := of_decide_eq_true hg10; omega
 refine Xk (Xh rfl rfl rfl hg10) (Xf (off := 0) Xn Tryz.underlying33 Xn inf3.size (by decide) Xn) ?_
 refine Xk (Xh rfl rfl rfl hg10) (Xl rfl Tryz.underlying3 rfl Xo) ?_
 refine Xk (Xh rfl rfl rfl hg10) (av_ge rfl rfl) ?_
 refine Xa (Xm (Yu hg10) rfl) ?_
 refine Xa (Xq rfl) ?_
 refine Yb rfl rfl rfl ?_ ?_
 intro hg11
 have s2 : 0 ≤ m.told := by have := of_decide_eq_true hg11; omega
 refine Xk (Xh rfl rfl rfl hg11) (Xf (off := 0) Xn Tryz.underlying33 Xn inf3.size (by decide) Xn) ?_
 refine Xk (Xh rfl rfl rfl hg11) (Xl rfl Tryz.underlying3 rfl Xo) ?_
 refine Xk (Xh rfl rfl rfl hg11) (av_le rfl rfl) ?_
 refine Xa (Xm (Yu hg11) rfl) ?_
 refine Xa (Xq rfl) ?_
 refine Yb rfl rfl rfl ?_ ?_
 intro hg12
 have s3 : m.told ≤ 9007199254740992 := by have := of_decide_eq_true hg12; omega
 refine Xk (Xh rfl rfl rfl hg12) (Xf (off := 2) Xn Tryz.underlying33 Xn inf23.size (by decide) Xn) ?_
 refine Xk (Xh rfl rfl rfl hg12) (Xl rfl Tryz.underlying23 rfl Xo) ?_
 refine Xk (Xh rfl rfl rfl hg12) (Yo rfl Tryz.underlying23) ?_
 refine Xk (Xh rfl rfl rfl hg12) (Zf rfl rfl) ?_
 refine Xa (Xm (Yu hg12) rfl) ?_
 refine Xa (Xi rfl) ?_
 refine X2 ?_
 refine ⟨_, X0 (Xp rfl), _, rfl, ?_⟩
 first
  | exact ⟨fun h => ⟨s1, s2, s3, by have := of_decide_eq_true h; omega, hno, hgoodE⟩, fun h => decide_eq_true (by have := h.n; omega)⟩
  | exact ⟨fun h => (by cases h), fun h => absurd h.t1 s3⟩
  | exact ⟨fun h => (by cases h), fun h => absurd h.t0 s2⟩
  | exact ⟨fun h => (by cases h), fun h => absurd h.i s1⟩
 intro hg12
 have s3 : ¬ m.told ≤ 9007199254740992 := by have := of_decide_eq_false hg12; omega
 refine Xd (Xg rfl rfl rfl hg12 rfl) ?_
 refine Xd (Xg rfl rfl rfl hg12 rfl) ?_
 refine Xd (Xg rfl rfl rfl hg12 rfl) ?_
 refine Xd (Xg rfl rfl rfl hg12 rfl) ?_
 refine Xa (Xm (Yu hg12) Xn) ?_
 refine Xa (Xi rfl) ?_
 refine X2 ?_
 refine ⟨_, X0 (Xp rfl), _, rfl, ?_⟩
 first
  | exact ⟨fun h => ⟨s1, s2, s3, by have := of_decide_eq_true h; omega, hno, hgoodE⟩, fun h => decide_eq_true (by have := h.n; omega)⟩
  | exact ⟨fun h => (by cases h), fun h => absurd h.t1 s3⟩
  | exact ⟨fun h => (by cases h), fun h => absurd h.t0 s2⟩
  | exact ⟨fun h => (by cases h), fun h => absurd h.i s1⟩
 intro hg11
 have s2 : ¬ 0 ≤ m.told := by have := of_decide_eq_false hg11; omega
 refine Xd (Xg rfl rfl rfl hg11 rfl) ?_
 refine Xd (Xg rfl rfl rfl hg11 rfl) ?_
 refine Xd (Xg rfl rfl rfl hg11 rfl) ?_
 refine Xa (Xm (Yu hg11) Xn) ?_
 refine Xa (Xq rfl) ?_
 refine Xd (Xg rfl rfl rfl rfl rfl) ?_
 refine Xd (Xg rfl rfl rfl rfl rfl) ?_
 refine Xd (Xg rfl rfl rfl rfl rfl) ?_
 refine Xd (Xg rfl rfl rfl rfl rfl) ?_
 refine Xa (Xm (congrArg Value.bool Xn) Xn) ?_
 refine Xa (Xi rfl) ?_
 refine X2 ?_
 refine ⟨_, X0 (Xp rfl), _, rfl, ?_⟩
 first
  | exact ⟨fun h => ⟨s1, s2, s3, by have := of_decide_eq_true h; omega, hno, hgoodE⟩, fun h => decide_eq_true (by have := h.n; omega)⟩
  | exact ⟨fun h => (by cases h), fun h => absurd h.t1 s3⟩
  | exact ⟨fun h => (by cases h), fun h => absurd h.t0 s2⟩
  | exact ⟨fun h => (by cases h), fun h => absurd h.i s1⟩
 intro hg10
 have s1 : ¬ m.items.length = 0 := by have := of_decide_eq_false hg10; omega
 refine Xd (Xg rfl rfl rfl hg10 rfl) ?_
 refine Xd (Xg rfl rfl rfl hg10 rfl) ?_
 refine Xd (Xg rfl rfl rfl hg10 rfl) ?_
 refine Xa (Xm (Yu hg10) Xn) ?_
 refine Xa (Xq rfl) ?_
 refine Xd (Xg rfl rfl rfl rfl rfl) ?_
 refine Xd (Xg rfl rfl rfl rfl rfl) ?_
 refine Xd (Xg rfl rfl rfl rfl rfl) ?_
 refine Xa (Xm (congrArg Value.bool Xn) Xn) ?_
 refine Xa (Xq rfl) ?_
 refine Xd (Xg rfl rfl rfl rfl rfl) ?_
 refine Xd (Xg rfl rfl rfl rfl rfl) ?_
 refine Xd (Xg rfl rfl rfl rfl rfl) ?_
 refine Xd (Xg rfl rfl rfl rfl rfl) ?_
 refine Xa (Xm (congrArg Value.bool Xn) Xn) ?_
 refine Xa (Xi rfl) ?_
 refine X2 ?_
 refine ⟨_, X0 (Xp rfl), _, rfl, ?_⟩
 first
  | exact ⟨fun h => ⟨s1, s2, s3, by have := of_decide_eq_true h; omega, hno, hgoodE⟩, fun h => decide_eq_true (by have := h.n; omega)⟩
  | exact ⟨fun h => (by cases h), fun h => absurd h.t1 s3⟩
  | exact ⟨fun h => (by cases h), fun h => absurd h.t0 s2⟩
  | exact ⟨fun h => (by cases h), fun h => absurd h.i s1⟩
theorem goodR_36 (m : MarkT) (cs : List Value) (H : Hp) (hm : kMark.rep H m cs) (hb : BigM m) (hr : 0 ≤ m.rest) :
  ACalls Tryz.prog 24 #[.agg cs.toArray] H (fun r H' => (∃ g, r = .bool g ∧ (g = true ↔ Zv m)) ∧ H' = H) :=
 ACalls.pure (fun v ⟨g, h, _⟩ => by rw [h]; rfl) (goodR_raw m cs H.ro (kMark.mono H.sees_ro hm) hb hr)
def SameM (a b : MarkT) : Prop := a.told = b.told ∧ a.over = b.over ∧ a.rest = b.rest ∧ a.nodes = b.nodes
theorem sameM_raw (a b : MarkT) (cs ds : List Value) (H : Hp) (ha : kMark.rep H a cs) (hb : kMark.rep H b ds) (hba : BigM a) (hbb : BigM b) :
  ACalls Tryz.prog 20 #[.agg cs.toArray, .agg ds.toArray] H (fun r _ => ∃ g, r = .bool g ∧ (g = true ↔ SameM a b)) := by
 obtain ⟨v, w, rfl, hv, hw⟩ := ha
 obtain ⟨A, c, rfl⟩ := hv.shape
 obtain ⟨W, cW, rfl⟩ := hw.shape
 obtain ⟨v2, w2, rfl, hv2, hw2⟩ := hb
 obtain ⟨A2, c2, rfl⟩ := hv2.shape
 obtain ⟨W2, cW2, rfl⟩ := hw2.shape
 have hbn := hba.n
 have hbn2 := hbb.n
 obtain ⟨K, hK⟩ : ∃ K, K = (H.push (.own 0 [.int .i64 a.told, .bool a.over, .slice A a.nodes.length c, .int .u64 a.rest, .slice W a.items.length cW])).push (.own 0 [.int .i64 b.told, .bool b.over, .slice A2 b.nodes.length c2, .int .u64 b.rest, .slice W2 b.items.length cW2]) := ⟨_, rfl⟩
 have kg : K.get H.size = .own 0 [.int .i64 a.told, .bool a.over, .slice A a.nodes.length c, .int .u64 a.rest, .slice W a.items.length cW] := by rw [hK]; exact Ya
 have kg2 : K.get (H.size + 1) = .own 0 [.int .i64 b.told, .bool b.over, .slice A2 b.nodes.length c2, .int .u64 b.rest, .slice W2 b.items.length cW2] := by rw [hK]; exact Ya
 have kz : K.size = H.size + 2 := by rw [hK]; simp
 have leK : H.le K := by rw [hK]; exact Hp.le_push' (H.le_push _) _
 refine Xu Tryz.func20 rfl rfl rfl (by simp) ?_
 refine Xc ?_
 refine Xs ?_
 refine Xz (Yp rfl) ?_
 refine Xz (Yp rfl) ?_
 refine Xa (Xi rfl) ?_
 refine Xc ?_
 refine Xc ?_
 refine Xs ?_
 refine Xa (Xf (off := 0) rfl Tryz.underlying33 rfl inf3.size (by decide) rfl) ?_
 refine Xa (Xl rfl Tryz.underlying3 rfl Xo) ?_
 refine Xa (Xf (off := 0) rfl Tryz.underlying33 rfl inf3.size (by decide) rfl) ?_
 refine Xa (Xl rfl Tryz.underlying3 rfl Xo) ?_
 refine Xa (Vb rfl rfl) ?_
 refine Xa (Xq rfl) ?_
 refine Yb rfl rfl rfl ?_ ?_
 intro hg1
 have p1 : a.told ≠ b.told := of_decide_eq_true hg1
 refine Xd (Xg rfl rfl rfl hg1 rfl) ?_
 refine Xd (Xg rfl rfl rfl hg1 rfl) ?_
 refine Xd (Xg rfl rfl rfl hg1 rfl) ?_
 refine Xd (Xg rfl rfl rfl hg1 rfl) ?_
 refine Xd (Xg rfl rfl rfl hg1 rfl) ?_
 refine Xa (Xm (Yu hg1) rfl) ?_
 refine Xa (Xq rfl) ?_
 refine Xd (Xg rfl rfl rfl rfl rfl) ?_
 refine Xd (Xg rfl rfl rfl rfl rfl) ?_
 refine Xd (Xg rfl rfl rfl rfl rfl) ?_
 refine Xd (Xg rfl rfl rfl rfl rfl) ?_
 refine Xd (Xg rfl rfl rfl rfl rfl) ?_
 refine Xa (Xm (congrArg Value.bool rfl) rfl) ?_
 refine Xa (Xq rfl) ?_
 refine Xd (Xg rfl rfl rfl rfl rfl) ?_
 refine Xd (Xg rfl rfl rfl rfl rfl) ?_
 refine Xd (Xg rfl rfl rfl rfl rfl) ?_
 refine Xd (Xg rfl rfl rfl rfl rfl) ?_
 refine Xd (Xg rfl rfl rfl rfl rfl) ?_
 refine Xd (Xg rfl rfl rfl rfl rfl) ?_
 refine Xd (Xg rfl rfl rfl rfl rfl) ?_
 refine Xa (Xm (congrArg Value.bool rfl) rfl) ?_
 refine Yw rfl rfl ?_
 refine Xc ?_
 refine Xs ?_
 refine Xa (Xi rfl) ?_
 refine X2 ?_
 refine ⟨.bool false, X0 (Xp rfl), false, rfl, ⟨fun h => (by cases h), fun h => ?_⟩⟩
 first
  | exact absurd h.1 p1
  | exact absurd h.2.1 p2
  | exact absurd h.2.2.1 p3
  | exact absurd (congrArg List.length h.2.2.2) p4
 intro hg1
 have p1 : a.told = b.told := by have h := of_decide_eq_false hg1; simpa using h
 refine Xk (Xh rfl rfl rfl hg1) (Xf (off := 1) rfl Tryz.underlying33 rfl inf4.size (by decide) rfl) ?_
 refine Xk (Xh rfl rfl rfl hg1) (Xl rfl Tryz.underlying4 rfl Xo) ?_
 refine Xk (Xh rfl rfl rfl hg1) (Xf (off := 1) rfl Tryz.underlying33 rfl inf4.size (by decide) rfl) ?_
 refine Xk (Xh rfl rfl rfl hg1) (Xl rfl Tryz.underlying4 rfl Xo) ?_
 refine Xk (Xh rfl rfl rfl hg1) (av_bne rfl rfl Tryz.underlying4) ?_
 refine Xa (Xm (Yu hg1) rfl) ?_
 refine Xa (Xq rfl) ?_
 refine Yb rfl rfl rfl ?_ ?_
 intro hg3
 have p2 : a.over ≠ b.over := by have h := hg3; simpa using h
 refine Xd (Xg rfl rfl rfl hg3 rfl) ?_
 refine Xd (Xg rfl rfl rfl hg3 rfl) ?_
 refine Xd (Xg rfl rfl rfl hg3 rfl) ?_
 refine Xd (Xg rfl rfl rfl hg3 rfl) ?_
 refine Xd (Xg rfl rfl rfl hg3 rfl) ?_
 refine Xa (Xm (Yu hg3) rfl) ?_
 refine Xa (Xq rfl) ?_
 refine Xd (Xg rfl rfl rfl rfl rfl) ?_
 refine Xd (Xg rfl rfl rfl rfl rfl) ?_
 refine Xd (Xg rfl rfl rfl rfl rfl) ?_
 refine Xd (Xg rfl rfl rfl rfl rfl) ?_
 refine Xd (Xg rfl rfl rfl rfl rfl) ?_
 refine Xd (Xg rfl rfl rfl rfl rfl) ?_
 refine Xd (Xg rfl rfl rfl rfl rfl) ?_
 refine Xa (Xm (congrArg Value.bool rfl) rfl) ?_
 refine Yw rfl rfl ?_
 refine Xc ?_
 refine Xs ?_
 refine Xa (Xi rfl) ?_
 refine X2 ?_
 refine ⟨.bool false, X0 (Xp rfl), false, rfl, ⟨fun h => (by cases h), fun h => ?_⟩⟩
 first
  | exact absurd h.1 p1
  | exact absurd h.2.1 p2
  | exact absurd h.2.2.1 p3
  | exact absurd (congrArg List.length h.2.2.2) p4
 intro hg3
 have p2 : a.over = b.over := by have h := hg3; simpa using h
 refine Xk (Xh rfl rfl rfl hg3) (Xf (off := 3) rfl Tryz.underlying33 rfl inf30.size (by decide) rfl) ?_
 refine Xk (Xh rfl rfl rfl hg3) (Xl rfl Tryz.underlying30 rfl Xo) ?_
 refine Xk (Xh rfl rfl rfl hg3) (Xf (off := 3) rfl Tryz.underlying33 rfl inf30.size (by decide) rfl) ?_
 refine Xk (Xh rfl rfl rfl hg3) (Xl rfl Tryz.underlying30 rfl Xo) ?_
 refine Xk (Xh rfl rfl rfl hg3) (Vb rfl rfl) ?_
 refine Xa (Xm (Yu hg3) rfl) ?_
 refine Xa (Xq rfl) ?_
 refine Yb rfl rfl rfl ?_ ?_
 intro hg5
 have p3 : a.rest ≠ b.rest := of_decide_eq_true hg5
 refine Xd (Xg rfl rfl rfl hg5 rfl) ?_
 refine Xd (Xg rfl rfl rfl hg5 rfl) ?_
 refine Xd (Xg rfl rfl rfl hg5 rfl) ?_
 refine Xd (Xg rfl rfl rfl hg5 rfl) ?_
 refine Xd (Xg rfl rfl rfl hg5 rfl) ?_
 refine Xd (Xg rfl rfl rfl hg5 rfl) ?_
 refine Xd (Xg rfl rfl rfl hg5 rfl) ?_
 refine Xa (Xm (Yu hg5) rfl) ?_
 refine Yw rfl rfl ?_
 refine Xc ?_
 refine Xs ?_
 refine Xa (Xi rfl) ?_
 refine X2 ?_
 refine ⟨.bool false, X0 (Xp rfl), false, rfl, ⟨fun h => (by cases h), fun h => ?_⟩⟩
 first
  | exact absurd h.1 p1
  | exact absurd h.2.1 p2
  | exact absurd h.2.2.1 p3
  | exact absurd (congrArg List.length h.2.2.2) p4
 intro hg5
 have p3 : a.rest = b.rest := by have h := of_decide_eq_false hg5; simpa using h
 refine Xk (Xh rfl rfl rfl hg5) (Xf (off := 2) rfl Tryz.underlying33 rfl inf23.size (by decide) rfl) ?_
 refine Xk (Xh rfl rfl rfl hg5) (Xl rfl Tryz.underlying23 rfl Xo) ?_
 refine Xk (Xh rfl rfl rfl hg5) (Yo rfl Tryz.underlying23) ?_
 refine Xk (Xh rfl rfl rfl hg5) (Xf (off := 2) rfl Tryz.underlying33 rfl inf23.size (by decide) rfl) ?_
 refine Xk (Xh rfl rfl rfl hg5) (Xl rfl Tryz.underlying23 rfl Xo) ?_
 refine Xk (Xh rfl rfl rfl hg5) (Yo rfl Tryz.underlying23) ?_
 refine Xk (Xh rfl rfl rfl hg5) (Vb rfl rfl) ?_
 refine Xa (Xm (Yu hg5) rfl) ?_
 refine X4 rfl rfl ?_ ?_
 intro hc7
 have p4 : a.nodes.length ≠ b.nodes.length := by have h := of_decide_eq_true hc7; omega
 refine Xc ?_
 refine Xs ?_
 refine Xa (Xi rfl) ?_
 refine X2 ?_
 refine ⟨.bool false, X0 (Xp rfl), false, rfl, ⟨fun h => (by cases h), fun h => ?_⟩⟩
 first
  | exact absurd h.1 p1
  | exact absurd h.2.1 p2
  | exact absurd h.2.2.1 p3
  | exact absurd (congrArg List.length h.2.2.2) p4
 intro hc7
 have p4 : a.nodes.length = b.nodes.length := by have h := of_decide_eq_false hc7; omega
 refine X9 ?_
 refine Xc ?_
 refine Xc ?_
 refine Xs ?_
 refine Xa (Xj rfl) ?_
 refine Yh ?_
 refine Y6 (fun n t H' => ∃ (i : Nat) (E E2 : Option Addr), n = a.nodes.length - i ∧ i ≤ a.nodes.length ∧ H' = K ∧ K.get H.size = .own 0 [.int .i64 a.told, .bool a.over, .slice E a.nodes.length c, .int .u64 a.rest, .slice W a.items.length cW] ∧ K.get (H.size + 1) = .own 0 [.int .i64 b.told, .bool b.over, .slice E2 b.nodes.length c2, .int .u64 b.rest, .slice W2 b.items.length cW2] ∧ Sl (Yv .i64) H (.slice E a.nodes.length c) a.nodes ∧ Sl (Yv .i64) H (.slice E2 b.nodes.length c2) b.nodes ∧ a.nodes.take i = b.nodes.take i ∧ t 2 = .pointer (some ⟨H.size, 0, none⟩) ∧ t 3 = .pointer (some ⟨H.size + 1, 0, none⟩) ∧ t 5 = .int .i64 i) (a.nodes.length) (⟨0, _, _, rfl, Nat.zero_le _, hK.symm, kg, kg2, hv, hv2, by simp, rfl, rfl, rfl⟩) ?_
 rintro n t K2 ⟨i, E, E2, rfl, hi, hK2, kg, kg2, hv, hv2, hsame, e2, e3, e5⟩
 subst hK2
 refine Xc ?_
 refine Xc ?_
 refine Xs ?_
 refine Xa (Xb Xn) ?_
 refine Xa (Xf (off := 2) Xn Tryz.underlying33 Xn inf23.size (by decide) Xn) ?_
 refine Xa (Xl rfl Tryz.underlying23 rfl Xo) ?_
 refine Xa (Yo rfl Tryz.underlying23) ?_
 refine Xa (Zf rfl rfl) ?_
 refine X4 rfl rfl ?_ ?_
 intro hc8
 have hil : i < a.nodes.length := by have := of_decide_eq_true hc8; omega
 obtain ⟨q, o, eE, hqE, hcell⟩ := (hv.mono leK.sees).int_at (i := (i : Int)) (by omega) (by omega)
 rw [Int.toNat_natCast, Za hil] at hcell
 subst eE
 obtain ⟨q2, o2, eE2, hqE2, hcell2⟩ := (hv2.mono leK.sees).int_at (i := (i : Int)) (by omega) (by omega)
 rw [Int.toNat_natCast, Za (show i < b.nodes.length by omega)] at hcell2
 subst eE2
 refine X9 ?_
 refine Xc ?_
 refine Yh ?_
 refine Xc ?_
 refine Yy (by kernel_rfl) (Y4 (B := [0, 1, 0, 7, 15, 0, 32, 0, 224, 480, 1023]) (π := [0, 1, 2, 3, 4, 5, 6, 7, 8, 9, 10]) (by kernel_rfl)) ?_
 refine Xe rfl rfl (Xf (off := 2) Xn Tryz.underlying33 Xn inf23.size (by decide) Xn) Xt ?_
 refine Xe rfl rfl (Xl rfl Tryz.underlying23 rfl Xo) Xt ?_
 refine Xe rfl rfl (Xb Xn) Xt ?_
 refine Xe rfl rfl (Xx rfl rfl Tryz.underlying23 inf3.size Yc Yc) Xt ?_
 refine Xe rfl rfl (Xl rfl Tryz.underlying3 rfl Xo) Xt ?_
 refine Xe rfl rfl (Xf (off := 2) Xn Tryz.underlying33 Xn inf23.size (by decide) Xn) Xt ?_
 refine Xe rfl rfl (Xl rfl Tryz.underlying23 rfl Xo) Xt ?_
 refine Xe rfl rfl (Xb Xn) Xt ?_
 refine Xe rfl rfl (Xx rfl rfl Tryz.underlying23 inf3.size Yc Yc) Xt ?_
 refine Xe rfl rfl (Xl rfl Tryz.underlying3 rfl Xo) Xt ?_
 refine Xe rfl rfl (Vb rfl rfl) Xt ?_
 refine X4 rfl rfl ?_ ?_
 intro hc9
 have hne : a.nodes[i] ≠ b.nodes[i]'(by omega) := of_decide_eq_true hc9
 refine Xc ?_
 refine Xs ?_
 refine Xa (Xi rfl) ?_
 refine X2 ?_
 exact ⟨.bool false, X0 (Xp rfl), false, rfl, ⟨fun h => (by cases h), fun h => absurd (by have h4 := h.2.2.2; simp only [h4]) hne⟩⟩
 intro hc9
 have heq : a.nodes[i] = b.nodes[i]'(by omega) := by have h := of_decide_eq_false hc9; exact Decidable.not_not.1 h
 refine X9 ?_
 refine Xs ?_
 refine Xa (Xb Xn) ?_
 refine Xa (Yq rfl rfl Y2) ?_
 refine Xa (Xj rfl) ?_
 exact ⟨a.nodes.length - (i + 1), by omega, i + 1, _, _, rfl, by omega, rfl, kg, kg2, hv, hv2, by rw [← Zb hil, ← Zb (show i < b.nodes.length by omega), hsame, heq], e2, e3, rfl⟩
 intro hc8
 have hil : i = a.nodes.length := by have := of_decide_eq_false hc8; omega
 rw [List.take_of_length_le (by omega), List.take_of_length_le (by omega)] at hsame
 refine Y3 ?_
 refine Xc ?_
 refine Xs ?_
 refine Xa (Xi rfl) ?_
 refine X2 ?_
 exact ⟨.bool true, X0 (Xp rfl), true, rfl, ⟨fun _ => ⟨p1, p2, p3, hsame⟩, fun _ => rfl⟩⟩
theorem sameM_36 (a b : MarkT) (cs ds : List Value) (H : Hp) (ha : kMark.rep H a cs) (hb : kMark.rep H b ds) (hba : BigM a) (hbb : BigM b) :
  ACalls Tryz.prog 20 #[.agg cs.toArray, .agg ds.toArray] H (fun r H' => (∃ g, r = .bool g ∧ (g = true ↔ SameM a b)) ∧ H' = H) :=
 ACalls.pure (fun v ⟨g, h, _⟩ => by rw [h]; rfl) (sameM_raw a b cs ds H.ro (kMark.mono H.sees_ro ha) (kMark.mono H.sees_ro hb) hba hbb)





theorem Tiny.sub {f : Forest} {p q : Parts} (h : Tiny f p) (hs : Sub q p) : Tiny f q :=
 ⟨h.vars, fun v => Nat.le_trans (hs v).1.length_le (h.nodes v), fun v x hx => h.costN v x ((hs v).1.subset hx), fun v x hx => h.costL v x ((hs v).2.subset hx)⟩

def cmpZ : List Int → List Int → Int
 | x :: xs, y :: ys => if x < y then -1 else if y < x then 1 else cmpZ xs ys
 | _, _ => 0
theorem cmpZ_self : ∀ xs : List Int, cmpZ xs xs = 0
 | [] => rfl
 | x :: xs => by rw [cmpZ, if_neg (by omega), if_neg (by omega)]; exact cmpZ_self xs
def atR : List RowT → Int → Option (Nat × Int)
 | [], _ => none
 | r :: rs, k => if k < r.n then some (0, k) else (atR rs (k - r.n)).map fun p => (p.1 + 1, p.2)

theorem wrap_u64a {x : Int} (h : 0 ≤ x) (h2 : x < 18446744073709551616) : IntKind.u64.wrap x = x := by
 simp [IntKind.wrap, IntKind.bits, IntKind.signed]; omega
def prodT (ss : List Int) : Int := ss.foldl Zy 1

theorem Zm {P : Program} {t : Fr} {H : Hp} {d : Option Tmp} {ty : TypeId} {pos : String} {after : Array Edge} {guard : Option (Nat × Bool)} {x : Operand} {src dst : TypeId} {k k' : IntKind} {a v : Int} (hv : k'.wrap a = v) (hx : t.eval x = .int k a) (hs : (P.underlying src).isSome = true) (hd : P.underlying dst = some (.int k')) : AVal P ⟨d, .convert src dst x, ty, pos, after, guard⟩ t [] H (.int k' v) := by
 subst hv; exact av_conv hx hs hd
theorem av_addn_is {P : Program} {t : Fr} {H : Hp} {d : Option Tmp} {ty : TypeId} {pos : String} {after : Array Edge} {guard : Option (Nat × Bool)} {x y : Operand} {xt yt : TypeId} {k : IntKind} {a b v : Int} (hv : k.wrap (a + b) = v) (hx : t.eval x = .int k a) (hy : t.eval y = .int k b) : AVal P ⟨d, .binOp .add xt x y yt, ty, pos, after, guard⟩ t [] H (.int k v) := by
 subst hv; exact av_add hx hy
theorem lit_u64 {n : Int} (h : (Lit.int .u64 n).wf = true) : 0 ≤ n ∧ n ≤ 18446744073709551615 := by
 unfold Lit.wf at h
 rw [Bool.and_eq_true, decide_eq_true_eq, decide_eq_true_eq] at h
 exact h

def FindP (K G H : Hp) (fb cb tb : Nat) (ns : List Int) (w wk : Int) : Prop := ∃ B c, K.le G ∧ K.size ≤ fb ∧ fb < G.size ∧ G.get fb = .own 0 [.pointer (some ⟨cb, 0, none⟩), .pointer (some ⟨tb, 0, none⟩), .slice B ns.length c, .int .u64 w, .int .i64 wk] ∧ OwnP (Yv .i64) G H (.slice B ns.length c) ns
theorem FindP.later {K G H H' : Hp} {fb cb tb : Nat} {ns : List Int} {w wk : Int} (h : FindP K G H fb cb tb ns w wk) (hle : H.le H') : ∃ G', G.le G' ∧ FindP K G' H' fb cb tb ns w wk := by
 obtain ⟨B, c, h1, h2, h3, h4, h5⟩ := h
 obtain ⟨G', l1, o1⟩ := h5.later hle
 exact ⟨G', l1, B, c, Hp.le_trans h1 l1, h2, Nat.lt_of_lt_of_le h3 l1.1, Xr l1 h3 (by intro e; cases e) h4, o1⟩
theorem FindP.le {K G H : Hp} {fb cb tb : Nat} {ns : List Int} {w wk : Int} (h : FindP K G H fb cb tb ns w wk) : K.le H := by
 obtain ⟨B, c, h1, h2, h3, h4, h5⟩ := h
 exact Hp.le_trans h1 h5.le

theorem av_rem_is {P : Program} {t : Fr} {H : Hp} {d : Option Tmp} {ty : TypeId} {pos : String} {after : Array Edge} {guard : Option (Nat × Bool)} {x y : Operand} {xt yt : TypeId} {k : IntKind} {a b v : Int} (hv : a.tmod b = v) (hx : t.eval x = .int k a) (hy : t.eval y = .int k b) (h0 : b ≠ 0) : AVal P ⟨d, .binOp .rem xt x y yt, ty, pos, after, guard⟩ t [] H (.int k v) := by
 subst hv; exact av_rem hx hy h0
theorem av_quo_is {P : Program} {t : Fr} {H : Hp} {d : Option Tmp} {ty : TypeId} {pos : String} {after : Array Edge} {guard : Option (Nat × Bool)} {x y : Operand} {xt yt : TypeId} {k : IntKind} {a b v : Int} (hv : k.wrap (a.tdiv b) = v) (hx : t.eval x = .int k a) (hy : t.eval y = .int k b) (h0 : b ≠ 0) : AVal P ⟨d, .binOp .quo xt x y yt, ty, pos, after, guard⟩ t [] H (.int k v) := by
 subst hv; exact av_quo hx hy h0
structure GoodD (ds ss : List Int) : Prop where
 len : ds.length = ss.length
 few : prodT ss ≠ 4611686018427387904
 lt : ∀ i (h : i < ds.length) (h' : i < ss.length), ds[i] < ss[i]

theorem own_cells {G H : Hp} {v : Value} {xs : List Int} (h : OwnP (Yv .u8) G H v xs) (hne : 0 < xs.length) : ∃ b c, v = .slice (some ⟨b, 0, none⟩) xs.length c ∧ b < H.size ∧ Cells H b 0 (xs.map (Value.int .u8)) := by
 have hs := h.sl
 rcases h with ⟨_, h2, _⟩ | ⟨b, cs, c, rfl, hb, hd, hH, hc, he⟩
 ·subst h2; simp at hne
 ·refine ⟨b, c, rfl, by rw [hH]; simpa using hb, fun j v hj => ?_⟩
  rw [List.getElem?_map] at hj
  cases hxj : xs[j]? with
  | none => rw [hxj] at hj; cases hj
  | some a =>
   rw [hxj] at hj
   injection hj with hj
   subst hj
   have hjl := (List.getElem?_eq_some_iff.1 hxj).1
   obtain ⟨b', o', e', hb', hc'⟩ := hs.int_at (i := (j : Int)) (by omega) (by omega)
   simp only [Option.some.injEq, Addr.mk.injEq, and_true] at e'
   obtain ⟨rfl, rfl⟩ := e'
   rw [Int.toNat_natCast, Nat.mul_one, List.getD_eq_getElem?_getD, hxj] at hc'
   exact hc'
theorem put_small {G H : Hp} {v : Value} {xs : List Int} (h : OwnP (Yv .u8) G H v xs) (u : Int) (h0 : 0 ≤ u) (h1 : u < 128) (hl : xs.length ≤ 1000000) :
  ACalls Tryz.prog 127 #[v, .int .u64 u] H (fun r H' => ∃ G', G.le G' ∧ OwnP (Yv .u8) G' H' r (xs ++ [u])) := by
 obtain ⟨A, c, rfl⟩ := h.shape
 have hw : IntKind.u8.wrap u = u := by simp [IntKind.wrap, IntKind.bits, IntKind.signed]; omega
 refine Xu Tryz.func127 rfl rfl rfl (by simp) ?_
 refine Xc ?_
 refine Xs ?_
 refine Xa (X8 rfl) ?_
 refine Xc ?_
 refine Yh ?_
 refine Y6 (fun n t H' => n = 0 ∧ H' = H ∧ t 0 = .slice A xs.length c ∧ t 1 = .int .u64 u) (0) (⟨rfl, rfl, rfl, rfl⟩) ?_
 rintro n t H2 ⟨rfl, rfl, e0, e1⟩
 refine Xc ?_
 refine Xc ?_
 refine Xs ?_
 refine Xa (Xb Xn) ?_
 refine Xa (av_ge rfl rfl) ?_
 refine X4 rfl rfl ?_ ?_
 intro hc1
 (have h := of_decide_eq_true hc1; exfalso; omega)
 intro hc1
 (try simp only [Y5] at hc1)
 refine Y3 ?_
 refine Xc ?_
 refine Xs ?_
 refine Xa (X1 Xn) ?_
 refine Xa (Xb Xn) ?_
 refine Xa (Zm hw rfl (by rw [Tryz.underlying30]; rfl) Tryz.underlying5) ?_
 first | refine Xz (Yg (r := [.int .u8 _]) Tryz.underlying173 inf5.size inf5.zero rfl (by decide) (by decide) (by decide) rfl) ?_
 refine Xv (OwnP.append (ys := [u]) (h.push _) Tryz.underlying173 inf5 rfl rfl rfl (Zw (k := Yv .u8) rfl rfl h.size rfl) (by simp only [List.length_singleton]; omega) (by simp only [List.length_singleton]; omega) ?_)
 rintro v5 G5 H5 hle5 hown5
 refine Xa (Z5 rfl) ?_
 refine X2 ?_
 exact ⟨_, X0 (Xp rfl), G5, Hp.le_trans (G.le_push _) hle5, hown5⟩
theorem Put_small (xs : List Int) (v : Value) (H : Hp) (hs : Sl (Yv .u64) H v xs) (hx : ∀ x ∈ xs, 0 ≤ x ∧ x < 128) (hl : xs.length ≤ 1000000) (hne : 0 < xs.length) :
  ACalls Tryz.prog 104 #[v] H (fun r H' => r = .string (Y9 xs) ∧ H.le H') := by
 obtain ⟨A, c, rfl⟩ := hs.shape
 refine Xu Tryz.func104 rfl rfl rfl (by simp) ?_
 refine Xc ?_
 refine Xs ?_
 refine Xa (Yx rfl) ?_
 refine Xc ?_
 refine Xs ?_
 refine Xa (X8 rfl) ?_
 refine Xc ?_
 refine Xc ?_
 refine Xs ?_
 refine Xa (X1 rfl) ?_
 refine Xa (Yo rfl Tryz.underlying109) ?_
 refine Xa (Xb rfl) ?_
 refine Yh ?_
 refine Y6 (fun n t H' => ∃ (i : Nat) (G : Hp) (B : Option Addr) (cB : Nat) (D : Option Addr), n = xs.length - i ∧ i ≤ xs.length ∧ H.le G ∧ OwnP (Yv .u8) G H' (.slice B i cB) (xs.take i) ∧ Sl (Yv .u64) H (.slice D xs.length c) xs ∧ t 3 = .slice B i cB ∧ t 6 = .slice D xs.length c ∧ t 7 = .int .i64 xs.length ∧ t 8 = .int .i64 i) (xs.length) (⟨0, H, none, 0, _, rfl, Nat.zero_le _, Hp.le_refl _, OwnP.nil _ _, hs, rfl, rfl, rfl, rfl⟩) ?_
 rintro n t H1 ⟨i, G, B, cB, D, rfl, hi, leG, hown, hs, e3, e6, e7, e8⟩
 refine Xc ?_
 refine Xs ?_
 refine Xa (Zf Xn Xn) ?_
 refine Xc ?_
 refine X4 rfl rfl ?_ ?_
 intro hc1
 have hil : i < xs.length := by have := of_decide_eq_true hc1; omega
 obtain ⟨b, o, eD, hb, hcell⟩ := (hs.mono (Hp.le_trans leG hown.le).sees).int_at (i := (i : Int)) (by omega) (by omega)
 rw [Int.toNat_natCast, Za hil] at hcell
 subst eD
 have hlen : (xs.take i).length = i := by rw [List.length_take]; omega
 obtain ⟨hx0, hx1⟩ := hx _ (List.getElem_mem hil)
 refine X9 ?_
 refine Xc ?_
 refine Yh ?_
 refine Xc ?_
 refine Xs ?_
 refine Xa (Xx Xn Xn Tryz.underlying109 inf30.size Yc Yc) ?_
 refine Xa (Xl rfl Tryz.underlying30 rfl Xo) ?_
 refine Xa (Xj rfl) ?_
 refine Xs ?_
 refine Xa (X1 Xn) ?_
 refine Xa (Xb rfl) ?_
 refine Xv (Xy (put_small hown xs[i] hx0 hx1 (by omega)) rfl Tryz.func127 rfl rfl rfl ?_)
 rintro v14 H2 ⟨G2, le2, hown2⟩; rw [Zb hil] at hown2; obtain ⟨B2, cB2, rfl⟩ := hown2.shape; have hlen2 : (xs.take (i + 1)).length = i + 1 := (by rw [List.length_take]; omega); rw [hlen2] at hown2 ⊢
 refine Xa (X8 rfl) ?_
 refine Xs ?_
 refine Xa (Yq Xn Xn Y2) ?_
 refine Xa (Xb rfl) ?_
 exact ⟨xs.length - (i + 1), by omega, i + 1, G2, B2, cB2, _, rfl, by omega, Hp.le_trans leG le2, hown2, hs, rfl, e6, e7, rfl⟩
 intro hc1
 have hil : i = xs.length := by have := of_decide_eq_false hc1; omega
 rw [hil, List.take_length] at hown
 obtain ⟨bO, cO, eO, hbO, hcO⟩ := own_cells hown hne
 rw [hil] at e3
 injection eO with eO1 eO2 eO3
 subst eO1 eO3
 refine Y3 ?_
 refine Xc ?_
 refine Xs ?_
 refine Xa (X1 Xn) ?_
 refine Xa (av_bytes rfl Tryz.underlying173 Tryz.underlying5 Tryz.underlying9 hcO rfl hne) ?_
 refine Xa (Yx rfl) ?_
 refine X2 ?_
 exact ⟨_, X0 (Xp rfl), rfl, Hp.le_trans leG hown.le⟩
def Ub : MarkT := ⟨0, false, [], 0, []⟩
theorem V3 (H : Hp) : kMark.rep H Ub [.int .i64 0, .bool false, .slice none 0 0, .int .u64 0, .slice none 0 0] := ⟨_, _, rfl, Sl.nil _ _, Sl.nil _ _⟩
theorem start_good : Zv Ub := ⟨rfl, by decide, by decide, by decide, fun n h => (by cases h), .inr ⟨rfl, rfl⟩⟩
theorem V4 : BigM Ub := ⟨by decide, by decide, fun x h => (by cases h)⟩
theorem Start_36 (H : Hp) : ACalls Tryz.prog 41 #[] H (fun r H' => r = .agg #[.int .i64 0, .bool false, .slice none 0 0, .int .u64 0, .slice none 0 0] ∧ H.le H') := by
 refine Xu Tryz.func41 rfl rfl rfl (by simp) ?_
 refine Xc ?_
 refine Xs ?_
 refine Xz (Ys (l := [.int .i64 0, .bool false, .slice none 0 0, .int .u64 0, .slice none 0 0]) inf33.zero rfl (by decide)) ?_
 refine Xc ?_
 refine Xs ?_
 refine Xa (Y0 (pl := [(0, 1), (1, 1), (2, 1), (3, 1), (4, 1)]) (r := [.int .i64 _, .bool _, .slice _ _ _, .int .u64 _, .slice _ _ _]) Tryz.underlying33 inf33.zero (by decide) rfl rfl) ?_
 refine Xv (Ye (vs := [.int .i64 _, .bool _, .slice _ _ _, .int .u64 _, .slice _ _ _]) rfl rfl inf33.size Ya Yd rfl rfl ?_)
 refine X2 ?_
 exact ⟨_, X0 (Ym Xn (Yl (cs := [_, _, _, _, _]) Tryz.underlying33 rfl inf33.size X5)), rfl, Hp.le_put_new (H.le_push _) (Nat.le_refl _) _⟩
theorem put_start (H : Hp) : ACalls Tryz.prog 76 #[.agg #[.int .i64 0, .bool false, .slice none 0 0, .int .u64 0, .slice none 0 0]] H (fun r H' => r = .string (Y9 [1, 0, 0, 0, 0]) ∧ H.le H') := by
 have hw : IntKind.u64.wrap 0 = 0 := by decide
 obtain ⟨K, hK⟩ : ∃ K, K = H.push (.own 0 [.int .i64 0, .bool false, .slice none 0 0, .int .u64 0, .slice none 0 0]) := ⟨_, rfl⟩
 have kg : K.get H.size = .own 0 [.int .i64 0, .bool false, .slice none 0 0, .int .u64 0, .slice none 0 0] := by rw [hK]; exact Hp.push_new _ _
 have kz : K.size = H.size + 1 := by rw [hK]; simp
 have leK : H.le K := by rw [hK]; exact H.le_push _
 refine Xu Tryz.func76 rfl rfl rfl (by simp) ?_
 refine Xc ?_
 refine Xs ?_
 refine Xz (Yp rfl) ?_
 refine Xa (Yx rfl) ?_
 refine Xc ?_
 refine Xs ?_
 refine Xa (Xj rfl) ?_
 refine Xc ?_
 refine Xc ?_
 refine Xs ?_
 refine Xa (Xf (off := 1) rfl Tryz.underlying33 rfl inf4.size (by decide) rfl) ?_
 refine Xa (Xl rfl Tryz.underlying4 rfl Xo) ?_
 refine X4 rfl rfl ?_ ?_
 intro hc1
 exact absurd hc1 (by decide)
 intro hc1
 (try simp only [Y5] at hc1)
 refine X9 ?_
 refine Xc ?_
 refine Xs ?_
 refine Xa (Xf (off := 0) rfl Tryz.underlying33 rfl inf3.size (by decide) rfl) ?_
 refine Xa (Xl rfl Tryz.underlying3 rfl Xo) ?_
 refine Xa (Zm hw rfl (by rw [Tryz.underlying3]; rfl) Tryz.underlying30) ?_
 refine Xa (Xb rfl) ?_
 refine Xa (Xf (off := 2) rfl Tryz.underlying33 rfl inf23.size (by decide) rfl) ?_
 refine Xa (Xl rfl Tryz.underlying23 rfl Xo) ?_
 refine Xa (Yo rfl Tryz.underlying23) ?_
 refine Xa (Zm hw rfl (by rw [Tryz.underlying3]; rfl) Tryz.underlying30) ?_
 first | refine Xz (Yg (r := [.int .u64 _, .int .u64 _, .int .u64 _, .int .u64 _]) Tryz.underlying109 inf30.size inf30.zero rfl (by decide) (by decide) (by decide) rfl) ?_
 refine Xa (X8 rfl) ?_
 refine Xc ?_
 refine Xc ?_
 refine Xs ?_
 refine Xa (Xf (off := 2) rfl Tryz.underlying33 rfl inf23.size (by decide) rfl) ?_
 refine Xa (Xl rfl Tryz.underlying23 rfl Xo) ?_
 refine Xa (Yo rfl Tryz.underlying23) ?_
 refine Xa (Xb rfl) ?_
 refine Yh ?_
 refine Y6 (fun n t H' => n = 0 ∧ H' = K.push (.own 1 [.int .u64 1, .int .u64 0, .int .u64 0, .int .u64 0]) ∧ t 1 = .pointer (some ⟨H.size, 0, none⟩) ∧ t 4 = .slice (some ⟨K.size, 0, none⟩) 4 4 ∧ t 20 = .int .i64 0 ∧ t 21 = .int .i64 0) (0) (⟨rfl, by rw [hK], rfl, by rw [kz]; rfl, rfl, rfl⟩) ?_
 rintro n t H2 ⟨rfl, hH2, e1, e4, e20, e21⟩
 have hz2 : H2.size = K.size + 1 := by rw [hH2]; simp
 have h2g : H2.get H.size = .own 0 [.int .i64 0, .bool false, .slice none 0 0, .int .u64 0, .slice none 0 0] := by rw [hH2]; exact (Hp.push_old _ _ (by omega)).trans kg
 have hown : OwnP (Yv .u64) (K.push .dead) H2 (.slice (some ⟨K.size, 0, none⟩) 4 4) [1, 0, 0, 0] := by
  rw [hH2]
  refine .inr ⟨K.size, [.int .u64 1, .int .u64 0, .int .u64 0, .int .u64 0], 4, rfl, by simp, Hp.push_new _ _, ?_, .inr (by decide), ?_⟩
  ·rw [Hp.push_put]; rfl
  ·exact Els.cons (k := Yv .u64) (c := [.int .u64 1]) rfl (Els.cons (k := Yv .u64) (c := [.int .u64 0]) rfl (Els.cons (k := Yv .u64) (c := [.int .u64 0]) rfl (Els.cons (k := Yv .u64) (c := [.int .u64 0]) rfl (Els.nil _ _ []))))
 refine Xc ?_
 refine Xs ?_
 refine Xa (Zf Xn Xn) ?_
 refine Xc ?_
 refine X4 rfl rfl ?_ ?_
 intro hc2
 exact absurd hc2 (by decide)
 intro hc2
 (try simp only [Y5] at hc2)
 refine Y3 ?_
 refine Xc ?_
 refine Xs ?_
 refine Xa (X1 Xn) ?_
 refine Xa (Xf (off := 3) Xn Tryz.underlying33 Xn inf30.size (by decide) Xn) ?_
 refine Xa (Xl rfl Tryz.underlying30 rfl Xo) ?_
 first | refine Xz (Yg (r := [.int .u64 _]) Tryz.underlying109 inf30.size inf30.zero rfl (by decide) (by decide) (by decide) rfl) ?_
 refine Xv (OwnP.append (ys := [0]) (hown.push _) Tryz.underlying109 inf30 rfl rfl rfl (Zw (k := Yv .u64) rfl rfl hown.size rfl) (by decide) (by decide) ?_)
 rintro v5 G5 H5 hle5 hown5
 have le25 : K.le H5 := Hp.le_trans (Hp.le_trans (Hp.le_trans (K.le_push _) ((K.push .dead).le_push _)) hle5) hown5.le
 refine Xv (Xy (Put_small [1, 0, 0, 0, 0] _ _ hown5.sl (by decide) (by decide) (by decide)) rfl Tryz.func104 rfl rfl rfl ?_)
 rintro v36 H6 ⟨rfl, le6⟩
 refine Xa (Yx rfl) ?_
 refine X2 ?_
 exact ⟨_, X0 (Xp rfl), rfl, Hp.le_trans leK (Hp.le_trans le25 le6)⟩
theorem Put_start (H : Hp) : ACalls Tryz.prog 42 #[.agg #[.int .i64 0, .bool false, .slice none 0 0, .int .u64 0, .slice none 0 0]] H (fun r H' => r = .tuple #[.string (Y9 [1, 0, 0, 0, 0]), .int .i64 0] ∧ H.le H') := by
 refine Xu Tryz.func42 rfl rfl rfl (by simp) ?_
 refine Xc ?_
 refine Xs ?_
 refine Xz (Yp rfl) ?_
 refine Xa (Yx rfl) ?_
 refine Xa (Xj rfl) ?_
 refine Xc ?_
 refine Xc ?_
 refine Xs ?_
 refine Xa (Yj (cs := [.int .i64 _, .bool _, .slice _ _ _, .int .u64 _, .slice _ _ _]) rfl Tryz.underlying33 rfl inf33.size X5) ?_
 refine Xv (Xy (good_36 Ub [.int .i64 0, .bool false, .slice none 0 0, .int .u64 0, .slice none 0 0] _ (V3 _) V4) rfl Tryz.func75 rfl rfl rfl ?_)
 rintro v5 H1 ⟨⟨g, rfl, hg⟩, hH1⟩; subst hH1; obtain rfl : g = true := hg.2 start_good
 refine Xa (Z3 rfl) ?_
 refine X4 rfl rfl ?_ ?_
 intro hc1
 exact absurd hc1 (by decide)
 intro hc1
 (try simp only [Y5] at hc1)
 refine X9 ?_
 refine Xc ?_
 refine Xs ?_
 refine Xa (Yj (cs := [.int .i64 _, .bool _, .slice _ _ _, .int .u64 _, .slice _ _ _]) rfl Tryz.underlying33 rfl inf33.size X5) ?_
 refine Xv (Xy (put_start _) rfl Tryz.func76 rfl rfl rfl ?_)
 rintro v8 H2 ⟨rfl, le2⟩
 refine Xa (Yx rfl) ?_
 refine Xa (Xj rfl) ?_
 refine X2 ?_
 exact ⟨_, Yt (Xp rfl) (Xp rfl), rfl, Hp.le_trans (H.le_push _) le2⟩
def putN (u : Nat) : List Int := if h : u < 128 then [(u : Int)] else ((128 + u % 128 : Nat) : Int) :: putN (u / 128)
termination_by u
decreasing_by omega
theorem putN_lt {u : Nat} (h : u < 128) : putN u = [(u : Int)] := by rw [putN, dif_pos h]
theorem putN_ge {u : Nat} (h : ¬ u < 128) : putN u = ((128 + u % 128 : Nat) : Int) :: putN (u / 128) := by rw [putN, dif_neg h]
theorem putN_pos (u : Nat) : 0 < (putN u).length := by
 rw [putN]; split <;> simp
theorem putN_byte (u : Nat) : ∀ x ∈ putN u, 0 ≤ x ∧ x < 256 := by
 induction u using Nat.strongRecOn with
 | _ u ih =>
  intro x hx
  by_cases h : u < 128
  ·rw [putN_lt h, List.mem_singleton] at hx; omega
  ·rw [putN_ge h, List.mem_cons] at hx
   rcases hx with rfl | hx
   ·omega
   ·exact ih (u / 128) (by omega) x hx
theorem putN_len (u : Nat) : ∀ n, u < 128 ^ n → (putN u).length ≤ max n 1 := by
 induction u using Nat.strongRecOn with
 | _ u ih =>
  intro n hn
  by_cases h : u < 128
  ·rw [putN_lt h]; simp; omega
  ·rw [putN_ge h, List.length_cons]
   match n, hn with
   | 0, hn => simp at hn; omega
   | 1, hn => simp at hn; omega
   | n + 2, hn =>
    have := ih (u / 128) (by omega) (n + 1) (by rw [Nat.div_lt_iff_lt_mul (by omega)]; rw [← Nat.pow_succ]; exact hn)
    omega
def Va (xs : List Int) : List Int := xs.flatMap fun x => putN x.toNat
theorem putA_byte (xs : List Int) : ∀ x ∈ Va xs, 0 ≤ x ∧ x < 256 := fun x hx => by
 obtain ⟨y, _, hy⟩ := List.mem_flatMap.1 hx
 exact putN_byte _ x hy
theorem putA_take {xs : List Int} {i : Nat} (hi : i < xs.length) : Va (xs.take (i + 1)) = Va (xs.take i) ++ putN xs[i].toNat := by
 unfold Va
 rw [List.take_succ_eq_append_getElem hi, List.flatMap_append]
 simp
theorem putA_len (xs : List Int) (hx : ∀ x ∈ xs, x < 18446744073709551616) : (Va xs).length ≤ 10 * xs.length := by
  induction xs with
  | nil => exact Nat.le_refl _
  | cons x xs ih =>
    have h1 := ih (fun y hy => hx y (List.mem_cons_of_mem _ hy))
    have h2 := putN_len x.toNat 10 (by have := hx x List.mem_cons_self; have : (128 : Nat) ^ 10 = 1180591620717411303424 := by decide
                                       omega)
    show ((putN x.toNat) ++ Va xs).length ≤ _
    rw [List.length_append, List.length_cons]
    omega
theorem putA_pos {xs : List Int} (h : 0 < xs.length) : 0 < (Va xs).length := by
 match xs, h with
 | x :: xs, _ =>
  show 0 < ((putN x.toNat) ++ Va xs).length
  rw [List.length_append]
  have := putN_pos x.toNat
  omega
def V6 : Nat → Nat → List Int → Nat × Nat × Int
 | _, _, [] => (0, 0, 7)
 | i, a, b :: r => if 10 ≤ i then (0, 0, 7) else if i = 9 ∧ 1 < b then (0, 0, 2) else if 128 ≤ b then V6 (i + 1) (a + (b.toNat % 128) * 128 ^ i) r else if b = 0 ∧ 0 < i then (0, 0, 2) else (a + (b.toNat % 128) * 128 ^ i, i + 1, 0)
theorem getL_ok : ∀ (r : List Int) (i a : Nat), a < 128 ^ i → (V6 i a r).2.2 = 0 → i ≤ 9 ∧ i < (V6 i a r).2.1 ∧ (V6 i a r).2.1 ≤ i + r.length ∧ (V6 i a r).1 < 18446744073709551616
 | [], i, a, _, h => by simp [V6] at h
 | b :: r, i, a, ha, h => by
  rw [V6] at h ⊢
  by_cases h1 : 10 ≤ i
  ·rw [if_pos h1] at h; simp at h
  rw [if_neg h1] at h ⊢
  by_cases h2 : i = 9 ∧ 1 < b
  ·rw [if_pos h2] at h; simp at h
  rw [if_neg h2] at h ⊢
  by_cases h3 : 128 ≤ b
  ·rw [if_pos h3] at h ⊢
   have h4 : a + (b.toNat % 128) * 128 ^ i < 128 ^ (i + 1) := by
    have h5 : (b.toNat % 128) * 128 ^ i ≤ 127 * 128 ^ i := Nat.mul_le_mul_right _ (by omega)
    rw [Nat.pow_succ]
    omega
   have := getL_ok r (i + 1) _ h4 h
   rw [List.length_cons]
   omega
  rw [if_neg h3] at h ⊢
  by_cases h4 : b = 0 ∧ 0 < i
  ·rw [if_pos h4] at h; simp at h
  rw [if_neg h4]
  simp only [List.length_cons]
  refine ⟨by omega, by omega, by omega, ?_⟩
  rcases Nat.lt_or_ge i 9 with h6 | h6
  ·have h5 : (b.toNat % 128) * 128 ^ i ≤ 127 * 128 ^ i := Nat.mul_le_mul_right _ (by omega)
   have h7 : 128 ^ i ≤ 128 ^ 8 := Nat.pow_le_pow_right (by omega) (by omega)
   have h8 : (128 : Nat) ^ 8 = 72057594037927936 := by decide
   omega
  ·obtain rfl : i = 9 := by omega
   have h8 : (128 : Nat) ^ 9 = 9223372036854775808 := by decide
   have h9 : b.toNat % 128 ≤ 1 := by omega
   rw [h8] at ha ⊢
   omega
theorem getL_put : ∀ (u i a : Nat) (r : List Int), a < 128 ^ i → (i = 0 ∨ 0 < u) → a + u * 128 ^ i < 18446744073709551616 → i ≤ 9 → V6 i a (putN u ++ r) = (a + u * 128 ^ i, i + (putN u).length, 0) := by
 intro u
 induction u using Nat.strongRecOn with
 | _ u ih =>
  intro i a r ha hi hu h9
  by_cases h : u < 128
  ·rw [putN_lt h]
   show V6 i a ((u : Int) :: r) = _
   have hb : ¬ (i = 9 ∧ (1 : Int) < u) := by
    rintro ⟨rfl, h1⟩
    have h8 : (128 : Nat) ^ 9 = 9223372036854775808 := by decide
    rw [h8] at hu
    omega
   rw [V6, if_neg (by omega), if_neg hb, if_neg (by omega), if_neg (by omega), Int.toNat_natCast, Nat.mod_eq_of_lt h]
   rfl
  ·rw [putN_ge h]
   show V6 i a (((128 + u % 128 : Nat) : Int) :: (putN (u / 128) ++ r)) = _
   have hb : i ≠ 9 := by
    rintro rfl
    have h8 : (128 : Nat) ^ 9 = 9223372036854775808 := by decide
    rw [h8] at hu
    omega
   have e : a + (128 + u % 128) % 128 * 128 ^ i + u / 128 * 128 ^ (i + 1) = a + u * 128 ^ i := by
    have h1 : (128 + u % 128) % 128 = u % 128 := by omega
    rw [h1, Nat.pow_succ, Nat.add_assoc]
    congr 1
    have h2 : u / 128 * (128 ^ i * 128) = (128 * (u / 128)) * 128 ^ i := by rw [Nat.mul_comm (128 ^ i), ← Nat.mul_assoc, Nat.mul_comm (u / 128)]
    rw [h2, ← Nat.add_mul, Nat.mod_add_div]
   have h4 : a + ((128 + u % 128) % 128) * 128 ^ i < 128 ^ (i + 1) := by
    have h5 : ((128 + u % 128) % 128) * 128 ^ i ≤ 127 * 128 ^ i := Nat.mul_le_mul_right _ (by omega)
    rw [Nat.pow_succ]
    omega
   rw [V6, if_neg (by omega), if_neg (by omega), if_pos (by omega), Int.toNat_natCast, ih (u / 128) (by omega) (i + 1) _ r h4 (.inr (by omega)) (by rw [e]; exact hu) (by omega), e, List.length_cons]
   congr 2
   omega
def allF : Nat → List Int → List Int → List Int × Int
 | 0, _, out => (out, 0)
 | n + 1, ns, out => if ns = [] then (out, 0) else if (V6 0 0 ns).2.2 ≠ 0 then ([], (V6 0 0 ns).2.2) else allF n (ns.drop (V6 0 0 ns).2.1) (out ++ [((V6 0 0 ns).1 : Int)])
theorem allF_put : ∀ (xs : List Int) (n : Nat) (out : List Int), (∀ x ∈ xs, 0 ≤ x ∧ x < 18446744073709551616) → (Va xs).length ≤ n → allF n (Va xs) out = (out ++ xs, 0)
 | [], n, out, _, _ => by
  cases n with
  | zero => simp [allF]
  | succ n => simp [allF, Va]
 | x :: xs, n, out, hx, hn => by
  have hp := putN_pos x.toNat
  have e : Va (x :: xs) = putN x.toNat ++ Va xs := rfl
  have hx0 := hx x List.mem_cons_self
  rw [e] at hn ⊢
  rw [List.length_append] at hn
  match n, hn with
  | 0, hn => omega
  | n + 1, hn =>
   have hg := getL_put x.toNat 0 0 (Va xs) (by decide) (.inl rfl) (by omega) (by omega)
   have hne : putN x.toNat ++ Va xs ≠ [] := fun h => by
    have := congrArg List.length h
    rw [List.length_append, List.length_nil] at this
    omega
   rw [allF, if_neg hne, hg]
   simp only [Nat.zero_add, ne_eq, not_true_eq_false, if_false, Nat.pow_zero, Nat.mul_one]
   rw [List.drop_left, allF_put xs n _ (fun y hy => hx y (List.mem_cons_of_mem _ hy)) (by omega), Int.toNat_of_nonneg hx0.1]
   simp
theorem allF_nil (n : Nat) (out : List Int) : allF n [] out = (out, 0) := by
 cases n with
 | zero => rfl
 | succ n => simp [allF]
theorem allF_bound : ∀ (n : Nat) (ns out : List Int), (∀ x ∈ out, 0 ≤ x ∧ x < 18446744073709551616) → ∀ x ∈ (allF n ns out).1, 0 ≤ x ∧ x < 18446744073709551616
 | 0, ns, out, h, x, hx => h x hx
 | n + 1, ns, out, h, x, hx => by
  rw [allF] at hx
  by_cases h1 : ns = []
  ·rw [if_pos h1] at hx; exact h x hx
  rw [if_neg h1] at hx
  by_cases h2 : (V6 0 0 ns).2.2 ≠ 0
  ·rw [if_pos h2] at hx; cases hx
  rw [if_neg h2] at hx
  refine allF_bound n _ _ (fun y hy => ?_) x hx
  rw [List.mem_append, List.mem_singleton] at hy
  rcases hy with hy | rfl
  ·exact h y hy
  ·have := (getL_ok ns 0 0 (by decide) (Decidable.not_not.1 h2)).2.2.2
   omega
def bl (s : ByteArray) : List Int := s.data.toList.map fun b => (b.toNat : Int)
theorem bl_len (s : ByteArray) : (bl s).length = s.size := by simp [bl]
theorem bl_at (s : ByteArray) (i : Nat) (h : i < s.size) : (bl s)[i]'(by rw [bl_len]; exact h) = ((s[i]'h).toNat : Int) := by
 simp [bl]; rfl
theorem bl_drop (s : ByteArray) (k : Nat) : bl (s.extract k s.size) = (bl s).drop k := by
 unfold bl
 rw [← List.map_drop]
 congr 1
 simp only [ByteArray.data_extract, Array.toList_extract, List.extract_eq_take_drop]
 exact List.take_of_length_le (by rw [List.length_drop]; show s.data.size - k ≤ s.size - k; exact Nat.le_refl _)
theorem bl_inj {a b : ByteArray} (h : bl a = bl b) : a = b := by
 apply ByteArray.ext
 apply Array.ext'
 exact (List.map_inj_right (fun x y e => by
  have e2 : x.toNat = y.toNat := by exact_mod_cast e
  exact UInt8.toNat_inj.1 e2)).1 h
theorem bl_append (a b : ByteArray) : bl (a ++ b) = bl a ++ bl b := by simp [bl]
theorem bl_bytes : ∀ (ns : List Int), (∀ x ∈ ns, 0 ≤ x ∧ x < 256) → bl (Y9 ns) = ns := fun ns h => by
 have key : ∀ (ns : List Int) (r : ByteArray), (∀ x ∈ ns, 0 ≤ x ∧ x < 256) → bl (ns.foldl (fun r n => r.push (UInt8.ofNat n.toNat)) r) = bl r ++ ns := by
  intro ns
  induction ns with
  | nil => intro r _; simp
  | cons n ns ih =>
   intro r h
   rw [List.foldl_cons, ih _ (fun x hx => h x (List.mem_cons_of_mem _ hx))]
   have hn := h n List.mem_cons_self
   have e : bl (r.push (UInt8.ofNat n.toNat)) = bl r ++ [n] := by
    simp only [bl, ByteArray.data_push, Array.toList_push, List.map_append, List.map_cons, List.map_nil, List.append_cancel_left_eq, List.cons.injEq, and_true]
    rw [UInt8.toNat_ofNat', Nat.mod_eq_of_lt (by omega)]
    omega
   rw [e, List.append_assoc]
   rfl
 have := key ns ByteArray.empty h
 simpa [bl, Y9] using this
theorem bytes_append (xs ys : List Int) (hx : ∀ x ∈ xs, 0 ≤ x ∧ x < 256) (hy : ∀ x ∈ ys, 0 ≤ x ∧ x < 256) : Y9 xs ++ Y9 ys = Y9 (xs ++ ys) := by
 apply bl_inj
 rw [bl_append, bl_bytes _ hx, bl_bytes _ hy, bl_bytes _ (fun x h => (List.mem_append.1 h).elim (hx x) (hy x))]
theorem AVal.to {P : Program} {o : Oper} {t : Fr} {S : List Nat} {H : Hp} {v v' : Value} (h : AVal P o t S H v) (e : v = v') : AVal P o t S H v' := e ▸ h
theorem or128 (w : Nat) : IntKind.u8.wrap ((BitVec.ofInt IntKind.u8.bits (IntKind.u8.wrap (w : Int)) ||| BitVec.ofInt IntKind.u8.bits 128).toNat : Int) = ((128 + w % 128 : Nat) : Int) := by
 have h : ∀ a : Fin 256, (((BitVec.ofNat 8 a.val ||| BitVec.ofNat 8 128).toNat % 256 : Nat) : Int) = ((128 + a.val % 128 : Nat) : Int) := by decide
 have h1 := h ⟨w % 256, Nat.mod_lt _ (by decide)⟩
 have e1 : IntKind.u8.wrap (w : Int) = ((w % 256 : Nat) : Int) := by simp [IntKind.wrap, IntKind.bits, IntKind.signed]
 rw [e1]
 have e2 : BitVec.ofInt IntKind.u8.bits ((w % 256 : Nat) : Int) = BitVec.ofNat 8 (w % 256) := by
  show BitVec.ofInt 8 _ = _
  rw [BitVec.ofInt_natCast]
 have e3 : BitVec.ofInt IntKind.u8.bits 128 = BitVec.ofNat 8 128 := rfl
 have e4 : ∀ n : Nat, IntKind.u8.wrap (n : Int) = ((n % 256 : Nat) : Int) := fun n => by simp [IntKind.wrap, IntKind.bits, IntKind.signed]
 rw [e2, e3, e4]
 simp only at h1
 rw [show w % 256 % 128 = w % 128 by omega] at h1
 exact h1
theorem shr7 (w : Nat) : ((w : Int).fdiv (2 ^ min (7 : Int).toNat IntKind.u64.bits)) = ((w / 128 : Nat) : Int) := by
 show Int.fdiv _ (2 ^ 7) = _
 rw [Int.fdiv_eq_ediv_of_nonneg _ (by decide)]
 rfl
theorem u8_small {w : Nat} (h : w < 128) : IntKind.u8.wrap (w : Int) = w := by
 simp [IntKind.wrap, IntKind.bits, IntKind.signed]; omega
theorem u64_pow : (18446744073709551616 : Nat) ≤ 128 ^ 10 := by decide
theorem put_u64 {G H : Hp} {v : Value} {xs : List Int} (h : OwnP (Yv .u8) G H v xs) (u : Nat) (hu : u < 18446744073709551616) (hl : xs.length ≤ 1000000) :
  ACalls Tryz.prog 127 #[v, .int .u64 u] H (fun r H' => ∃ G', G.le G' ∧ OwnP (Yv .u8) G' H' r (xs ++ putN u)) := by
 obtain ⟨A, c, rfl⟩ := h.shape
 have hp10 := putN_len u 10 (Nat.lt_of_lt_of_le hu u64_pow)
 refine Xu Tryz.func127 rfl rfl rfl (by simp) ?_
 refine Xc ?_
 refine Xs ?_
 refine Xa (X8 rfl) ?_
 refine Xc ?_
 refine Yh ?_
 refine Y6 (fun n t H' => ∃ (G1 : Hp) (B : Option Addr) (cB : Nat) (ys : List Int), n < 18446744073709551616 ∧ G.le G1 ∧ OwnP (Yv .u8) G1 H' (.slice B ys.length cB) ys ∧ ys ++ putN n = xs ++ putN u ∧ t 0 = .slice B ys.length cB ∧ t 1 = .int .u64 n) (u) (⟨G, A, c, xs, hu, Hp.le_refl _, h, rfl, rfl, rfl⟩) ?_
 rintro n t H2 ⟨G1, B, cB, ys, hn, leG, hown, hys, e0, e1⟩
 have hyl : ys.length ≤ 1000010 := by
  have := congrArg List.length hys
  rw [List.length_append, List.length_append] at this
  omega
 refine Xc ?_
 refine Xc ?_
 refine Xs ?_
 refine Xa (Xb Xn) ?_
 refine Xa (av_ge rfl rfl) ?_
 refine X4 rfl rfl ?_ ?_
 intro hc1
 have hge : ¬ n < 128 := by have := of_decide_eq_true hc1; omega
 refine X9 ?_
 refine Yh ?_
 refine Xc ?_
 refine Xs ?_
 refine Xa (X1 Xn) ?_
 refine Xa (Xb Xn) ?_
 refine Xa (av_conv rfl (by rw [Tryz.underlying30]; rfl) Tryz.underlying5) ?_
 refine Xa ((av_or rfl rfl).to (congrArg (Value.int .u8) (or128 n))) ?_
 first | refine Xz (Yg (r := [.int .u8 _]) Tryz.underlying173 inf5.size inf5.zero rfl (by decide) (by decide) (by decide) rfl) ?_
 refine Xv (OwnP.append (ys := [((128 + n % 128 : Nat) : Int)]) (hown.push _) Tryz.underlying173 inf5 rfl rfl rfl (Zw (k := Yv .u8) rfl rfl hown.size rfl) (by simp only [List.length_singleton]; omega) (by simp only [List.length_singleton]; omega) ?_)
 rintro v5 G5 H5 hle5 hown5
 obtain ⟨B5, c5, rfl⟩ := hown5.shape
 refine Xa (X8 rfl) ?_
 refine Xs ?_
 refine Xa (Xb Xn) ?_
 refine Xa ((av_shr rfl rfl (by decide)).to (congrArg (Value.int .u64) (shr7 n))) ?_
 refine Xa (Xj rfl) ?_
 exact ⟨n / 128, by omega, G5, B5, c5, ys ++ [((128 + n % 128 : Nat) : Int)], by omega, Hp.le_trans (Hp.le_trans leG (G1.le_push _)) hle5, hown5, by rw [← hys, putN_ge hge, List.append_assoc]; rfl, rfl, rfl⟩
 intro hc1
 have hlt : n < 128 := by have := of_decide_eq_false hc1; omega
 refine Y3 ?_
 refine Xc ?_
 refine Xs ?_
 refine Xa (X1 Xn) ?_
 refine Xa (Xb Xn) ?_
 refine Xa (Zm (u8_small hlt) rfl (by rw [Tryz.underlying30]; rfl) Tryz.underlying5) ?_
 first | refine Xz (Yg (r := [.int .u8 _]) Tryz.underlying173 inf5.size inf5.zero rfl (by decide) (by decide) (by decide) rfl) ?_
 refine Xv (OwnP.append (ys := [(n : Int)]) (hown.push _) Tryz.underlying173 inf5 rfl rfl rfl (Zw (k := Yv .u8) rfl rfl hown.size rfl) (by simp only [List.length_singleton]; omega) (by simp only [List.length_singleton]; omega) ?_)
 rintro v5 G5 H5 hle5 hown5
 refine Xa (Z5 rfl) ?_
 refine X2 ?_
 exact ⟨_, X0 (Xp rfl), G5, Hp.le_trans (Hp.le_trans leG (G1.le_push _)) hle5, by rw [← hys, putN_lt hlt]; exact hown5⟩
theorem Put_u64 (xs : List Int) (v : Value) (H : Hp) (hs : Sl (Yv .u64) H v xs) (hx : ∀ x ∈ xs, 0 ≤ x ∧ x < 18446744073709551616) (hl : xs.length ≤ 10000) (hne : 0 < xs.length) :
  ACalls Tryz.prog 104 #[v] H (fun r H' => r = .string (Y9 (Va xs)) ∧ H.le H') := by
 obtain ⟨A, c, rfl⟩ := hs.shape
 refine Xu Tryz.func104 rfl rfl rfl (by simp) ?_
 refine Xc ?_
 refine Xs ?_
 refine Xa (Yx rfl) ?_
 refine Xc ?_
 refine Xs ?_
 refine Xa (X8 rfl) ?_
 refine Xc ?_
 refine Xc ?_
 refine Xs ?_
 refine Xa (X1 rfl) ?_
 refine Xa (Yo rfl Tryz.underlying109) ?_
 refine Xa (Xb rfl) ?_
 refine Yh ?_
 refine Y6 (fun n t H' => ∃ (i : Nat) (G : Hp) (B : Option Addr) (cB : Nat) (D : Option Addr), n = xs.length - i ∧ i ≤ xs.length ∧ H.le G ∧ OwnP (Yv .u8) G H' (.slice B (Va (xs.take i)).length cB) (Va (xs.take i)) ∧ Sl (Yv .u64) H (.slice D xs.length c) xs ∧ t 3 = .slice B (Va (xs.take i)).length cB ∧ t 6 = .slice D xs.length c ∧ t 7 = .int .i64 xs.length ∧ t 8 = .int .i64 i) (xs.length) (⟨0, H, none, 0, _, rfl, Nat.zero_le _, Hp.le_refl _, OwnP.nil _ _, hs, rfl, rfl, rfl, rfl⟩) ?_
 rintro n t H1 ⟨i, G, B, cB, D, rfl, hi, leG, hown, hs, e3, e6, e7, e8⟩
 refine Xc ?_
 refine Xs ?_
 refine Xa (Zf Xn Xn) ?_
 refine Xc ?_
 refine X4 rfl rfl ?_ ?_
 intro hc1
 have hil : i < xs.length := by have := of_decide_eq_true hc1; omega
 obtain ⟨b, o, eD, hb, hcell⟩ := (hs.mono (Hp.le_trans leG hown.le).sees).int_at (i := (i : Int)) (by omega) (by omega)
 rw [Int.toNat_natCast, Za hil] at hcell
 subst eD
 obtain ⟨hx0, hx1⟩ := hx _ (List.getElem_mem hil)
 have hlA : (Va (xs.take i)).length ≤ 100000 := by
  have := putA_len (xs.take i) (fun x h => (hx x (List.mem_of_mem_take h)).2)
  rw [List.length_take] at this
  omega
 obtain ⟨w, hw⟩ : ∃ w : Nat, xs[i] = w := ⟨xs[i].toNat, by omega⟩
 have hwt : xs[i].toNat = w := by omega
 rw [hw] at hcell
 refine X9 ?_
 refine Xc ?_
 refine Yh ?_
 refine Xc ?_
 refine Xs ?_
 refine Xa (Xx Xn Xn Tryz.underlying109 inf30.size Yc Yc) ?_
 refine Xa (Xl rfl Tryz.underlying30 rfl Xo) ?_
 refine Xa (Xj rfl) ?_
 refine Xs ?_
 refine Xa (X1 Xn) ?_
 refine Xa (Xb rfl) ?_
 refine Xv (Xy (put_u64 hown w (by omega) (by omega)) rfl Tryz.func127 rfl rfl rfl ?_)
 rintro v14 H2 ⟨G2, le2, hown2⟩; rw [← hwt, ← putA_take hil] at hown2; obtain ⟨B2, cB2, rfl⟩ := hown2.shape
 refine Xa (X8 rfl) ?_
 refine Xs ?_
 refine Xa (Yq Xn Xn Y2) ?_
 refine Xa (Xb rfl) ?_
 exact ⟨xs.length - (i + 1), by omega, i + 1, G2, B2, cB2, _, rfl, by omega, Hp.le_trans leG le2, hown2, hs, rfl, e6, e7, rfl⟩
 intro hc1
 have hil : i = xs.length := by have := of_decide_eq_false hc1; omega
 rw [hil, List.take_length] at hown
 obtain ⟨bO, cO, eO, hbO, hcO⟩ := own_cells hown (putA_pos hne)
 rw [hil, List.take_length] at e3
 injection eO with eO1 eO2 eO3
 subst eO1 eO3
 refine Y3 ?_
 refine Xc ?_
 refine Xs ?_
 refine Xa (X1 Xn) ?_
 refine Xa (av_bytes rfl Tryz.underlying173 Tryz.underlying5 Tryz.underlying9 hcO rfl (putA_pos hne)) ?_
 refine Xa (Yx rfl) ?_
 refine X2 ?_
 exact ⟨_, X0 (Xp rfl), rfl, Hp.le_trans leG hown.le⟩
theorem av_str_add {P : Program} {t : Fr} {H : Hp} {d : Option Tmp} {ty : TypeId} {pos : String} {after : Array Edge} {guard : Option (Nat × Bool)} {x y : Operand} {xt yt : TypeId} {a b : ByteArray} (hl : a.size + b.size ≤ 1000000) (hx : t.eval x = .string a) (hy : t.eval y = .string b) : AVal P ⟨d, .binOp .add xt x y yt, ty, pos, after, guard⟩ t [] H (.string (a ++ b)) :=
 av_str hx hy rfl (fun w => by
  have h : ¬ ((a.size + b.size : Nat) : Int) > IntKind.i64.max := by
   have : IntKind.i64.max = 9223372036854775807 := by decide
   omega
  simp only [Op.stringOp, if_neg h, Sem.run_pure]) ⟨by simp, by simp⟩
theorem bytes_size (ns : List Int) (h : ∀ x ∈ ns, 0 ≤ x ∧ x < 256) : (Y9 ns).size = ns.length := by rw [← bl_len, bl_bytes _ h]
theorem byte1 {u : Int} (h : 0 ≤ u ∧ u < 256) : ∀ x ∈ [u], 0 ≤ x ∧ x < 256 := fun x hx => by rw [List.mem_singleton] at hx; subst hx; exact h
theorem PutR_step (u : Nat) (ih : ∀ m, m < u → m < 18446744073709551616 → ∀ H : Hp, ACalls Tryz.prog 105 #[.int .u64 m] H (fun r H' => r = .string (Y9 (putN m)) ∧ H.le H')) (hu : u < 18446744073709551616) (H : Hp) :
  ACalls Tryz.prog 105 #[.int .u64 u] H (fun r H' => r = .string (Y9 (putN u)) ∧ H.le H') := by
 have hp10 := putN_len (u / 128) 10 (Nat.lt_of_lt_of_le (by omega) u64_pow)
 have hrem : (u : Int).tmod 128 = ((u % 128 : Nat) : Int) := by rw [Int.tmod_eq_emod_of_nonneg (by omega)]; rfl
 have hquo : IntKind.u64.wrap ((u : Int).tdiv 128) = ((u / 128 : Nat) : Int) := by
  rw [Int.tdiv_eq_ediv_of_nonneg (by omega)]
  simp [IntKind.wrap, IntKind.bits, IntKind.signed]; omega
 have hadd : IntKind.u64.wrap (128 + ((u % 128 : Nat) : Int)) = ((128 + u % 128 : Nat) : Int) := by
  simp [IntKind.wrap, IntKind.bits, IntKind.signed]; omega
 have hcv : IntKind.u8.wrap ((128 + u % 128 : Nat) : Int) = ((128 + u % 128 : Nat) : Int) := by
  simp [IntKind.wrap, IntKind.bits, IntKind.signed]; omega
 have hb1 : ∀ x ∈ [((128 + u % 128 : Nat) : Int)], 0 ≤ x ∧ x < 256 := byte1 (by omega)
 refine Xu Tryz.func105 rfl rfl rfl (by simp) ?_
 refine Xc ?_
 refine Xs ?_
 refine Xa (Yx rfl) ?_
 refine Xc ?_
 refine Xc ?_
 refine Xs ?_
 refine Xa (Xb rfl) ?_
 refine Xa (Zf rfl rfl) ?_
 refine X4 rfl rfl ?_ ?_
 intro hc1
 have hlt : u < 128 := by have := of_decide_eq_true hc1; omega
 refine Xc ?_
 refine Xs ?_
 refine Xa (Xb rfl) ?_
 refine Xa (Zm (u8_small hlt) rfl (by rw [Tryz.underlying30]; rfl) Tryz.underlying5) ?_
 first | refine Xz (Yg (r := [.int .u8 _]) Tryz.underlying173 inf5.size inf5.zero rfl (by decide) (by decide) (by decide) rfl) ?_
 refine Xa (av_bytes (ns := [(u : Int)]) rfl Tryz.underlying173 Tryz.underlying5 Tryz.underlying9 X5 rfl (by decide)) ?_
 refine Xa (Yx rfl) ?_
 refine X2 ?_
 exact ⟨_, X0 (Xp rfl), congrArg (fun l => Value.string (Y9 l)) (putN_lt hlt).symm, H.le_push _⟩
 intro hc1
 have hge : ¬ u < 128 := by have := of_decide_eq_false hc1; omega
 refine X9 ?_
 refine Xc ?_
 refine Yy (by kernel_rfl) (Y4 (B := [0, 1, 3, 7, 15, 31, 0, 64, 192, 511, 1023]) (π := [0, 1, 2, 3, 4, 5, 6, 7, 8, 9, 10]) (by kernel_rfl)) ?_
 refine Xe rfl rfl (Xb rfl) Xt ?_
 refine Xe rfl rfl (av_rem_is hrem rfl rfl (by omega)) Xt ?_
 refine Xe rfl rfl ((av_add rfl rfl).to (congrArg (Value.int .u64) hadd)) Xt ?_
 refine Xe rfl rfl (Zm hcv rfl (by rw [Tryz.underlying30]; rfl) Tryz.underlying5) Xt ?_
 first | refine Zd rfl rfl (Yg (r := [.int .u8 _]) Tryz.underlying173 inf5.size inf5.zero rfl (by decide) (by decide) (by decide) rfl) ?_
 refine Xe rfl rfl (av_bytes (ns := [((128 + u % 128 : Nat) : Int)]) rfl Tryz.underlying173 Tryz.underlying5 Tryz.underlying9 X5 rfl (by decide)) Xt ?_
 refine Xe rfl rfl (Xb rfl) Xt ?_
 refine Xe rfl rfl (av_quo_is hquo rfl rfl (by omega)) Xt ?_
 refine Yk rfl rfl (Xy (ih (u / 128) (by omega) (by omega) _) rfl Tryz.func105 rfl rfl rfl ?_)
 rintro v17 H2 ⟨rfl, le2⟩
 refine ⟨Yi, ?_⟩
 refine Xe rfl rfl (av_str_add (by rw [bytes_size _ hb1, bytes_size _ (putN_byte _)]; simp only [List.length_singleton]; omega) rfl rfl) Xt ?_
 refine Xe rfl rfl (Yx rfl) Xt ?_
 refine X2 ?_
 exact ⟨_, X0 (Xp rfl), congrArg Value.string (by rw [bytes_append _ _ hb1 (putN_byte _), putN_ge hge]; rfl), Hp.le_trans (H.le_push _) le2⟩
theorem PutR_u64 (u : Nat) : ∀ (hu : u < 18446744073709551616) (H : Hp), ACalls Tryz.prog 105 #[.int .u64 u] H (fun r H' => r = .string (Y9 (putN u)) ∧ H.le H') := by
 induction u using Nat.strongRecOn with
 | _ u ih => exact fun hu H => PutR_step u ih hu H
theorem PutAllR_u64 (xs : List Int) (v : Value) (H : Hp) (hs : Sl (Yv .u64) H v xs) (hx : ∀ x ∈ xs, 0 ≤ x ∧ x < 18446744073709551616) (hl : xs.length ≤ 10000) :
  ACalls Tryz.prog 77 #[v] H (fun r H' => r = .string (Y9 (Va xs)) ∧ H.le H') := by
 obtain ⟨A, c, rfl⟩ := hs.shape
 refine Xu Tryz.func77 rfl rfl rfl (by simp) ?_
 refine Xc ?_
 refine Xs ?_
 refine Xa (Yx rfl) ?_
 refine Xc ?_
 refine Xs ?_
 refine Xa (Yx rfl) ?_
 refine Xc ?_
 refine Xc ?_
 refine Xs ?_
 refine Xa (Xj rfl) ?_
 refine Yh ?_
 refine Y6 (fun n t H' => ∃ (i : Nat), n = xs.length - i ∧ i ≤ xs.length ∧ H.le H' ∧ t 0 = .slice A xs.length c ∧ t 3 = .string (Y9 (Va (xs.take i))) ∧ t 4 = .int .i64 i) (xs.length) (⟨0, rfl, Nat.zero_le _, Hp.le_refl _, rfl, rfl, rfl⟩) ?_
 rintro n t H1 ⟨i, rfl, hi, leG, e0, e3, e4⟩
 refine Xc ?_
 refine Xc ?_
 refine Xs ?_
 refine Xa (Xb Xn) ?_
 refine Xa (X1 Xn) ?_
 refine Xa (Yo rfl Tryz.underlying109) ?_
 refine Xa (Zf rfl rfl) ?_
 refine X4 rfl rfl ?_ ?_
 intro hc1
 have hil : i < xs.length := by have := of_decide_eq_true hc1; omega
 obtain ⟨b, o, eD, hb, hcell⟩ := (hs.mono leG.sees).int_at (i := (i : Int)) (by omega) (by omega)
 rw [Int.toNat_natCast, Za hil] at hcell
 subst eD
 obtain ⟨hx0, hx1⟩ := hx _ (List.getElem_mem hil)
 have hlA : (Va (xs.take i)).length ≤ 100000 := by
  have := putA_len (xs.take i) (fun x h => (hx x (List.mem_of_mem_take h)).2)
  rw [List.length_take] at this
  omega
 obtain ⟨w, hw⟩ : ∃ w : Nat, xs[i] = w := ⟨xs[i].toNat, by omega⟩
 have hwt : xs[i].toNat = w := by omega
 have hp10 := putN_len w 10 (Nat.lt_of_lt_of_le (by omega) u64_pow)
 rw [hw] at hcell
 refine X9 ?_
 refine Xc ?_
 refine Yh ?_
 refine Xs ?_
 refine Xa (Zo Xn) ?_
 refine Xa (X1 Xn) ?_
 refine Xa (Xb Xn) ?_
 refine Xa (Xx rfl rfl Tryz.underlying109 inf30.size Yc Yc) ?_
 refine Xa (Xl rfl Tryz.underlying30 rfl Xo) ?_
 refine Xv (Xy (PutR_u64 w (by omega) _) rfl Tryz.func105 rfl rfl rfl ?_)
 rintro v17 H2 ⟨rfl, le2⟩
 refine Xa (av_str_add (by rw [bytes_size _ (putA_byte _), bytes_size _ (putN_byte _)]; omega) rfl rfl) ?_
 refine Xa (Yx rfl) ?_
 refine Xs ?_
 refine Xa (Xb Xn) ?_
 refine Xa (Yq rfl rfl Y2) ?_
 refine Xa (Xj rfl) ?_
 exact ⟨xs.length - (i + 1), by omega, i + 1, rfl, by omega, Hp.le_trans leG le2, e0, congrArg Value.string (by rw [bytes_append _ _ (putA_byte _) (putN_byte _), putA_take hil, hwt]), rfl⟩
 intro hc1
 have hil : i = xs.length := by have := of_decide_eq_false hc1; omega
 rw [hil, List.take_length] at e3
 refine Y3 ?_
 refine Xc ?_
 refine Xs ?_
 refine Xa (Zo Xn) ?_
 refine Xa (Yx rfl) ?_
 refine X2 ?_
 exact ⟨_, X0 (Xp rfl), rfl, leG⟩
end Go.Proofs.YtmakkmcjocjgmaaGreat.Am
