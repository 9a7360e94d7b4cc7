/- Texts that the proof rests on, part 4: lemmas for every heap that is related to a world, no condition beyond each lemma's own. -/
import Derived.Test.YtmakkmcjocjgmaaGreatCn3
import Derived.Test.YtmakkmcjocjgmaaGreatCnOwnL
import Derived.Test.YtmakkmcjocjgmaaGreatCn2
import Derived.Test.YtmakkmcjocjgmaaGreatCnBytes
import Derived.Test.YtmakkmcjocjgmaaGreatCnGrow
import Derived.Test.YtmakkmcjocjgmaaGreatCnSlice3

/- Variables that hang from nobody. -/
namespace Go.Proofs.YtmakkmcjocjgmaaGreat.Am
open Go Go.RowKit
set_option maxRecDepth 100000
set_option linter.unusedVariables false
set_option linter.unusedSimpArgs false

def apartL (ways : Int) (m : Nat) : List Link := (List.range m).map fun (k : Nat) => ⟨k, k, k, ways⟩
def apartF (k : Nat) : Forest := ⟨List.replicate k ⟨#[120]⟩, (List.range k).map fun (i : Nat) => (i : Int), List.replicate k (-1), List.replicate k [], List.replicate k []⟩
def apartP (ways : Int) (sizes : List Int) : Parts := ⟨sizes.map fun m => apartL ways m.toNat, sizes.map fun _ => []⟩
theorem apartL_next (ways : Int) (m : Nat) : apartL ways (m + 1) = apartL ways m ++ [⟨m, m, m, ways⟩] := by
  unfold apartL
  rw [List.range_succ, List.map_append]; rfl
theorem apartL_len (ways : Int) (m : Nat) : (apartL ways m).length = m := by unfold apartL; simp
structure ApartR (G : Hp) (ways : Int) (sizes : List Int) (i : Nat) (nds : List (List Value)) : Prop where
  len : nds.length = i
  at_ : ∀ (j : Nat) (h : j < nds.length) (h' : j < sizes.length), ∃ w, nds[j] = [w] ∧ Sl kLink G w (apartL ways sizes[j].toNat)
theorem ApartR.mono {G G' : Hp} (h : G.sees G') {ways : Int} {sizes : List Int} {i : Nat} {nds : List (List Value)} (hr : ApartR G ways sizes i nds) : ApartR G' ways sizes i nds :=
  ⟨hr.len, fun j a b => let ⟨w, h1, h2⟩ := hr.at_ j a b; ⟨w, h1, h2.mono h⟩⟩
theorem ApartR.snoc {G : Hp} {ways : Int} {sizes : List Int} {i : Nat} {nds : List (List Value)} (hr : ApartR G ways sizes i nds) (hi : i < sizes.length) {w : Value} (hs : Sl kLink G w (apartL ways sizes[i].toNat)) : ApartR G ways sizes (i + 1) (nds ++ [[w]]) := by
  have hl := hr.len
  refine ⟨by simp [hl], fun j a b => ?_⟩
  rw [List.length_append, List.length_singleton] at a
  by_cases h : j < nds.length
  · rw [List.getElem_append_left h]; exact hr.at_ j h b
  · obtain rfl : j = nds.length := by omega
    rw [List.getElem_append_right (Nat.le_refl _)]
    simp only [Nat.sub_self, List.getElem_cons_zero]
    subst hl
    exact ⟨w, rfl, hs⟩
theorem rep_next {α : Type} (n : Nat) (x : α) : List.replicate n x ++ [x] = List.replicate (n + 1) x := by rw [List.replicate_succ']
def eStr (v : Value) (i : Nat) : Ent := ⟨1, by decide, v, List.replicate i [.string ⟨#[120]⟩]⟩
def eInt (v : Value) (i : Nat) : Ent := ⟨1, by decide, v, (List.range i).map fun (k : Nat) => [.int .i64 k]⟩
def eNeg (v : Value) (i : Nat) : Ent := ⟨1, by decide, v, List.replicate i [.int .i64 (-1)]⟩
def Vv (v : Value) (i : Nat) : Ent := ⟨1, by decide, v, List.replicate i [.slice none 0 0]⟩
def eNds (v : Value) (nds : List (List Value)) : Ent := ⟨1, by decide, v, nds⟩
theorem range_cells (i : Nat) : ((List.range i).map fun (k : Nat) => [Value.int .i64 k]) ++ [[.int .i64 i]] = (List.range (i + 1)).map fun (k : Nat) => [Value.int .i64 k] := by rw [List.range_succ, List.map_append]; rfl
theorem eStr_next (v w : Value) (i : Nat) : (⟨(eStr v i).sz, (eStr v i).pos, w, (eStr v i).raws ++ [[.string ⟨#[120]⟩]]⟩ : Ent) = eStr w (i + 1) := by unfold eStr; simp only [rep_next]
theorem eInt_next (v w : Value) (i : Nat) : (⟨(eInt v i).sz, (eInt v i).pos, w, (eInt v i).raws ++ [[.int .i64 i]]⟩ : Ent) = eInt w (i + 1) := by unfold eInt; simp only [range_cells]
theorem eNeg_next (v w : Value) (i : Nat) : (⟨(eNeg v i).sz, (eNeg v i).pos, w, (eNeg v i).raws ++ [[.int .i64 (-1)]]⟩ : Ent) = eNeg w (i + 1) := by unfold eNeg; simp only [rep_next]
theorem eNil_next (v w : Value) (i : Nat) : (⟨(Vv v i).sz, (Vv v i).pos, w, (Vv v i).raws ++ [[.slice none 0 0]]⟩ : Ent) = Vv w (i + 1) := by unfold Vv; simp only [rep_next]
theorem eNds_next (v w : Value) (nds : List (List Value)) (x : List Value) : (⟨(eNds v nds).sz, (eNds v nds).pos, w, (eNds v nds).raws ++ [x]⟩ : Ent) = eNds w (nds ++ [x]) := rfl
def BxP (H G : Hp) (b2 b3 : List Value) : Prop := H.le G ∧ H.size + 4 ≤ G.size ∧ G.get H.size = .own 0 [.slice none 0 0, .slice none 0 0, .slice none 0 0, .slice none 0 0, .slice none 0 0] ∧ G.get (H.size + 1) = .own 0 [.slice none 0 0, .slice none 0 0] ∧ G.get (H.size + 2) = .own 0 b2 ∧ G.get (H.size + 3) = .own 0 b3
theorem BxP.le {H G G' : Hp} {b2 b3 : List Value} (h : BxP H G b2 b3) (hle : G.le G') : BxP H G' b2 b3 :=
  ⟨Hp.le_trans h.1 hle, Nat.le_trans h.2.1 hle.1, Xs hle (by have := h.2.1; omega) (by intro e; cases e) h.2.2.1, Xs hle (by have := h.2.1; omega) (by intro e; cases e) h.2.2.2.1, Xs hle (by have := h.2.1; omega) (by intro e; cases e) h.2.2.2.2.1, Xs hle (by have := h.2.1; omega) (by intro e; cases e) h.2.2.2.2.2⟩
theorem BxP.put2 {H G : Hp} {b2 b3 : List Value} (h : BxP H G b2 b3) (b2' : List Value) : BxP H (G.put (H.size + 2) (.own 0 b2')) b2' b3 :=
  ⟨Hp.le_put_new h.1 (by omega) _, h.2.1, by rw [Hp.put_other _ _ (by omega)]; exact h.2.2.1, by rw [Hp.put_other _ _ (by omega)]; exact h.2.2.2.1, Hp.put_same _ _ _, by rw [Hp.put_other _ _ (by omega)]; exact h.2.2.2.2.2⟩
theorem BxP.put3 {H G : Hp} {b2 b3 : List Value} (h : BxP H G b2 b3) (b3' : List Value) : BxP H (G.put (H.size + 3) (.own 0 b3')) b2 b3' :=
  ⟨Hp.le_put_new h.1 (by omega) _, h.2.1, by rw [Hp.put_other _ _ (by omega)]; exact h.2.2.1, by rw [Hp.put_other _ _ (by omega)]; exact h.2.2.2.1, by rw [Hp.put_other _ _ (by omega)]; exact h.2.2.2.2.1, Hp.put_same _ _ _⟩
theorem Zo {H : Hp} {h : 1 ≠ 0} {v : Value} {raws : List (List Value)} {i : Nat} (hs : Sl (kCel 1 h) H v raws) (hl : raws.length = i) : ∃ A c, v = .slice A i c := by
  obtain ⟨A, c, e⟩ := hs.shape
  exact ⟨A, c, by rw [e, hl]⟩
set_option maxHeartbeats 4000000 in
theorem Apart_ok (ways : Int) (sizes : List Int) (u : Value) (H : Hp) (hs : Sl (Yz .i64) H u sizes) (hl : sizes.length ≤ 1000) (hm : ∀ m ∈ sizes, m ≤ 100000) :
    ACalls Tryz.prog 54 #[.int .u64 ways, u] H (fun r H' => ∃ cs ds, r = .tuple #[.agg cs.toArray, .agg ds.toArray] ∧ kForest.rep H' (apartF sizes.length) cs ∧ kParts.rep H' (apartP ways sizes) ds ∧ H.le H') := by
  obtain ⟨Au, cu, rfl⟩ := hs.shape
  refine Xv Tryz.func54 rfl rfl rfl (by simp) ?_
  refine Xe ?_
  refine Xb (by kernel_rfl) ?_
  refine Xy (Yp (l := [.slice none 0 0, .slice none 0 0, .slice none 0 0, .slice none 0 0, .slice none 0 0]) inf26.zero rfl (by decide)) ?_
  refine Xy (Yp (l := [.slice none 0 0, .slice none 0 0]) inf29.zero rfl (by decide)) ?_
  refine Xe ?_
  refine Xb (by kernel_rfl) ?_
  refine Xa (Ys (pl := [(0, 1), (1, 1), (2, 1), (3, 1), (4, 1)]) (r := [.slice _ _ _, .slice _ _ _, .slice _ _ _, .slice _ _ _, .slice _ _ _]) Tryz.underlying26 inf26.zero (by decide) rfl rfl) ?_
  refine Xa (Ys (pl := [(0, 1), (1, 1)]) (r := [.slice _ _ _, .slice _ _ _]) Tryz.underlying29 inf29.zero (by decide) rfl rfl) ?_
  refine Xy (Yp (l := [.slice none 0 0, .slice none 0 0, .slice none 0 0, .slice none 0 0, .slice none 0 0]) inf26.zero rfl (by decide)) ?_
  refine Xy (Yp (l := [.slice none 0 0, .slice none 0 0]) inf29.zero rfl (by decide)) ?_
  refine Xw (X9 (vs := [.slice _ _ _, .slice _ _ _, .slice _ _ _, .slice _ _ _, .slice _ _ _]) rfl rfl inf26.size X6 Ya rfl rfl ?_)
  refine Xw (X9 (vs := [.slice _ _ _, .slice _ _ _]) rfl rfl inf29.size X6 Ya rfl rfl ?_)
  refine Xe ?_
  refine Xe ?_
  refine Xb (by kernel_rfl) ?_
  refine Xa (Xo rfl) ?_
  refine Yo ?_
  refine Za (fun n t H' => ∃ (i : Nat) (G : Hp) (v0 v1 v2 v3 v4 v5 v6 : Value) (nds : List (List Value)), i ≤ sizes.length ∧ n = sizes.length - i ∧ BxP H G [v0, v1, v2, v3, v4] [v5, v6] ∧ OwnL G [eStr v0 i, eInt v1 i, eNeg v2 i, Vv v3 i, Vv v4 i, eNds v5 nds, Vv v6 i] H' ∧ ApartR G ways sizes i nds ∧ t 0 = .int .u64 ways ∧ t 1 = .slice Au sizes.length cu ∧ t 4 = .pointer (some ⟨H.size, 0, none⟩) ∧ t 5 = .pointer (some ⟨H.size + 1, 0, none⟩) ∧ t 6 = .pointer (some ⟨H.size + 2, 0, none⟩) ∧ t 7 = .pointer (some ⟨H.size + 3, 0, none⟩) ∧ t 8 = .int .i64 i) (sizes.length) (⟨0, _, .slice none 0 0, .slice none 0 0, .slice none 0 0, .slice none 0 0, .slice none 0 0, .slice none 0 0, .slice none 0 0, [], by omega, rfl, ⟨t_le, by simp, X6, X6, X6, X6⟩, ⟨_, OwnP.nil _ _, _, OwnP.nil _ _, _, OwnP.nil _ _, _, OwnP.nil _ _, _, OwnP.nil _ _, _, OwnP.nil _ _, _, OwnP.nil _ _, rfl⟩, ⟨rfl, fun j h _ => absurd h (Nat.not_lt_zero _)⟩, rfl, rfl, rfl, rfl, rfl, rfl, rfl⟩) ?_
  rintro n t H1 ⟨i, G, v0, v1, v2, v3, v4, v5, v6, nds, hi, rfl, hb, hown, hr, e0, e1, e4, e5, e6, e7, e8⟩
  obtain ⟨A0, k0, rfl⟩ := Zo (hown.sl (eStr v0 i) (by simp)) (List.length_replicate)
  obtain ⟨A1, k1, rfl⟩ := Zo (hown.sl (eInt v1 i) (by simp)) (show ((List.range i).map fun (k : Nat) => [Value.int .i64 k]).length = i by simp)
  obtain ⟨A2, k2, rfl⟩ := Zo (hown.sl (eNeg v2 i) (by simp)) (List.length_replicate)
  obtain ⟨A3, k3, rfl⟩ := Zo (hown.sl (Vv v3 i) (by simp)) (List.length_replicate)
  obtain ⟨A4, k4, rfl⟩ := Zo (hown.sl (Vv v4 i) (by simp)) (List.length_replicate)
  obtain ⟨A5, k5, rfl⟩ := Zo (hown.sl (eNds v5 nds) (by simp)) hr.len
  obtain ⟨A6, k6, rfl⟩ := Zo (hown.sl (Vv v6 i) (by simp)) (List.length_replicate)
  have bH := hb.le hown.le
  obtain ⟨leH1, zH1, q0, q1, q2, q3⟩ := id bH
  have zz := hown.size
  refine Xe ?_
  refine Xe ?_
  refine Xb (by kernel_rfl) ?_
  refine Xa (Xf Xn) ?_
  refine Xa (X7 Xn) ?_
  refine Xa (Yr rfl Tryz.underlying23) ?_
  refine Xa (Zh rfl rfl) ?_
  refine X8 rfl rfl ?_ ?_
  intro hc1
  (try simp only [decide_eq_true_eq, decide_eq_false_iff_not, Bool.not_eq_true', Bool.not_eq_false'] at hc1)
  refine Yf ?_
  refine Xe ?_
  refine Yo ?_
  refine Xe ?_
  have hix : i < sizes.length := by omega
  have zz5 := hown.size
  have hL := (((hown.push (.own 1 [.string ⟨#[120]⟩])).push (.own 1 [.int .i64 i])).push (.own 1 [.int .i64 (-1)]))
  have leP : G.le (((G.push (.own 1 [.string ⟨#[120]⟩])).push (.own 1 [.int .i64 i])).push (.own 1 [.int .i64 (-1)])) := Hp.le_trans (Hp.le_trans (Hp.le_push (G) (.own 1 [.string ⟨#[120]⟩])) (Hp.le_push ((G.push (.own 1 [.string ⟨#[120]⟩]))) (.own 1 [.int .i64 i]))) (Hp.le_push (((G.push (.own 1 [.string ⟨#[120]⟩])).push (.own 1 [.int .i64 i]))) (.own 1 [.int .i64 (-1)]))
  have bL := hb.le leP
  have rL := hr.mono leP.sees
  have l0 : (((G.push (.own 1 [.string ⟨#[120]⟩])).push (.own 1 [.int .i64 i])).push (.own 1 [.int .i64 (-1)])).get (H1.size) = .own 1 [.string ⟨#[120]⟩] := by rw [zz5]; exact X6
  have l1 : (((G.push (.own 1 [.string ⟨#[120]⟩])).push (.own 1 [.int .i64 i])).push (.own 1 [.int .i64 (-1)])).get (H1.size + 1) = .own 1 [.int .i64 i] := by rw [zz5]; exact X6
  have l2 : (((G.push (.own 1 [.string ⟨#[120]⟩])).push (.own 1 [.int .i64 i])).push (.own 1 [.int .i64 (-1)])).get (H1.size + 2) = .own 1 [.int .i64 (-1)] := by rw [zz5]; exact X6
  have zL : H1.size + 3 ≤ (((G.push (.own 1 [.string ⟨#[120]⟩])).push (.own 1 [.int .i64 i])).push (.own 1 [.int .i64 (-1)])).size := by simp; omega
  obtain ⟨GP, hGP⟩ : ∃ GP, GP = (((G.push (.own 1 [.string ⟨#[120]⟩])).push (.own 1 [.int .i64 i])).push (.own 1 [.int .i64 (-1)])) := ⟨_, rfl⟩
  rw [← hGP] at hL bL rL zL l0 l1 l2
  clear hGP leP
  refine Yv (by kernel_rfl) (Y0 (B := [0, 1, 0, 7, 0, 16, 0, 64, 255, 0, 512, 0, 4095, 1599, 16383, 32767, 65535, 131071, 262143]) (π := [0, 1, 2, 4, 5, 6, 7, 9, 10, 11, 3, 13, 8, 12, 14, 15, 16, 17, 18]) (by kernel_rfl)) ?_
  refine Xd rfl rfl (Xg (off := 0) Xn Tryz.underlying26 Xn inf22.size (by decide) Xn) Xr ?_
  refine Xd rfl rfl (Xk rfl Tryz.underlying22 rfl Xq) Xr ?_
  first | refine Y7 rfl rfl (Yn (r := [.string _]) Tryz.underlying22 inf9.size inf9.zero rfl (by decide) (by decide) (by decide) rfl) ?_
  refine Xd rfl rfl (Xg (off := 1) Xn Tryz.underlying26 Xn inf23.size (by decide) Xn) Xr ?_
  refine Xd rfl rfl (Xk rfl Tryz.underlying23 rfl Xq) Xr ?_
  refine Xd rfl rfl (Xf Xn) Xr ?_
  first | refine Y7 rfl rfl (Yn (r := [.int .i64 _]) Tryz.underlying23 inf3.size inf3.zero rfl (by decide) (by decide) (by decide) rfl) ?_
  refine Xd rfl rfl (Xg (off := 2) Xn Tryz.underlying26 Xn inf23.size (by decide) Xn) Xr ?_
  refine Xd rfl rfl (Xk rfl Tryz.underlying23 rfl Xq) Xr ?_
  first | refine Y7 rfl rfl (Yn (r := [.int .i64 _]) Tryz.underlying23 inf3.size inf3.zero rfl (by decide) (by decide) (by decide) rfl) ?_
  obtain ⟨Ga0, leGa0, ha0, back0⟩ := hL.rot.last
  have zGa := leGa0.1
  obtain ⟨_, zA, qa, qb, qc, qd⟩ := bL.le leGa0
  have m0 := Xs leGa0 (by omega) (by intro e; cases e) l0
  have m1 := Xs leGa0 (by omega) (by intro e; cases e) l1
  have m2 := Xs leGa0 (by omega) (by intro e; cases e) l2
  refine Ym rfl rfl (Ent.append ha0 Tryz.underlying22 inf9 Xn Xn rfl (lb := H1.size) (by omega) m0 rfl (by intro v hv; simp at hv; subst hv; rfl) (by simp only [eStr, List.length_replicate]; omega) (by decide) ?_)
  rintro w0 Gb0 Hb0 leb0 hb0
  have hsameO := Ent.sameO ha0 leb0 hb0
  obtain ⟨Gc0, lec0, hc0⟩ := back0 Gb0 Hb0 _ leb0 hb0
  rw [eStr_next] at hc0 hb0
  obtain ⟨W0, cw0, rfl⟩ : ∃ A c, w0 = Value.slice A (i + 1) c := Zo (i := i + 1) (OwnP.sl hb0) (by simp [eStr])
  have bb0 := (bL.le lec0).le hc0.le
  obtain ⟨_, zb, qa0, qb0, qc0, qd0⟩ := id bb0
  have l1b := Xs hc0.le (by have := lec0.1; omega) (by intro e; cases e) (Xs lec0 (by omega) (by intro e; cases e) l1)
  have l2b := Xs hc0.le (by have := lec0.1; omega) (by intro e; cases e) (Xs lec0 (by omega) (by intro e; cases e) l2)
  refine ⟨Yh, ?_⟩
  clear hsameO qa qb qc qd m0 m1 m2
  clear l1b
  have l1 := Xs lec0 (by omega) (by intro e; cases e) l1
  clear l2b
  have l2 := Xs lec0 (by omega) (by intro e; cases e) l2
  replace bL := bL.le lec0
  replace rL := rL.mono lec0.sees
  replace zL := Nat.le_trans zL lec0.1
  clear hL
  have hL := hc0
  have zH0 := hL.size
  refine Xd rfl rfl (Xg (off := 0) Xn Tryz.underlying26 Xn inf22.size (by decide) Xn) Xr ?_
  obtain ⟨Ga1, leGa1, ha1, back1⟩ := hL.rot.last
  have zGa := leGa1.1
  obtain ⟨_, zA, qa, qb, qc, qd⟩ := bL.le leGa1
  have m0 := Xs leGa1 (by omega) (by intro e; cases e) l1
  have m1 := Xs leGa1 (by omega) (by intro e; cases e) l2
  refine Ym rfl rfl (Ent.append ha1 Tryz.underlying23 inf3 Xn Xn rfl (lb := H1.size + 1) (by omega) m0 rfl (by intro v hv; simp at hv; subst hv; rfl) (by simp only [eInt, List.length_map, List.length_range]; omega) (by decide) ?_)
  rintro w1 Gb1 Hb1 leb1 hb1
  have hsameO := Ent.sameO ha1 leb1 hb1
  obtain ⟨Gc1, lec1, hc1⟩ := back1 Gb1 Hb1 _ leb1 hb1
  rw [eInt_next] at hc1 hb1
  obtain ⟨W1, cw1, rfl⟩ : ∃ A c, w1 = Value.slice A (i + 1) c := Zo (i := i + 1) (OwnP.sl hb1) (by simp [eInt])
  have bb1 := (bL.le lec1).le hc1.le
  obtain ⟨_, zb, qa1, qb1, qc1, qd1⟩ := id bb1
  have l2b := Xs hc1.le (by have := lec1.1; omega) (by intro e; cases e) (Xs lec1 (by omega) (by intro e; cases e) l2)
  refine ⟨Yh, ?_⟩
  clear hsameO qa qb qc qd m0 m1
  clear l2b
  have l2 := Xs lec1 (by omega) (by intro e; cases e) l2
  replace bL := bL.le lec1
  replace rL := rL.mono lec1.sees
  replace zL := Nat.le_trans zL lec1.1
  clear hL
  have hL := hc1
  have zH1 := hL.size
  obtain ⟨Ga2, leGa2, ha2, back2⟩ := hL.rot.last
  have zGa := leGa2.1
  obtain ⟨_, zA, qa, qb, qc, qd⟩ := bL.le leGa2
  have m0 := Xs leGa2 (by omega) (by intro e; cases e) l2
  refine Ym rfl rfl (Ent.append ha2 Tryz.underlying23 inf3 Xn Xn rfl (lb := H1.size + 2) (by omega) m0 rfl (by intro v hv; simp at hv; subst hv; rfl) (by simp only [eNeg, List.length_replicate]; omega) (by decide) ?_)
  rintro w2 Gb2 Hb2 leb2 hb2
  have hsameO := Ent.sameO ha2 leb2 hb2
  obtain ⟨Gc2, lec2, hc2⟩ := back2 Gb2 Hb2 _ leb2 hb2
  rw [eNeg_next] at hc2 hb2
  obtain ⟨W2, cw2, rfl⟩ : ∃ A c, w2 = Value.slice A (i + 1) c := Zo (i := i + 1) (OwnP.sl hb2) (by simp [eNeg])
  have bb2 := (bL.le lec2).le hc2.le
  obtain ⟨_, zb, qa2, qb2, qc2, qd2⟩ := id bb2
  refine ⟨Yh, ?_⟩
  clear hsameO qa qb qc qd m0
  replace bL := bL.le lec2
  replace rL := rL.mono lec2.sees
  replace zL := Nat.le_trans zL lec2.1
  clear hL
  have hL := hc2
  have zH2 := hL.size
  first | refine Ym rfl rfl (Yu rfl rfl rfl inf22.size X6 Ya rfl ?_)
  refine ⟨Yh, ?_⟩
  refine Xd rfl rfl (Xg (off := 1) Xn Tryz.underlying26 Xn inf23.size (by decide) Xn) Xr ?_
  first | refine Ym rfl rfl (Yu rfl rfl rfl inf23.size X6 Ya rfl ?_)
  refine ⟨Yh, ?_⟩
  refine Xd rfl rfl (Xg (off := 2) Xn Tryz.underlying26 Xn inf23.size (by decide) Xn) Xr ?_
  first | refine Ym rfl rfl (Yu rfl rfl rfl inf23.size X6 Ya rfl ?_)
  refine ⟨Yh, ?_⟩
  refine Xe ?_
  obtain ⟨H6, hH6⟩ : ∃ H6, H6 = Hb2.put (H.size + 2) (.own 0 [.slice W0 (i + 1) cw0, .slice W1 (i + 1) cw1, .slice W2 (i + 1) cw2, .slice A3 i k3, .slice A4 i k4]) := ⟨_, rfl⟩
  obtain ⟨G6, hG6⟩ : ∃ G6, G6 = Gc2.put (H.size + 2) (.own 0 [.slice W0 (i + 1) cw0, .slice W1 (i + 1) cw1, .slice W2 (i + 1) cw2, .slice A3 i k3, .slice A4 i k4]) := ⟨_, rfl⟩
  have ownG6 := hL.put_box (by have := bL.2.1; omega) bL.2.2.2.2.1 [.slice W0 (i + 1) cw0, .slice W1 (i + 1) cw1, .slice W2 (i + 1) cw2, .slice A3 i k3, .slice A4 i k4]
  have bG6 := bL.put2 [.slice W0 (i + 1) cw0, .slice W1 (i + 1) cw1, .slice W2 (i + 1) cw2, .slice A3 i k3, .slice A4 i k4]
  have rG6 := rL.mono (Hp.sees_box (cs' := [.slice W0 (i + 1) cw0, .slice W1 (i + 1) cw1, .slice W2 (i + 1) cw2, .slice A3 i k3, .slice A4 i k4]) _ bL.2.2.2.2.1)
  rw [← hG6] at ownG6 bG6 rG6
  rw [← hH6] at ownG6
  change ACode true _ _ _ _ _ (((Hb2.put (H.size + 2) (.own 0 [.slice W0 (i + 1) cw0, .slice A1 i k1, .slice A2 i k2, .slice A3 i k3, .slice A4 i k4])).put (H.size + 2) (.own 0 [.slice W0 (i + 1) cw0, .slice W1 (i + 1) cw1, .slice A2 i k2, .slice A3 i k3, .slice A4 i k4])).put (H.size + 2) (.own 0 [.slice W0 (i + 1) cw0, .slice W1 (i + 1) cw1, .slice W2 (i + 1) cw2, .slice A3 i k3, .slice A4 i k4]))
  rw [Hp.put_put]
  rw [Hp.put_put]
  rw [← hH6]
  clear hH6 hG6 hL bL rL zL
  have bbH6 := bG6.le ownG6.le
  obtain ⟨_, zzH6, s0H6, s1H6, s2H6, s3H6⟩ := id bbH6
  have zz6 := ownG6.size
  have hL := ((ownG6.push (.own 1 [.slice none 0 0])).push (.own 1 [.slice none 0 0]))
  have leP : G6.le ((G6.push (.own 1 [.slice none 0 0])).push (.own 1 [.slice none 0 0])) := Hp.le_trans (Hp.le_push (G6) (.own 1 [.slice none 0 0])) (Hp.le_push ((G6.push (.own 1 [.slice none 0 0]))) (.own 1 [.slice none 0 0]))
  have bL := bG6.le leP
  have rL := rG6.mono leP.sees
  have l0 : ((G6.push (.own 1 [.slice none 0 0])).push (.own 1 [.slice none 0 0])).get (H6.size) = .own 1 [.slice none 0 0] := by rw [zz6]; exact X6
  have l1 : ((G6.push (.own 1 [.slice none 0 0])).push (.own 1 [.slice none 0 0])).get (H6.size + 1) = .own 1 [.slice none 0 0] := by rw [zz6]; exact X6
  have zL : H6.size + 2 ≤ ((G6.push (.own 1 [.slice none 0 0])).push (.own 1 [.slice none 0 0])).size := by simp; omega
  obtain ⟨GP, hGP⟩ : ∃ GP, GP = ((G6.push (.own 1 [.slice none 0 0])).push (.own 1 [.slice none 0 0])) := ⟨_, rfl⟩
  rw [← hGP] at hL bL rL zL l0 l1
  clear hGP leP
  refine Yv (by kernel_rfl) (Y0 (B := [0, 1, 0, 7, 0, 16, 0, 127, 63, 511, 1023, 2047]) (π := [0, 1, 2, 4, 5, 6, 3, 8, 7, 9, 10, 11]) (by kernel_rfl)) ?_
  refine Xd rfl rfl (Xg (off := 3) Xn Tryz.underlying26 Xn inf24.size (by decide) Xn) Xr ?_
  refine Xd rfl rfl (Xk rfl Tryz.underlying24 rfl Xq) Xr ?_
  refine Y7 rfl rfl (Yn (r := [.slice _ _ _]) Tryz.underlying24 inf23.size inf23.zero rfl (by decide) (by decide) (by decide) rfl) ?_
  refine Xd rfl rfl (Xg (off := 4) Xn Tryz.underlying26 Xn inf24.size (by decide) Xn) Xr ?_
  refine Xd rfl rfl (Xk rfl Tryz.underlying24 rfl Xq) Xr ?_
  refine Y7 rfl rfl (Yn (r := [.slice _ _ _]) Tryz.underlying24 inf23.size inf23.zero rfl (by decide) (by decide) (by decide) rfl) ?_
  obtain ⟨Ga3, leGa3, ha3, back3⟩ := hL.rot.last
  have zGa := leGa3.1
  obtain ⟨_, zA, qa, qb, qc, qd⟩ := bL.le leGa3
  have m0 := Xs leGa3 (by omega) (by intro e; cases e) l0
  have m1 := Xs leGa3 (by omega) (by intro e; cases e) l1
  refine Ym rfl rfl (Ent.append ha3 Tryz.underlying24 inf23 Xn Xn rfl (lb := H6.size) (by omega) m0 rfl (by intro v hv; simp at hv; subst hv; rfl) (by simp only [Vv, List.length_replicate]; omega) (by decide) ?_)
  rintro w3 Gb3 Hb3 leb3 hb3
  have hsameO := Ent.sameO ha3 leb3 hb3
  obtain ⟨Gc3, lec3, hc3⟩ := back3 Gb3 Hb3 _ leb3 hb3
  rw [eNil_next] at hc3 hb3
  obtain ⟨W3, cw3, rfl⟩ : ∃ A c, w3 = Value.slice A (i + 1) c := Zo (i := i + 1) (OwnP.sl hb3) (by simp [Vv])
  have bb3 := (bL.le lec3).le hc3.le
  obtain ⟨_, zb, qa3, qb3, qc3, qd3⟩ := id bb3
  have l1b := Xs hc3.le (by have := lec3.1; omega) (by intro e; cases e) (Xs lec3 (by omega) (by intro e; cases e) l1)
  refine ⟨Yh, ?_⟩
  clear hsameO qa qb qc qd m0 m1
  clear l1b
  have l1 := Xs lec3 (by omega) (by intro e; cases e) l1
  replace bL := bL.le lec3
  replace rL := rL.mono lec3.sees
  replace zL := Nat.le_trans zL lec3.1
  clear hL
  have hL := hc3
  have zH3 := hL.size
  refine Xd rfl rfl (Xg (off := 3) Xn Tryz.underlying26 Xn inf24.size (by decide) Xn) Xr ?_
  obtain ⟨Ga4, leGa4, ha4, back4⟩ := hL.rot.last
  have zGa := leGa4.1
  obtain ⟨_, zA, qa, qb, qc, qd⟩ := bL.le leGa4
  have m0 := Xs leGa4 (by omega) (by intro e; cases e) l1
  refine Ym rfl rfl (Ent.append ha4 Tryz.underlying24 inf23 Xn Xn rfl (lb := H6.size + 1) (by omega) m0 rfl (by intro v hv; simp at hv; subst hv; rfl) (by simp only [Vv, List.length_replicate]; omega) (by decide) ?_)
  rintro w4 Gb4 Hb4 leb4 hb4
  have hsameO := Ent.sameO ha4 leb4 hb4
  obtain ⟨Gc4, lec4, hc4⟩ := back4 Gb4 Hb4 _ leb4 hb4
  rw [eNil_next] at hc4 hb4
  obtain ⟨W4, cw4, rfl⟩ : ∃ A c, w4 = Value.slice A (i + 1) c := Zo (i := i + 1) (OwnP.sl hb4) (by simp [Vv])
  have bb4 := (bL.le lec4).le hc4.le
  obtain ⟨_, zb, qa4, qb4, qc4, qd4⟩ := id bb4
  refine ⟨Yh, ?_⟩
  clear hsameO qa qb qc qd m0
  replace bL := bL.le lec4
  replace rL := rL.mono lec4.sees
  replace zL := Nat.le_trans zL lec4.1
  clear hL
  have hL := hc4
  have zH4 := hL.size
  first | refine Ym rfl rfl (Yu rfl rfl rfl inf24.size X6 Ya rfl ?_)
  refine ⟨Yh, ?_⟩
  refine Xd rfl rfl (Xg (off := 4) Xn Tryz.underlying26 Xn inf24.size (by decide) Xn) Xr ?_
  first | refine Ym rfl rfl (Yu rfl rfl rfl inf24.size X6 Ya rfl ?_)
  refine ⟨Yh, ?_⟩
  refine Xe ?_
  obtain ⟨H7, hH7⟩ : ∃ H7, H7 = Hb4.put (H.size + 2) (.own 0 [.slice W0 (i + 1) cw0, .slice W1 (i + 1) cw1, .slice W2 (i + 1) cw2, .slice W3 (i + 1) cw3, .slice W4 (i + 1) cw4]) := ⟨_, rfl⟩
  obtain ⟨G7, hG7⟩ : ∃ G7, G7 = Gc4.put (H.size + 2) (.own 0 [.slice W0 (i + 1) cw0, .slice W1 (i + 1) cw1, .slice W2 (i + 1) cw2, .slice W3 (i + 1) cw3, .slice W4 (i + 1) cw4]) := ⟨_, rfl⟩
  have ownG7 := hL.put_box (by have := bL.2.1; omega) bL.2.2.2.2.1 [.slice W0 (i + 1) cw0, .slice W1 (i + 1) cw1, .slice W2 (i + 1) cw2, .slice W3 (i + 1) cw3, .slice W4 (i + 1) cw4]
  have bG7 := bL.put2 [.slice W0 (i + 1) cw0, .slice W1 (i + 1) cw1, .slice W2 (i + 1) cw2, .slice W3 (i + 1) cw3, .slice W4 (i + 1) cw4]
  have rG7 := rL.mono (Hp.sees_box (cs' := [.slice W0 (i + 1) cw0, .slice W1 (i + 1) cw1, .slice W2 (i + 1) cw2, .slice W3 (i + 1) cw3, .slice W4 (i + 1) cw4]) _ bL.2.2.2.2.1)
  rw [← hG7] at ownG7 bG7 rG7
  rw [← hH7] at ownG7
  change ACode true _ _ _ _ _ ((Hb4.put (H.size + 2) (.own 0 [.slice W0 (i + 1) cw0, .slice W1 (i + 1) cw1, .slice W2 (i + 1) cw2, .slice W3 (i + 1) cw3, .slice A4 i k4])).put (H.size + 2) (.own 0 [.slice W0 (i + 1) cw0, .slice W1 (i + 1) cw1, .slice W2 (i + 1) cw2, .slice W3 (i + 1) cw3, .slice W4 (i + 1) cw4]))
  rw [Hp.put_put]
  rw [← hH7]
  clear hH7 hG7 hL bL rL zL
  have bbH7 := bG7.le ownG7.le
  obtain ⟨_, zzH7, s0H7, s1H7, s2H7, s3H7⟩ := id bbH7
  have lit7 := OwnP.lit kLink H7 (cs := [])
  have own7 := ownG7.push .dead
  have b7 := bG7.le (G7.le_push .dead)
  have r7 := rG7.mono (G7.le_push .dead).sees
  obtain ⟨bs, os, es, hbs, hcs⟩ := (hs.mono leH1.sees).int_at (i := (i : Int)) (by omega) (by omega)
  subst es
  rw [Int.toNat_natCast, Y9 hix] at hcs
  have hmi := hm _ (List.getElem_mem hix)
  have hcs0 : H.cell? bs (os + i * 1) = some (.int .i64 sizes[i]) := by
    obtain ⟨b9, o9, e9, hb9, hc9⟩ := hs.int_at (i := (i : Int)) (by omega) (by omega)
    simp only [Option.some.injEq, Addr.mk.injEq, and_true] at e9
    obtain ⟨rfl, rfl⟩ := e9
    rwa [Int.toNat_natCast, Y9 hix] at hc9
  have hbs0 : bs < H.size := by
    obtain ⟨b9, o9, e9, hb9, hc9⟩ := hs.int_at (i := (i : Int)) (by omega) (by omega)
    simp only [Option.some.injEq, Addr.mk.injEq, and_true] at e9
    obtain ⟨rfl, rfl⟩ := e9
    exact hb9
  have hlen7 : nds.length = i := hr.len
  refine Xb (by kernel_rfl) ?_
  first | refine Xy (Yn (r := []) Tryz.underlying83 inf96.size inf96.zero rfl (by decide) (by decide) (by decide) rfl) ?_
  refine Xa (Ye rfl) ?_
  refine Xe ?_
  refine Xe ?_
  refine Xb (by kernel_rfl) ?_
  refine Xa (Xo rfl) ?_
  refine Yo ?_
  refine Za (fun n t H' => ∃ (k : Nat) (Gx Gm : Hp) (C : Option Addr) (c9 : Nat), k ≤ sizes[i].toNat ∧ n = sizes[i].toNat - k ∧ BxP H Gx [.slice W0 (i + 1) cw0, .slice W1 (i + 1) cw1, .slice W2 (i + 1) cw2, .slice W3 (i + 1) cw3, .slice W4 (i + 1) cw4] [.slice A5 i k5, .slice A6 i k6] ∧ OwnL Gx [eNds (.slice A5 i k5) nds, Vv (.slice A6 i k6) i, eStr (.slice W0 (i + 1) cw0) (i + 1), eInt (.slice W1 (i + 1) cw1) (i + 1), eNeg (.slice W2 (i + 1) cw2) (i + 1), Vv (.slice W3 (i + 1) cw3) (i + 1), Vv (.slice W4 (i + 1) cw4) (i + 1)] Gm ∧ ApartR Gx ways sizes i nds ∧ OwnP kLink Gm H' (.slice C k c9) (apartL ways k) ∧ t 0 = .int .u64 ways ∧ t 1 = .slice (some ⟨bs, os, none⟩) sizes.length cu ∧ t 4 = .pointer (some ⟨H.size, 0, none⟩) ∧ t 5 = .pointer (some ⟨H.size + 1, 0, none⟩) ∧ t 6 = .pointer (some ⟨H.size + 2, 0, none⟩) ∧ t 7 = .pointer (some ⟨H.size + 3, 0, none⟩) ∧ t 8 = .int .i64 i ∧ t 9 = .slice C k c9 ∧ t 10 = .int .i64 k) (sizes[i].toNat) (⟨0, _, _, _, _, by omega, rfl, b7, own7, r7, lit7, e0, e1, e4, e5, e6, e7, e8, rfl, rfl⟩) ?_
  rintro n t H8 ⟨k, Gx, Gm, C, c9, hk, rfl, bx, ownx, rx, ownl, e0, e1, e4, e5, e6, e7, e8, e9, e10⟩
  have leH8 := (bx.le (Hp.le_trans ownx.le ownl.le)).1
  have hcs8 := leH8.cell1 hbs0 hcs0
  have hll := apartL_len ways k
  have zl := ownl.size
  refine Xe ?_
  refine Xe ?_
  refine Xb (by kernel_rfl) ?_
  refine Xa (Xf Xn) ?_
  refine Xa (X7 Xn) ?_
  refine Xa (Xf Xn) ?_
  refine Xa (Xz rfl rfl Tryz.underlying23 inf3.size Yc Yc) ?_
  refine Xa (Xk rfl Tryz.underlying3 rfl Xq) ?_
  refine Xa (Zh rfl rfl) ?_
  refine X8 rfl rfl ?_ ?_
  intro hc2
  (try simp only [decide_eq_true_eq, decide_eq_false_iff_not, Bool.not_eq_true', Bool.not_eq_false'] at hc2)
  refine Yf ?_
  refine Xe ?_
  refine Yo ?_
  refine Xb (by kernel_rfl) ?_
  refine Xa (X7 Xn) ?_
  refine Xa (Xf Xn) ?_
  refine Xa (Xf Xn) ?_
  refine Xa (Xf Xn) ?_
  refine Xa (Xf Xn) ?_
  refine Xa (Ys (pl := [(0, 1), (1, 1), (2, 1), (3, 1)]) (r := [.int .i64 _, .int .i64 _, .int .i64 _, .int .u64 _]) Tryz.underlying96 inf96.zero (by decide) rfl rfl) ?_
  first | refine Xy (Yn (r := [.int .i64 _, .int .i64 _, .int .i64 _, .int .u64 _]) Tryz.underlying83 inf96.size inf96.zero rfl (by decide) (by decide) (by decide) rfl) ?_
  refine Xw (OwnP.append (ys := [⟨k, k, k, ways⟩]) (ownl.push _) Tryz.underlying83 inf96 Xn Xn rfl (Ve (k := kLink) rfl rfl ownl.size rfl) (by rw [hll]; simp only [List.length_singleton]; omega) (by rw [hll]; simp only [List.length_singleton]; omega) ?_)
  rintro w9 G9 H9 le9 own9
  obtain ⟨C9, c99, e99⟩ := own9.shape
  rw [← apartL_next] at own9
  rw [List.length_append, hll, List.length_singleton] at e99
  subst e99
  obtain ⟨Gy, ley, owny⟩ := ownx.later (Hp.le_trans (Gm.le_push _) le9)
  refine Xa (Ye rfl) ?_
  refine Xb (by kernel_rfl) ?_
  refine Xa (Xf Xn) ?_
  refine Xa (Yw rfl rfl Y4) ?_
  refine Xa (Xo rfl) ?_
  exact ⟨sizes[i].toNat - (k + 1), by omega, k + 1, Gy, G9, C9, c99, by omega, rfl, bx.le ley, owny, rx.mono ley.sees, own9, e0, e1, e4, e5, e6, e7, e8, rfl, rfl⟩
  intro hc2
  (try simp only [decide_eq_true_eq, decide_eq_false_iff_not, Bool.not_eq_true', Bool.not_eq_false'] at hc2)
  refine Y5 ?_
  obtain rfl : k = sizes[i].toNat := by omega
  obtain ⟨Gy, ley, owny⟩ := ownx.later ownl.le
  have by' := bx.le ley
  have slN := owny.below (k' := kLink) (fun st => Y6 st) (by intro e he; simp at he; rcases he with rfl | rfl | rfl | rfl | rfl | rfl | rfl <;> exact (show (1 : Nat) ≠ 4 by decide)) ownl.sl
  have ry := rx.mono ley.sees
  obtain ⟨_, zz8, s08, s18, s28, s38⟩ := by'.le owny.le
  have zz12 := owny.size
  have hL := ((owny.push (.own 1 [.slice C sizes[i].toNat c9])).push (.own 1 [.slice none 0 0]))
  have leP : Gy.le ((Gy.push (.own 1 [.slice C sizes[i].toNat c9])).push (.own 1 [.slice none 0 0])) := Hp.le_trans (Hp.le_push (Gy) (.own 1 [.slice C sizes[i].toNat c9])) (Hp.le_push ((Gy.push (.own 1 [.slice C sizes[i].toNat c9]))) (.own 1 [.slice none 0 0]))
  have bL := by'.le leP
  have rL := ry.mono leP.sees
  have sN := slN.mono leP.sees
  have l0 : ((Gy.push (.own 1 [.slice C sizes[i].toNat c9])).push (.own 1 [.slice none 0 0])).get (H8.size) = .own 1 [.slice C sizes[i].toNat c9] := by rw [zz12]; exact X6
  have l1 : ((Gy.push (.own 1 [.slice C sizes[i].toNat c9])).push (.own 1 [.slice none 0 0])).get (H8.size + 1) = .own 1 [.slice none 0 0] := by rw [zz12]; exact X6
  have zL : H8.size + 2 ≤ ((Gy.push (.own 1 [.slice C sizes[i].toNat c9])).push (.own 1 [.slice none 0 0])).size := by simp; omega
  obtain ⟨GP, hGP⟩ : ∃ GP, GP = ((Gy.push (.own 1 [.slice C sizes[i].toNat c9])).push (.own 1 [.slice none 0 0])) := ⟨_, rfl⟩
  rw [← hGP] at hL bL rL zL sN l0 l1
  clear hGP leP
  refine Yv (by kernel_rfl) (Y0 (B := [0, 1, 0, 4, 15, 0, 32, 0, 255, 127, 1023, 2047, 4095]) (π := [0, 1, 2, 3, 5, 6, 7, 4, 9, 8, 10, 11, 12]) (by kernel_rfl)) ?_
  refine Xd rfl rfl (Xg (off := 0) Xn Tryz.underlying29 Xn inf27.size (by decide) Xn) Xr ?_
  refine Xd rfl rfl (Xk rfl Tryz.underlying27 rfl Xq) Xr ?_
  refine Xd rfl rfl (X7 Xn) Xr ?_
  refine Y7 rfl rfl (Yn (r := [.slice _ _ _]) Tryz.underlying27 inf83.size inf83.zero rfl (by decide) (by decide) (by decide) rfl) ?_
  refine Xd rfl rfl (Xg (off := 1) Xn Tryz.underlying29 Xn inf27.size (by decide) Xn) Xr ?_
  refine Xd rfl rfl (Xk rfl Tryz.underlying27 rfl Xq) Xr ?_
  refine Y7 rfl rfl (Yn (r := [.slice _ _ _]) Tryz.underlying27 inf83.size inf83.zero rfl (by decide) (by decide) (by decide) rfl) ?_
  obtain ⟨Ga5, leGa5, ha5, back5⟩ := hL.rot.last
  have zGa := leGa5.1
  obtain ⟨_, zA, qa, qb, qc, qd⟩ := bL.le leGa5
  have m0 := Xs leGa5 (by omega) (by intro e; cases e) l0
  have m1 := Xs leGa5 (by omega) (by intro e; cases e) l1
  refine Ym rfl rfl (Ent.append ha5 Tryz.underlying27 inf83 Xn Xn rfl (lb := H8.size) (by omega) m0 rfl (by intro v hv; simp at hv; subst hv; rfl) (by simp only [eNds, rL.len]; omega) (by decide) ?_)
  rintro w5 Gb5 Hb5 leb5 hb5
  have hsameO := Ent.sameO ha5 leb5 hb5
  obtain ⟨Gc5, lec5, hc5⟩ := back5 Gb5 Hb5 _ leb5 hb5
  rw [eNds_next] at hc5 hb5
  obtain ⟨W5, cw5, rfl⟩ : ∃ A c, w5 = Value.slice A (i + 1) c := Zo (i := i + 1) (OwnP.sl hb5) (by simp [eNds, rL.len])
  have bb5 := (bL.le lec5).le hc5.le
  obtain ⟨_, zb, qa5, qb5, qc5, qd5⟩ := id bb5
  have l1b := Xs hc5.le (by have := lec5.1; omega) (by intro e; cases e) (Xs lec5 (by omega) (by intro e; cases e) l1)
  refine ⟨Yh, ?_⟩
  clear hsameO qa qb qc qd m0 m1
  clear l1b
  have l1 := Xs lec5 (by omega) (by intro e; cases e) l1
  replace bL := bL.le lec5
  replace sN := sN.mono lec5.sees
  replace rL := rL.mono lec5.sees
  replace zL := Nat.le_trans zL lec5.1
  clear hL
  have hL := hc5
  have zH5 := hL.size
  refine Xd rfl rfl (Xg (off := 0) Xn Tryz.underlying29 Xn inf27.size (by decide) Xn) Xr ?_
  obtain ⟨Ga6, leGa6, ha6, back6⟩ := hL.rot.last
  have zGa := leGa6.1
  obtain ⟨_, zA, qa, qb, qc, qd⟩ := bL.le leGa6
  have m0 := Xs leGa6 (by omega) (by intro e; cases e) l1
  refine Ym rfl rfl (Ent.append ha6 Tryz.underlying27 inf83 Xn Xn rfl (lb := H8.size + 1) (by omega) m0 rfl (by intro v hv; simp at hv; subst hv; rfl) (by simp only [Vv, List.length_replicate]; omega) (by decide) ?_)
  rintro w6 Gb6 Hb6 leb6 hb6
  have hsameO := Ent.sameO ha6 leb6 hb6
  obtain ⟨Gc6, lec6, hc6⟩ := back6 Gb6 Hb6 _ leb6 hb6
  rw [eNil_next] at hc6 hb6
  obtain ⟨W6, cw6, rfl⟩ : ∃ A c, w6 = Value.slice A (i + 1) c := Zo (i := i + 1) (OwnP.sl hb6) (by simp [Vv])
  have bb6 := (bL.le lec6).le hc6.le
  obtain ⟨_, zb, qa6, qb6, qc6, qd6⟩ := id bb6
  refine ⟨Yh, ?_⟩
  clear hsameO qa qb qc qd m0
  replace bL := bL.le lec6
  replace sN := sN.mono lec6.sees
  replace rL := rL.mono lec6.sees
  replace zL := Nat.le_trans zL lec6.1
  clear hL
  have hL := hc6
  have zH6 := hL.size
  first | refine Ym rfl rfl (Yu rfl rfl rfl inf27.size X6 Ya rfl ?_)
  refine ⟨Yh, ?_⟩
  refine Xd rfl rfl (Xg (off := 1) Xn Tryz.underlying29 Xn inf27.size (by decide) Xn) Xr ?_
  first | refine Ym rfl rfl (Yu rfl rfl rfl inf27.size X6 Ya rfl ?_)
  refine ⟨Yh, ?_⟩
  obtain ⟨H4, hH4⟩ : ∃ H4, H4 = Hb6.put (H.size + 3) (.own 0 [.slice W5 (i + 1) cw5, .slice W6 (i + 1) cw6]) := ⟨_, rfl⟩
  obtain ⟨G4, hG4⟩ : ∃ G4, G4 = Gc6.put (H.size + 3) (.own 0 [.slice W5 (i + 1) cw5, .slice W6 (i + 1) cw6]) := ⟨_, rfl⟩
  have ownG4 := hL.put_box (by have := bL.2.1; omega) bL.2.2.2.2.2 [.slice W5 (i + 1) cw5, .slice W6 (i + 1) cw6]
  have bG4 := bL.put3 [.slice W5 (i + 1) cw5, .slice W6 (i + 1) cw6]
  have rG4 := rL.mono (Hp.sees_box (cs' := [.slice W5 (i + 1) cw5, .slice W6 (i + 1) cw6]) _ bL.2.2.2.2.2)
  rw [← hG4] at ownG4 bG4 rG4
  rw [← hH4] at ownG4
  change ACode true _ _ _ _ _ ((Hb6.put (H.size + 3) (.own 0 [.slice W5 (i + 1) cw5, .slice A6 i k6])).put (H.size + 3) (.own 0 [.slice W5 (i + 1) cw5, .slice W6 (i + 1) cw6]))
  rw [Hp.put_put]
  rw [← hH4]
  have sN4 := sN.mono (Hp.sees_box (cs' := [.slice W5 (i + 1) cw5, .slice W6 (i + 1) cw6]) _ bL.2.2.2.2.2)
  rw [← hG4] at sN4
  clear hH4 hG4 hL bL rL zL
  have bbH4 := bG4.le ownG4.le
  obtain ⟨_, zzH4, s0H4, s1H4, s2H4, s3H4⟩ := id bbH4
  refine Xb (by kernel_rfl) ?_
  refine Xa (Xf Xn) ?_
  refine Xa (Yw rfl rfl Y4) ?_
  refine Xa (Xo rfl) ?_
  exact ⟨sizes.length - (i + 1), by omega, i + 1, G4, _, _, _, _, _, _, _, (nds ++ [[Value.slice C sizes[i].toNat c9]] : List (List Value)), by omega, rfl, bG4, ownG4, rG4.snoc hix sN4, e0, e1, e4, e5, e6, e7, rfl⟩
  intro hc1
  (try simp only [decide_eq_true_eq, decide_eq_false_iff_not, Bool.not_eq_true', Bool.not_eq_false'] at hc1)
  refine Y5 ?_
  refine Xe ?_
  refine Yv (by kernel_rfl) (Y0 (B := [0, 0, 1, 7]) (π := [0, 1, 2, 3]) (by kernel_rfl)) ?_
  refine Xd rfl rfl (Yi (cs := [.slice _ _ _, .slice _ _ _, .slice _ _ _, .slice _ _ _, .slice _ _ _]) Xn Tryz.underlying26 Xn inf26.size X4) Xr ?_
  refine Xd rfl rfl (Yi (cs := [.slice _ _ _, .slice _ _ _]) Xn Tryz.underlying29 Xn inf29.size X4) Xr ?_
  refine Ym rfl rfl (X9 (vs := [.slice _ _ _, .slice _ _ _, .slice _ _ _, .slice _ _ _, .slice _ _ _]) Xn Xn inf26.size X6 Ya Xn Xn ?_)
  refine ⟨Yh, ?_⟩
  refine Ym rfl rfl (X9 (vs := [.slice _ _ _, .slice _ _ _]) Xn Xn inf29.size X6 Ya Xn Xn ?_)
  refine ⟨Yh, ?_⟩
  refine X2 ?_
  obtain rfl : i = sizes.length := by omega
  have se := hown.le.sees
  have p0 := hown.sl (eStr (.slice A0 sizes.length k0) sizes.length) (by simp)
  have p1 := hown.sl (eInt (.slice A1 sizes.length k1) sizes.length) (by simp)
  have p2 := hown.sl (eNeg (.slice A2 sizes.length k2) sizes.length) (by simp)
  have p3 := hown.sl (Vv (.slice A3 sizes.length k3) sizes.length) (by simp)
  have p4 := hown.sl (Vv (.slice A4 sizes.length k4) sizes.length) (by simp)
  have p5 := hown.sl (eNds (.slice A5 sizes.length k5) nds) (by simp)
  have p6 := hown.sl (Vv (.slice A6 sizes.length k6) sizes.length) (by simp)
  have hrl := hr.len
  have hz1 : H1.sees (H1.put H.size (.own 0 [.slice A0 sizes.length k0, .slice A1 sizes.length k1, .slice A2 sizes.length k2, .slice A3 sizes.length k3, .slice A4 sizes.length k4])) := Hp.sees_box _ q0
  have hz2 : (H1.put H.size (.own 0 [.slice A0 sizes.length k0, .slice A1 sizes.length k1, .slice A2 sizes.length k2, .slice A3 sizes.length k3, .slice A4 sizes.length k4])).sees ((H1.put H.size (.own 0 [.slice A0 sizes.length k0, .slice A1 sizes.length k1, .slice A2 sizes.length k2, .slice A3 sizes.length k3, .slice A4 sizes.length k4])).put (H.size + 1) (.own 0 [.slice A5 sizes.length k5, .slice A6 sizes.length k6])) := Hp.sees_box (cs := [.slice none 0 0, .slice none 0 0]) _ (by rw [Hp.put_other _ _ (by omega)]; exact q1)
  have hz := hz1.trans hz2
  refine ⟨_, Yy (Yk Xn (Yj (cs := [.slice A0 sizes.length k0, .slice A1 sizes.length k1, .slice A2 sizes.length k2, .slice A3 sizes.length k3, .slice A4 sizes.length k4]) Tryz.underlying26 rfl inf26.size X4)) (Yk Xn (Yj (cs := [.slice A5 sizes.length k5, .slice A6 sizes.length k6]) Tryz.underlying29 rfl inf29.size X4)), [_, _, _, _, _], [_, _], rfl, ⟨_, _, _, _, _, rfl, ?_, ?_, ?_, ?_, ?_⟩, ⟨_, _, rfl, ?_, ?_⟩, Hp.le_put_new (Hp.le_put_new leH1 (Nat.le_refl _) _) (by omega) _⟩
  · exact Sl.conv (k := kStr) (p0.mono hz) (by simp [eStr, apartF]) (fun j a b => by simp [eStr, apartF, kStr])
  · exact Sl.conv (k := Yz .i64) (p1.mono hz) (by simp [eInt, apartF]) (fun j a b => by simp [eInt, apartF, Yz])
  · exact Sl.conv (k := Yz .i64) (p2.mono hz) (by simp [eNeg, apartF]) (fun j a b => by simp [eNeg, apartF, Yz])
  · exact Sl.conv (k := kSl (Yz .i64)) (p3.mono hz) (by simp [Vv, apartF]) (fun j a b => by simp only [Vv, apartF, List.getElem_replicate]; exact ⟨_, rfl, Sl.nil _ _⟩)
  · exact Sl.conv (k := kSl (Yz .i64)) (p4.mono hz) (by simp [Vv, apartF]) (fun j a b => by simp only [Vv, apartF, List.getElem_replicate]; exact ⟨_, rfl, Sl.nil _ _⟩)
  · exact Sl.conv (k := kSl kLink) (p5.mono hz) (by simp [eNds, apartP, hrl]) (fun j a b => by
      obtain ⟨w, h1, h2⟩ := hr.at_ j a (by simpa [apartP] using b)
      simp only [apartP, List.getElem_map]
      exact ⟨w, h1, (h2.mono se).mono hz⟩)
  · exact Sl.conv (k := kSl kLink) (p6.mono hz) (by simp [Vv, apartP]) (fun j a b => by simp only [Vv, apartP, List.getElem_replicate, List.getElem_map]; exact ⟨_, rfl, Sl.nil _ _⟩)
end Go.Proofs.YtmakkmcjocjgmaaGreat.Am


/- The small living call of the statements on reducing. -/
namespace Go.Proofs.YtmakkmcjocjgmaaGreat.Am
open Go Go.RowKit
set_option maxRecDepth 100000
set_option linter.unusedVariables false
set_option linter.unusedSimpArgs false

end Go.Proofs.YtmakkmcjocjgmaaGreat.Am


/- Forests of few variables: cut once is cut twice; the statements' own words. -/
namespace Go.Proofs.YtmakkmcjocjgmaaGreat.Am
open Go Go.RowKit
set_option maxRecDepth 100000
set_option linter.unusedVariables false
set_option linter.unusedSimpArgs false

structure BigF (f : Forest) : Prop where
  l0 : f.vars.length ≤ 9223372036854775807
  l1 : f.order.length ≤ 9223372036854775807
  l2 : f.parent.length ≤ 9223372036854775807
  l3 : f.links.length ≤ 9223372036854775807
  l4 : f.loops.length ≤ 9223372036854775807
  s3 : ∀ l ∈ f.links, l.length ≤ 9223372036854775807
  s4 : ∀ l ∈ f.loops, l.length ≤ 9223372036854775807
structure BigP (p : Parts) : Prop where
  l0 : p.nodes.length ≤ 9223372036854775807
  l1 : p.links.length ≤ 9223372036854775807
  s0 : ∀ l ∈ p.nodes, l.length ≤ 9223372036854775807
  s1 : ∀ l ∈ p.links, l.length ≤ 9223372036854775807
theorem Link.few_few (x : Link) : x.few.few = x.few := by
  unfold Link.few
  by_cases h : 1000000000 < x.cost
  · rw [if_pos h]; simp
  · rw [if_neg h, if_neg h]
end Go.Proofs.YtmakkmcjocjgmaaGreat.Am


/- The statement ReduceTwice, as the abstract machine runs it. -/
namespace Go.Proofs.YtmakkmcjocjgmaaGreat.Am
open Go Go.RowKit
set_option maxRecDepth 100000
set_option linter.unusedVariables false
set_option linter.unusedSimpArgs false

end Go.Proofs.YtmakkmcjocjgmaaGreat.Am


/- What stands behind any first nodes, plain; of variables that hang from nobody. -/
namespace Go.Proofs.YtmakkmcjocjgmaaGreat.Am
open Go Go.RowKit
set_option maxRecDepth 100000
set_option linter.unusedVariables false
set_option linter.unusedSimpArgs false

end Go.Proofs.YtmakkmcjocjgmaaGreat.Am


/- Trees of good parts: who is reached, how often, and which nodes a place has. -/
namespace Go.Proofs.YtmakkmcjocjgmaaGreat.Am
open Go Go.RowKit
set_option maxRecDepth 100000
set_option linter.unusedVariables false
set_option linter.unusedSimpArgs false

def Reach (T : TreeT) : Prop := ∀ (i : Nat) (a : Int), i < T.vars.length → T.group i a ≠ [] → (T.parent.getD i 0 = -1 → a = -1) → a ∈ aboveT T T.vars.length i
def hasB (T : TreeT) (i : Nat) (b : Int) : Prop := ∃ a, ∃ x ∈ T.group i a, x.b = b
end Go.Proofs.YtmakkmcjocjgmaaGreat.Am


/- Counts are made. -/
namespace Go.Proofs.YtmakkmcjocjgmaaGreat.Am
open Go Go.RowKit
set_option maxRecDepth 100000
set_option linter.unusedVariables false
set_option linter.unusedSimpArgs false

structure NewS (T : TreeT) (K : Hp) (tb cb mb ms m : Nat) (H : Hp) (es1 es2 : List (Value × Value)) : Prop where
  le : K.le H
  hc : H.get cb = .own 0 [.pointer (some ⟨tb, 0, none⟩), .map (some mb), .map (some ms)]
  lc : cb < H.size
  hb : H.get mb = .map es1
  lb : mb < H.size
  hs : H.get ms = .map es2
  ls : ms < H.size
  i1 : IntsM es1
  i2 : IntsM es2
  no : ∀ (k : Nat) b, k < m → Y1 es1 (Zd k b) = none ∧ Y1 es2 (Zd k b) = none
  c1 : ∀ (k : Nat) b, m ≤ k → k < T.vars.length → Y1 es1 (Zd k b) = none ∨ (Y1 es1 (Zd k b) = some (.int .u64 (belT T T.vars.length k b)) ∧ hasB T k b)
  c2 : ∀ (k : Nat) b, m ≤ k → k < T.vars.length → Y1 es2 (Zd k b) = none ∨ Y1 es2 (Zd k b) = some (.int .u64 (sumT T T.vars.length k b))
  d1 : ∀ (k : Nat), m ≤ k → k < T.vars.length → ∀ a ∈ aboveT T T.vars.length k, ∀ x ∈ T.group k a, Y1 es1 (Zd k x.b) = some (.int .u64 (belT T T.vars.length k x.b))
  d2 : ∀ (k : Nat), m ≤ k → k < T.vars.length → ∀ a ∈ aboveT T T.vars.length k, Y1 es2 (Zd k a) = some (.int .u64 (sumT T T.vars.length k a))
theorem NewS.fill {T : TreeT} {K : Hp} {tb cb mb ms i : Nat} {H : Hp} {es1 es2 : List (Value × Value)} (h : NewS T K tb cb mb ms (i + 1) H es1 es2) : FillS T K tb cb mb ms i es1 es2 H es1 es2 :=
  ⟨h.le, h.hc, h.lc, h.hb, h.lb, h.hs, h.ls, h.i1, h.i2, fun _ _ _ => rfl, fun _ _ _ => rfl, fun b => .inl (h.no i b (Nat.lt_succ_self i)).1, fun b => .inl (h.no i b (Nat.lt_succ_self i)).2⟩
theorem NewS.step {T : TreeT} {K : Hp} {tb cb mb ms i : Nat} {H H' : Hp} {es1 es2 es1' es2' : List (Value × Value)} (h : NewS T K tb cb mb ms (i + 1) H es1 es2) (hf : FillS T K tb cb mb ms i es1 es2 H' es1' es2')
    (h2 : ∀ a ∈ aboveT T T.vars.length i, Y1 es2' (Zd i a) = some (.int .u64 (sumT T T.vars.length i a))) (h1 : ∀ a ∈ aboveT T T.vars.length i, ∀ x ∈ T.group i a, Y1 es1' (Zd i x.b) = some (.int .u64 (belT T T.vars.length i x.b))) : NewS T K tb cb mb ms i H' es1' es2' := by
  refine ⟨hf.le, hf.hc, hf.lc, hf.hb, hf.lb, hf.hs, hf.ls, hf.i1, hf.i2, fun k b hk => ?_, fun k b hk hk2 => ?_, fun k b hk hk2 => ?_, fun k hk hk2 a ha x hx => ?_, fun k hk hk2 a ha => ?_⟩
  · rw [hf.o1 k b (by omega), hf.o2 k b (by omega)]; exact h.no k b (by omega)
  · by_cases he : k = i
    · subst he; exact hf.v1 b
    · rw [hf.o1 k b (by omega)]; exact h.c1 k b (by omega) hk2
  · by_cases he : k = i
    · subst he; exact hf.v2 b
    · rw [hf.o2 k b (by omega)]; exact h.c2 k b (by omega) hk2
  · by_cases he : k = i
    · subst he; exact h1 a ha x hx
    · rw [hf.o1 k _ (by omega)]; exact h.d1 k (by omega) hk2 a ha x hx
  · by_cases he : k = i
    · subst he; exact h2 a ha
    · rw [hf.o2 k _ (by omega)]; exact h.d2 k (by omega) hk2 a ha
structure CntsV (T : TreeT) (es1 es2 : List (Value × Value)) : Prop where
  i1 : IntsM es1
  i2 : IntsM es2
  sum : ∀ (i : Nat) (a : Int), i < T.vars.length → cntAt es2 i (if T.parent.getD i 0 = -1 then -1 else a) = sumT T T.vars.length i a
  bel : ∀ (i : Nat) (b : Int), i < T.vars.length → (hasB T i b → cntAt es1 i b = belT T T.vars.length i b) ∧ (¬ hasB T i b → cntAt es1 i b = 0)
theorem cntAt_some {es : List (Value × Value)} {i a n : Int} (h : Y1 es (Zd i a) = some (.int .u64 n)) : cntAt es i a = n := by unfold cntAt; rw [h]
theorem cntAt_none {es : List (Value × Value)} {i a : Int} (h : Y1 es (Zd i a) = none) : cntAt es i a = 0 := by unfold cntAt; rw [h]
theorem group_root {T : TreeT} {i : Nat} (h : T.parent.getD i 0 = -1) (a b : Int) : T.group i a = T.group i b := by
  unfold TreeT.group TreeT.row
  rw [Int.toNat_natCast, if_pos h, if_pos h]
theorem sumT_root {T : TreeT} (hT : GoodT T) {i : Nat} (hi : i < T.vars.length) (h : T.parent.getD i 0 = -1) (a b : Int) : sumT T T.vars.length i a = sumT T T.vars.length i b := by
  rw [sum_is hT hi, sum_is hT hi, group_root h a b]
theorem NewS.done {T : TreeT} (hT : GoodT T) (hR : Reach T) {K : Hp} {tb cb mb ms : Nat} {H : Hp} {es1 es2 : List (Value × Value)} (h : NewS T K tb cb mb ms 0 H es1 es2) : CntsV T es1 es2 := by
  refine ⟨h.i1, h.i2, fun i a hi => ?_, fun i b hi => ⟨fun ⟨a, x, hx, hb⟩ => ?_, fun hno => ?_⟩⟩
  · obtain ⟨a', ha'⟩ : ∃ a', a' = if T.parent.getD i 0 = -1 then -1 else a := ⟨_, rfl⟩
    have hr : T.parent.getD i 0 = -1 → a' = -1 := fun e => by rw [ha', if_pos e]
    have hs : sumT T T.vars.length i a = sumT T T.vars.length i a' := by
      by_cases e : T.parent.getD i 0 = -1
      · exact sumT_root hT hi e a a'
      · rw [ha', if_neg e]
    rw [← ha', hs]
    by_cases hg : T.group i a' = []
    · have h0 : sumT T T.vars.length i a' = 0 := by rw [sum_is hT hi, hg]; rfl
      rw [h0]
      rcases h.c2 i a' (Nat.zero_le _) hi with h2 | h2
      · exact cntAt_none h2
      · rw [cntAt_some h2, h0]
    · exact cntAt_some (h.d2 i (Nat.zero_le _) hi a' (hR i a' hi hg hr))
  · obtain ⟨a', ha'⟩ : ∃ a', a' = if T.parent.getD i 0 = -1 then -1 else a := ⟨_, rfl⟩
    have hr : T.parent.getD i 0 = -1 → a' = -1 := fun e => by rw [ha', if_pos e]
    have hg : T.group i a = T.group i a' := by
      by_cases e : T.parent.getD i 0 = -1
      · exact group_root e a a'
      · rw [ha', if_neg e]
    rw [hg] at hx
    rw [← hb]
    exact cntAt_some (h.d1 i (Nat.zero_le _) hi a' (hR i a' hi (List.ne_nil_of_mem hx) hr) x hx)
  · rcases h.c1 i b (Nat.zero_le _) hi with h1 | h1
    · exact cntAt_none h1
    · exact absurd h1.2 hno
def CntR (H : Hp) (cb tb : Nat) (T : TreeT) : Prop := ∃ mb ms es1 es2, cb < H.size ∧ mb < H.size ∧ ms < H.size ∧ H.get cb = .own 0 [.pointer (some ⟨tb, 0, none⟩), .map (some mb), .map (some ms)] ∧ H.get mb = .map es1 ∧ H.get ms = .map es2 ∧ TreeR H (.pointer (some ⟨tb, 0, none⟩)) T ∧ CntsV T es1 es2
theorem CntR.mono {H H' : Hp} (hle : H.le H') {cb tb : Nat} {T : TreeT} (h : CntR H cb tb T) : CntR H' cb tb T := by
  obtain ⟨mb, ms, es1, es2, h1, h2, h3, h4, h5, h6, h7, h8⟩ := h
  exact ⟨mb, ms, es1, es2, Nat.lt_of_lt_of_le h1 hle.1, Nat.lt_of_lt_of_le h2 hle.1, Nat.lt_of_lt_of_le h3 hle.1, Xs hle h1 (by intro e; cases e) h4, Xs hle h2 (by intro e; cases e) h5, Xs hle h3 (by intro e; cases e) h6, h7.mono hle, h8⟩
end Go.Proofs.YtmakkmcjocjgmaaGreat.Am


/- What counts tell. -/
namespace Go.Proofs.YtmakkmcjocjgmaaGreat.Am
open Go Go.RowKit
set_option maxRecDepth 100000
set_option linter.unusedVariables false
set_option linter.unusedSimpArgs false

end Go.Proofs.YtmakkmcjocjgmaaGreat.Am


/- Items that wait, in memory of their own. -/
namespace Go.Proofs.YtmakkmcjocjgmaaGreat.Am
open Go Go.RowKit
set_option maxRecDepth 100000
set_option linter.unusedVariables false
set_option linter.unusedSimpArgs false

structure ItemT where
  cost : Int
  nodes : List Int
  place : Int
  rank : Int
def kItemT : Kd ItemT where
  sz := 4
  pos := by decide
  rep H x cs := ∃ v, cs = [.int .i64 x.cost, v, .int .i64 x.place, .int .i64 x.rank] ∧ Sl (Yz .i64) H v x.nodes
  len h := by obtain ⟨v, rfl, _⟩ := h; rfl
  mono he h := by obtain ⟨v, rfl, hs⟩ := h; exact ⟨v, rfl, hs.mono he⟩
  one h u hu := by
    obtain ⟨v, rfl, hs⟩ := h
    obtain ⟨A, c, rfl⟩ := hs.shape
    simp at hu
    rcases hu with rfl | rfl | rfl | rfl <;> rfl
def ItemT.cut (x : ItemT) : ItemT := { x with nodes := x.nodes.take 5 }
theorem ItemT_item (x : ItemT) (cs : List Value) (H : Hp) (hx : kItemT.rep H x cs) (hl : x.nodes.length ≤ 9223372036854775807) :
    ACalls Tryz.prog 47 #[.agg cs.toArray] H (fun r H' => H.le H' ∧ ∃ ds, r = .agg ds.toArray ∧ kItemT.rep H' x.cut ds) := by
  obtain ⟨v, rfl, hv⟩ := hx
  obtain ⟨A, c, rfl⟩ := hv.shape
  refine Xv Tryz.func47 rfl rfl rfl (by simp) ?_
  refine Xe ?_
  refine Xb (by kernel_rfl) ?_
  refine Xy (Yq rfl) ?_
  refine Xy (Yp (l := [.int .i64 0, .slice none 0 0, .int .i64 0, .int .i64 0]) inf85.zero rfl (by decide)) ?_
  refine Xe ?_
  refine Xb (by kernel_rfl) ?_
  refine Xa (Xg (off := 1) rfl Tryz.underlying85 rfl inf23.size (by decide) rfl) ?_
  refine Xa (Xk rfl Tryz.underlying23 rfl Xq) ?_
  refine Xw (Xx (Few_ints x.nodes _ 5 _ (hv.mono Zk) hl (by omega) (by omega)) rfl Tryz.func25 rfl rfl rfl ?_)
  rintro v5 H5 ⟨hle5, hs5⟩; have hz5 := hle5.1; simp only [Hp.push_size, Hp.put_size] at hz5; obtain ⟨A5, c5, rfl⟩ := hs5.shape
  refine Xa (Xg (off := 1) rfl Tryz.underlying85 rfl inf23.size (by decide) rfl) ?_
  first | refine Xw (Yu rfl rfl rfl inf23.size X6 Ya rfl ?_)
  refine Xe ?_
  refine Xb (by kernel_rfl) ?_
  refine Xa (Yi (cs := [.int .i64 _, .slice _ _ _, .int .i64 _, .int .i64 _]) rfl Tryz.underlying85 rfl inf85.size X4) ?_
  refine Xw (X9 (vs := [.int .i64 _, .slice _ _ _, .int .i64 _, .int .i64 _]) rfl rfl inf85.size X6 Ya rfl rfl ?_)
  refine X2 ?_
  refine ⟨.agg #[.int .i64 x.cost, .slice A5 (x.nodes.take 5).length c5, .int .i64 x.place, .int .i64 x.rank], X1 (Yk rfl (Yj (cs := [.int .i64 x.cost, .slice A5 (x.nodes.take 5).length c5, .int .i64 x.place, .int .i64 x.rank]) Tryz.underlying85 rfl inf85.size X4)), t_le, _, rfl, _, rfl, hs5.mono Zk⟩
end Go.Proofs.YtmakkmcjocjgmaaGreat.Am


/- Marks, in memory of their own; which are good. -/
namespace Go.Proofs.YtmakkmcjocjgmaaGreat.Am
open Go Go.RowKit
set_option maxRecDepth 100000
set_option linter.unusedVariables false
set_option linter.unusedSimpArgs false

structure MarkT where
  told : Int
  over : Bool
  nodes : List Int
  rest : Int
  items : List ItemT
def kMark : Kd MarkT where
  sz := 5
  pos := by decide
  rep H m cs := ∃ v w, cs = [.int .i64 m.told, .bool m.over, v, .int .u64 m.rest, w] ∧ Sl (Yz .i64) H v m.nodes ∧ Sl kItemT H w m.items
  len h := by obtain ⟨v, w, rfl, _⟩ := h; rfl
  mono he h := by obtain ⟨v, w, rfl, h1, h2⟩ := h; exact ⟨v, w, rfl, h1.mono he, h2.mono he⟩
  one h u hu := by
    obtain ⟨v, w, rfl, h1, h2⟩ := h
    obtain ⟨A, c, rfl⟩ := h1.shape
    obtain ⟨B, c2, rfl⟩ := h2.shape
    simp at hu
    rcases hu with rfl | rfl | rfl | rfl | rfl <;> rfl
def MarkT.cut (m : MarkT) : MarkT := ⟨m.told, m.over, m.nodes.take 14, m.rest, (m.items.take 4).map ItemT.cut⟩
theorem cut_cut (m : MarkT) : m.cut.cut = m.cut := by
  unfold MarkT.cut
  simp only [List.take_take, Nat.min_self, List.map_take, List.map_map, MarkT.mk.injEq, true_and]
  refine congrArg _ (List.map_congr_left fun x _ => ?_)
  show ItemT.cut (ItemT.cut x) = ItemT.cut x
  unfold ItemT.cut
  simp [List.take_take]
structure BigM (m : MarkT) : Prop where
  n : m.nodes.length ≤ 9223372036854775807
  i : m.items.length ≤ 9223372036854775807
  x : ∀ x ∈ m.items, x.nodes.length ≤ 9223372036854775807
theorem bigM_cut (m : MarkT) : BigM m.cut := by
  refine ⟨?_, ?_, fun x hx => ?_⟩
  · show (m.nodes.take 14).length ≤ _
    rw [List.length_take]; omega
  · show ((m.items.take 4).map ItemT.cut).length ≤ _
    rw [List.length_map, List.length_take]; omega
  · obtain ⟨y, _, rfl⟩ := List.mem_map.1 (show x ∈ (m.items.take 4).map ItemT.cut from hx)
    show (y.nodes.take 5).length ≤ _
    rw [List.length_take]; omega
set_option maxHeartbeats 2000000 in
theorem Mark_36 (m : MarkT) (cs : List Value) (H : Hp) (hm : kMark.rep H m cs) (hb : BigM m) :
    ACalls Tryz.prog 12 #[.agg cs.toArray] H (fun r H' => H.le H' ∧ ∃ ds, r = .agg ds.toArray ∧ kMark.rep H' m.cut ds) := by
  obtain ⟨v, w, rfl, hv, hw⟩ := hm
  obtain ⟨A, c, rfl⟩ := hv.shape
  obtain ⟨W, cW, rfl⟩ := hw.shape
  refine Xv Tryz.func12 rfl rfl rfl (by simp) ?_
  refine Xe ?_
  refine Xb (by kernel_rfl) ?_
  refine Xy (Yq rfl) ?_
  refine Xy (Yp (l := [.int .i64 0, .bool false, .slice none 0 0, .int .u64 0, .slice none 0 0]) inf33.zero rfl (by decide)) ?_
  refine Xe ?_
  refine Yv (by kernel_rfl) (Y0 (B := [0, 1, 0, 4, 0, 16, 48, 0, 128, 511, 0, 2047]) (π := [0, 1, 2, 3, 4, 5, 7, 8, 10, 6, 9, 11]) (by kernel_rfl)) ?_
  refine Xd rfl rfl (Xg (off := 0) rfl Tryz.underlying33 rfl inf3.size (by decide) rfl) Xr ?_
  refine Xd rfl rfl (Xk rfl Tryz.underlying3 rfl Xq) Xr ?_
  refine Xd rfl rfl (Xg (off := 1) rfl Tryz.underlying33 rfl inf4.size (by decide) rfl) Xr ?_
  refine Xd rfl rfl (Xk rfl Tryz.underlying4 rfl Xq) Xr ?_
  refine Xd rfl rfl (Xg (off := 2) rfl Tryz.underlying33 rfl inf23.size (by decide) rfl) Xr ?_
  refine Xd rfl rfl (Xk rfl Tryz.underlying23 rfl Xq) Xr ?_
  refine Xd rfl rfl (Xg (off := 3) rfl Tryz.underlying33 rfl inf30.size (by decide) rfl) Xr ?_
  refine Xd rfl rfl (Xk rfl Tryz.underlying30 rfl Xq) Xr ?_
  refine Y7 rfl rfl (Yp (l := [.int .i64 0, .bool false, .slice none 0 0, .int .u64 0, .slice none 0 0]) inf33.zero rfl (by decide)) ?_
  refine Ym rfl rfl (Xx (Few_ints m.nodes _ 14 _ (hv.mono Zk) hb.n (by omega) (by omega)) rfl Tryz.func25 rfl rfl rfl ?_)
  rintro v11 H5 ⟨hle5, hs5⟩; have hz5 := hle5.1; simp only [Hp.push_size, Hp.put_size] at hz5; change Sl (Yz .i64) H5 v11 (m.nodes.take 14) at hs5; obtain ⟨A5, c5, rfl⟩ := hs5.shape; have h50 : H5.get H.size = .own 0 [.int .i64 m.told, .bool m.over, .slice A m.nodes.length c, .int .u64 m.rest, .slice W m.items.length cW] := Xs hle5 (by simp <;> omega) (by intro e; cases e) X6; have h51 : H5.get (H.size + 1) = .own 0 [.int .i64 0, .bool false, .slice none 0 0, .int .u64 0, .slice none 0 0] := Xs hle5 (by simp <;> omega) (by intro e; cases e) X6; have h52 : H5.get (H.size + 1 + 1) = .own 0 [.int .i64 0, .bool false, .slice none 0 0, .int .u64 0, .slice none 0 0] := Xs hle5 (by simp <;> omega) (by intro e; cases e) X6
  refine ⟨Yh, ?_⟩
  refine Xd rfl rfl (Ys (pl := [(0, 1), (1, 1), (2, 1), (3, 1), (4, 1)]) (r := [.int .i64 _, .bool _, .slice _ _ _, .int .u64 _, .slice _ _ _]) Tryz.underlying33 inf33.zero (by decide) rfl rfl) Xr ?_
  refine Ym rfl rfl (X9 (vs := [.int .i64 _, .bool _, .slice _ _ _, .int .u64 _, .slice _ _ _]) rfl rfl inf33.size X6 Ya rfl rfl ?_)
  refine ⟨Yh, ?_⟩
  refine Xe ?_
  refine Xe ?_
  obtain ⟨K, hK⟩ : ∃ K, K = H5.put (H.size + 1 + 1) (.own 0 [.int .i64 m.told, .bool m.over, .slice A5 (m.nodes.take 14).length c5, .int .u64 m.rest, .slice none 0 0]) := ⟨_, rfl⟩
  have k0 : K.get H.size = .own 0 [.int .i64 m.told, .bool m.over, .slice A m.nodes.length c, .int .u64 m.rest, .slice W m.items.length cW] := by rw [hK, Hp.put_other _ _ (by omega)]; exact h50
  have k1 : K.get (H.size + 1) = .own 0 [.int .i64 0, .bool false, .slice none 0 0, .int .u64 0, .slice none 0 0] := by rw [hK, Hp.put_other _ _ (by omega)]; exact h51
  have k2 : K.get (H.size + 1 + 1) = .own 0 [.int .i64 m.told, .bool m.over, .slice A5 (m.nodes.take 14).length c5, .int .u64 m.rest, .slice none 0 0] := by rw [hK]; exact Hp.put_same _ _ _
  have leK : H.le K := by rw [hK]; exact Hp.le_put_new (Hp.le_trans (Hp.le_push' (Hp.le_push' (H.le_push _) _) _) hle5) (by omega) _
  have zK : H.size + 3 ≤ K.size := by rw [hK]; simp; omega
  have sK := hs5.mono (show H5.sees K by rw [hK]; exact Hp.sees_box _ h52)
  change ACode true _ _ _ _ _ (H5.put (H.size + 1 + 1) (.own 0 [.int .i64 m.told, .bool m.over, .slice A5 (m.nodes.take 14).length c5, .int .u64 m.rest, .slice none 0 0]))
  rw [← hK]
  clear hK h50 h51 h52 hle5 hz5 hs5
  refine Xb (by kernel_rfl) ?_
  refine Xa (Xo rfl) ?_
  refine Yo ?_
  refine Za (fun n t H' => ∃ (i : Nat) (G : Hp) (B : Option Addr) (cB : Nat) (E : Option Addr), n = m.items.length - i ∧ i ≤ m.items.length ∧ i ≤ 4 ∧ Away (H.size + 1 + 1) K G ∧ G.get (H.size + 1 + 1) = .own 0 [.int .i64 m.told, .bool m.over, .slice A5 (m.nodes.take 14).length c5, .int .u64 m.rest, .slice B i cB] ∧ OwnP kItemT G H' (.slice B i cB) ((m.items.take i).map ItemT.cut) ∧ K.get H.size = .own 0 [.int .i64 m.told, .bool m.over, .slice A m.nodes.length c, .int .u64 m.rest, .slice E m.items.length cW] ∧ Sl kItemT H (.slice E m.items.length cW) m.items ∧ t 1 = .pointer (some ⟨H.size, 0, none⟩) ∧ t 2 = .pointer (some ⟨H.size + 1, 0, none⟩) ∧ t 3 = .pointer (some ⟨H.size + 1 + 1, 0, none⟩) ∧ t 4 = .int .i64 i) (m.items.length) (⟨0, K, none, 0, _, rfl, Nat.zero_le _, Nat.zero_le _, .refl _ _, k2, OwnP.nil _ _, k0, hw, rfl, rfl, rfl, rfl⟩) ?_
  rintro n t H1 ⟨i, G, B, cB, E, rfl, hi, hi4, aw, g2, hown, k0, hw, e1, e2, e3, e4⟩
  have zG := aw.size
  have zz := hown.size
  have g0 := aw.keep (b := H.size) (by omega) (by omega) (by intro e; cases e) k0
  have g1 := aw.keep (b := H.size + 1) (by omega) (by omega) (by intro e; cases e) k1
  have h0 := Xs hown.le (by omega) (by intro e; cases e) g0
  have h1 := Xs hown.le (by omega) (by intro e; cases e) g1
  have h2 := Xs hown.le (by omega) (by intro e; cases e) g2
  have sGK := aw.sees k2
  have hlenT : ((m.items.take i).map ItemT.cut).length = i := by rw [List.length_map, List.length_take]; omega
  refine Xe ?_
  refine Xe ?_
  refine Xb (by kernel_rfl) ?_
  refine Xa (Xf Xn) ?_
  refine Xa (Xg (off := 4) Xn Tryz.underlying33 Xn inf31.size (by decide) Xn) ?_
  refine Xa (Xk rfl Tryz.underlying31 rfl Xq) ?_
  refine Xa (Yr rfl Tryz.underlying31) ?_
  refine Xa (Zh rfl rfl) ?_
  refine Xa (Xp rfl) ?_
  refine Yd rfl rfl rfl ?_ ?_
  intro hg1
  have hil : i < m.items.length := by have := of_decide_eq_true hg1; omega
  refine Xl (Xi rfl rfl rfl hg1) (Xf Xn) ?_
  refine Xl (Xi rfl rfl rfl hg1) (Zh rfl rfl) ?_
  refine Xa (Xm (congrArg Value.bool hg1) rfl) ?_
  refine X8 rfl rfl ?_ ?_
  intro hc2
  have hi4l : i < 4 := by have := of_decide_eq_true hc2; omega
  obtain ⟨b, o, cs', eE, hbE, hr, hcell0⟩ := ((hw.mono leK.sees).mono sGK).elem_at hil
  obtain ⟨u, rfl, hu⟩ := hr
  obtain ⟨A6, c6, rfl⟩ := hu.shape
  have hcells := hown.le.cells hbE hcell0
  subst eE
  have hxl := hb.x _ (List.getElem_mem hil)
  generalize hit : m.items[i] = x at *
  have hcells2 : Cells H1 b (o + ((i : Int)).toNat * 4) [.int .i64 x.cost, .slice A6 x.nodes.length c6, .int .i64 x.place, .int .i64 x.rank] := hcells
  refine Yf ?_
  refine Xe ?_
  refine Yo ?_
  refine Yv (by kernel_rfl) (Y0 (B := [0, 1, 0, 4, 0, 28, 60, 124, 252, 511, 1023, 2047]) (π := [0, 1, 2, 3, 4, 5, 6, 7, 8, 9, 10, 11]) (by kernel_rfl)) ?_
  refine Xd rfl rfl (Xg (off := 4) Xn Tryz.underlying33 Xn inf31.size (by decide) Xn) Xr ?_
  refine Xd rfl rfl (Xk rfl Tryz.underlying31 rfl Xq) Xr ?_
  refine Xd rfl rfl (Xg (off := 4) Xn Tryz.underlying33 Xn inf31.size (by decide) Xn) Xr ?_
  refine Xd rfl rfl (Xk rfl Tryz.underlying31 rfl Xq) Xr ?_
  refine Xd rfl rfl (Xf Xn) Xr ?_
  refine Xd rfl rfl (Xz rfl rfl Tryz.underlying31 inf85.size Yc Yc) Xr ?_
  refine Xd rfl rfl (Yi (cs := [.int .i64 _, .slice _ _ _, .int .i64 _, .int .i64 _]) rfl Tryz.underlying85 rfl inf85.size X4) Xr ?_
  refine Ym rfl rfl (Xx (hown.calls (ItemT_item x _ G ⟨_, rfl, hu⟩ hxl) (fun _ _ h => h.1)) rfl Tryz.func47 rfl rfl rfl ?_)
  rintro v33 H5 ⟨G5, ⟨hle5, ds, rfl, u5, rfl, hu5⟩, hown5, hleH5⟩; have z5 := hle5.1; have zz5 := hown5.size; have g50 := Xs hle5 (by omega) (by intro e; cases e) g0; have g51 := Xs hle5 (by omega) (by intro e; cases e) g1; have g52 := Xs hle5 (by omega) (by intro e; cases e) g2; have h50 := Xs hown5.le (by omega) (by intro e; cases e) g50; have h51 := Xs hown5.le (by omega) (by intro e; cases e) g51; have h52 := Xs hown5.le (by omega) (by intro e; cases e) g52; have hsame : ∀ q ∈ [b], H5.get q = H1.get q := (fun q hq => by rw [List.mem_singleton] at hq; subst hq; exact hleH5.2 _ (by omega) (fun e => by have h := hcells 0 _ rfl; unfold Hp.cell? at h; rw [e] at h; cases h))
  refine ⟨Yh, ?_⟩
  refine Y7 rfl rfl (Yn (r := [.int .i64 _, _, .int .i64 _, .int .i64 _]) Tryz.underlying31 inf85.size inf85.zero rfl (by decide) (by decide) (by decide) rfl) ?_
  refine Ym rfl rfl (OwnP.append (ys := [x.cut]) (hown5.push _) Tryz.underlying31 inf85 rfl rfl rfl (Ve (k := kItemT) ⟨_, rfl, hu5⟩ rfl hown5.size rfl) (by simp; omega) (by simp; omega) ?_)
  rintro v35 G6 H6 hle6 hown6
  have hsameO := OwnP.sameO (hown5.push _) hle6 hown6
  have le56 := Hp.le_trans (Hp.le_push _ _) hle6
  have z6 := le56.1
  have zz6 := hown6.size
  have g60 := Xs le56 (by omega) (by intro e; cases e) g50
  have g61 := Xs le56 (by omega) (by intro e; cases e) g51
  have g62 := Xs le56 (by omega) (by intro e; cases e) g52
  have h60 := Xs hown6.le (by omega) (by intro e; cases e) g60
  have h62 := Xs hown6.le (by omega) (by intro e; cases e) g62
  obtain ⟨B', c', rfl⟩ := hown6.shape
  rw [show (List.map ItemT.cut (m.items.take i)) ++ [x.cut] = (m.items.take (i + 1)).map ItemT.cut by rw [← Zb hil, List.map_append, hit]; rfl] at hown6 ⊢
  have hlen2 : ((m.items.take (i + 1)).map ItemT.cut).length = i + 1 := by rw [List.length_map, List.length_take]; omega
  rw [hlen2] at hown6 ⊢
  refine ⟨Yh, ?_⟩
  refine Xd rfl rfl (Xg (off := 4) Xn Tryz.underlying33 Xn inf31.size (by decide) Xn) Xr ?_
  first | refine Ym rfl rfl (Yu rfl rfl rfl inf31.size X6 Ya rfl ?_)
  refine ⟨Yh, ?_⟩
  refine Xb (by kernel_rfl) ?_
  refine Xa (Xf Xn) ?_
  refine Xa (Yw rfl rfl Y4) ?_
  refine Xa (Xo rfl) ?_
  exact ⟨m.items.length - (i + 1), by omega, i + 1, G6.put (H.size + 1 + 1) (.own 0 [.int .i64 m.told, .bool m.over, .slice A5 (m.nodes.take 14).length c5, .int .u64 m.rest, .slice B' (i + 1) c']), B', c', _, rfl, by omega, by omega, (aw.trans (.of_le (Hp.le_trans hle5 le56))).put _, Hp.put_same _ _ _, hown6.put (by rw [g62]; intro e; cases e) _ (Hp.sees_box _ g62), k0, hw, e1, e2, e3, rfl⟩
  intro hc2
  have hi4l : i = 4 := by have := of_decide_eq_false hc2; omega
  have hend : m.items.take 4 = m.items.take i := by rw [hi4l]
  refine Y5 ?_
  refine Xe ?_
  refine Xb (by kernel_rfl) ?_
  refine Xa (Yi (cs := [.int .i64 _, .bool _, .slice _ _ _, .int .u64 _, .slice _ _ _]) Xn Tryz.underlying33 Xn inf33.size X4) ?_
  refine Xw (X9 (vs := [.int .i64 _, .bool _, .slice _ _ _, .int .u64 _, .slice _ _ _]) Xn Xn inf33.size X6 Ya Xn Xn ?_)
  refine X2 ?_
  refine ⟨_, X1 (Yk Xn (Yj (cs := [_, _, _, _, _]) Tryz.underlying33 rfl inf33.size X4)), Hp.le_put_new (Hp.le_trans (aw.base leK (by omega)) hown.le) (by omega) _, [.int .i64 m.told, .bool m.over, .slice A5 (m.nodes.take 14).length c5, .int .u64 m.rest, .slice B i cB], rfl, .slice A5 (m.nodes.take 14).length c5, .slice B i cB, rfl, ?_, ?_⟩
  · exact ((sK.mono sGK).mono hown.le.sees).mono (Hp.sees_box _ h1)
  · show Sl kItemT _ (.slice B i cB) ((m.items.take 4).map ItemT.cut)
    rw [hend]
    exact hown.sl.mono (Hp.sees_box _ h1)
  intro hg1
  have hil : i = m.items.length := by have := of_decide_eq_false hg1; omega
  have hend : m.items.take 4 = m.items.take i := by rw [List.take_of_length_le (by omega), List.take_of_length_le (by omega)]
  refine Xc (Xj rfl rfl rfl hg1 rfl) ?_
  refine Xc (Xj rfl rfl rfl hg1 rfl) ?_
  refine Xa (Xm (congrArg Value.bool hg1) Xn) ?_
  refine Zg rfl rfl ?_
  refine Y5 ?_
  refine Xe ?_
  refine Xb (by kernel_rfl) ?_
  refine Xa (Yi (cs := [.int .i64 _, .bool _, .slice _ _ _, .int .u64 _, .slice _ _ _]) Xn Tryz.underlying33 Xn inf33.size X4) ?_
  refine Xw (X9 (vs := [.int .i64 _, .bool _, .slice _ _ _, .int .u64 _, .slice _ _ _]) Xn Xn inf33.size X6 Ya Xn Xn ?_)
  refine X2 ?_
  refine ⟨_, X1 (Yk Xn (Yj (cs := [_, _, _, _, _]) Tryz.underlying33 rfl inf33.size X4)), Hp.le_put_new (Hp.le_trans (aw.base leK (by omega)) hown.le) (by omega) _, [.int .i64 m.told, .bool m.over, .slice A5 (m.nodes.take 14).length c5, .int .u64 m.rest, .slice B i cB], rfl, .slice A5 (m.nodes.take 14).length c5, .slice B i cB, rfl, ?_, ?_⟩
  · exact ((sK.mono sGK).mono hown.le.sees).mono (Hp.sees_box _ h1)
  · show Sl kItemT _ (.slice B i cB) ((m.items.take 4).map ItemT.cut)
    rw [hend]
    exact hown.sl.mono (Hp.sees_box _ h1)
end Go.Proofs.YtmakkmcjocjgmaaGreat.Am


/- Which marks are good, and which are the same. -/
namespace Go.Proofs.YtmakkmcjocjgmaaGreat.Am
open Go Go.RowKit
set_option maxRecDepth 100000
set_option linter.unusedVariables false
set_option linter.unusedSimpArgs false

def oddI (n : Int) : Prop := n < 0 ∨ 10000 ≤ n
instance (n : Int) : Decidable (oddI n) := by unfold oddI; infer_instance
theorem Odd_int (n : Int) (H : Hp) : ACalls Tryz.prog 102 #[.int .i64 n] H (fun r H' => r = .bool (decide (oddI n)) ∧ H' = H) := by
  refine ACalls.pure (R := fun r => r = .bool (decide (oddI n))) (fun v h => by rw [h]; rfl) ?_
  refine Xv Tryz.func102 rfl rfl rfl (by simp) ?_
  refine Xe ?_
  refine Xb (by kernel_rfl) ?_
  refine Xa (Xh rfl) ?_
  refine Xe ?_
  refine Xb (by kernel_rfl) ?_
  refine Xa (Xf rfl) ?_
  refine Xa (Zh rfl rfl) ?_
  refine Xa (Xp rfl) ?_
  refine Yd rfl rfl rfl ?_ ?_
  intro hg1
  have h1 : n < 0 := of_decide_eq_true hg1
  refine Xc (Xj rfl rfl rfl hg1 rfl) ?_
  refine Xc (Xj rfl rfl rfl hg1 rfl) ?_
  refine Xa (Xm (congrArg Value.bool hg1) rfl) ?_
  refine Xa (Xh rfl) ?_
  refine X2 ?_
  first
    | exact ⟨.bool true, X1 (Xu rfl), congrArg Value.bool (decide_eq_true (.inl h1)).symm⟩
    | exact ⟨.bool (decide (n ≥ 10000)), X1 (Xu rfl), congrArg Value.bool (decide_eq_decide.2 ⟨fun h => .inr h, fun h => h.resolve_left h1⟩)⟩
  intro hg1
  have h1 : ¬ n < 0 := of_decide_eq_false hg1
  refine Xl (Xi rfl rfl rfl hg1) (Xf rfl) ?_
  refine Xl (Xi rfl rfl rfl hg1) (av_ge rfl rfl) ?_
  refine Xa (Xm (congrArg Value.bool hg1) rfl) ?_
  refine Xa (Xh rfl) ?_
  refine X2 ?_
  first
    | exact ⟨.bool true, X1 (Xu rfl), congrArg Value.bool (decide_eq_true (.inl h1)).symm⟩
    | exact ⟨.bool (decide (n ≥ 10000)), X1 (Xu rfl), congrArg Value.bool (decide_eq_decide.2 ⟨fun h => .inr h, fun h => h.resolve_left h1⟩)⟩
theorem IndexI_raw (xs : List Int) (v : Value) (H : Hp) (hs : Sl (Yz .i64) H v xs) (hl : xs.length ≤ 9223372036854775807) :
    ACalls Tryz.prog 126 #[v, .func (.func 102) #[] #[]] H (fun r _ => ∃ k : Int, r = .int .i64 k ∧ -1 ≤ k ∧ (0 ≤ k ↔ ¬ ∀ x ∈ xs, ¬ oddI x)) := by
  obtain ⟨A, c, rfl⟩ := hs.shape
  refine Xv Tryz.func126 rfl rfl rfl (by simp) ?_
  refine Xe ?_
  refine Xb (by kernel_rfl) ?_
  refine Xa (Xo rfl) ?_
  refine Xe ?_
  refine Xe ?_
  refine Xb (by kernel_rfl) ?_
  refine Xa (X7 rfl) ?_
  refine Xa (Yr rfl Tryz.underlying23) ?_
  refine Xa (Xf rfl) ?_
  refine Yo ?_
  refine Za (fun n t H' => ∃ (i : Nat), i ≤ xs.length ∧ n = xs.length - i ∧ H' = H ∧ (∀ x ∈ xs.take i, ¬ oddI x) ∧ t 0 = .slice A xs.length c ∧ t 1 = .func (.func 102) #[] #[] ∧ t 7 = .int .i64 xs.length ∧ t 8 = .int .i64 i) (xs.length) (⟨0, by omega, rfl, rfl, by simp, rfl, rfl, rfl, rfl⟩) ?_
  rintro n t _ ⟨i, hi, rfl, rfl, hno, e0, e1, e7, e8⟩
  refine Xe ?_
  refine Xb (by kernel_rfl) ?_
  refine Xa (Zh Xn Xn) ?_
  refine Xe ?_
  refine X8 rfl rfl ?_ ?_
  intro hc1
  (try simp only [decide_eq_true_eq, decide_eq_false_iff_not, Bool.not_eq_true', Bool.not_eq_false'] at hc1)
  refine Yf ?_
  refine Xe ?_
  refine Yo ?_
  refine Xe ?_
  refine Xb (by kernel_rfl) ?_
  refine Xa (Xf Xn) ?_
  refine Xa (Xo rfl) ?_
  refine Xe ?_
  refine Xb (by kernel_rfl) ?_
  refine Xa (Zs Xn) ?_
  refine Xa (X7 Xn) ?_
  refine Xa (Xf rfl) ?_
  have hix : i < xs.length := by omega
  obtain ⟨b, o, rfl, hb, hcell1⟩ := hs.int_at (i := (i : Int)) (by omega) (by omega)
  rw [Int.toNat_natCast, Y9 hix] at hcell1
  refine Xa (Xz rfl rfl Tryz.underlying23 inf3.size Yc Yc) ?_
  refine Xa (Xk rfl Tryz.underlying3 rfl Xq) ?_
  refine Xw (Xx (Odd_int xs[i] _) rfl Tryz.func102 rfl rfl rfl ?_)
  rintro v5 H1 ⟨rfl, rfl⟩
  refine X8 rfl rfl ?_ ?_
  intro hc2
  have hne : oddI xs[i] := of_decide_eq_true hc2
  refine Xe ?_
  refine Xb (by kernel_rfl) ?_
  refine Xa (Xf rfl) ?_
  refine Xa (Xo rfl) ?_
  refine X2 ?_
  exact ⟨.int .i64 i, X1 (Xu Xn), i, rfl, by omega, fun _ h => h _ (List.getElem_mem hix) hne, fun _ => by omega⟩
  intro hc2
  have heq : ¬ oddI xs[i] := of_decide_eq_false hc2
  refine Yf ?_
  refine Xb (by kernel_rfl) ?_
  refine Xa (Yw Xn Xn Y4) ?_
  refine Xa (Xf rfl) ?_
  refine ⟨xs.length - (i + 1), by omega, i + 1, by omega, rfl, rfl, ?_, e0, e1, e7, rfl⟩
  rw [← Zb hix]
  intro x hx
  rcases List.mem_append.1 hx with hx | hx
  · exact hno x hx
  · simp at hx; rw [hx]; exact heq
  intro hc1
  (try simp only [decide_eq_true_eq, decide_eq_false_iff_not, Bool.not_eq_true', Bool.not_eq_false'] at hc1)
  refine Y5 ?_
  refine Xe ?_
  refine Xb (by kernel_rfl) ?_
  refine Xa (Xo rfl) ?_
  refine X2 ?_
  rw [List.take_of_length_le (by omega)] at hno
  exact ⟨.int .i64 (-1), X1 (Xu rfl), -1, rfl, by omega, fun h => by omega, fun h => absurd hno h⟩
theorem Contains_ints (xs : List Int) (v : Value) (H : Hp) (hs : Sl (Yz .i64) H v xs) (hl : xs.length ≤ 9223372036854775807) :
    ACalls Tryz.prog 103 #[v, .func (.func 102) #[] #[]] H (fun r H' => (∃ g, r = .bool g ∧ (g = false ↔ ∀ x ∈ xs, ¬ oddI x)) ∧ H' = H) := by
  refine ACalls.pure (R := fun r => ∃ g, r = .bool g ∧ (g = false ↔ ∀ x ∈ xs, ¬ oddI x)) (fun v ⟨g, h, _⟩ => by rw [h]; rfl) ?_
  have hs := hs.mono H.sees_ro
  obtain ⟨A, c, rfl⟩ := hs.shape
  refine Xv Tryz.func103 rfl rfl rfl (by simp) ?_
  refine Xe ?_
  refine Xb (by kernel_rfl) ?_
  refine Xa (Xh rfl) ?_
  refine Xe ?_
  refine Xb (by kernel_rfl) ?_
  refine Xa (X7 rfl) ?_
  refine Xa (Zs rfl) ?_
  refine Xw (Xx (IndexI_raw xs _ _ hs hl) rfl Tryz.func126 rfl rfl rfl ?_)
  rintro v2 H2 ⟨k, rfl, hk, hk2⟩
  refine Xa (av_ge rfl rfl) ?_
  refine Xa (Xh rfl) ?_
  refine X2 ?_
  refine ⟨_, X1 (Xu rfl), decide (k ≥ 0), rfl, ?_⟩
  rw [decide_eq_false_iff_not]
  exact ⟨fun h => Decidable.not_not.1 fun h2 => h (hk2.2 h2), fun h h2 => hk2.1 h2 h⟩
structure GoodM (m : MarkT) : Prop where
  i : m.items.length = 0
  t0 : 0 ≤ m.told
  t1 : m.told ≤ 9007199254740992
  n : m.nodes.length ≤ 12
  x : ∀ n ∈ m.nodes, ¬ oddI n
  e : (0 < m.nodes.length ∧ m.over = false) ∨ (m.nodes.length = 0 ∧ m.rest = 0)
theorem good_raw (m : MarkT) (cs : List Value) (H : Hp) (hm : kMark.rep H m cs) (hb : BigM m) :
    ACalls Tryz.prog 75 #[.agg cs.toArray] H (fun r _ => ∃ g, r = .bool g ∧ (g = true ↔ GoodM m)) := by
  obtain ⟨v, w, rfl, hv, hw⟩ := hm
  obtain ⟨A, c, rfl⟩ := hv.shape
  obtain ⟨W, cW, rfl⟩ := hw.shape
  have hbn := hb.n
  have hbi := hb.i
  obtain ⟨gx, hgx⟩ : ∃ gx : Bool, (gx = true ↔ (m.items.length = 0 ∧ 0 ≤ m.told ∧ m.told ≤ 9007199254740992 ∧ m.nodes.length ≤ 12 ∧ ∀ n ∈ m.nodes, ¬ oddI n)) := ⟨decide (m.items.length = 0 ∧ 0 ≤ m.told ∧ m.told ≤ 9007199254740992 ∧ m.nodes.length ≤ 12 ∧ ∀ n ∈ m.nodes, ¬ oddI n), decide_eq_true_iff⟩
  obtain ⟨K, hK⟩ : ∃ K, K = H.push (.own 0 [.int .i64 m.told, .bool m.over, .slice A m.nodes.length c, .int .u64 m.rest, .slice W m.items.length cW]) := ⟨_, rfl⟩
  have kg : K.get H.size = .own 0 [.int .i64 m.told, .bool m.over, .slice A m.nodes.length c, .int .u64 m.rest, .slice W m.items.length cW] := by rw [hK]; exact Hp.push_new _ _
  have kz : K.size = H.size + 1 := by rw [hK]; simp
  refine Xv Tryz.func75 rfl rfl rfl (by simp) ?_
  refine Xe ?_
  refine Xb (by kernel_rfl) ?_
  refine Xy (Yq rfl) ?_
  refine Xa (Xh rfl) ?_
  refine Xe ?_
  refine Xb (by kernel_rfl) ?_
  refine Xa (Vw rfl) ?_
  refine Xe ?_
  refine Xe ?_
  change ACode true _ _ _ _ _ (H.push (.own 0 [.int .i64 m.told, .bool m.over, .slice A m.nodes.length c, .int .u64 m.rest, .slice W m.items.length cW]))
  have hvK : Sl (Yz .i64) K (.slice A m.nodes.length c) m.nodes := by rw [hK]; exact hv.mono (H.le_push _).sees
  rw [← hK]
  refine ac_cut (fun t H' => H' = K ∧ t 1 = .pointer (some ⟨H.size, 0, none⟩) ∧ t 29 = .bool (!gx)) ?_ ?_
  refine Xb (by kernel_rfl) ?_
  refine Xa (Xg (off := 4) rfl Tryz.underlying33 rfl inf31.size (by decide) rfl) ?_
  refine Xa (Xk rfl Tryz.underlying31 rfl Xq) ?_
  refine Xa (Yr rfl Tryz.underlying31) ?_
  refine Xa (av_gt rfl rfl) ?_
  refine Xa (Xp rfl) ?_
  refine Yd rfl rfl rfl ?_ ?_
  intro hg1
  have p1 : ¬ m.items.length = 0 := by have := of_decide_eq_true hg1; omega
  have hgf : gx = false := by cases gx with | false => rfl | true => exact absurd (hgx.1 rfl).1 p1
  refine Xc (Xj rfl rfl rfl hg1 rfl) ?_
  refine Xc (Xj rfl rfl rfl hg1 rfl) ?_
  refine Xc (Xj rfl rfl rfl hg1 rfl) ?_
  refine Xa (Xm (congrArg Value.bool hg1) rfl) ?_
  refine Xa (Xp rfl) ?_
  refine Xc (Xj rfl rfl rfl rfl rfl) ?_
  refine Xc (Xj rfl rfl rfl rfl rfl) ?_
  refine Xc (Xj rfl rfl rfl rfl rfl) ?_
  refine Xa (Xm (congrArg Value.bool rfl) rfl) ?_
  refine Xa (Xp rfl) ?_
  refine Xc (Xj rfl rfl rfl rfl rfl) ?_
  refine Xc (Xj rfl rfl rfl rfl rfl) ?_
  refine Xc (Xj rfl rfl rfl rfl rfl) ?_
  refine Xc (Xj rfl rfl rfl rfl rfl) ?_
  refine Xa (Xm (congrArg Value.bool rfl) rfl) ?_
  refine Xa (Xp rfl) ?_
  refine Xc (Xj rfl rfl rfl rfl rfl) ?_
  refine Xc (Xj rfl rfl rfl rfl rfl) ?_
  refine Xc (Xj rfl rfl rfl rfl rfl) ?_
  refine Xc (Xj rfl rfl rfl rfl rfl) ?_
  refine Xa (Xm (congrArg Value.bool rfl) rfl) ?_
  first
    | exact ⟨rfl, rfl, congrArg Value.bool (by rw [hgf]; rfl)⟩
    | exact ⟨rfl, rfl, congrArg Value.bool (by rw [hgg]; simp)⟩
  intro hg1
  have p1 : m.items.length = 0 := by have := of_decide_eq_false hg1; omega
  refine Xl (Xi rfl rfl rfl hg1) (Xg (off := 0) rfl Tryz.underlying33 rfl inf3.size (by decide) rfl) ?_
  refine Xl (Xi rfl rfl rfl hg1) (Xk rfl Tryz.underlying3 rfl Xq) ?_
  refine Xl (Xi rfl rfl rfl hg1) (Zh rfl rfl) ?_
  refine Xa (Xm (congrArg Value.bool hg1) rfl) ?_
  refine Xa (Xp rfl) ?_
  refine Yd rfl rfl rfl ?_ ?_
  intro hg2
  have p2 : m.told < 0 := of_decide_eq_true hg2
  have hgf : gx = false := by cases gx with | false => rfl | true => exact absurd (hgx.1 rfl).2.1 (by omega)
  refine Xc (Xj rfl rfl rfl hg2 rfl) ?_
  refine Xc (Xj rfl rfl rfl hg2 rfl) ?_
  refine Xc (Xj rfl rfl rfl hg2 rfl) ?_
  refine Xa (Xm (congrArg Value.bool hg2) rfl) ?_
  refine Xa (Xp rfl) ?_
  refine Xc (Xj rfl rfl rfl rfl rfl) ?_
  refine Xc (Xj rfl rfl rfl rfl rfl) ?_
  refine Xc (Xj rfl rfl rfl rfl rfl) ?_
  refine Xc (Xj rfl rfl rfl rfl rfl) ?_
  refine Xa (Xm (congrArg Value.bool rfl) rfl) ?_
  refine Xa (Xp rfl) ?_
  refine Xc (Xj rfl rfl rfl rfl rfl) ?_
  refine Xc (Xj rfl rfl rfl rfl rfl) ?_
  refine Xc (Xj rfl rfl rfl rfl rfl) ?_
  refine Xc (Xj rfl rfl rfl rfl rfl) ?_
  refine Xa (Xm (congrArg Value.bool rfl) rfl) ?_
  first
    | exact ⟨rfl, rfl, congrArg Value.bool (by rw [hgf]; rfl)⟩
    | exact ⟨rfl, rfl, congrArg Value.bool (by rw [hgg]; simp)⟩
  intro hg2
  have p2 : ¬ m.told < 0 := of_decide_eq_false hg2
  refine Xl (Xi rfl rfl rfl hg2) (Xg (off := 0) rfl Tryz.underlying33 rfl inf3.size (by decide) rfl) ?_
  refine Xl (Xi rfl rfl rfl hg2) (Xk rfl Tryz.underlying3 rfl Xq) ?_
  refine Xl (Xi rfl rfl rfl hg2) (av_gt rfl rfl) ?_
  refine Xa (Xm (congrArg Value.bool hg2) rfl) ?_
  refine Xa (Xp rfl) ?_
  refine Yd rfl rfl rfl ?_ ?_
  intro hg3
  have p3 : m.told > 9007199254740992 := of_decide_eq_true hg3
  have hgf : gx = false := by cases gx with | false => rfl | true => exact absurd (hgx.1 rfl).2.2.1 (by omega)
  refine Xc (Xj rfl rfl rfl hg3 rfl) ?_
  refine Xc (Xj rfl rfl rfl hg3 rfl) ?_
  refine Xc (Xj rfl rfl rfl hg3 rfl) ?_
  refine Xc (Xj rfl rfl rfl hg3 rfl) ?_
  refine Xa (Xm (congrArg Value.bool hg3) rfl) ?_
  refine Xa (Xp rfl) ?_
  refine Xc (Xj rfl rfl rfl rfl rfl) ?_
  refine Xc (Xj rfl rfl rfl rfl rfl) ?_
  refine Xc (Xj rfl rfl rfl rfl rfl) ?_
  refine Xc (Xj rfl rfl rfl rfl rfl) ?_
  refine Xa (Xm (congrArg Value.bool rfl) rfl) ?_
  first
    | exact ⟨rfl, rfl, congrArg Value.bool (by rw [hgf]; rfl)⟩
    | exact ⟨rfl, rfl, congrArg Value.bool (by rw [hgg]; simp)⟩
  intro hg3
  have p3 : ¬ m.told > 9007199254740992 := of_decide_eq_false hg3
  refine Xl (Xi rfl rfl rfl hg3) (Xg (off := 2) rfl Tryz.underlying33 rfl inf23.size (by decide) rfl) ?_
  refine Xl (Xi rfl rfl rfl hg3) (Xk rfl Tryz.underlying23 rfl Xq) ?_
  refine Xl (Xi rfl rfl rfl hg3) (Yr rfl Tryz.underlying23) ?_
  refine Xl (Xi rfl rfl rfl hg3) (av_gt rfl rfl) ?_
  refine Xa (Xm (congrArg Value.bool hg3) rfl) ?_
  refine Xa (Xp rfl) ?_
  refine Yd rfl rfl rfl ?_ ?_
  intro hg4
  have p4 : m.nodes.length > 12 := by have := of_decide_eq_true hg4; omega
  have hgf : gx = false := by cases gx with | false => rfl | true => exact absurd (hgx.1 rfl).2.2.2.1 (by omega)
  refine Xc (Xj rfl rfl rfl hg4 rfl) ?_
  refine Xc (Xj rfl rfl rfl hg4 rfl) ?_
  refine Xc (Xj rfl rfl rfl hg4 rfl) ?_
  refine Xc (Xj rfl rfl rfl hg4 rfl) ?_
  refine Xa (Xm (congrArg Value.bool hg4) rfl) ?_
  first
    | exact ⟨rfl, rfl, congrArg Value.bool (by rw [hgf]; rfl)⟩
    | exact ⟨rfl, rfl, congrArg Value.bool (by rw [hgg]; simp)⟩
  intro hg4
  have p4 : ¬ m.nodes.length > 12 := by have := of_decide_eq_false hg4; omega
  refine Xl (Xi rfl rfl rfl hg4) (Xg (off := 2) rfl Tryz.underlying33 rfl inf23.size (by decide) rfl) ?_
  refine Xl (Xi rfl rfl rfl hg4) (Xk rfl Tryz.underlying23 rfl Xq) ?_
  refine Xl (Xi rfl rfl rfl hg4) (Zs rfl) ?_
  refine aops_want (Xi rfl rfl rfl hg4) (Xx (Contains_ints m.nodes _ _ hvK hbn) rfl Tryz.func103 rfl rfl rfl ?_)
  rintro v28 K ⟨⟨g, rfl, hg⟩, rfl⟩; have hgg : gx = !g := (by
      cases g with
      | false => exact hgx.2 ⟨p1, by omega, by omega, by omega, hg.1 rfl⟩
      | true =>
        cases gx with
        | false => rfl
        | true => exact absurd (hg.2 (hgx.1 rfl).2.2.2.2) (by decide))
  refine Xa (Xm (congrArg Value.bool hg4) rfl) ?_
  first
    | exact ⟨rfl, rfl, congrArg Value.bool (by rw [hgf]; rfl)⟩
    | exact ⟨rfl, rfl, congrArg Value.bool (by rw [hgg]; simp)⟩
  rintro t K ⟨rfl, e1, e29⟩
  refine X8 Xn rfl ?_ ?_
  intro hc5
  have hgf : gx = false := by have h := hc5; simpa using h
  refine Xe ?_
  refine Xb (by kernel_rfl) ?_
  refine Xa (Xh rfl) ?_
  refine X2 ?_
  exact ⟨_, X1 (Xu rfl), false, rfl, ⟨fun h => (by cases h), fun h => (by rw [hgx.2 ⟨h.i, h.t0, h.t1, h.n, h.x⟩] at hgf; cases hgf)⟩⟩
  intro hc5
  have hgt : gx = true := by have h := hc5; simpa using h
  obtain ⟨q1, q2, q3, q4, q5⟩ := hgx.1 hgt
  refine Yf ?_
  refine Xe ?_
  refine Xb (by kernel_rfl) ?_
  refine Xa (Xg (off := 2) Xn Tryz.underlying33 Xn inf23.size (by decide) Xn) ?_
  refine Xa (Xk rfl Tryz.underlying23 rfl Xq) ?_
  refine Xa (Yr rfl Tryz.underlying23) ?_
  refine Xa (av_gt rfl rfl) ?_
  refine Xa (Xp rfl) ?_
  refine Yd rfl rfl rfl ?_ ?_
  intro hg6
  have r1 : 0 < m.nodes.length := by have := of_decide_eq_true hg6; omega
  refine Xl (Xi rfl rfl rfl hg6) (Xg (off := 1) Xn Tryz.underlying33 Xn inf4.size (by decide) Xn) ?_
  refine Xl (Xi rfl rfl rfl hg6) (Xk rfl Tryz.underlying4 rfl Xq) ?_
  refine Xl (Xi rfl rfl rfl hg6) (Zq rfl) ?_
  refine Xa (Xm (congrArg Value.bool hg6) rfl) ?_
  refine Xa (Xp rfl) ?_
  refine Yd rfl rfl rfl ?_ ?_
  intro hg7
  have r2 : m.over = false := by have h := hg7; simpa using h
  refine Xc (Xj rfl rfl rfl hg7 rfl) ?_
  refine Xc (Xj rfl rfl rfl hg7 rfl) ?_
  refine Xc (Xj rfl rfl rfl hg7 rfl) ?_
  refine Xc (Xj rfl rfl rfl hg7 rfl) ?_
  refine Xc (Xj rfl rfl rfl hg7 rfl) ?_
  refine Xc (X3 rfl rfl rfl) ?_
  refine Xc (X3 rfl rfl rfl) ?_
  refine Xc (X3 rfl rfl rfl) ?_
  refine Xc (Xj rfl rfl rfl hg7 rfl) ?_
  refine Xa (Xm (congrArg Value.bool hg7) Xn) ?_
  refine Xa (Xh rfl) ?_
  refine X2 ?_
  refine ⟨_, X1 (Xu rfl), _, rfl, ?_⟩
  first
    | exact absurd r1 r3
    | exact ⟨fun _ => ⟨q1, q2, q3, q4, q5, .inl ⟨r1, r2⟩⟩, fun _ => rfl⟩
    | exact ⟨fun h => ⟨q1, q2, q3, q4, q5, .inr ⟨r1, of_decide_eq_true h⟩⟩, fun h => decide_eq_true (h.e.resolve_left (fun h2 => by omega)).2⟩
    | exact ⟨fun h => (by cases h), fun h => (by rcases h.e with h2 | h2; (· rw [r2] at h2; exact absurd h2.2 (by decide)); (· omega))⟩
    | exact ⟨fun h => ⟨q1, q2, q3, q4, q5, .inr ⟨r3, of_decide_eq_true h⟩⟩, fun h => decide_eq_true (h.e.resolve_left (fun h2 => by omega)).2⟩
  intro hg7
  have r2 : m.over = true := by have h := hg7; simpa using h
  refine Xl (Xi rfl rfl rfl hg7) (Xg (off := 2) Xn Tryz.underlying33 Xn inf23.size (by decide) Xn) ?_
  refine Xl (Xi rfl rfl rfl hg7) (Xk rfl Tryz.underlying23 rfl Xq) ?_
  refine Xl (Xi rfl rfl rfl hg7) (Yr rfl Tryz.underlying23) ?_
  refine Xl (Xi rfl rfl rfl hg7) (Zt rfl rfl) ?_
  refine Xl (Xi rfl rfl rfl hg7) (Xp rfl) ?_
  refine Yd rfl rfl rfl ?_ ?_
  intro hg8
  have r3 : m.nodes.length = 0 := by have := of_decide_eq_true hg8; omega
  refine Xl (Xi rfl rfl rfl hg8) (Xg (off := 3) Xn Tryz.underlying33 Xn inf30.size (by decide) Xn) ?_
  refine Xl (Xi rfl rfl rfl hg8) (Xk rfl Tryz.underlying30 rfl Xq) ?_
  refine Xl (Xi rfl rfl rfl hg8) (Zt rfl rfl) ?_
  refine Xl (Xi rfl rfl rfl hg7) (Xm (congrArg Value.bool hg8) rfl) ?_
  refine Xa (Xm (congrArg Value.bool hg7) rfl) ?_
  refine Xa (Xh rfl) ?_
  refine X2 ?_
  refine ⟨_, X1 (Xu rfl), _, rfl, ?_⟩
  first
    | exact absurd r1 r3
    | exact ⟨fun _ => ⟨q1, q2, q3, q4, q5, .inl ⟨r1, r2⟩⟩, fun _ => rfl⟩
    | exact ⟨fun h => ⟨q1, q2, q3, q4, q5, .inr ⟨r1, of_decide_eq_true h⟩⟩, fun h => decide_eq_true (h.e.resolve_left (fun h2 => by omega)).2⟩
    | exact ⟨fun h => (by cases h), fun h => (by rcases h.e with h2 | h2; (· rw [r2] at h2; exact absurd h2.2 (by decide)); (· omega))⟩
    | exact ⟨fun h => ⟨q1, q2, q3, q4, q5, .inr ⟨r3, of_decide_eq_true h⟩⟩, fun h => decide_eq_true (h.e.resolve_left (fun h2 => by omega)).2⟩
  intro hg8
  have r3 : ¬ m.nodes.length = 0 := by have := of_decide_eq_false hg8; omega
  refine Xc (Xj rfl rfl rfl hg8 rfl) ?_
  refine Xc (Xj rfl rfl rfl hg8 rfl) ?_
  refine Xc (Xj rfl rfl rfl hg8 rfl) ?_
  refine Xl (Xi rfl rfl rfl hg7) (Xm (congrArg Value.bool hg8) Xn) ?_
  refine Xa (Xm (congrArg Value.bool hg7) rfl) ?_
  refine Xa (Xh rfl) ?_
  refine X2 ?_
  refine ⟨_, X1 (Xu rfl), _, rfl, ?_⟩
  first
    | exact absurd r1 r3
    | exact ⟨fun _ => ⟨q1, q2, q3, q4, q5, .inl ⟨r1, r2⟩⟩, fun _ => rfl⟩
    | exact ⟨fun h => ⟨q1, q2, q3, q4, q5, .inr ⟨r1, of_decide_eq_true h⟩⟩, fun h => decide_eq_true (h.e.resolve_left (fun h2 => by omega)).2⟩
    | exact ⟨fun h => (by cases h), fun h => (by rcases h.e with h2 | h2; (· rw [r2] at h2; exact absurd h2.2 (by decide)); (· omega))⟩
    | exact ⟨fun h => ⟨q1, q2, q3, q4, q5, .inr ⟨r3, of_decide_eq_true h⟩⟩, fun h => decide_eq_true (h.e.resolve_left (fun h2 => by omega)).2⟩
  intro hg6
  have r1 : m.nodes.length = 0 := by have := of_decide_eq_false hg6; omega
  refine Xc (Xj rfl rfl rfl hg6 rfl) ?_
  refine Xc (Xj rfl rfl rfl hg6 rfl) ?_
  refine Xc (Xj rfl rfl rfl hg6 rfl) ?_
  refine Xa (Xm (congrArg Value.bool hg6) Xn) ?_
  refine Xa (Xp rfl) ?_
  refine Xl (Xi rfl rfl rfl rfl) (Xg (off := 2) Xn Tryz.underlying33 Xn inf23.size (by decide) Xn) ?_
  refine Xl (Xi rfl rfl rfl rfl) (Xk rfl Tryz.underlying23 rfl Xq) ?_
  refine Xl (Xi rfl rfl rfl rfl) (Yr rfl Tryz.underlying23) ?_
  refine Xl (Xi rfl rfl rfl rfl) (Zt rfl rfl) ?_
  refine Xl (Xi rfl rfl rfl rfl) (Xp rfl) ?_
  refine Yd rfl rfl rfl ?_ ?_
  intro hg9
  have r3 : m.nodes.length = 0 := by have := of_decide_eq_true hg9; omega
  refine Xl (Xi rfl rfl rfl hg9) (Xg (off := 3) Xn Tryz.underlying33 Xn inf30.size (by decide) Xn) ?_
  refine Xl (Xi rfl rfl rfl hg9) (Xk rfl Tryz.underlying30 rfl Xq) ?_
  refine Xl (Xi rfl rfl rfl hg9) (Zt rfl rfl) ?_
  refine Xl (Xi rfl rfl rfl rfl) (Xm (congrArg Value.bool hg9) rfl) ?_
  refine Xa (Xm (congrArg Value.bool rfl) rfl) ?_
  refine Xa (Xh rfl) ?_
  refine X2 ?_
  refine ⟨_, X1 (Xu rfl), _, rfl, ?_⟩
  first
    | exact absurd r1 r3
    | exact ⟨fun _ => ⟨q1, q2, q3, q4, q5, .inl ⟨r1, r2⟩⟩, fun _ => rfl⟩
    | exact ⟨fun h => ⟨q1, q2, q3, q4, q5, .inr ⟨r1, of_decide_eq_true h⟩⟩, fun h => decide_eq_true (h.e.resolve_left (fun h2 => by omega)).2⟩
    | exact ⟨fun h => (by cases h), fun h => (by rcases h.e with h2 | h2; (· rw [r2] at h2; exact absurd h2.2 (by decide)); (· omega))⟩
    | exact ⟨fun h => ⟨q1, q2, q3, q4, q5, .inr ⟨r3, of_decide_eq_true h⟩⟩, fun h => decide_eq_true (h.e.resolve_left (fun h2 => by omega)).2⟩
  intro hg9
  have r3 : ¬ m.nodes.length = 0 := by have := of_decide_eq_false hg9; omega
  refine Xc (Xj rfl rfl rfl hg9 rfl) ?_
  refine Xc (Xj rfl rfl rfl hg9 rfl) ?_
  refine Xc (Xj rfl rfl rfl hg9 rfl) ?_
  refine Xl (Xi rfl rfl rfl rfl) (Xm (congrArg Value.bool hg9) Xn) ?_
  refine Xa (Xm (congrArg Value.bool rfl) rfl) ?_
  refine Xa (Xh rfl) ?_
  refine X2 ?_
  refine ⟨_, X1 (Xu rfl), _, rfl, ?_⟩
  first
    | exact absurd r1 r3
    | exact ⟨fun _ => ⟨q1, q2, q3, q4, q5, .inl ⟨r1, r2⟩⟩, fun _ => rfl⟩
    | exact ⟨fun h => ⟨q1, q2, q3, q4, q5, .inr ⟨r1, of_decide_eq_true h⟩⟩, fun h => decide_eq_true (h.e.resolve_left (fun h2 => by omega)).2⟩
    | exact ⟨fun h => (by cases h), fun h => (by rcases h.e with h2 | h2; (· rw [r2] at h2; exact absurd h2.2 (by decide)); (· omega))⟩
    | exact ⟨fun h => ⟨q1, q2, q3, q4, q5, .inr ⟨r3, of_decide_eq_true h⟩⟩, fun h => decide_eq_true (h.e.resolve_left (fun h2 => by omega)).2⟩
theorem good_36 (m : MarkT) (cs : List Value) (H : Hp) (hm : kMark.rep H m cs) (hb : BigM m) :
    ACalls Tryz.prog 75 #[.agg cs.toArray] H (fun r H' => (∃ g, r = .bool g ∧ (g = true ↔ GoodM m)) ∧ H' = H) :=
  ACalls.pure (fun v ⟨g, h, _⟩ => by rw [h]; rfl) (good_raw m cs H.ro (kMark.mono H.sees_ro hm) hb)
end Go.Proofs.YtmakkmcjocjgmaaGreat.Am


/- The document's own words on marks. -/
namespace Go.Proofs.YtmakkmcjocjgmaaGreat.Am
open Go Go.RowKit
set_option maxRecDepth 100000
set_option linter.unusedVariables false
set_option linter.unusedSimpArgs false

theorem goodR_raw (m : MarkT) (cs : List Value) (H : Hp) (hm : kMark.rep H m cs) (hb : BigM m) (hr : 0 ≤ m.rest) :
    ACalls Tryz.prog 24 #[.agg cs.toArray] H (fun r _ => ∃ g, r = .bool g ∧ (g = true ↔ GoodM m)) := by
  obtain ⟨v, w, rfl, hv, hw⟩ := hm
  obtain ⟨A, c, rfl⟩ := hv.shape
  obtain ⟨W, cW, rfl⟩ := hw.shape
  have hbn := hb.n
  have hbi := hb.i
  obtain ⟨K, hK⟩ : ∃ K, K = H.push (.own 0 [.int .i64 m.told, .bool m.over, .slice A m.nodes.length c, .int .u64 m.rest, .slice W m.items.length cW]) := ⟨_, rfl⟩
  have kg : K.get H.size = .own 0 [.int .i64 m.told, .bool m.over, .slice A m.nodes.length c, .int .u64 m.rest, .slice W m.items.length cW] := by rw [hK]; exact Hp.push_new _ _
  have kz : K.size = H.size + 1 := by rw [hK]; simp
  have leK : H.le K := by rw [hK]; exact H.le_push _
  refine Xv Tryz.func24 rfl rfl rfl (by simp) ?_
  refine Xe ?_
  refine Xb (by kernel_rfl) ?_
  refine Xy (Yq rfl) ?_
  refine Xa (Xh rfl) ?_
  refine Xe ?_
  refine Xe ?_
  refine Xb (by kernel_rfl) ?_
  refine Xa (Xo rfl) ?_
  refine Yo ?_
  refine Za (fun n t H' => ∃ (i : Nat) (E : Option Addr), n = m.nodes.length - i ∧ i ≤ m.nodes.length ∧ H' = K ∧ K.get H.size = .own 0 [.int .i64 m.told, .bool m.over, .slice E m.nodes.length c, .int .u64 m.rest, .slice W m.items.length cW] ∧ Sl (Yz .i64) H (.slice E m.nodes.length c) m.nodes ∧ (∀ x ∈ m.nodes.take i, ¬ oddI x) ∧ t 1 = .pointer (some ⟨H.size, 0, none⟩) ∧ t 3 = .int .i64 i) (m.nodes.length) (⟨0, _, rfl, Nat.zero_le _, hK.symm, kg, hv, by simp, rfl, rfl⟩) ?_
  rintro n t K2 ⟨i, E, rfl, hi, hK2, kg, hv, hno, e1, e3⟩
  subst hK2
  refine Xe ?_
  refine Xe ?_
  refine Xb (by kernel_rfl) ?_
  refine Xa (Xf Xn) ?_
  refine Xa (Xg (off := 2) Xn Tryz.underlying33 Xn inf23.size (by decide) Xn) ?_
  refine Xa (Xk rfl Tryz.underlying23 rfl Xq) ?_
  refine Xa (Yr rfl Tryz.underlying23) ?_
  refine Xa (Zh rfl rfl) ?_
  refine X8 rfl rfl ?_ ?_
  intro hc1
  have hil : i < m.nodes.length := by have := of_decide_eq_true hc1; omega
  obtain ⟨b, o, eE, hbE, hcell⟩ := (hv.mono leK.sees).int_at (i := (i : Int)) (by omega) (by omega)
  rw [Int.toNat_natCast, Y9 hil] at hcell
  subst eE
  refine Yf ?_
  refine Xe ?_
  refine Yo ?_
  refine Xe ?_
  refine Xb (by kernel_rfl) ?_
  refine Xa (Xg (off := 2) Xn Tryz.underlying33 Xn inf23.size (by decide) Xn) ?_
  refine Xa (Xk rfl Tryz.underlying23 rfl Xq) ?_
  refine Xa (Xf Xn) ?_
  refine Xa (Xz rfl rfl Tryz.underlying23 inf3.size Yc Yc) ?_
  refine Xa (Xk rfl Tryz.underlying3 rfl Xq) ?_
  refine Xa (Zh rfl rfl) ?_
  refine Xa (Xp rfl) ?_
  refine Yd rfl rfl rfl ?_ ?_
  intro hg2
  have hneg : m.nodes[i] < 0 := of_decide_eq_true hg2
  refine Xc (Xj rfl rfl rfl hg2 rfl) ?_
  refine Xc (Xj rfl rfl rfl hg2 rfl) ?_
  refine Xc (Xj rfl rfl rfl hg2 rfl) ?_
  refine Xc (Xj rfl rfl rfl hg2 rfl) ?_
  refine Xc (Xj rfl rfl rfl hg2 rfl) ?_
  refine Xc (Xj rfl rfl rfl hg2 rfl) ?_
  refine Xa (Xm (congrArg Value.bool hg2) Xn) ?_
  refine Yt rfl rfl ?_
  refine Xe ?_
  refine Xb (by kernel_rfl) ?_
  refine Xa (Xh rfl) ?_
  refine X2 ?_
  exact ⟨.bool false, X1 (Xu rfl), false, rfl, ⟨fun h => (by cases h), fun h => absurd (by first | exact .inl hneg | exact hod) (h.x _ (List.getElem_mem hil))⟩⟩
  intro hg2
  have hneg : ¬ m.nodes[i] < 0 := of_decide_eq_false hg2
  refine Xl (Xi rfl rfl rfl hg2) (Xg (off := 2) Xn Tryz.underlying33 Xn inf23.size (by decide) Xn) ?_
  refine Xl (Xi rfl rfl rfl hg2) (Xk rfl Tryz.underlying23 rfl Xq) ?_
  refine Xl (Xi rfl rfl rfl hg2) (Xf Xn) ?_
  refine Xl (Xi rfl rfl rfl hg2) (Xz rfl rfl Tryz.underlying23 inf3.size Yc Yc) ?_
  refine Xl (Xi rfl rfl rfl hg2) (Xk rfl Tryz.underlying3 rfl Xq) ?_
  refine Xl (Xi rfl rfl rfl hg2) (av_gt rfl rfl) ?_
  refine Xa (Xm (congrArg Value.bool hg2) rfl) ?_
  refine X8 rfl rfl ?_ ?_
  intro hc4
  have hod : oddI m.nodes[i] := by
    unfold oddI
    first
      | exact .inl hneg
      | (have := of_decide_eq_true hc4; omega)
  refine Xe ?_
  refine Xb (by kernel_rfl) ?_
  refine Xa (Xh rfl) ?_
  refine X2 ?_
  exact ⟨.bool false, X1 (Xu rfl), false, rfl, ⟨fun h => (by cases h), fun h => absurd (by first | exact .inl hneg | exact hod) (h.x _ (List.getElem_mem hil))⟩⟩
  intro hc4
  have hod : ¬ oddI m.nodes[i] := by
    unfold oddI
    have := of_decide_eq_false hc4
    omega
  refine Yf ?_
  refine Xb (by kernel_rfl) ?_
  refine Xa (Xf Xn) ?_
  refine Xa (Yw rfl rfl Y4) ?_
  refine Xa (Xo rfl) ?_
  refine ⟨m.nodes.length - (i + 1), by omega, i + 1, _, rfl, by omega, rfl, kg, hv, ?_, e1, rfl⟩
  rw [← Zb hil]
  intro x hx
  rcases List.mem_append.1 hx with hx | hx
  · exact hno x hx
  · simp at hx; rw [hx]; exact hod
  intro hc1
  have hil : i = m.nodes.length := by have := of_decide_eq_false hc1; omega
  rw [hil, List.take_length] at hno
  refine Y5 ?_
  refine Xe ?_
  refine Xe ?_
  refine ac_cut (fun t H' => H' = K2 ∧ t 1 = .pointer (some ⟨H.size, 0, none⟩) ∧ t 43 = .bool (decide ((m.nodes.length = 0 ∧ 0 < m.rest) ∨ (m.over = true ∧ 0 < m.nodes.length)))) ?_ ?_
  refine Xb (by kernel_rfl) ?_
  refine Xa (Xg (off := 2) Xn Tryz.underlying33 Xn inf23.size (by decide) Xn) ?_
  refine Xa (Xk rfl Tryz.underlying23 rfl Xq) ?_
  refine Xa (Yr rfl Tryz.underlying23) ?_
  refine Xa (Zt rfl rfl) ?_
  refine Xa (Xp rfl) ?_
  refine Yd rfl rfl rfl ?_ ?_
  intro hg5
  have r1 : m.nodes.length = 0 := by have := of_decide_eq_true hg5; omega
  refine Xl (Xi rfl rfl rfl hg5) (Xg (off := 3) Xn Tryz.underlying33 Xn inf30.size (by decide) Xn) ?_
  refine Xl (Xi rfl rfl rfl hg5) (Xk rfl Tryz.underlying30 rfl Xq) ?_
  refine Xl (Xi rfl rfl rfl hg5) (av_gt rfl rfl) ?_
  refine Xa (Xm (congrArg Value.bool hg5) rfl) ?_
  refine Xa (Xp rfl) ?_
  refine Yd rfl rfl rfl ?_ ?_
  intro hg6
  have r2 : 0 < m.rest := by have := of_decide_eq_true hg6; omega
  refine Xc (Xj rfl rfl rfl hg6 rfl) ?_
  refine Xc (Xj rfl rfl rfl hg6 rfl) ?_
  refine Xc (Xj rfl rfl rfl hg6 rfl) ?_
  refine Xc (X3 rfl rfl rfl) ?_
  refine Xc (X3 rfl rfl rfl) ?_
  refine Xc (X3 rfl rfl rfl) ?_
  refine Xc (X3 rfl rfl rfl) ?_
  refine Xc (Xj rfl rfl rfl hg6 rfl) ?_
  refine Xa (Xm (congrArg Value.bool hg6) Xn) ?_
  first
    | exact ⟨rfl, e1, congrArg Value.bool (by symm; apply decide_eq_true; exact .inl ⟨r1, r2⟩)⟩
    | exact ⟨rfl, e1, congrArg Value.bool (by rw [decide_eq_decide]; exact ⟨fun h => .inr ⟨r3, by omega⟩, fun h => by rcases h with h | h <;> omega⟩)⟩
    | exact ⟨rfl, e1, congrArg Value.bool (by symm; rw [decide_eq_false_iff_not]; intro h; rcases h with h | h; (· omega); (· rw [r3] at h; exact absurd h.1 (by decide)))⟩
    | exact ⟨rfl, e1, congrArg Value.bool (by rw [decide_eq_decide]; exact ⟨fun h => .inr ⟨r3, by omega⟩, fun h => by rcases h with h | h; (· omega); (· have := h.2; omega)⟩)⟩
  intro hg6
  have r2 : ¬ 0 < m.rest := by have := of_decide_eq_false hg6; omega
  refine Xl (Xi rfl rfl rfl hg6) (Xg (off := 1) Xn Tryz.underlying33 Xn inf4.size (by decide) Xn) ?_
  refine Xl (Xi rfl rfl rfl hg6) (Xk rfl Tryz.underlying4 rfl Xq) ?_
  refine Xl (Xi rfl rfl rfl hg6) (Xp rfl) ?_
  refine Yd rfl rfl rfl ?_ ?_
  intro hg7
  have r3 : m.over = true := hg7
  refine Xl (Xi rfl rfl rfl hg7) (Xg (off := 2) Xn Tryz.underlying33 Xn inf23.size (by decide) Xn) ?_
  refine Xl (Xi rfl rfl rfl hg7) (Xk rfl Tryz.underlying23 rfl Xq) ?_
  refine Xl (Xi rfl rfl rfl hg7) (Yr rfl Tryz.underlying23) ?_
  refine Xl (Xi rfl rfl rfl hg7) (av_gt rfl rfl) ?_
  refine Xl (Xi rfl rfl rfl hg6) (Xm (congrArg Value.bool hg7) rfl) ?_
  refine Xa (Xm (congrArg Value.bool hg6) rfl) ?_
  first
    | exact ⟨rfl, e1, congrArg Value.bool (by symm; apply decide_eq_true; exact .inl ⟨r1, r2⟩)⟩
    | exact ⟨rfl, e1, congrArg Value.bool (by rw [decide_eq_decide]; exact ⟨fun h => .inr ⟨r3, by omega⟩, fun h => by rcases h with h | h <;> omega⟩)⟩
    | exact ⟨rfl, e1, congrArg Value.bool (by symm; rw [decide_eq_false_iff_not]; intro h; rcases h with h | h; (· omega); (· rw [r3] at h; exact absurd h.1 (by decide)))⟩
    | exact ⟨rfl, e1, congrArg Value.bool (by rw [decide_eq_decide]; exact ⟨fun h => .inr ⟨r3, by omega⟩, fun h => by rcases h with h | h; (· omega); (· have := h.2; omega)⟩)⟩
  intro hg7
  have r3 : m.over = false := hg7
  refine Xc (Xj rfl rfl rfl hg7 rfl) ?_
  refine Xc (Xj rfl rfl rfl hg7 rfl) ?_
  refine Xc (Xj rfl rfl rfl hg7 rfl) ?_
  refine Xc (Xj rfl rfl rfl hg7 rfl) ?_
  refine Xl (Xi rfl rfl rfl hg6) (Xm (congrArg Value.bool hg7) Xn) ?_
  refine Xa (Xm (congrArg Value.bool hg6) rfl) ?_
  first
    | exact ⟨rfl, e1, congrArg Value.bool (by symm; apply decide_eq_true; exact .inl ⟨r1, r2⟩)⟩
    | exact ⟨rfl, e1, congrArg Value.bool (by rw [decide_eq_decide]; exact ⟨fun h => .inr ⟨r3, by omega⟩, fun h => by rcases h with h | h <;> omega⟩)⟩
    | exact ⟨rfl, e1, congrArg Value.bool (by symm; rw [decide_eq_false_iff_not]; intro h; rcases h with h | h; (· omega); (· rw [r3] at h; exact absurd h.1 (by decide)))⟩
    | exact ⟨rfl, e1, congrArg Value.bool (by rw [decide_eq_decide]; exact ⟨fun h => .inr ⟨r3, by omega⟩, fun h => by rcases h with h | h; (· omega); (· have := h.2; omega)⟩)⟩
  intro hg5
  have r1 : ¬ m.nodes.length = 0 := by have := of_decide_eq_false hg5; omega
  refine Xc (Xj rfl rfl rfl hg5 rfl) ?_
  refine Xc (Xj rfl rfl rfl hg5 rfl) ?_
  refine Xc (Xj rfl rfl rfl hg5 rfl) ?_
  refine Xa (Xm (congrArg Value.bool hg5) Xn) ?_
  refine Xa (Xp rfl) ?_
  refine Xl (Xi rfl rfl rfl rfl) (Xg (off := 1) Xn Tryz.underlying33 Xn inf4.size (by decide) Xn) ?_
  refine Xl (Xi rfl rfl rfl rfl) (Xk rfl Tryz.underlying4 rfl Xq) ?_
  refine Xl (Xi rfl rfl rfl rfl) (Xp rfl) ?_
  refine Yd rfl rfl rfl ?_ ?_
  intro hg8
  have r3 : m.over = true := hg8
  refine Xl (Xi rfl rfl rfl hg8) (Xg (off := 2) Xn Tryz.underlying33 Xn inf23.size (by decide) Xn) ?_
  refine Xl (Xi rfl rfl rfl hg8) (Xk rfl Tryz.underlying23 rfl Xq) ?_
  refine Xl (Xi rfl rfl rfl hg8) (Yr rfl Tryz.underlying23) ?_
  refine Xl (Xi rfl rfl rfl hg8) (av_gt rfl rfl) ?_
  refine Xl (Xi rfl rfl rfl rfl) (Xm (congrArg Value.bool hg8) rfl) ?_
  refine Xa (Xm (congrArg Value.bool rfl) rfl) ?_
  first
    | exact ⟨rfl, e1, congrArg Value.bool (by symm; apply decide_eq_true; exact .inl ⟨r1, r2⟩)⟩
    | exact ⟨rfl, e1, congrArg Value.bool (by rw [decide_eq_decide]; exact ⟨fun h => .inr ⟨r3, by omega⟩, fun h => by rcases h with h | h <;> omega⟩)⟩
    | exact ⟨rfl, e1, congrArg Value.bool (by symm; rw [decide_eq_false_iff_not]; intro h; rcases h with h | h; (· omega); (· rw [r3] at h; exact absurd h.1 (by decide)))⟩
    | exact ⟨rfl, e1, congrArg Value.bool (by rw [decide_eq_decide]; exact ⟨fun h => .inr ⟨r3, by omega⟩, fun h => by rcases h with h | h; (· omega); (· have := h.2; omega)⟩)⟩
  intro hg8
  have r3 : m.over = false := hg8
  refine Xc (Xj rfl rfl rfl hg8 rfl) ?_
  refine Xc (Xj rfl rfl rfl hg8 rfl) ?_
  refine Xc (Xj rfl rfl rfl hg8 rfl) ?_
  refine Xc (Xj rfl rfl rfl hg8 rfl) ?_
  refine Xl (Xi rfl rfl rfl rfl) (Xm (congrArg Value.bool hg8) Xn) ?_
  refine Xa (Xm (congrArg Value.bool rfl) rfl) ?_
  first
    | exact ⟨rfl, e1, congrArg Value.bool (by symm; apply decide_eq_true; exact .inl ⟨r1, r2⟩)⟩
    | exact ⟨rfl, e1, congrArg Value.bool (by rw [decide_eq_decide]; exact ⟨fun h => .inr ⟨r3, by omega⟩, fun h => by rcases h with h | h <;> omega⟩)⟩
    | exact ⟨rfl, e1, congrArg Value.bool (by symm; rw [decide_eq_false_iff_not]; intro h; rcases h with h | h; (· omega); (· rw [r3] at h; exact absurd h.1 (by decide)))⟩
    | exact ⟨rfl, e1, congrArg Value.bool (by rw [decide_eq_decide]; exact ⟨fun h => .inr ⟨r3, by omega⟩, fun h => by rcases h with h | h; (· omega); (· have := h.2; omega)⟩)⟩
  rintro t K3 ⟨hK3, e1, e43⟩
  subst hK3
  refine X8 Xn rfl ?_ ?_
  intro hc9
  have hbad : ¬ GoodM m := fun h => by
    have h2 := of_decide_eq_true hc9
    rcases h.e with h3 | h3
    · rcases h2 with h4 | h4
      · omega
      · rw [h3.2] at h4; exact absurd h4.1 (by decide)
    · rcases h2 with h4 | h4 <;> omega
  refine Xe ?_
  refine Xb (by kernel_rfl) ?_
  refine Xa (Xh rfl) ?_
  refine X2 ?_
  exact ⟨.bool false, X1 (Xu rfl), false, rfl, ⟨fun h => (by cases h), fun h => absurd h hbad⟩⟩
  intro hc9
  have hgoodE : (0 < m.nodes.length ∧ m.over = false) ∨ (m.nodes.length = 0 ∧ m.rest = 0) := by
    have h2 := of_decide_eq_false hc9
    rcases Nat.eq_zero_or_pos m.nodes.length with h3 | h3
    · exact .inr ⟨h3, Decidable.byContradiction fun h4 => h2 (.inl ⟨h3, by omega⟩)⟩
    · refine .inl ⟨h3, ?_⟩
      cases ho : m.over with
      | false => rfl
      | true => exact absurd (.inr ⟨ho, h3⟩) h2
  refine Yf ?_
  refine Xe ?_
  refine Xb (by kernel_rfl) ?_
  refine Xa (Xg (off := 4) Xn Tryz.underlying33 Xn inf31.size (by decide) Xn) ?_
  refine Xa (Xk rfl Tryz.underlying31 rfl Xq) ?_
  refine Xa (Yr rfl Tryz.underlying31) ?_
  refine Xa (Zt rfl rfl) ?_
  refine Xa (Xp rfl) ?_
  refine Yd rfl rfl rfl ?_ ?_
  intro hg10
  have s1 : m.items.length = 0 := by have := of_decide_eq_true hg10; omega
  refine Xl (Xi rfl rfl rfl hg10) (Xg (off := 0) Xn Tryz.underlying33 Xn inf3.size (by decide) Xn) ?_
  refine Xl (Xi rfl rfl rfl hg10) (Xk rfl Tryz.underlying3 rfl Xq) ?_
  refine Xl (Xi rfl rfl rfl hg10) (av_ge rfl rfl) ?_
  refine Xa (Xm (congrArg Value.bool hg10) rfl) ?_
  refine Xa (Xp rfl) ?_
  refine Yd rfl rfl rfl ?_ ?_
  intro hg11
  have s2 : 0 ≤ m.told := by have := of_decide_eq_true hg11; omega
  refine Xl (Xi rfl rfl rfl hg11) (Xg (off := 0) Xn Tryz.underlying33 Xn inf3.size (by decide) Xn) ?_
  refine Xl (Xi rfl rfl rfl hg11) (Xk rfl Tryz.underlying3 rfl Xq) ?_
  refine Xl (Xi rfl rfl rfl hg11) (av_le rfl rfl) ?_
  refine Xa (Xm (congrArg Value.bool hg11) rfl) ?_
  refine Xa (Xp rfl) ?_
  refine Yd rfl rfl rfl ?_ ?_
  intro hg12
  have s3 : m.told ≤ 9007199254740992 := by have := of_decide_eq_true hg12; omega
  refine Xl (Xi rfl rfl rfl hg12) (Xg (off := 2) Xn Tryz.underlying33 Xn inf23.size (by decide) Xn) ?_
  refine Xl (Xi rfl rfl rfl hg12) (Xk rfl Tryz.underlying23 rfl Xq) ?_
  refine Xl (Xi rfl rfl rfl hg12) (Yr rfl Tryz.underlying23) ?_
  refine Xl (Xi rfl rfl rfl hg12) (Zh rfl rfl) ?_
  refine Xa (Xm (congrArg Value.bool hg12) rfl) ?_
  refine Xa (Xh rfl) ?_
  refine X2 ?_
  refine ⟨_, X1 (Xu rfl), _, rfl, ?_⟩
  first
    | exact ⟨fun h => ⟨s1, s2, s3, by have := of_decide_eq_true h; omega, hno, hgoodE⟩, fun h => decide_eq_true (by have := h.n; omega)⟩
    | exact ⟨fun h => (by cases h), fun h => absurd h.t1 s3⟩
    | exact ⟨fun h => (by cases h), fun h => absurd h.t0 s2⟩
    | exact ⟨fun h => (by cases h), fun h => absurd h.i s1⟩
  intro hg12
  have s3 : ¬ m.told ≤ 9007199254740992 := by have := of_decide_eq_false hg12; omega
  refine Xc (Xj rfl rfl rfl hg12 rfl) ?_
  refine Xc (Xj rfl rfl rfl hg12 rfl) ?_
  refine Xc (Xj rfl rfl rfl hg12 rfl) ?_
  refine Xc (Xj rfl rfl rfl hg12 rfl) ?_
  refine Xa (Xm (congrArg Value.bool hg12) Xn) ?_
  refine Xa (Xh rfl) ?_
  refine X2 ?_
  refine ⟨_, X1 (Xu rfl), _, rfl, ?_⟩
  first
    | exact ⟨fun h => ⟨s1, s2, s3, by have := of_decide_eq_true h; omega, hno, hgoodE⟩, fun h => decide_eq_true (by have := h.n; omega)⟩
    | exact ⟨fun h => (by cases h), fun h => absurd h.t1 s3⟩
    | exact ⟨fun h => (by cases h), fun h => absurd h.t0 s2⟩
    | exact ⟨fun h => (by cases h), fun h => absurd h.i s1⟩
  intro hg11
  have s2 : ¬ 0 ≤ m.told := by have := of_decide_eq_false hg11; omega
  refine Xc (Xj rfl rfl rfl hg11 rfl) ?_
  refine Xc (Xj rfl rfl rfl hg11 rfl) ?_
  refine Xc (Xj rfl rfl rfl hg11 rfl) ?_
  refine Xa (Xm (congrArg Value.bool hg11) Xn) ?_
  refine Xa (Xp rfl) ?_
  refine Xc (Xj rfl rfl rfl rfl rfl) ?_
  refine Xc (Xj rfl rfl rfl rfl rfl) ?_
  refine Xc (Xj rfl rfl rfl rfl rfl) ?_
  refine Xc (Xj rfl rfl rfl rfl rfl) ?_
  refine Xa (Xm (congrArg Value.bool Xn) Xn) ?_
  refine Xa (Xh rfl) ?_
  refine X2 ?_
  refine ⟨_, X1 (Xu rfl), _, rfl, ?_⟩
  first
    | exact ⟨fun h => ⟨s1, s2, s3, by have := of_decide_eq_true h; omega, hno, hgoodE⟩, fun h => decide_eq_true (by have := h.n; omega)⟩
    | exact ⟨fun h => (by cases h), fun h => absurd h.t1 s3⟩
    | exact ⟨fun h => (by cases h), fun h => absurd h.t0 s2⟩
    | exact ⟨fun h => (by cases h), fun h => absurd h.i s1⟩
  intro hg10
  have s1 : ¬ m.items.length = 0 := by have := of_decide_eq_false hg10; omega
  refine Xc (Xj rfl rfl rfl hg10 rfl) ?_
  refine Xc (Xj rfl rfl rfl hg10 rfl) ?_
  refine Xc (Xj rfl rfl rfl hg10 rfl) ?_
  refine Xa (Xm (congrArg Value.bool hg10) Xn) ?_
  refine Xa (Xp rfl) ?_
  refine Xc (Xj rfl rfl rfl rfl rfl) ?_
  refine Xc (Xj rfl rfl rfl rfl rfl) ?_
  refine Xc (Xj rfl rfl rfl rfl rfl) ?_
  refine Xa (Xm (congrArg Value.bool Xn) Xn) ?_
  refine Xa (Xp rfl) ?_
  refine Xc (Xj rfl rfl rfl rfl rfl) ?_
  refine Xc (Xj rfl rfl rfl rfl rfl) ?_
  refine Xc (Xj rfl rfl rfl rfl rfl) ?_
  refine Xc (Xj rfl rfl rfl rfl rfl) ?_
  refine Xa (Xm (congrArg Value.bool Xn) Xn) ?_
  refine Xa (Xh rfl) ?_
  refine X2 ?_
  refine ⟨_, X1 (Xu rfl), _, rfl, ?_⟩
  first
    | exact ⟨fun h => ⟨s1, s2, s3, by have := of_decide_eq_true h; omega, hno, hgoodE⟩, fun h => decide_eq_true (by have := h.n; omega)⟩
    | exact ⟨fun h => (by cases h), fun h => absurd h.t1 s3⟩
    | exact ⟨fun h => (by cases h), fun h => absurd h.t0 s2⟩
    | exact ⟨fun h => (by cases h), fun h => absurd h.i s1⟩
theorem goodR_36 (m : MarkT) (cs : List Value) (H : Hp) (hm : kMark.rep H m cs) (hb : BigM m) (hr : 0 ≤ m.rest) :
    ACalls Tryz.prog 24 #[.agg cs.toArray] H (fun r H' => (∃ g, r = .bool g ∧ (g = true ↔ GoodM m)) ∧ H' = H) :=
  ACalls.pure (fun v ⟨g, h, _⟩ => by rw [h]; rfl) (goodR_raw m cs H.ro (kMark.mono H.sees_ro hm) hb hr)
def SameM (a b : MarkT) : Prop := a.told = b.told ∧ a.over = b.over ∧ a.rest = b.rest ∧ a.nodes = b.nodes
theorem sameM_raw (a b : MarkT) (cs ds : List Value) (H : Hp) (ha : kMark.rep H a cs) (hb : kMark.rep H b ds) (hba : BigM a) (hbb : BigM b) :
    ACalls Tryz.prog 20 #[.agg cs.toArray, .agg ds.toArray] H (fun r _ => ∃ g, r = .bool g ∧ (g = true ↔ SameM a b)) := by
  obtain ⟨v, w, rfl, hv, hw⟩ := ha
  obtain ⟨A, c, rfl⟩ := hv.shape
  obtain ⟨W, cW, rfl⟩ := hw.shape
  obtain ⟨v2, w2, rfl, hv2, hw2⟩ := hb
  obtain ⟨A2, c2, rfl⟩ := hv2.shape
  obtain ⟨W2, cW2, rfl⟩ := hw2.shape
  have hbn := hba.n
  have hbn2 := hbb.n
  obtain ⟨K, hK⟩ : ∃ K, K = (H.push (.own 0 [.int .i64 a.told, .bool a.over, .slice A a.nodes.length c, .int .u64 a.rest, .slice W a.items.length cW])).push (.own 0 [.int .i64 b.told, .bool b.over, .slice A2 b.nodes.length c2, .int .u64 b.rest, .slice W2 b.items.length cW2]) := ⟨_, rfl⟩
  have kg : K.get H.size = .own 0 [.int .i64 a.told, .bool a.over, .slice A a.nodes.length c, .int .u64 a.rest, .slice W a.items.length cW] := by rw [hK]; exact X6
  have kg2 : K.get (H.size + 1) = .own 0 [.int .i64 b.told, .bool b.over, .slice A2 b.nodes.length c2, .int .u64 b.rest, .slice W2 b.items.length cW2] := by rw [hK]; exact X6
  have kz : K.size = H.size + 2 := by rw [hK]; simp
  have leK : H.le K := by rw [hK]; exact Hp.le_push' (H.le_push _) _
  refine Xv Tryz.func20 rfl rfl rfl (by simp) ?_
  refine Xe ?_
  refine Xb (by kernel_rfl) ?_
  refine Xy (Yq rfl) ?_
  refine Xy (Yq rfl) ?_
  refine Xa (Xh rfl) ?_
  refine Xe ?_
  refine Xe ?_
  refine Xb (by kernel_rfl) ?_
  refine Xa (Xg (off := 0) rfl Tryz.underlying33 rfl inf3.size (by decide) rfl) ?_
  refine Xa (Xk rfl Tryz.underlying3 rfl Xq) ?_
  refine Xa (Xg (off := 0) rfl Tryz.underlying33 rfl inf3.size (by decide) rfl) ?_
  refine Xa (Xk rfl Tryz.underlying3 rfl Xq) ?_
  refine Xa (Vg rfl rfl) ?_
  refine Xa (Xp rfl) ?_
  refine Yd rfl rfl rfl ?_ ?_
  intro hg1
  have p1 : a.told ≠ b.told := of_decide_eq_true hg1
  refine Xc (Xj rfl rfl rfl hg1 rfl) ?_
  refine Xc (Xj rfl rfl rfl hg1 rfl) ?_
  refine Xc (Xj rfl rfl rfl hg1 rfl) ?_
  refine Xc (Xj rfl rfl rfl hg1 rfl) ?_
  refine Xc (Xj rfl rfl rfl hg1 rfl) ?_
  refine Xa (Xm (congrArg Value.bool hg1) rfl) ?_
  refine Xa (Xp rfl) ?_
  refine Xc (Xj rfl rfl rfl rfl rfl) ?_
  refine Xc (Xj rfl rfl rfl rfl rfl) ?_
  refine Xc (Xj rfl rfl rfl rfl rfl) ?_
  refine Xc (Xj rfl rfl rfl rfl rfl) ?_
  refine Xc (Xj rfl rfl rfl rfl rfl) ?_
  refine Xa (Xm (congrArg Value.bool rfl) rfl) ?_
  refine Xa (Xp rfl) ?_
  refine Xc (Xj rfl rfl rfl rfl rfl) ?_
  refine Xc (Xj rfl rfl rfl rfl rfl) ?_
  refine Xc (Xj rfl rfl rfl rfl rfl) ?_
  refine Xc (Xj rfl rfl rfl rfl rfl) ?_
  refine Xc (Xj rfl rfl rfl rfl rfl) ?_
  refine Xc (Xj rfl rfl rfl rfl rfl) ?_
  refine Xc (Xj rfl rfl rfl rfl rfl) ?_
  refine Xa (Xm (congrArg Value.bool rfl) rfl) ?_
  refine Yt rfl rfl ?_
  refine Xe ?_
  refine Xb (by kernel_rfl) ?_
  refine Xa (Xh rfl) ?_
  refine X2 ?_
  refine ⟨.bool false, X1 (Xu rfl), false, rfl, ⟨fun h => (by cases h), fun h => ?_⟩⟩
  first
    | exact absurd h.1 p1
    | exact absurd h.2.1 p2
    | exact absurd h.2.2.1 p3
    | exact absurd (congrArg List.length h.2.2.2) p4
  intro hg1
  have p1 : a.told = b.told := by have h := of_decide_eq_false hg1; simpa using h
  refine Xl (Xi rfl rfl rfl hg1) (Xg (off := 1) rfl Tryz.underlying33 rfl inf4.size (by decide) rfl) ?_
  refine Xl (Xi rfl rfl rfl hg1) (Xk rfl Tryz.underlying4 rfl Xq) ?_
  refine Xl (Xi rfl rfl rfl hg1) (Xg (off := 1) rfl Tryz.underlying33 rfl inf4.size (by decide) rfl) ?_
  refine Xl (Xi rfl rfl rfl hg1) (Xk rfl Tryz.underlying4 rfl Xq) ?_
  refine Xl (Xi rfl rfl rfl hg1) (av_bne rfl rfl Tryz.underlying4) ?_
  refine Xa (Xm (congrArg Value.bool hg1) rfl) ?_
  refine Xa (Xp rfl) ?_
  refine Yd rfl rfl rfl ?_ ?_
  intro hg3
  have p2 : a.over ≠ b.over := by have h := hg3; simpa using h
  refine Xc (Xj rfl rfl rfl hg3 rfl) ?_
  refine Xc (Xj rfl rfl rfl hg3 rfl) ?_
  refine Xc (Xj rfl rfl rfl hg3 rfl) ?_
  refine Xc (Xj rfl rfl rfl hg3 rfl) ?_
  refine Xc (Xj rfl rfl rfl hg3 rfl) ?_
  refine Xa (Xm (congrArg Value.bool hg3) rfl) ?_
  refine Xa (Xp rfl) ?_
  refine Xc (Xj rfl rfl rfl rfl rfl) ?_
  refine Xc (Xj rfl rfl rfl rfl rfl) ?_
  refine Xc (Xj rfl rfl rfl rfl rfl) ?_
  refine Xc (Xj rfl rfl rfl rfl rfl) ?_
  refine Xc (Xj rfl rfl rfl rfl rfl) ?_
  refine Xc (Xj rfl rfl rfl rfl rfl) ?_
  refine Xc (Xj rfl rfl rfl rfl rfl) ?_
  refine Xa (Xm (congrArg Value.bool rfl) rfl) ?_
  refine Yt rfl rfl ?_
  refine Xe ?_
  refine Xb (by kernel_rfl) ?_
  refine Xa (Xh rfl) ?_
  refine X2 ?_
  refine ⟨.bool false, X1 (Xu rfl), false, rfl, ⟨fun h => (by cases h), fun h => ?_⟩⟩
  first
    | exact absurd h.1 p1
    | exact absurd h.2.1 p2
    | exact absurd h.2.2.1 p3
    | exact absurd (congrArg List.length h.2.2.2) p4
  intro hg3
  have p2 : a.over = b.over := by have h := hg3; simpa using h
  refine Xl (Xi rfl rfl rfl hg3) (Xg (off := 3) rfl Tryz.underlying33 rfl inf30.size (by decide) rfl) ?_
  refine Xl (Xi rfl rfl rfl hg3) (Xk rfl Tryz.underlying30 rfl Xq) ?_
  refine Xl (Xi rfl rfl rfl hg3) (Xg (off := 3) rfl Tryz.underlying33 rfl inf30.size (by decide) rfl) ?_
  refine Xl (Xi rfl rfl rfl hg3) (Xk rfl Tryz.underlying30 rfl Xq) ?_
  refine Xl (Xi rfl rfl rfl hg3) (Vg rfl rfl) ?_
  refine Xa (Xm (congrArg Value.bool hg3) rfl) ?_
  refine Xa (Xp rfl) ?_
  refine Yd rfl rfl rfl ?_ ?_
  intro hg5
  have p3 : a.rest ≠ b.rest := of_decide_eq_true hg5
  refine Xc (Xj rfl rfl rfl hg5 rfl) ?_
  refine Xc (Xj rfl rfl rfl hg5 rfl) ?_
  refine Xc (Xj rfl rfl rfl hg5 rfl) ?_
  refine Xc (Xj rfl rfl rfl hg5 rfl) ?_
  refine Xc (Xj rfl rfl rfl hg5 rfl) ?_
  refine Xc (Xj rfl rfl rfl hg5 rfl) ?_
  refine Xc (Xj rfl rfl rfl hg5 rfl) ?_
  refine Xa (Xm (congrArg Value.bool hg5) rfl) ?_
  refine Yt rfl rfl ?_
  refine Xe ?_
  refine Xb (by kernel_rfl) ?_
  refine Xa (Xh rfl) ?_
  refine X2 ?_
  refine ⟨.bool false, X1 (Xu rfl), false, rfl, ⟨fun h => (by cases h), fun h => ?_⟩⟩
  first
    | exact absurd h.1 p1
    | exact absurd h.2.1 p2
    | exact absurd h.2.2.1 p3
    | exact absurd (congrArg List.length h.2.2.2) p4
  intro hg5
  have p3 : a.rest = b.rest := by have h := of_decide_eq_false hg5; simpa using h
  refine Xl (Xi rfl rfl rfl hg5) (Xg (off := 2) rfl Tryz.underlying33 rfl inf23.size (by decide) rfl) ?_
  refine Xl (Xi rfl rfl rfl hg5) (Xk rfl Tryz.underlying23 rfl Xq) ?_
  refine Xl (Xi rfl rfl rfl hg5) (Yr rfl Tryz.underlying23) ?_
  refine Xl (Xi rfl rfl rfl hg5) (Xg (off := 2) rfl Tryz.underlying33 rfl inf23.size (by decide) rfl) ?_
  refine Xl (Xi rfl rfl rfl hg5) (Xk rfl Tryz.underlying23 rfl Xq) ?_
  refine Xl (Xi rfl rfl rfl hg5) (Yr rfl Tryz.underlying23) ?_
  refine Xl (Xi rfl rfl rfl hg5) (Vg rfl rfl) ?_
  refine Xa (Xm (congrArg Value.bool hg5) rfl) ?_
  refine X8 rfl rfl ?_ ?_
  intro hc7
  have p4 : a.nodes.length ≠ b.nodes.length := by have h := of_decide_eq_true hc7; omega
  refine Xe ?_
  refine Xb (by kernel_rfl) ?_
  refine Xa (Xh rfl) ?_
  refine X2 ?_
  refine ⟨.bool false, X1 (Xu rfl), false, rfl, ⟨fun h => (by cases h), fun h => ?_⟩⟩
  first
    | exact absurd h.1 p1
    | exact absurd h.2.1 p2
    | exact absurd h.2.2.1 p3
    | exact absurd (congrArg List.length h.2.2.2) p4
  intro hc7
  have p4 : a.nodes.length = b.nodes.length := by have h := of_decide_eq_false hc7; omega
  refine Yf ?_
  refine Xe ?_
  refine Xe ?_
  refine Xb (by kernel_rfl) ?_
  refine Xa (Xo rfl) ?_
  refine Yo ?_
  refine Za (fun n t H' => ∃ (i : Nat) (E E2 : Option Addr), n = a.nodes.length - i ∧ i ≤ a.nodes.length ∧ H' = K ∧ K.get H.size = .own 0 [.int .i64 a.told, .bool a.over, .slice E a.nodes.length c, .int .u64 a.rest, .slice W a.items.length cW] ∧ K.get (H.size + 1) = .own 0 [.int .i64 b.told, .bool b.over, .slice E2 b.nodes.length c2, .int .u64 b.rest, .slice W2 b.items.length cW2] ∧ Sl (Yz .i64) H (.slice E a.nodes.length c) a.nodes ∧ Sl (Yz .i64) H (.slice E2 b.nodes.length c2) b.nodes ∧ a.nodes.take i = b.nodes.take i ∧ t 2 = .pointer (some ⟨H.size, 0, none⟩) ∧ t 3 = .pointer (some ⟨H.size + 1, 0, none⟩) ∧ t 5 = .int .i64 i) (a.nodes.length) (⟨0, _, _, rfl, Nat.zero_le _, hK.symm, kg, kg2, hv, hv2, by simp, rfl, rfl, rfl⟩) ?_
  rintro n t K2 ⟨i, E, E2, rfl, hi, hK2, kg, kg2, hv, hv2, hsame, e2, e3, e5⟩
  subst hK2
  refine Xe ?_
  refine Xe ?_
  refine Xb (by kernel_rfl) ?_
  refine Xa (Xf Xn) ?_
  refine Xa (Xg (off := 2) Xn Tryz.underlying33 Xn inf23.size (by decide) Xn) ?_
  refine Xa (Xk rfl Tryz.underlying23 rfl Xq) ?_
  refine Xa (Yr rfl Tryz.underlying23) ?_
  refine Xa (Zh rfl rfl) ?_
  refine X8 rfl rfl ?_ ?_
  intro hc8
  have hil : i < a.nodes.length := by have := of_decide_eq_true hc8; omega
  obtain ⟨q, o, eE, hqE, hcell⟩ := (hv.mono leK.sees).int_at (i := (i : Int)) (by omega) (by omega)
  rw [Int.toNat_natCast, Y9 hil] at hcell
  subst eE
  obtain ⟨q2, o2, eE2, hqE2, hcell2⟩ := (hv2.mono leK.sees).int_at (i := (i : Int)) (by omega) (by omega)
  rw [Int.toNat_natCast, Y9 (show i < b.nodes.length by omega)] at hcell2
  subst eE2
  refine Yf ?_
  refine Xe ?_
  refine Yo ?_
  refine Xe ?_
  refine Yv (by kernel_rfl) (Y0 (B := [0, 1, 0, 7, 15, 0, 32, 0, 224, 480, 1023]) (π := [0, 1, 2, 3, 4, 5, 6, 7, 8, 9, 10]) (by kernel_rfl)) ?_
  refine Xd rfl rfl (Xg (off := 2) Xn Tryz.underlying33 Xn inf23.size (by decide) Xn) Xr ?_
  refine Xd rfl rfl (Xk rfl Tryz.underlying23 rfl Xq) Xr ?_
  refine Xd rfl rfl (Xf Xn) Xr ?_
  refine Xd rfl rfl (Xz rfl rfl Tryz.underlying23 inf3.size Yc Yc) Xr ?_
  refine Xd rfl rfl (Xk rfl Tryz.underlying3 rfl Xq) Xr ?_
  refine Xd rfl rfl (Xg (off := 2) Xn Tryz.underlying33 Xn inf23.size (by decide) Xn) Xr ?_
  refine Xd rfl rfl (Xk rfl Tryz.underlying23 rfl Xq) Xr ?_
  refine Xd rfl rfl (Xf Xn) Xr ?_
  refine Xd rfl rfl (Xz rfl rfl Tryz.underlying23 inf3.size Yc Yc) Xr ?_
  refine Xd rfl rfl (Xk rfl Tryz.underlying3 rfl Xq) Xr ?_
  refine Xd rfl rfl (Vg rfl rfl) Xr ?_
  refine X8 rfl rfl ?_ ?_
  intro hc9
  have hne : a.nodes[i] ≠ b.nodes[i]'(by omega) := of_decide_eq_true hc9
  refine Xe ?_
  refine Xb (by kernel_rfl) ?_
  refine Xa (Xh rfl) ?_
  refine X2 ?_
  exact ⟨.bool false, X1 (Xu rfl), false, rfl, ⟨fun h => (by cases h), fun h => absurd (by have h4 := h.2.2.2; simp only [h4]) hne⟩⟩
  intro hc9
  have heq : a.nodes[i] = b.nodes[i]'(by omega) := by have h := of_decide_eq_false hc9; exact Decidable.not_not.1 h
  refine Yf ?_
  refine Xb (by kernel_rfl) ?_
  refine Xa (Xf Xn) ?_
  refine Xa (Yw rfl rfl Y4) ?_
  refine Xa (Xo rfl) ?_
  exact ⟨a.nodes.length - (i + 1), by omega, i + 1, _, _, rfl, by omega, rfl, kg, kg2, hv, hv2, by rw [← Zb hil, ← Zb (show i < b.nodes.length by omega), hsame, heq], e2, e3, rfl⟩
  intro hc8
  have hil : i = a.nodes.length := by have := of_decide_eq_false hc8; omega
  rw [List.take_of_length_le (by omega), List.take_of_length_le (by omega)] at hsame
  refine Y5 ?_
  refine Xe ?_
  refine Xb (by kernel_rfl) ?_
  refine Xa (Xh rfl) ?_
  refine X2 ?_
  exact ⟨.bool true, X1 (Xu rfl), true, rfl, ⟨fun _ => ⟨p1, p2, p3, hsame⟩, fun _ => rfl⟩⟩
theorem sameM_36 (a b : MarkT) (cs ds : List Value) (H : Hp) (ha : kMark.rep H a cs) (hb : kMark.rep H b ds) (hba : BigM a) (hbb : BigM b) :
    ACalls Tryz.prog 20 #[.agg cs.toArray, .agg ds.toArray] H (fun r H' => (∃ g, r = .bool g ∧ (g = true ↔ SameM a b)) ∧ H' = H) :=
  ACalls.pure (fun v ⟨g, h, _⟩ => by rw [h]; rfl) (sameM_raw a b cs ds H.ro (kMark.mono H.sees_ro ha) (kMark.mono H.sees_ro hb) hba hbb)
end Go.Proofs.YtmakkmcjocjgmaaGreat.Am


/- What is told of no tree and of no walk; the small living call of the statements on walks. -/
namespace Go.Proofs.YtmakkmcjocjgmaaGreat.Am
open Go Go.RowKit
set_option maxRecDepth 100000
set_option linter.unusedVariables false
set_option linter.unusedSimpArgs false

def liveF : Forest := apartF 2
def liveP : Parts := apartP 1 [2, 2]
def liveT : TreeT := ⟨[⟨#[120]⟩, ⟨#[120]⟩], [-1, -1], [[⟨0, 0, 0, 1⟩, ⟨1, 1, 1, 1⟩], [⟨0, 0, 0, 1⟩, ⟨1, 1, 1, 1⟩]]⟩
theorem good_live : GoodP liveF liveP := by
  refine ⟨⟨rfl, rfl, rfl, rfl, fun i hi => ?_⟩, rfl, rfl, fun v hv => ?_⟩
  · have hi' : i < 2 := hi
    rcases (by omega : i = 0 ∨ i = 1) with rfl | rfl <;> (unfold OkF; decide)
  · have hv' : v < 2 := hv
    rcases (by omega : v = 0 ∨ v = 1) with rfl | rfl <;> (unfold OkP; rw [goodL_iff, goodL_iff]; unfold OkL; decide)
theorem small_live : Small liveF liveP := ⟨by decide, by decide, by decide, by decide, by decide, by decide, by decide⟩
theorem cheap_live : Cheap liveP := by
  refine ⟨fun v => ?_, fun v => ?_⟩
  · match v with
    | 0 => decide
    | 1 => decide
    | v + 2 => intro x hx; cases hx
  · match v with
    | 0 => decide
    | 1 => decide
    | v + 2 => intro x hx; cases hx
theorem of_live : ofP liveF liveP = liveP := by
  refine ofP_fix good_live.gf good_live.lens good_live.nb (fun v hv hp => ?_) (fun h => ?_)
  · have hv' : v < 2 := hv
    rcases (by omega : v = 0 ∨ v = 1) with rfl | rfl <;> exact absurd rfl hp
  · have : liveF.order.any (Va liveF liveP) = false := by decide
    rw [this] at h; cases h
theorem tree_live : Zr liveF (ofP liveF liveP) = liveT := by rw [of_live]; rfl
theorem goodT_live : GoodT liveT := by
  have h := ofP_all good_live
  have := good_tree (ofP_good good_live) (by rw [of_live]; exact small_live) (cheap_live.sub h.2.1) (by decide)
  rwa [tree_live] at this
theorem alive_live : Alive liveT := by have := alive_tree good_live; rwa [tree_live] at this
end Go.Proofs.YtmakkmcjocjgmaaGreat.Am


/- Whether two lists of numbers are one; what a tree tells of nodes. -/
namespace Go.Proofs.YtmakkmcjocjgmaaGreat.Am
open Go Go.RowKit
set_option maxRecDepth 100000
set_option linter.unusedVariables false
set_option linter.unusedSimpArgs false

end Go.Proofs.YtmakkmcjocjgmaaGreat.Am


/- The document's Up and Down. -/
namespace Go.Proofs.YtmakkmcjocjgmaaGreat.Am
open Go Go.RowKit
set_option maxRecDepth 100000
set_option linter.unusedVariables false
set_option linter.unusedSimpArgs false

end Go.Proofs.YtmakkmcjocjgmaaGreat.Am


/- The statement ReduceHalves, as the abstract machine runs it. -/
namespace Go.Proofs.YtmakkmcjocjgmaaGreat.Am
open Go Go.RowKit
set_option maxRecDepth 100000
set_option linter.unusedVariables false
set_option linter.unusedSimpArgs false

end Go.Proofs.YtmakkmcjocjgmaaGreat.Am


/- How many nodes and links; whether nothing is left. -/
namespace Go.Proofs.YtmakkmcjocjgmaaGreat.Am
open Go Go.RowKit
set_option maxRecDepth 100000
set_option linter.unusedVariables false
set_option linter.unusedSimpArgs false

end Go.Proofs.YtmakkmcjocjgmaaGreat.Am


/- The statement ReduceRows, as the abstract machine runs it. -/
namespace Go.Proofs.YtmakkmcjocjgmaaGreat.Am
open Go Go.RowKit
set_option maxRecDepth 100000
set_option linter.unusedVariables false
set_option linter.unusedSimpArgs false

theorem Tiny.sub {f : Forest} {p q : Parts} (h : Tiny f p) (hs : Sub q p) : Tiny f q :=
  ⟨h.vars, fun v => Nat.le_trans (hs v).1.length_le (h.nodes v), fun v x hx => h.costN v x ((hs v).1.subset hx), fun v x hx => h.costL v x ((hs v).2.subset hx)⟩
end Go.Proofs.YtmakkmcjocjgmaaGreat.Am


/- The statement TreeRows, as the abstract machine runs it. -/
namespace Go.Proofs.YtmakkmcjocjgmaaGreat.Am
open Go Go.RowKit
set_option maxRecDepth 100000
set_option linter.unusedVariables false
set_option linter.unusedSimpArgs false

end Go.Proofs.YtmakkmcjocjgmaaGreat.Am


/- Rows as the document tells them. -/
namespace Go.Proofs.YtmakkmcjocjgmaaGreat.Am
open Go Go.RowKit
set_option maxRecDepth 100000
set_option linter.unusedVariables false
set_option linter.unusedSimpArgs false

def cmpZ : List Int → List Int → Int
  | x :: xs, y :: ys => if x < y then -1 else if y < x then 1 else cmpZ xs ys
  | _, _ => 0
theorem cmpZ_self : ∀ xs : List Int, cmpZ xs xs = 0
  | [] => rfl
  | x :: xs => by rw [cmpZ, if_neg (by omega), if_neg (by omega)]; exact cmpZ_self xs
end Go.Proofs.YtmakkmcjocjgmaaGreat.Am


/- Going down to the k-th answer, and how many stand ahead, plain. -/
namespace Go.Proofs.YtmakkmcjocjgmaaGreat.Am
open Go Go.RowKit
set_option maxRecDepth 100000
set_option linter.unusedVariables false
set_option linter.unusedSimpArgs false

def atR : List RowT → Int → Option (Nat × Int)
  | [], _ => none
  | r :: rs, k => if k < r.n then some (0, k) else (atR rs (k - r.n)).map fun p => (p.1 + 1, p.2)
end Go.Proofs.YtmakkmcjocjgmaaGreat.Am


/- How many answers stand ahead of any nodes, row by row, plain. -/
namespace Go.Proofs.YtmakkmcjocjgmaaGreat.Am
open Go Go.RowKit
set_option maxRecDepth 100000
set_option linter.unusedVariables false
set_option linter.unusedSimpArgs false

end Go.Proofs.YtmakkmcjocjgmaaGreat.Am


/- Numbers split by sizes, plain. -/
namespace Go.Proofs.YtmakkmcjocjgmaaGreat.Am
open Go Go.RowKit
set_option maxRecDepth 100000
set_option linter.unusedVariables false
set_option linter.unusedSimpArgs false

theorem wrap_u64a {x : Int} (h : 0 ≤ x) (h2 : x < 18446744073709551616) : IntKind.u64.wrap x = x := by
  simp [IntKind.wrap, IntKind.bits, IntKind.signed]; omega
def prodT (ss : List Int) : Int := ss.foldl Zp 1
end Go.Proofs.YtmakkmcjocjgmaaGreat.Am


/- How large the places of a tree are. -/
namespace Go.Proofs.YtmakkmcjocjgmaaGreat.Am
open Go Go.RowKit
set_option maxRecDepth 100000
set_option linter.unusedVariables false
set_option linter.unusedSimpArgs false

end Go.Proofs.YtmakkmcjocjgmaaGreat.Am


/- The statement CountsMany, as the abstract machine runs it; the small living call of the statements on counts. -/
namespace Go.Proofs.YtmakkmcjocjgmaaGreat.Am
open Go Go.RowKit
set_option maxRecDepth 100000
set_option linter.unusedVariables false
set_option linter.unusedSimpArgs false

theorem av_conv_is {P : Program} {t : Fr} {H : Hp} {d : Option Tmp} {ty : TypeId} {pos : String} {after : Array Edge} {guard : Option (Nat × Bool)} {x : Operand} {src dst : TypeId} {k k' : IntKind} {a v : Int} (hv : k'.wrap a = v) (hx : t.eval x = .int k a) (hs : (P.underlying src).isSome = true) (hd : P.underlying dst = some (.int k')) : AVal P ⟨d, .convert src dst x, ty, pos, after, guard⟩ t [] H (.int k' v) := by
  subst hv; exact av_conv hx hs hd
theorem av_addn_is {P : Program} {t : Fr} {H : Hp} {d : Option Tmp} {ty : TypeId} {pos : String} {after : Array Edge} {guard : Option (Nat × Bool)} {x y : Operand} {xt yt : TypeId} {k : IntKind} {a b v : Int} (hv : k.wrap (a + b) = v) (hx : t.eval x = .int k a) (hy : t.eval y = .int k b) : AVal P ⟨d, .binOp .add xt x y yt, ty, pos, after, guard⟩ t [] H (.int k v) := by
  subst hv; exact av_add hx hy
theorem lit_u64 {n : Int} (h : (Lit.int .u64 n).wf = true) : 0 ≤ n ∧ n ≤ 18446744073709551615 := by
  unfold Lit.wf at h
  rw [Bool.and_eq_true, decide_eq_true_eq, decide_eq_true_eq] at h
  exact h
end Go.Proofs.YtmakkmcjocjgmaaGreat.Am


/- Lists of numbers without sign: a few of them, whether two are one. -/
namespace Go.Proofs.YtmakkmcjocjgmaaGreat.Am
open Go Go.RowKit
set_option maxRecDepth 100000
set_option linter.unusedVariables false
set_option linter.unusedSimpArgs false

end Go.Proofs.YtmakkmcjocjgmaaGreat.Am


/- A finder: made, asked, taken on. -/
namespace Go.Proofs.YtmakkmcjocjgmaaGreat.Am
open Go Go.RowKit
set_option maxRecDepth 100000
set_option linter.unusedVariables false
set_option linter.unusedSimpArgs false

def FindP (K G H : Hp) (fb cb tb : Nat) (ns : List Int) (w wk : Int) : Prop := ∃ B c, K.le G ∧ K.size ≤ fb ∧ fb < G.size ∧ G.get fb = .own 0 [.pointer (some ⟨cb, 0, none⟩), .pointer (some ⟨tb, 0, none⟩), .slice B ns.length c, .int .u64 w, .int .i64 wk] ∧ OwnP (Yz .i64) G H (.slice B ns.length c) ns
theorem FindP.later {K G H H' : Hp} {fb cb tb : Nat} {ns : List Int} {w wk : Int} (h : FindP K G H fb cb tb ns w wk) (hle : H.le H') : ∃ G', G.le G' ∧ FindP K G' H' fb cb tb ns w wk := by
  obtain ⟨B, c, h1, h2, h3, h4, h5⟩ := h
  obtain ⟨G', l1, o1⟩ := h5.later hle
  exact ⟨G', l1, B, c, Hp.le_trans h1 l1, h2, Nat.lt_of_lt_of_le h3 l1.1, Xs l1 h3 (by intro e; cases e) h4, o1⟩
theorem FindP.le {K G H : Hp} {fb cb tb : Nat} {ns : List Int} {w wk : Int} (h : FindP K G H fb cb tb ns w wk) : K.le H := by
  obtain ⟨B, c, h1, h2, h3, h4, h5⟩ := h
  exact Hp.le_trans h1 h5.le
end Go.Proofs.YtmakkmcjocjgmaaGreat.Am


/- A finder goes down to the k-th answer. -/
namespace Go.Proofs.YtmakkmcjocjgmaaGreat.Am
open Go Go.RowKit
set_option maxRecDepth 100000
set_option linter.unusedVariables false
set_option linter.unusedSimpArgs false

end Go.Proofs.YtmakkmcjocjgmaaGreat.Am


/- Numbers are split by sizes, and put together. -/
namespace Go.Proofs.YtmakkmcjocjgmaaGreat.Am
open Go Go.RowKit
set_option maxRecDepth 100000
set_option linter.unusedVariables false
set_option linter.unusedSimpArgs false

structure GoodD (ds ss : List Int) : Prop where
  len : ds.length = ss.length
  few : prodT ss ≠ 4611686018427387904
  lt : ∀ i (h : i < ds.length) (h' : i < ss.length), ds[i] < ss[i]
end Go.Proofs.YtmakkmcjocjgmaaGreat.Am


/- The small living call of the statements on access; what is told of no counts. -/
namespace Go.Proofs.YtmakkmcjocjgmaaGreat.Am
open Go Go.RowKit
set_option maxRecDepth 100000
set_option linter.unusedVariables false
set_option linter.unusedSimpArgs false

end Go.Proofs.YtmakkmcjocjgmaaGreat.Am


/- The bytes of the first mark. -/
namespace Go.Proofs.YtmakkmcjocjgmaaGreat.Am
open Go Go.RowKit
set_option maxRecDepth 100000
set_option linter.unusedVariables false
set_option linter.unusedSimpArgs false

theorem own_cells {G H : Hp} {v : Value} {xs : List Int} (h : OwnP (Yz .u8) G H v xs) (hne : 0 < xs.length) : ∃ b c, v = .slice (some ⟨b, 0, none⟩) xs.length c ∧ b < H.size ∧ Cells H b 0 (xs.map (Value.int .u8)) := by
  have hs := h.sl
  rcases h with ⟨_, h2, _⟩ | ⟨b, cs, c, rfl, hb, hd, hH, hc, he⟩
  · subst h2; simp at hne
  · refine ⟨b, c, rfl, by rw [hH]; simpa using hb, fun j v hj => ?_⟩
    rw [List.getElem?_map] at hj
    cases hxj : xs[j]? with
    | none => rw [hxj] at hj; cases hj
    | some a =>
      rw [hxj] at hj
      injection hj with hj
      subst hj
      have hjl := (List.getElem?_eq_some_iff.1 hxj).1
      obtain ⟨b', o', e', hb', hc'⟩ := hs.int_at (i := (j : Int)) (by omega) (by omega)
      simp only [Option.some.injEq, Addr.mk.injEq, and_true] at e'
      obtain ⟨rfl, rfl⟩ := e'
      rw [Int.toNat_natCast, Nat.mul_one, List.getD_eq_getElem?_getD, hxj] at hc'
      exact hc'
theorem put_small {G H : Hp} {v : Value} {xs : List Int} (h : OwnP (Yz .u8) G H v xs) (u : Int) (h0 : 0 ≤ u) (h1 : u < 128) (hl : xs.length ≤ 1000000) :
    ACalls Tryz.prog 127 #[v, .int .u64 u] H (fun r H' => ∃ G', G.le G' ∧ OwnP (Yz .u8) G' H' r (xs ++ [u])) := by
  obtain ⟨A, c, rfl⟩ := h.shape
  have hw : IntKind.u8.wrap u = u := by simp [IntKind.wrap, IntKind.bits, IntKind.signed]; omega
  refine Xv Tryz.func127 rfl rfl rfl (by simp) ?_
  refine Xe ?_
  refine Xb (by kernel_rfl) ?_
  refine Xa (Ye rfl) ?_
  refine Xe ?_
  refine Yo ?_
  refine Za (fun n t H' => n = 0 ∧ H' = H ∧ t 0 = .slice A xs.length c ∧ t 1 = .int .u64 u) (0) (⟨rfl, rfl, rfl, rfl⟩) ?_
  rintro n t H2 ⟨rfl, rfl, e0, e1⟩
  refine Xe ?_
  refine Xe ?_
  refine Xb (by kernel_rfl) ?_
  refine Xa (Xf Xn) ?_
  refine Xa (av_ge rfl rfl) ?_
  refine X8 rfl rfl ?_ ?_
  intro hc1
  (have h := of_decide_eq_true hc1; exfalso; omega)
  intro hc1
  (try simp only [decide_eq_true_eq, decide_eq_false_iff_not, Bool.not_eq_true', Bool.not_eq_false'] at hc1)
  refine Y5 ?_
  refine Xe ?_
  refine Xb (by kernel_rfl) ?_
  refine Xa (X7 Xn) ?_
  refine Xa (Xf Xn) ?_
  refine Xa (av_conv_is hw rfl (by rw [Tryz.underlying30]; rfl) Tryz.underlying5) ?_
  first | refine Xy (Yn (r := [.int .u8 _]) Tryz.underlying173 inf5.size inf5.zero rfl (by decide) (by decide) (by decide) rfl) ?_
  refine Xw (OwnP.append (ys := [u]) (h.push _) Tryz.underlying173 inf5 rfl rfl rfl (Ve (k := Yz .u8) rfl rfl h.size rfl) (by simp only [List.length_singleton]; omega) (by simp only [List.length_singleton]; omega) ?_)
  rintro v5 G5 H5 hle5 hown5
  refine Xa (Z5 rfl) ?_
  refine X2 ?_
  exact ⟨_, X1 (Xu rfl), G5, Hp.le_trans (G.le_push _) hle5, hown5⟩
theorem Put_small (xs : List Int) (v : Value) (H : Hp) (hs : Sl (Yz .u64) H v xs) (hx : ∀ x ∈ xs, 0 ≤ x ∧ x < 128) (hl : xs.length ≤ 1000000) (hne : 0 < xs.length) :
    ACalls Tryz.prog 104 #[v] H (fun r H' => r = .string (bytesOf xs) ∧ H.le H') := by
  obtain ⟨A, c, rfl⟩ := hs.shape
  refine Xv Tryz.func104 rfl rfl rfl (by simp) ?_
  refine Xe ?_
  refine Xb (by kernel_rfl) ?_
  refine Xa (Z0 rfl) ?_
  refine Xe ?_
  refine Xb (by kernel_rfl) ?_
  refine Xa (Ye rfl) ?_
  refine Xe ?_
  refine Xe ?_
  refine Xb (by kernel_rfl) ?_
  refine Xa (X7 rfl) ?_
  refine Xa (Yr rfl Tryz.underlying109) ?_
  refine Xa (Xf rfl) ?_
  refine Yo ?_
  refine Za (fun n t H' => ∃ (i : Nat) (G : Hp) (B : Option Addr) (cB : Nat) (D : Option Addr), n = xs.length - i ∧ i ≤ xs.length ∧ H.le G ∧ OwnP (Yz .u8) G H' (.slice B i cB) (xs.take i) ∧ Sl (Yz .u64) H (.slice D xs.length c) xs ∧ t 3 = .slice B i cB ∧ t 6 = .slice D xs.length c ∧ t 7 = .int .i64 xs.length ∧ t 8 = .int .i64 i) (xs.length) (⟨0, H, none, 0, _, rfl, Nat.zero_le _, Hp.le_refl _, OwnP.nil _ _, hs, rfl, rfl, rfl, rfl⟩) ?_
  rintro n t H1 ⟨i, G, B, cB, D, rfl, hi, leG, hown, hs, e3, e6, e7, e8⟩
  refine Xe ?_
  refine Xb (by kernel_rfl) ?_
  refine Xa (Zh Xn Xn) ?_
  refine Xe ?_
  refine X8 rfl rfl ?_ ?_
  intro hc1
  have hil : i < xs.length := by have := of_decide_eq_true hc1; omega
  obtain ⟨b, o, eD, hb, hcell⟩ := (hs.mono (Hp.le_trans leG hown.le).sees).int_at (i := (i : Int)) (by omega) (by omega)
  rw [Int.toNat_natCast, Y9 hil] at hcell
  subst eD
  have hlen : (xs.take i).length = i := by rw [List.length_take]; omega
  obtain ⟨hx0, hx1⟩ := hx _ (List.getElem_mem hil)
  refine Yf ?_
  refine Xe ?_
  refine Yo ?_
  refine Xe ?_
  refine Xb (by kernel_rfl) ?_
  refine Xa (Xz Xn Xn Tryz.underlying109 inf30.size Yc Yc) ?_
  refine Xa (Xk rfl Tryz.underlying30 rfl Xq) ?_
  refine Xa (Xo rfl) ?_
  refine Xb (by kernel_rfl) ?_
  refine Xa (X7 Xn) ?_
  refine Xa (Xf rfl) ?_
  refine Xw (Xx (put_small hown xs[i] hx0 hx1 (by omega)) rfl Tryz.func127 rfl rfl rfl ?_)
  rintro v14 H2 ⟨G2, le2, hown2⟩; rw [Zb hil] at hown2; obtain ⟨B2, cB2, rfl⟩ := hown2.shape; have hlen2 : (xs.take (i + 1)).length = i + 1 := (by rw [List.length_take]; omega); rw [hlen2] at hown2 ⊢
  refine Xa (Ye rfl) ?_
  refine Xb (by kernel_rfl) ?_
  refine Xa (Yw Xn Xn Y4) ?_
  refine Xa (Xf rfl) ?_
  exact ⟨xs.length - (i + 1), by omega, i + 1, G2, B2, cB2, _, rfl, by omega, Hp.le_trans leG le2, hown2, hs, rfl, e6, e7, rfl⟩
  intro hc1
  have hil : i = xs.length := by have := of_decide_eq_false hc1; omega
  rw [hil, List.take_length] at hown
  obtain ⟨bO, cO, eO, hbO, hcO⟩ := own_cells hown hne
  rw [hil] at e3
  injection eO with eO1 eO2 eO3
  subst eO1 eO3
  refine Y5 ?_
  refine Xe ?_
  refine Xb (by kernel_rfl) ?_
  refine Xa (X7 Xn) ?_
  refine Xa (av_bytes rfl Tryz.underlying173 Tryz.underlying5 Tryz.underlying9 hcO rfl hne) ?_
  refine Xa (Z0 rfl) ?_
  refine X2 ?_
  exact ⟨_, X1 (Xu rfl), rfl, Hp.le_trans leG hown.le⟩
def startM : MarkT := ⟨0, false, [], 0, []⟩
theorem start_rep (H : Hp) : kMark.rep H startM [.int .i64 0, .bool false, .slice none 0 0, .int .u64 0, .slice none 0 0] := ⟨_, _, rfl, Sl.nil _ _, Sl.nil _ _⟩
theorem start_good : GoodM startM := ⟨rfl, by decide, by decide, by decide, fun n h => (by cases h), .inr ⟨rfl, rfl⟩⟩
theorem start_big : BigM startM := ⟨by decide, by decide, fun x h => (by cases h)⟩
theorem Start_36 (H : Hp) : ACalls Tryz.prog 41 #[] H (fun r H' => r = .agg #[.int .i64 0, .bool false, .slice none 0 0, .int .u64 0, .slice none 0 0] ∧ H.le H') := by
  refine Xv Tryz.func41 rfl rfl rfl (by simp) ?_
  refine Xe ?_
  refine Xb (by kernel_rfl) ?_
  refine Xy (Yp (l := [.int .i64 0, .bool false, .slice none 0 0, .int .u64 0, .slice none 0 0]) inf33.zero rfl (by decide)) ?_
  refine Xe ?_
  refine Xb (by kernel_rfl) ?_
  refine Xa (Ys (pl := [(0, 1), (1, 1), (2, 1), (3, 1), (4, 1)]) (r := [.int .i64 _, .bool _, .slice _ _ _, .int .u64 _, .slice _ _ _]) Tryz.underlying33 inf33.zero (by decide) rfl rfl) ?_
  refine Xw (X9 (vs := [.int .i64 _, .bool _, .slice _ _ _, .int .u64 _, .slice _ _ _]) rfl rfl inf33.size X6 Ya rfl rfl ?_)
  refine X2 ?_
  exact ⟨_, X1 (Yk Xn (Yj (cs := [_, _, _, _, _]) Tryz.underlying33 rfl inf33.size X4)), rfl, Hp.le_put_new (H.le_push _) (Nat.le_refl _) _⟩
theorem put_start (H : Hp) : ACalls Tryz.prog 76 #[.agg #[.int .i64 0, .bool false, .slice none 0 0, .int .u64 0, .slice none 0 0]] H (fun r H' => r = .string (bytesOf [1, 0, 0, 0, 0]) ∧ H.le H') := by
  have hw : IntKind.u64.wrap 0 = 0 := by decide
  obtain ⟨K, hK⟩ : ∃ K, K = H.push (.own 0 [.int .i64 0, .bool false, .slice none 0 0, .int .u64 0, .slice none 0 0]) := ⟨_, rfl⟩
  have kg : K.get H.size = .own 0 [.int .i64 0, .bool false, .slice none 0 0, .int .u64 0, .slice none 0 0] := by rw [hK]; exact Hp.push_new _ _
  have kz : K.size = H.size + 1 := by rw [hK]; simp
  have leK : H.le K := by rw [hK]; exact H.le_push _
  refine Xv Tryz.func76 rfl rfl rfl (by simp) ?_
  refine Xe ?_
  refine Xb (by kernel_rfl) ?_
  refine Xy (Yq rfl) ?_
  refine Xa (Z0 rfl) ?_
  refine Xe ?_
  refine Xb (by kernel_rfl) ?_
  refine Xa (Xo rfl) ?_
  refine Xe ?_
  refine Xe ?_
  refine Xb (by kernel_rfl) ?_
  refine Xa (Xg (off := 1) rfl Tryz.underlying33 rfl inf4.size (by decide) rfl) ?_
  refine Xa (Xk rfl Tryz.underlying4 rfl Xq) ?_
  refine X8 rfl rfl ?_ ?_
  intro hc1
  exact absurd hc1 (by decide)
  intro hc1
  (try simp only [decide_eq_true_eq, decide_eq_false_iff_not, Bool.not_eq_true', Bool.not_eq_false'] at hc1)
  refine Yf ?_
  refine Xe ?_
  refine Xb (by kernel_rfl) ?_
  refine Xa (Xg (off := 0) rfl Tryz.underlying33 rfl inf3.size (by decide) rfl) ?_
  refine Xa (Xk rfl Tryz.underlying3 rfl Xq) ?_
  refine Xa (av_conv_is hw rfl (by rw [Tryz.underlying3]; rfl) Tryz.underlying30) ?_
  refine Xa (Xf rfl) ?_
  refine Xa (Xg (off := 2) rfl Tryz.underlying33 rfl inf23.size (by decide) rfl) ?_
  refine Xa (Xk rfl Tryz.underlying23 rfl Xq) ?_
  refine Xa (Yr rfl Tryz.underlying23) ?_
  refine Xa (av_conv_is hw rfl (by rw [Tryz.underlying3]; rfl) Tryz.underlying30) ?_
  first | refine Xy (Yn (r := [.int .u64 _, .int .u64 _, .int .u64 _, .int .u64 _]) Tryz.underlying109 inf30.size inf30.zero rfl (by decide) (by decide) (by decide) rfl) ?_
  refine Xa (Ye rfl) ?_
  refine Xe ?_
  refine Xe ?_
  refine Xb (by kernel_rfl) ?_
  refine Xa (Xg (off := 2) rfl Tryz.underlying33 rfl inf23.size (by decide) rfl) ?_
  refine Xa (Xk rfl Tryz.underlying23 rfl Xq) ?_
  refine Xa (Yr rfl Tryz.underlying23) ?_
  refine Xa (Xf rfl) ?_
  refine Yo ?_
  refine Za (fun n t H' => n = 0 ∧ H' = K.push (.own 1 [.int .u64 1, .int .u64 0, .int .u64 0, .int .u64 0]) ∧ t 1 = .pointer (some ⟨H.size, 0, none⟩) ∧ t 4 = .slice (some ⟨K.size, 0, none⟩) 4 4 ∧ t 20 = .int .i64 0 ∧ t 21 = .int .i64 0) (0) (⟨rfl, by rw [hK], rfl, by rw [kz]; rfl, rfl, rfl⟩) ?_
  rintro n t H2 ⟨rfl, hH2, e1, e4, e20, e21⟩
  have hz2 : H2.size = K.size + 1 := by rw [hH2]; simp
  have h2g : H2.get H.size = .own 0 [.int .i64 0, .bool false, .slice none 0 0, .int .u64 0, .slice none 0 0] := by rw [hH2]; exact (Hp.push_old _ _ (by omega)).trans kg
  have hown : OwnP (Yz .u64) (K.push .dead) H2 (.slice (some ⟨K.size, 0, none⟩) 4 4) [1, 0, 0, 0] := by
    rw [hH2]
    refine .inr ⟨K.size, [.int .u64 1, .int .u64 0, .int .u64 0, .int .u64 0], 4, rfl, by simp, Hp.push_new _ _, ?_, .inr (by decide), ?_⟩
    · rw [Hp.push_put]; rfl
    · exact Els.cons (k := Yz .u64) (c := [.int .u64 1]) rfl (Els.cons (k := Yz .u64) (c := [.int .u64 0]) rfl (Els.cons (k := Yz .u64) (c := [.int .u64 0]) rfl (Els.cons (k := Yz .u64) (c := [.int .u64 0]) rfl (Els.nil _ _ []))))
  refine Xe ?_
  refine Xb (by kernel_rfl) ?_
  refine Xa (Zh Xn Xn) ?_
  refine Xe ?_
  refine X8 rfl rfl ?_ ?_
  intro hc2
  exact absurd hc2 (by decide)
  intro hc2
  (try simp only [decide_eq_true_eq, decide_eq_false_iff_not, Bool.not_eq_true', Bool.not_eq_false'] at hc2)
  refine Y5 ?_
  refine Xe ?_
  refine Xb (by kernel_rfl) ?_
  refine Xa (X7 Xn) ?_
  refine Xa (Xg (off := 3) Xn Tryz.underlying33 Xn inf30.size (by decide) Xn) ?_
  refine Xa (Xk rfl Tryz.underlying30 rfl Xq) ?_
  first | refine Xy (Yn (r := [.int .u64 _]) Tryz.underlying109 inf30.size inf30.zero rfl (by decide) (by decide) (by decide) rfl) ?_
  refine Xw (OwnP.append (ys := [0]) (hown.push _) Tryz.underlying109 inf30 rfl rfl rfl (Ve (k := Yz .u64) rfl rfl hown.size rfl) (by decide) (by decide) ?_)
  rintro v5 G5 H5 hle5 hown5
  have le25 : K.le H5 := Hp.le_trans (Hp.le_trans (Hp.le_trans (K.le_push _) ((K.push .dead).le_push _)) hle5) hown5.le
  refine Xw (Xx (Put_small [1, 0, 0, 0, 0] _ _ hown5.sl (by decide) (by decide) (by decide)) rfl Tryz.func104 rfl rfl rfl ?_)
  rintro v36 H6 ⟨rfl, le6⟩
  refine Xa (Z0 rfl) ?_
  refine X2 ?_
  exact ⟨_, X1 (Xu rfl), rfl, Hp.le_trans leK (Hp.le_trans le25 le6)⟩
theorem Put_start (H : Hp) : ACalls Tryz.prog 42 #[.agg #[.int .i64 0, .bool false, .slice none 0 0, .int .u64 0, .slice none 0 0]] H (fun r H' => r = .tuple #[.string (bytesOf [1, 0, 0, 0, 0]), .int .i64 0] ∧ H.le H') := by
  refine Xv Tryz.func42 rfl rfl rfl (by simp) ?_
  refine Xe ?_
  refine Xb (by kernel_rfl) ?_
  refine Xy (Yq rfl) ?_
  refine Xa (Z0 rfl) ?_
  refine Xa (Xo rfl) ?_
  refine Xe ?_
  refine Xe ?_
  refine Xb (by kernel_rfl) ?_
  refine Xa (Yi (cs := [.int .i64 _, .bool _, .slice _ _ _, .int .u64 _, .slice _ _ _]) rfl Tryz.underlying33 rfl inf33.size X4) ?_
  refine Xw (Xx (good_36 startM [.int .i64 0, .bool false, .slice none 0 0, .int .u64 0, .slice none 0 0] _ (start_rep _) start_big) rfl Tryz.func75 rfl rfl rfl ?_)
  rintro v5 H1 ⟨⟨g, rfl, hg⟩, hH1⟩; subst hH1; obtain rfl : g = true := hg.2 start_good
  refine Xa (Zq rfl) ?_
  refine X8 rfl rfl ?_ ?_
  intro hc1
  exact absurd hc1 (by decide)
  intro hc1
  (try simp only [decide_eq_true_eq, decide_eq_false_iff_not, Bool.not_eq_true', Bool.not_eq_false'] at hc1)
  refine Yf ?_
  refine Xe ?_
  refine Xb (by kernel_rfl) ?_
  refine Xa (Yi (cs := [.int .i64 _, .bool _, .slice _ _ _, .int .u64 _, .slice _ _ _]) rfl Tryz.underlying33 rfl inf33.size X4) ?_
  refine Xw (Xx (put_start _) rfl Tryz.func76 rfl rfl rfl ?_)
  rintro v8 H2 ⟨rfl, le2⟩
  refine Xa (Z0 rfl) ?_
  refine Xa (Xo rfl) ?_
  refine X2 ?_
  exact ⟨_, Yy (Xu rfl) (Xu rfl), rfl, Hp.le_trans (H.le_push _) le2⟩
end Go.Proofs.YtmakkmcjocjgmaaGreat.Am


/- What is told of no tree. -/
namespace Go.Proofs.YtmakkmcjocjgmaaGreat.Am
open Go Go.RowKit
set_option maxRecDepth 100000
set_option linter.unusedVariables false
set_option linter.unusedSimpArgs false

theorem Row_nil (u : Value) (H : Hp) : ACalls Tryz.prog 72 #[.pointer none, u] H (fun r H' => r = .tuple #[.agg #[.slice none 0 0, .int .i64 0, .int .u64 0], .bool false] ∧ H.le H') := by
  refine Xv Tryz.func72 rfl rfl rfl (by simp) ?_
  refine Xe ?_
  refine Xb (by kernel_rfl) ?_
  refine Xy (Yp (l := [.slice none 0 0, .int .i64 0, .int .u64 0]) inf46.zero rfl (by decide)) ?_
  refine Xa (Xh rfl) ?_
  refine Xe ?_
  refine Xe ?_
  refine Xb (by kernel_rfl) ?_
  refine Xa (Xt rfl) ?_
  refine Xa (Zz rfl t_spot rfl Tryz.underlying37) ?_
  refine Xa (Xp rfl) ?_
  refine Yd rfl rfl rfl ?_ ?_
  intro hg1
  have hp1 := hg1; try simp only [decide_eq_true_eq, decide_eq_false_iff_not, Bool.not_eq_true', Bool.not_eq_false'] at hp1
  refine Xc (Xj rfl rfl rfl hg1 rfl) ?_
  refine Xc (Xj rfl rfl rfl hg1 rfl) ?_
  refine Xc (Xj rfl rfl rfl hg1 rfl) ?_
  refine Xc (Xj rfl rfl rfl hg1 rfl) ?_
  refine Xc (Xj rfl rfl rfl hg1 rfl) ?_
  refine Xc (Xj rfl rfl rfl hg1 rfl) ?_
  refine Xc (Xj rfl rfl rfl hg1 rfl) ?_
  refine Xc (Xj rfl rfl rfl hg1 rfl) ?_
  refine Xa (Xm (congrArg Value.bool hg1) rfl) ?_
  refine Yt rfl rfl ?_
  refine Xe ?_
  refine Xb (by kernel_rfl) ?_
  refine Xa (Ys (pl := [(0, 1), (1, 1), (2, 1)]) (r := [.slice _ _ _, .int .i64 _, .int .u64 _]) Tryz.underlying46 inf46.zero (by decide) rfl rfl) ?_
  refine Xw (X9 (vs := [.slice _ _ _, .int .i64 _, .int .u64 _]) rfl rfl inf46.size X6 Ya rfl rfl ?_)
  refine Xa (Xh rfl) ?_
  refine X2 ?_
  exact ⟨_, Yy (Yk Xn (Yj (cs := [_, _, _]) Tryz.underlying46 rfl inf46.size X4)) (Xu rfl), rfl, Hp.le_put_new (H.le_push _) (Nat.le_refl _) _⟩
  intro hg1
  exact absurd hg1 (by decide)
end Go.Proofs.YtmakkmcjocjgmaaGreat.Am


/- What is told of no tree, and of the first mark. -/
namespace Go.Proofs.YtmakkmcjocjgmaaGreat.Am
open Go Go.RowKit
set_option maxRecDepth 100000
set_option linter.unusedVariables false
set_option linter.unusedSimpArgs false

theorem fits_no (m : MarkT) (cs : List Value) (H : Hp) (hm : kMark.rep H m cs) (hb : BigM m) :
    ACalls Tryz.prog 58 #[.pointer none, .agg cs.toArray] H (fun r H' => (∃ g, r = .bool g ∧ (g = true ↔ GoodM m ∧ m.nodes.length = 0)) ∧ H.le H') := by
  have hm0 := hm
  obtain ⟨v, w, rfl, hv, hw⟩ := hm
  obtain ⟨A, c, rfl⟩ := hv.shape
  obtain ⟨W, cW, rfl⟩ := hw.shape
  have hbn := hb.n
  refine Xv Tryz.func58 rfl rfl rfl (by simp) ?_
  refine Xe ?_
  refine Xb (by kernel_rfl) ?_
  refine Xy (Yq rfl) ?_
  refine Xa (Xh rfl) ?_
  refine Xe ?_
  refine Xe ?_
  refine Xb (by kernel_rfl) ?_
  refine Xa (Yi (cs := [.int .i64 _, .bool _, .slice _ _ _, .int .u64 _, .slice _ _ _]) rfl Tryz.underlying33 rfl inf33.size X4) ?_
  refine Xw (Xx (good_36 m _ _ (kMark.mono (H.le_push _).sees hm0) hb) rfl Tryz.func75 rfl rfl rfl ?_)
  rintro v8 H1 ⟨⟨g, rfl, hg⟩, hH1⟩; subst hH1
  refine Xa (Zq rfl) ?_
  refine Xa (Xp rfl) ?_
  refine Yd rfl rfl rfl ?_ ?_
  intro hg1
  have hgf : g = false := by have h := hg1; simpa using h
  refine Xc (Xj rfl rfl rfl hg1 rfl) ?_
  refine Xc (Xj rfl rfl rfl hg1 rfl) ?_
  refine Xc (Xj rfl rfl rfl hg1 rfl) ?_
  refine Xc (Xj rfl rfl rfl hg1 rfl) ?_
  refine Xa (Xm (congrArg Value.bool hg1) rfl) ?_
  refine Yt rfl rfl ?_
  refine Xe ?_
  refine Xb (by kernel_rfl) ?_
  refine Xa (Yi (cs := [.int .i64 _, .bool _, .slice _ _ _, .int .u64 _, .slice _ _ _]) rfl Tryz.underlying33 rfl inf33.size X4) ?_
  refine Xw (Xx (good_36 m _ _ (kMark.mono (H.le_push _).sees hm0) hb) rfl Tryz.func75 rfl rfl rfl ?_)
  rintro v17 H1 ⟨⟨g2, rfl, hg2⟩, hH1⟩; subst hH1
  refine Xa (Xh rfl) ?_
  refine X2 ?_
  refine ⟨_, X1 (Xu rfl), ⟨g2, rfl, ?_⟩, H.le_push _⟩
  first
    | exact ⟨fun h => ⟨hg2.1 h, hn0⟩, fun h => hg2.2 h.1⟩
    | exact ⟨fun h => (by have := hg.2 (hg2.1 h); rw [hgf] at this; cases this), fun h => hg2.2 h.1⟩
  intro hg1
  have hgt : g = true := by have h := hg1; simpa using h
  refine Xl (Xi rfl rfl rfl hg1) (Xg (off := 2) rfl Tryz.underlying33 rfl inf23.size (by decide) rfl) ?_
  refine Xl (Xi rfl rfl rfl hg1) (Xk rfl Tryz.underlying23 rfl Xq) ?_
  refine Xl (Xi rfl rfl rfl hg1) (Yr rfl Tryz.underlying23) ?_
  refine Xl (Xi rfl rfl rfl hg1) (Zt rfl rfl) ?_
  refine Xa (Xm (congrArg Value.bool hg1) rfl) ?_
  refine X8 rfl rfl ?_ ?_
  intro hc3
  have hn0 : m.nodes.length = 0 := by have := of_decide_eq_true hc3; omega
  refine Xe ?_
  refine Xb (by kernel_rfl) ?_
  refine Xa (Yi (cs := [.int .i64 _, .bool _, .slice _ _ _, .int .u64 _, .slice _ _ _]) rfl Tryz.underlying33 rfl inf33.size X4) ?_
  refine Xw (Xx (good_36 m _ _ (kMark.mono (H.le_push _).sees hm0) hb) rfl Tryz.func75 rfl rfl rfl ?_)
  rintro v17 H1 ⟨⟨g2, rfl, hg2⟩, hH1⟩; subst hH1
  refine Xa (Xh rfl) ?_
  refine X2 ?_
  refine ⟨_, X1 (Xu rfl), ⟨g2, rfl, ?_⟩, H.le_push _⟩
  first
    | exact ⟨fun h => ⟨hg2.1 h, hn0⟩, fun h => hg2.2 h.1⟩
    | exact ⟨fun h => (by have := hg.2 (hg2.1 h); rw [hgf] at this; cases this), fun h => hg2.2 h.1⟩
  intro hc3
  have hn0 : ¬ m.nodes.length = 0 := by have := of_decide_eq_false hc3; omega
  refine Yf ?_
  refine Xe ?_
  refine Xb (by kernel_rfl) ?_
  refine Xa (Xt rfl) ?_
  refine Xa (Xg (off := 2) rfl Tryz.underlying33 rfl inf23.size (by decide) rfl) ?_
  refine Xa (Xk rfl Tryz.underlying23 rfl Xq) ?_
  refine Xw (Xx (Row_nil _ _) rfl Tryz.func72 rfl rfl rfl ?_)
  rintro v22 H2 ⟨rfl, le2⟩; have z2 := le2.1; simp only [Hp.push_size] at z2; have g20 := Xs le2 (by simp) (by intro e; cases e) (Hp.push_new H (.own 0 [.int .i64 m.told, .bool m.over, .slice A m.nodes.length c, .int .u64 m.rest, .slice W m.items.length cW]))
  refine Xa (Y8 rfl) ?_
  refine Xa (Yb rfl rfl) ?_
  refine Xa (Yb rfl rfl) ?_
  refine Xy (Yp (l := [.slice none 0 0, .int .i64 0, .int .u64 0]) inf46.zero rfl (by decide)) ?_
  refine Xw (X9 (vs := [.slice _ _ _, .int .i64 _, .int .u64 _]) rfl rfl inf46.size X6 Ya rfl rfl ?_)
  refine Xa (Xh rfl) ?_
  refine Xe ?_
  refine Xb (by kernel_rfl) ?_
  refine Xa (Xp rfl) ?_
  refine Xa (Xp rfl) ?_
  refine Yd rfl rfl rfl ?_ ?_
  intro hg4
  exact absurd hg4 (by decide)
  intro hg4
  have hp4 := hg4; try simp only [decide_eq_true_eq, decide_eq_false_iff_not, Bool.not_eq_true', Bool.not_eq_false'] at hp4
  refine Xc (Xj rfl rfl rfl hg4 rfl) ?_
  refine Xc (Xj rfl rfl rfl hg4 rfl) ?_
  refine Xc (Xj rfl rfl rfl hg4 rfl) ?_
  refine Xc (Xj rfl rfl rfl hg4 rfl) ?_
  refine Xc (Xj rfl rfl rfl hg4 rfl) ?_
  refine Xa (Xm (congrArg Value.bool hg4) rfl) ?_
  refine Xa (Xh rfl) ?_
  refine X2 ?_
  · exact ⟨_, X1 (Xu rfl), ⟨false, rfl, ⟨fun h => (by cases h), fun h => absurd h.2 hn0⟩⟩, Hp.le_put_new (Hp.le_push' (Hp.le_trans (H.le_push _) le2) _) (by first | omega | (simp; done) | (simp; omega)) _⟩
theorem Fits_no (m : MarkT) (cs : List Value) (H : Hp) (hm : kMark.rep H m cs) (hb : BigM m) :
    ACalls Tryz.prog 18 #[.pointer none, .agg cs.toArray] H (fun r H' => (∃ g, r = .bool g ∧ (g = true ↔ GoodM m ∧ m.nodes.length = 0)) ∧ H.le H') := by
  have hm0 := hm
  obtain ⟨v, w, rfl, hv, hw⟩ := hm
  obtain ⟨A, c, rfl⟩ := hv.shape
  obtain ⟨W, cW, rfl⟩ := hw.shape
  refine Xv Tryz.func18 rfl rfl rfl (by simp) ?_
  refine Xe ?_
  refine Xb (by kernel_rfl) ?_
  refine Xy (Yq rfl) ?_
  refine Xa (Xh rfl) ?_
  refine Xe ?_
  refine Xb (by kernel_rfl) ?_
  refine Xa (Xt rfl) ?_
  refine Xa (Yi (cs := [.int .i64 _, .bool _, .slice _ _ _, .int .u64 _, .slice _ _ _]) rfl Tryz.underlying33 rfl inf33.size X4) ?_
  refine Xw (Xx (fits_no m _ _ (kMark.mono (H.le_push _).sees hm0) hb) rfl Tryz.func58 rfl rfl rfl ?_)
  rintro v7 H1 ⟨⟨g, rfl, hg⟩, le1⟩
  refine Xa (Xh rfl) ?_
  refine X2 ?_
  exact ⟨_, X1 (Xu rfl), ⟨g, rfl, hg⟩, Hp.le_trans (H.le_push _) le1⟩
theorem First_no (H : Hp) : ACalls Tryz.prog 88 #[.pointer none] H (fun r H' => (∃ A c, r = .tuple #[.agg #[.slice A 0 c, .int .i64 0, .int .u64 0], .bool false] ∧ Sl (Yz .i64) H' (.slice A 0 c) []) ∧ H.le H') :=
  (First_gen goodT_live alive_live none w1 (.inr rfl) (fun H => fresh_nil H) H (fun h => by cases h)).mono fun r H' ⟨hle, hr⟩ => by
    rw [next_over rfl] at hr
    obtain ⟨A, c, rfl, hs⟩ := hr
    exact ⟨⟨A, c, rfl, hs⟩, hle⟩
theorem behind_no (m : MarkT) (cs : List Value) (H : Hp) (hm : kMark.rep H m cs) (hn : m.nodes.length = 0) :
    ACalls Tryz.prog 59 #[.pointer none, .agg cs.toArray] H (fun r H' => (∃ A c, r = .tuple #[.agg #[.slice A 0 c, .int .i64 0, .int .u64 0], .int .u64 0, .bool false]) ∧ H.le H') := by
  obtain ⟨v, w, rfl, hv, hw⟩ := hm
  obtain ⟨A, c, rfl⟩ := hv.shape
  obtain ⟨W, cW, rfl⟩ := hw.shape
  refine Xv Tryz.func59 rfl rfl rfl (by simp) ?_
  refine Xe ?_
  refine Xb (by kernel_rfl) ?_
  refine Xy (Yq rfl) ?_
  refine Xy (Yp (l := [.slice none 0 0, .int .i64 0, .int .u64 0]) inf46.zero rfl (by decide)) ?_
  refine Xa (Xo rfl) ?_
  refine Xa (Xh rfl) ?_
  refine Xe ?_
  refine Xe ?_
  refine Xb (by kernel_rfl) ?_
  refine Xa (Xg (off := 1) rfl Tryz.underlying33 rfl inf4.size (by decide) rfl) ?_
  refine Xa (Xk rfl Tryz.underlying4 rfl Xq) ?_
  refine X8 rfl rfl ?_ ?_
  intro hc1
  have ho : m.over = true := hc1
  refine Xe ?_
  refine Xb (by kernel_rfl) ?_
  refine Xa (Ys (pl := [(0, 1), (1, 1), (2, 1)]) (r := [.slice _ _ _, .int .i64 _, .int .u64 _]) Tryz.underlying46 inf46.zero (by decide) rfl rfl) ?_
  refine Xw (X9 (vs := [.slice _ _ _, .int .i64 _, .int .u64 _]) rfl rfl inf46.size X6 Ya rfl rfl ?_)
  refine Xa (Xo rfl) ?_
  refine Xa (Xh rfl) ?_
  refine X2 ?_
  · exact ⟨_, Vj (Yk Xn (Yj (cs := [_, _, _]) Tryz.underlying46 rfl inf46.size X4)) (Xu rfl) (Xu rfl), ⟨none, 0, rfl⟩, Hp.le_put_new (Hp.le_push' (H.le_push _) _) (by first | omega | (simp; done) | (simp; omega)) _⟩
  intro hc1
  have ho : m.over = false := hc1
  refine Yf ?_
  refine Xe ?_
  refine Xe ?_
  refine Xb (by kernel_rfl) ?_
  refine Xa (Xg (off := 2) rfl Tryz.underlying33 rfl inf23.size (by decide) rfl) ?_
  refine Xa (Xk rfl Tryz.underlying23 rfl Xq) ?_
  refine Xa (Yr rfl Tryz.underlying23) ?_
  refine Xa (Zt rfl rfl) ?_
  refine X8 rfl rfl ?_ ?_
  intro hc2
  (try simp only [decide_eq_true_eq, decide_eq_false_iff_not, Bool.not_eq_true', Bool.not_eq_false'] at hc2)
  refine Xe ?_
  refine Xb (by kernel_rfl) ?_
  refine Xa (Xt rfl) ?_
  refine Xw (Xx (First_no _) rfl Tryz.func88 rfl rfl rfl ?_)
  rintro v22 H1 ⟨⟨A1, c1', rfl, hs1⟩, le1⟩; have z1 := le1.1; simp only [Hp.push_size] at z1; have g1 : H1.get (H.size + 1) = .own 0 [.slice none 0 0, .int .i64 0, .int .u64 0] := Xs le1 (by simp) (by intro e; cases e) X6
  refine Xa (Y8 rfl) ?_
  refine Xa (Yb rfl rfl) ?_
  refine Xa (Yb rfl rfl) ?_
  refine Xy (Yp (l := [.slice none 0 0, .int .i64 0, .int .u64 0]) inf46.zero rfl (by decide)) ?_
  refine Xw (X9 (vs := [.slice _ _ _, .int .i64 _, .int .u64 _]) rfl rfl inf46.size X6 Ya rfl rfl ?_)
  refine Xa (Xh rfl) ?_
  refine Xe ?_
  refine Xb (by kernel_rfl) ?_
  refine Xa (Yi (cs := [.slice _ _ _, .int .i64 _, .int .u64 _]) rfl Tryz.underlying46 rfl inf46.size X4) ?_
  refine Xa (Xp rfl) ?_
  refine Xw (X9 (vs := [.slice _ _ _, .int .i64 _, .int .u64 _]) rfl rfl inf46.size X6 Ya rfl rfl ?_)
  refine Xa (Xo rfl) ?_
  refine Xa (Xh rfl) ?_
  refine X2 ?_
  · exact ⟨_, Vj (Yk Xn (Yj (cs := [_, _, _]) Tryz.underlying46 rfl inf46.size X4)) (Xu rfl) (Xu rfl), ⟨A1, c1', rfl⟩, Hp.le_put_new (Hp.le_put_new (Hp.le_push' (Hp.le_trans (Hp.le_push' (H.le_push _) _) le1) _) (by first | omega | (simp; done) | (simp; omega)) _) (by first | omega | (simp; done) | (simp; omega)) _⟩
  intro hc2
  (have h := of_decide_eq_false hc2; exfalso; omega)
set_option maxHeartbeats 1000000 in
theorem Next_no (m : MarkT) (cs : List Value) (H : Hp) (hm : kMark.rep H m cs) (hb : BigM m) :
    ACalls Tryz.prog 17 #[.pointer none, .agg cs.toArray] H (fun r H' => (∃ (A : Option Addr) (c : Nat) (x : MarkT), r = .tuple #[.agg #[.slice A 0 c, .int .i64 0, .int .u64 0], .agg #[.int .i64 x.told, .bool x.over, .slice none 0 0, .int .u64 0, .slice none 0 0], .bool false] ∧ (GoodM m ∧ m.nodes.length = 0 → x = ⟨m.told, true, [], 0, []⟩) ∧ (¬ (GoodM m ∧ m.nodes.length = 0) → x = startM)) ∧ H.le H') := by
  have hm0 := hm
  obtain ⟨v, w, rfl, hv, hw⟩ := hm
  obtain ⟨A, c, rfl⟩ := hv.shape
  obtain ⟨W, cW, rfl⟩ := hw.shape
  refine Xv Tryz.func17 rfl rfl rfl (by simp) ?_
  refine Xe ?_
  refine Xb (by kernel_rfl) ?_
  refine Xy (Yq rfl) ?_
  refine Xy (Yp (l := [.slice none 0 0, .int .i64 0, .int .u64 0]) inf46.zero rfl (by decide)) ?_
  refine Xy (Yp (l := [.int .i64 0, .bool false, .slice none 0 0, .int .u64 0, .slice none 0 0]) inf33.zero rfl (by decide)) ?_
  refine Xa (Xh rfl) ?_
  refine Xe ?_
  refine Xe ?_
  refine Xb (by kernel_rfl) ?_
  refine Xa (Xt rfl) ?_
  refine Xa (Yi (cs := [.int .i64 _, .bool _, .slice _ _ _, .int .u64 _, .slice _ _ _]) rfl Tryz.underlying33 rfl inf33.size X4) ?_
  refine Xw (Xx (fits_no m _ _ (kMark.mono Zk hm0) hb) rfl Tryz.func58 rfl rfl rfl ?_)
  rintro v12 H1 ⟨⟨g, rfl, hg⟩, le1⟩; have z1 := le1.1; simp only [Hp.push_size] at z1; have g10 : H1.get H.size = .own 0 [.int .i64 m.told, .bool m.over, .slice A m.nodes.length c, .int .u64 m.rest, .slice W m.items.length cW] := Xs le1 (by simp <;> omega) (by intro e; cases e) X6; have g11 : H1.get (H.size + 1) = .own 0 [.slice none 0 0, .int .i64 0, .int .u64 0] := Xs le1 (by simp <;> omega) (by intro e; cases e) X6; have g12 : H1.get (H.size + 1 + 1) = .own 0 [.int .i64 0, .bool false, .slice none 0 0, .int .u64 0, .slice none 0 0] := Xs le1 (by simp <;> omega) (by intro e; cases e) X6; have leH1 : H.le H1 := Hp.le_trans (Hp.le_push' (Hp.le_push' (H.le_push _) _) _) le1
  refine Xa (Zq rfl) ?_
  refine X8 rfl rfl ?_ ?_
  intro hc1
  have hno : ¬ (GoodM m ∧ m.nodes.length = 0) := fun h => by have h2 := hc1; rw [hg.2 h] at h2; cases h2
  refine Xe ?_
  refine Xb (by kernel_rfl) ?_
  refine Xa (Ys (pl := [(0, 1), (1, 1), (2, 1)]) (r := [.slice _ _ _, .int .i64 _, .int .u64 _]) Tryz.underlying46 inf46.zero (by decide) rfl rfl) ?_
  refine Xa (Ys (pl := [(0, 1), (1, 1), (2, 1), (3, 1), (4, 1)]) (r := [.int .i64 _, .bool _, .slice _ _ _, .int .u64 _, .slice _ _ _]) Tryz.underlying33 inf33.zero (by decide) rfl rfl) ?_
  refine Xw (X9 (vs := [.slice _ _ _, .int .i64 _, .int .u64 _]) rfl rfl inf46.size X6 Ya rfl rfl ?_)
  refine Xw (X9 (vs := [.int .i64 _, .bool _, .slice _ _ _, .int .u64 _, .slice _ _ _]) rfl rfl inf33.size X6 Ya rfl rfl ?_)
  refine Xa (Xh rfl) ?_
  refine X2 ?_
  · exact ⟨_, Vj (Yk Xn (Yj (cs := [_, _, _]) Tryz.underlying46 rfl inf46.size X4)) (Yk Xn (Yj (cs := [_, _, _, _, _]) Tryz.underlying33 rfl inf33.size X4)) (Xu rfl), ⟨none, 0, startM, rfl, fun h => absurd h hno, fun _ => rfl⟩, Hp.le_put_new (Hp.le_put_new leH1 (by first | omega | (simp; done) | (simp; omega)) _) (by first | omega | (simp; done) | (simp; omega)) _⟩
  intro hc1
  have hyes : GoodM m ∧ m.nodes.length = 0 := hg.1 (by have h := hc1; simpa using h)
  refine Yf ?_
  refine Xe ?_
  refine Xb (by kernel_rfl) ?_
  refine Xa (Xt rfl) ?_
  refine Xa (Yi (cs := [.int .i64 _, .bool _, .slice _ _ _, .int .u64 _, .slice _ _ _]) rfl Tryz.underlying33 rfl inf33.size X4) ?_
  refine Xw (Xx (behind_no m _ _ (kMark.mono leH1.sees hm0) hyes.2) rfl Tryz.func59 rfl rfl rfl ?_)
  rintro v19 H2 ⟨⟨A2, c2, rfl⟩, le2⟩; have z2 := le2.1; have g20 := Xs le2 (by omega) (by intro e; cases e) g10; have g21 := Xs le2 (by omega) (by intro e; cases e) g11; have g22 := Xs le2 (by omega) (by intro e; cases e) g12; have leH2 := Hp.le_trans leH1 le2
  refine Xa (Y8 rfl) ?_
  refine Xa (Yb rfl rfl) ?_
  refine Xa (Yb rfl rfl) ?_
  refine Xa (Yb rfl rfl) ?_
  refine Xy (Yp (l := [.slice none 0 0, .int .i64 0, .int .u64 0]) inf46.zero rfl (by decide)) ?_
  refine Xw (X9 (vs := [.slice _ _ _, .int .i64 _, .int .u64 _]) rfl rfl inf46.size X6 Ya rfl rfl ?_)
  refine Xa (Xo rfl) ?_
  refine Xa (Xh rfl) ?_
  refine Xe ?_
  refine Xe ?_
  refine Xb (by kernel_rfl) ?_
  refine Xa (Xp rfl) ?_
  refine Xa (Zq rfl) ?_
  refine X8 rfl rfl ?_ ?_
  intro hc2
  (try simp only [decide_eq_true_eq, decide_eq_false_iff_not, Bool.not_eq_true', Bool.not_eq_false'] at hc2)
  refine Xe ?_
  refine Yv (by kernel_rfl) (Y0 (B := [0, 0, 2, 6, 1, 31, 63]) (π := [0, 1, 2, 3, 4, 5, 6]) (by kernel_rfl)) ?_
  refine Xd rfl rfl (Ys (pl := [(0, 1), (1, 1), (2, 1)]) (r := [.slice _ _ _, .int .i64 _, .int .u64 _]) Tryz.underlying46 inf46.zero (by decide) rfl rfl) Xr ?_
  refine Xd rfl rfl (Xg (off := 0) rfl Tryz.underlying33 rfl inf3.size (by decide) rfl) Xr ?_
  refine Xd rfl rfl (Xk rfl Tryz.underlying3 rfl Xq) Xr ?_
  refine Xd rfl rfl (Ys (pl := [(0, 1), (1, 1), (2, 1), (3, 1), (4, 1)]) (r := [.int .i64 _, .bool _, .slice _ _ _, .int .u64 _, .slice _ _ _]) Tryz.underlying33 inf33.zero (by decide) rfl rfl) Xr ?_
  refine Ym rfl rfl (X9 (vs := [.slice _ _ _, .int .i64 _, .int .u64 _]) rfl rfl inf46.size X6 Ya rfl rfl ?_)
  refine ⟨Yh, ?_⟩
  refine Ym rfl rfl (X9 (vs := [.int .i64 _, .bool _, .slice _ _ _, .int .u64 _, .slice _ _ _]) rfl rfl inf33.size X6 Ya rfl rfl ?_)
  refine ⟨Yh, ?_⟩
  refine Xd rfl rfl (Xh rfl) Xr ?_
  refine X2 ?_
  · exact ⟨_, Vj (Yk Xn (Yj (cs := [_, _, _]) Tryz.underlying46 rfl inf46.size X4)) (Yk Xn (Yj (cs := [_, _, _, _, _]) Tryz.underlying33 rfl inf33.size X4)) (Xu rfl), ⟨none, 0, ⟨m.told, true, [], 0, []⟩, rfl, fun _ => rfl, fun h => absurd hyes h⟩, Hp.le_put_new (Hp.le_put_new (Hp.le_put_new (Hp.le_push' leH2 _) (by first | omega | (simp; done) | (simp; omega)) _) (by first | omega | (simp; done) | (simp; omega)) _) (by first | omega | (simp; done) | (simp; omega)) _⟩
  intro hc2
  exact absurd hc2 (by decide)
end Go.Proofs.YtmakkmcjocjgmaaGreat.Am


/- Which row stands behind any nodes, plain. -/
namespace Go.Proofs.YtmakkmcjocjgmaaGreat.Am
open Go Go.RowKit
set_option maxRecDepth 100000
set_option linter.unusedVariables false
set_option linter.unusedSimpArgs false

def behN (T : TreeT) (ns : List Int) : List (List Int) := (extN T T.vars.length []).filter fun x => decide (0 < cmpZ x ns)
theorem cmp_app : ∀ (p xs ys : List Int), cmpZ (p ++ xs) (p ++ ys) = cmpZ xs ys
  | [], _, _ => rfl
  | a :: p, xs, ys => by
    show cmpZ (a :: (p ++ xs)) (a :: (p ++ ys)) = _
    rw [cmpZ, if_neg (by omega), if_neg (by omega), cmp_app p]
theorem ext_pre {T : TreeT} : ∀ (d : Nat) (p x : List Int), x ∈ extN T d p → ∃ s, x = p ++ s
  | 0, p, x, h => ⟨[], by rw [List.append_nil]; exact List.mem_singleton.1 h⟩
  | d + 1, p, x, h => by
    obtain ⟨l, _, h2⟩ := List.mem_flatMap.1 h
    obtain ⟨s, rfl⟩ := ext_pre d _ x h2
    exact ⟨l.b :: s, by simp⟩
theorem split_list {ns : List Int} {i : Nat} (h : i < ns.length) : ns = ns.take i ++ ns.getD i 0 :: ns.drop (i + 1) := by
  conv => lhs; rw [← List.take_append_drop i ns, List.drop_eq_getElem_cons h]
  rw [Y9 h]
theorem take_more {ns : List Int} {i : Nat} (h : i < ns.length) : ns.take i ++ [ns.getD i 0] = ns.take (i + 1) := by
  rw [Y9 h, List.take_append_getElem]
theorem cut_group {F : Link → List (List Int)} {P : List Int → Bool} {x : Int} : ∀ {g : List Link}, g.Pairwise (fun y z => y.b < z.b) → (∀ l : Link, l.b < x → (F l).filter P = []) → (∀ l : Link, x < l.b → (F l).filter P = F l) →
    (g.flatMap F).filter P = (match Zl g x with | some l => (F l).filter P | none => []) ++ (g.filter fun l => decide (x < l.b)).flatMap F
  | [], _, _, _ => rfl
  | y :: g, hs, h1, h2 => by
    obtain ⟨hy, hg⟩ := List.pairwise_cons.1 hs
    have ih := cut_group hg h1 h2
    rw [List.flatMap_cons, List.filter_append, ih]
    rcases Int.lt_trichotomy y.b x with h | h | h
    · rw [h1 y h, List.nil_append, List.filter_cons, if_neg (by simp; omega)]
      have : Zl (y :: g) x = Zl g x := by unfold Zl; rw [List.find?_cons, decide_eq_false (by omega)]
      rw [this]
    · have hf : Zl (y :: g) x = some y := by unfold Zl; rw [List.find?_cons, decide_eq_true h]
      have hn : Zl g x = none := findB_none fun l hl => by have := hy l hl; omega
      rw [hf, hn, List.filter_cons, if_neg (by simp; omega), List.nil_append]
    · have hf : Zl (y :: g) x = none := findB_none fun l hl => by
        rcases List.mem_cons.1 hl with rfl | hl
        · omega
        · have := hy l hl; omega
      have hn : Zl g x = none := findB_none fun l hl => by have := hy l hl; omega
      rw [hf, hn, h2 y h, List.nil_append, List.nil_append, List.filter_cons, if_pos (by simpa using h), List.flatMap_cons]
section
variable {T : TreeT} (hT : GoodT T)
include hT
theorem beh_step {ns : List Int} (hl : ns.length = T.vars.length) {i : Nat} (hi : i < ns.length) :
    (extN T (T.vars.length - i) (ns.take i)).filter (fun x => decide (0 < cmpZ x ns)) = (match Zl (T.group i (Yl T ns i)) (ns.getD i 0) with
      | some _ => (extN T (T.vars.length - (i + 1)) (ns.take (i + 1))).filter fun x => decide (0 < cmpZ x ns)
      | none => []) ++ ((T.group i (Yl T ns i)).filter fun l => decide (ns.getD i 0 < l.b)).flatMap (fun l => extN T (T.vars.length - (i + 1)) (ns.take i ++ [l.b])) := by
  have e : T.vars.length - i = (T.vars.length - (i + 1)) + 1 := by omega
  have hlp : (ns.take i).length = i := by rw [List.length_take]; omega
  have ha : Yl T (ns.take i) i = Yl T ns i := Zv hT (by omega) (fun j hj => Vc hj)
  rw [e, extN, hlp, ha, cut_group (x := ns.getD i 0) (hT.sort i (Yl T ns i))]
  · congr 1
    cases hf : Zl (T.group i (Yl T ns i)) (ns.getD i 0) with
    | none => rfl
    | some l =>
      have := ((findB_iff (hT.sort i (Yl T ns i))).1 hf).2
      simp only
      rw [this, take_more hi]
  · intro l h
    refine List.filter_eq_nil_iff.2 fun x hx => ?_
    obtain ⟨s, rfl⟩ := ext_pre _ _ x hx
    have : cmpZ (ns.take i ++ [l.b] ++ s) ns = -1 := by
      conv => lhs; rhs; rw [split_list hi]
      rw [List.append_assoc, cmp_app]
      show cmpZ (l.b :: s) _ = _
      rw [cmpZ, if_pos h]
    rw [this]; decide
  · intro l h
    refine List.filter_eq_self.2 fun x hx => ?_
    obtain ⟨s, rfl⟩ := ext_pre _ _ x hx
    have : cmpZ (ns.take i ++ [l.b] ++ s) ns = 1 := by
      conv => lhs; rhs; rw [split_list hi]
      rw [List.append_assoc, cmp_app]
      show cmpZ (l.b :: s) _ = _
      rw [cmpZ, if_neg (by omega), if_pos h]
    rw [this]; decide
theorem beh_aft {ns : List Int} (hl : ns.length = T.vars.length) {g : Nat} (hg : g < ns.length) (hp : Path T (ns.take g)) (hend : g + 1 = ns.length ∨ Zl (T.group g (Yl T ns g)) (ns.getD g 0) = none) :
    ∀ d i : Nat, i + d = g → (extN T (T.vars.length - i) (ns.take i)).filter (fun x => decide (0 < cmpZ x ns)) ++ aftK T ns i = aftK T ns (g + 1)
  | 0, i, h => by
    obtain rfl : i = g := by omega
    rw [beh_step hT hl hg, List.append_assoc]
    have : (match Zl (T.group i (Yl T ns i)) (ns.getD i 0) with
      | some _ => (extN T (T.vars.length - (i + 1)) (ns.take (i + 1))).filter fun x => decide (0 < cmpZ x ns)
      | none => []) = [] := by
      rcases hend with h1 | h1
      · have e : T.vars.length - (i + 1) = 0 := by omega
        rw [e, List.take_of_length_le (by omega)]
        cases Zl (T.group i (Yl T ns i)) (ns.getD i 0) with
        | none => rfl
        | some l => show [ns].filter _ = []; rw [List.filter_cons, cmpZ_self]; rfl
      · rw [h1]
    rw [this]; rfl
  | d + 1, i, h => by
    have hi : i < ns.length := by omega
    obtain ⟨l, h1, h2⟩ := hp i (by rw [List.length_take]; omega)
    have ha : Yl T (ns.take g) i = Yl T ns i := Zv hT (by omega) (fun j hj => Vc (by omega))
    rw [ha] at h1
    rw [Vc (by omega)] at h2
    rw [beh_step hT hl hi, (findB_iff (hT.sort i (Yl T ns i))).2 ⟨h1, h2⟩, List.append_assoc]
    exact beh_aft hl hg hp hend d (i + 1) (by omega)
theorem beh_is {ns : List Int} (hl : ns.length = T.vars.length) {g : Nat} (hg : g < ns.length) (hp : Path T (ns.take g)) (hend : g + 1 = ns.length ∨ Zl (T.group g (Yl T ns g)) (ns.getD g 0) = none) : behN T ns = aftK T ns (g + 1) := by
  have := beh_aft hT hl hg hp hend g 0 (by omega)
  rw [List.take_zero, Nat.sub_zero] at this
  exact (List.append_nil _).symm.trans this
omit hT in
theorem ext_ne (hA : Alive T) : ∀ (d : Nat) (p : List Int), Path T p → 0 < p.length → p.length + d = T.vars.length → GoodT T → extN T d p ≠ []
  | 0, p, _, _, _, _ => by intro h; cases h
  | d + 1, p, hp, h0, hd, hT => by
    have hne := hA p hp h0 (by omega)
    obtain ⟨l, ls, hls⟩ : ∃ l ls, T.group p.length (Yl T p p.length) = l :: ls := by
      cases h : T.group p.length (Yl T p p.length) with
      | nil => exact absurd h hne
      | cons l ls => exact ⟨l, ls, rfl⟩
    intro h
    rw [extN, hls, List.flatMap_cons] at h
    exact ext_ne hA d (p ++ [l.b]) (path_snoc hT hp (by omega) (by rw [hls]; exact List.mem_cons_self ..)) (by simp) (by simp; omega) hT (List.append_eq_nil_iff.1 h).1
theorem aft_head (hA : Alive T) {ns : List Int} (hl : ns.length = T.vars.length) {i : Nat} (hi : i < ns.length) (hp : Path T (ns.take i)) {l : Link} (hn : V0 (T.group i (Yl T ns i)) (ns.getD i 0) = some l) :
    Path T (ns.take i ++ [l.b]) ∧ (aftK T ns (i + 1)).head? = (extN T (T.vars.length - (i + 1)) (ns.take i ++ [l.b])).head? := by
  have hlp : (ns.take i).length = i := by rw [List.length_take]; omega
  have hm : l ∈ T.group i (Yl T ns i) := List.mem_of_find?_eq_some hn
  have ha : Yl T (ns.take i) i = Yl T ns i := Zv hT (by omega) (fun j hj => Vc hj)
  have hp2 : Path T (ns.take i ++ [l.b]) := path_snoc hT hp (by omega) (by rw [hlp, ha]; exact hm)
  refine ⟨hp2, ?_⟩
  have hne := ext_ne hA (T.vars.length - (i + 1)) (ns.take i ++ [l.b]) hp2 (by simp) (by rw [List.length_append, hlp, List.length_singleton]; omega) hT
  show (((T.group i (Yl T ns i)).filter _).flatMap _ ++ aftK T ns i).head? = _
  rw [next_filter (hT.sort i (Yl T ns i)) hn, List.flatMap_cons, List.append_assoc]
  cases h : extN T (T.vars.length - (i + 1)) (ns.take i ++ [l.b]) with
  | nil => exact absurd h hne
  | cons a tl => rfl
omit hT in
theorem aft_none {ns : List Int} {i : Nat} (hn : V0 (T.group i (Yl T ns i)) (ns.getD i 0) = none) : aftK T ns (i + 1) = aftK T ns i := by
  show ((T.group i (Yl T ns i)).filter _).flatMap _ ++ aftK T ns i = _
  rw [next_none hn]; rfl
def TellsH (T : TreeT) (o : Option RowT) (l : List (List Int)) : Prop := o.map RowT.nodes = l.head? ∧ ∀ r, o = some r → Vr T r.nodes = some r
theorem least_is (hA : Alive T) {p : List Int} (hp : Path T p) (h0 : 0 < p.length) (hl : p.length ≤ T.vars.length) : TellsH T (if p.length = T.vars.length then Vr T p else (Vm T ⟨p, false, false, 0⟩).2) (extN T (T.vars.length - p.length) p) := by
  by_cases h : p.length = T.vars.length
  · rw [if_pos h]
    obtain ⟨r, h1, h2⟩ := rowT_path hT h hp
    rw [h1, h, Nat.sub_self]
    exact ⟨by show some r.nodes = some p; rw [h2], fun r' e => by injection e with e; subst e; rw [h2]; exact h1⟩
  · rw [if_neg h]
    have ht := (next_tells hT hA _ ⟨p, false, false, 0⟩ ⟨hl, hp⟩ (Nat.le_refl _)).2.1
    have hr : Z3 T ⟨p, false, false, 0⟩ = extN T (T.vars.length - p.length) p ++ aftK T p p.length := rfl
    have hne := ext_ne hA (T.vars.length - p.length) p hp h0 (by omega) hT
    rw [hr] at ht
    cases hn : (Vm T ⟨p, false, false, 0⟩).2 with
    | none => rw [hn] at ht; exact absurd (List.append_eq_nil_iff.1 ht.1).1 hne
    | some r =>
      rw [hn] at ht
      have h1 : _ = r.nodes :: _ ∧ _ := ht
      refine ⟨?_, fun r' e => by injection e with e; subst e; exact h1.2⟩
      cases hx : extN T (T.vars.length - p.length) p with
      | nil => exact absurd hx hne
      | cons a tl =>
        rw [hx] at h1
        have h2 := h1.1
        rw [List.cons_append, List.cons.injEq] at h2
        show some r.nodes = some a
        rw [h2.1]
end
end Go.Proofs.YtmakkmcjocjgmaaGreat.Am
