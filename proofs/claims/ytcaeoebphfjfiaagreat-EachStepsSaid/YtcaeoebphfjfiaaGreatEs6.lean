/- Texts that the proof rests on, part 6: lemmas for every heap that is related to a world, no condition beyond each lemma's own. -/
import Derived.Test.YtcaeoebphfjfiaaGreatEs5
import Derived.Test.YtcaeoebphfjfiaaGreatEsOwnL
import Derived.Test.YtcaeoebphfjfiaaGreatEs4
import Derived.Test.YtcaeoebphfjfiaaGreatEs3
import Derived.Test.YtcaeoebphfjfiaaGreatEsGrow
import Derived.Test.YtcaeoebphfjfiaaGreatEs1
import Derived.Test.YtcaeoebphfjfiaaGreatEsRow

/- Variables that hang from nobody. -/
namespace Go.Proofs.YtcaeoebphfjfiaaGreat.Am
open Go Go.RowKit
set_option maxRecDepth 100000
set_option linter.unusedVariables false
set_option linter.unusedSimpArgs false

def apartL (ways : Int) (m : Nat) : List Link := (List.range m).map fun (k : Nat) => ⟨k, k, k, ways⟩
def apartF (k : Nat) : Forest := ⟨List.replicate k ⟨#[120]⟩, (List.range k).map fun (i : Nat) => (i : Int), List.replicate k (-1), List.replicate k [], List.replicate k []⟩
def apartP (ways : Int) (sizes : List Int) : Parts := ⟨sizes.map fun m => apartL ways m.toNat, sizes.map fun _ => []⟩
theorem apartL_next (ways : Int) (m : Nat) : apartL ways (m + 1) = apartL ways m ++ [⟨m, m, m, ways⟩] := by
  unfold apartL
  rw [List.range_succ, List.map_append]; rfl
theorem apartL_len (ways : Int) (m : Nat) : (apartL ways m).length = m := by unfold apartL; simp
structure ApartR (G : Hp) (ways : Int) (sizes : List Int) (i : Nat) (nds : List (List Value)) : Prop where
  len : nds.length = i
  at_ : ∀ (j : Nat) (h : j < nds.length) (h' : j < sizes.length), ∃ w, nds[j] = [w] ∧ Sl kLink G w (apartL ways sizes[j].toNat)
theorem ApartR.mono {G G' : Hp} (h : G.sees G') {ways : Int} {sizes : List Int} {i : Nat} {nds : List (List Value)} (hr : ApartR G ways sizes i nds) : ApartR G' ways sizes i nds :=
  ⟨hr.len, fun j a b => let ⟨w, h1, h2⟩ := hr.at_ j a b; ⟨w, h1, h2.mono h⟩⟩
theorem ApartR.snoc {G : Hp} {ways : Int} {sizes : List Int} {i : Nat} {nds : List (List Value)} (hr : ApartR G ways sizes i nds) (hi : i < sizes.length) {w : Value} (hs : Sl kLink G w (apartL ways sizes[i].toNat)) : ApartR G ways sizes (i + 1) (nds ++ [[w]]) := by
  have hl := hr.len
  refine ⟨by simp [hl], fun j a b => ?_⟩
  rw [List.length_append, List.length_singleton] at a
  by_cases h : j < nds.length
  · rw [List.getElem_append_left h]; exact hr.at_ j h b
  · obtain rfl : j = nds.length := by omega
    rw [List.getElem_append_right (Nat.le_refl _)]
    simp only [Nat.sub_self, List.getElem_cons_zero]
    subst hl
    exact ⟨w, rfl, hs⟩
theorem rep_next {α : Type} (n : Nat) (x : α) : List.replicate n x ++ [x] = List.replicate (n + 1) x := by rw [List.replicate_succ']
def eStr (v : Value) (i : Nat) : Ent := ⟨1, by decide, v, List.replicate i [.string ⟨#[120]⟩]⟩
def eInt (v : Value) (i : Nat) : Ent := ⟨1, by decide, v, (List.range i).map fun (k : Nat) => [.int .i64 k]⟩
def eNeg (v : Value) (i : Nat) : Ent := ⟨1, by decide, v, List.replicate i [.int .i64 (-1)]⟩
def V8 (v : Value) (i : Nat) : Ent := ⟨1, by decide, v, List.replicate i [.slice none 0 0]⟩
def eNds (v : Value) (nds : List (List Value)) : Ent := ⟨1, by decide, v, nds⟩
theorem range_cells (i : Nat) : ((List.range i).map fun (k : Nat) => [Value.int .i64 k]) ++ [[.int .i64 i]] = (List.range (i + 1)).map fun (k : Nat) => [Value.int .i64 k] := by rw [List.range_succ, List.map_append]; rfl
theorem eStr_next (v w : Value) (i : Nat) : (⟨(eStr v i).sz, (eStr v i).pos, w, (eStr v i).raws ++ [[.string ⟨#[120]⟩]]⟩ : Ent) = eStr w (i + 1) := by unfold eStr; simp only [rep_next]
theorem eInt_next (v w : Value) (i : Nat) : (⟨(eInt v i).sz, (eInt v i).pos, w, (eInt v i).raws ++ [[.int .i64 i]]⟩ : Ent) = eInt w (i + 1) := by unfold eInt; simp only [range_cells]
theorem eNeg_next (v w : Value) (i : Nat) : (⟨(eNeg v i).sz, (eNeg v i).pos, w, (eNeg v i).raws ++ [[.int .i64 (-1)]]⟩ : Ent) = eNeg w (i + 1) := by unfold eNeg; simp only [rep_next]
theorem eNil_next (v w : Value) (i : Nat) : (⟨(V8 v i).sz, (V8 v i).pos, w, (V8 v i).raws ++ [[.slice none 0 0]]⟩ : Ent) = V8 w (i + 1) := by unfold V8; simp only [rep_next]
theorem eNds_next (v w : Value) (nds : List (List Value)) (x : List Value) : (⟨(eNds v nds).sz, (eNds v nds).pos, w, (eNds v nds).raws ++ [x]⟩ : Ent) = eNds w (nds ++ [x]) := rfl
def BxP (H G : Hp) (b2 b3 : List Value) : Prop := H.le G ∧ H.size + 4 ≤ G.size ∧ G.get H.size = .own 0 [.slice none 0 0, .slice none 0 0, .slice none 0 0, .slice none 0 0, .slice none 0 0] ∧ G.get (H.size + 1) = .own 0 [.slice none 0 0, .slice none 0 0] ∧ G.get (H.size + 2) = .own 0 b2 ∧ G.get (H.size + 3) = .own 0 b3
theorem BxP.le {H G G' : Hp} {b2 b3 : List Value} (h : BxP H G b2 b3) (hle : G.le G') : BxP H G' b2 b3 :=
  ⟨Hp.le_trans h.1 hle, Nat.le_trans h.2.1 hle.1, Xt hle (by have := h.2.1; omega) (by intro e; cases e) h.2.2.1, Xt hle (by have := h.2.1; omega) (by intro e; cases e) h.2.2.2.1, Xt hle (by have := h.2.1; omega) (by intro e; cases e) h.2.2.2.2.1, Xt hle (by have := h.2.1; omega) (by intro e; cases e) h.2.2.2.2.2⟩
theorem BxP.put2 {H G : Hp} {b2 b3 : List Value} (h : BxP H G b2 b3) (b2' : List Value) : BxP H (G.put (H.size + 2) (.own 0 b2')) b2' b3 :=
  ⟨Hp.le_put_new h.1 (by omega) _, h.2.1, by rw [Hp.put_other _ _ (by omega)]; exact h.2.2.1, by rw [Hp.put_other _ _ (by omega)]; exact h.2.2.2.1, Hp.put_same _ _ _, by rw [Hp.put_other _ _ (by omega)]; exact h.2.2.2.2.2⟩
theorem BxP.put3 {H G : Hp} {b2 b3 : List Value} (h : BxP H G b2 b3) (b3' : List Value) : BxP H (G.put (H.size + 3) (.own 0 b3')) b2 b3' :=
  ⟨Hp.le_put_new h.1 (by omega) _, h.2.1, by rw [Hp.put_other _ _ (by omega)]; exact h.2.2.1, by rw [Hp.put_other _ _ (by omega)]; exact h.2.2.2.1, by rw [Hp.put_other _ _ (by omega)]; exact h.2.2.2.2.1, Hp.put_same _ _ _⟩
theorem Zr {H : Hp} {h : 1 ≠ 0} {v : Value} {raws : List (List Value)} {i : Nat} (hs : Sl (kCel 1 h) H v raws) (hl : raws.length = i) : ∃ A c, v = .slice A i c := by
  obtain ⟨A, c, e⟩ := hs.shape
  exact ⟨A, c, by rw [e, hl]⟩
set_option maxHeartbeats 4000000 in
theorem Apart_ok (ways : Int) (sizes : List Int) (u : Value) (H : Hp) (hs : Sl (Y3 .i64) H u sizes) (hl : sizes.length ≤ 1000) (hm : ∀ m ∈ sizes, m ≤ 100000) :
    ACalls Tryz.prog 45 #[.int .u64 ways, u] H (fun r H' => ∃ cs ds, r = .tuple #[.agg cs.toArray, .agg ds.toArray] ∧ kForest.rep H' (apartF sizes.length) cs ∧ kParts.rep H' (apartP ways sizes) ds ∧ H.le H') := by
  obtain ⟨Au, cu, rfl⟩ := hs.shape
  refine Xw Tryz.func45 rfl rfl rfl (by simp) ?_
  refine Xf ?_
  refine Xb (by kernel_rfl) ?_
  refine X4 (Y4 (l := [.slice none 0 0, .slice none 0 0, .slice none 0 0, .slice none 0 0, .slice none 0 0]) inf26.zero rfl (by decide)) ?_
  refine X4 (Y4 (l := [.slice none 0 0, .slice none 0 0]) inf29.zero rfl (by decide)) ?_
  refine Xf ?_
  refine Xb (by kernel_rfl) ?_
  refine Xa (Y7 (pl := [(0, 1), (1, 1), (2, 1), (3, 1), (4, 1)]) (r := [.slice _ _ _, .slice _ _ _, .slice _ _ _, .slice _ _ _, .slice _ _ _]) Tryz.underlying26 inf26.zero (by decide) rfl rfl) ?_
  refine Xa (Y7 (pl := [(0, 1), (1, 1)]) (r := [.slice _ _ _, .slice _ _ _]) Tryz.underlying29 inf29.zero (by decide) rfl rfl) ?_
  refine X4 (Y4 (l := [.slice none 0 0, .slice none 0 0, .slice none 0 0, .slice none 0 0, .slice none 0 0]) inf26.zero rfl (by decide)) ?_
  refine X4 (Y4 (l := [.slice none 0 0, .slice none 0 0]) inf29.zero rfl (by decide)) ?_
  refine X3 (Yl (vs := [.slice _ _ _, .slice _ _ _, .slice _ _ _, .slice _ _ _, .slice _ _ _]) rfl rfl inf26.size Yg Yi rfl rfl ?_)
  refine X3 (Yl (vs := [.slice _ _ _, .slice _ _ _]) rfl rfl inf29.size Yg Yi rfl rfl ?_)
  refine Xf ?_
  refine Xf ?_
  refine Xb (by kernel_rfl) ?_
  refine Xa (Xn rfl) ?_
  refine Yc ?_
  refine Y2 (fun n t H' => ∃ (i : Nat) (G : Hp) (v0 v1 v2 v3 v4 v5 v6 : Value) (nds : List (List Value)), i ≤ sizes.length ∧ n = sizes.length - i ∧ BxP H G [v0, v1, v2, v3, v4] [v5, v6] ∧ OwnL G [eStr v0 i, eInt v1 i, eNeg v2 i, V8 v3 i, V8 v4 i, eNds v5 nds, V8 v6 i] H' ∧ ApartR G ways sizes i nds ∧ t 0 = .int .u64 ways ∧ t 1 = .slice Au sizes.length cu ∧ t 4 = .pointer (some ⟨H.size, 0, none⟩) ∧ t 5 = .pointer (some ⟨H.size + 1, 0, none⟩) ∧ t 6 = .pointer (some ⟨H.size + 2, 0, none⟩) ∧ t 7 = .pointer (some ⟨H.size + 3, 0, none⟩) ∧ t 8 = .int .i64 i) (sizes.length) (⟨0, _, .slice none 0 0, .slice none 0 0, .slice none 0 0, .slice none 0 0, .slice none 0 0, .slice none 0 0, .slice none 0 0, [], by omega, rfl, ⟨t_le, by simp, Yg, Yg, Yg, Yg⟩, ⟨_, OwnP.nil _ _, _, OwnP.nil _ _, _, OwnP.nil _ _, _, OwnP.nil _ _, _, OwnP.nil _ _, _, OwnP.nil _ _, _, OwnP.nil _ _, rfl⟩, ⟨rfl, fun j h _ => absurd h (Nat.not_lt_zero _)⟩, rfl, rfl, rfl, rfl, rfl, rfl, rfl⟩) ?_
  rintro n t H1 ⟨i, G, v0, v1, v2, v3, v4, v5, v6, nds, hi, rfl, hb, hown, hr, e0, e1, e4, e5, e6, e7, e8⟩
  obtain ⟨A0, k0, rfl⟩ := Zr (hown.sl (eStr v0 i) (by simp)) (List.length_replicate)
  obtain ⟨A1, k1, rfl⟩ := Zr (hown.sl (eInt v1 i) (by simp)) (show ((List.range i).map fun (k : Nat) => [Value.int .i64 k]).length = i by simp)
  obtain ⟨A2, k2, rfl⟩ := Zr (hown.sl (eNeg v2 i) (by simp)) (List.length_replicate)
  obtain ⟨A3, k3, rfl⟩ := Zr (hown.sl (V8 v3 i) (by simp)) (List.length_replicate)
  obtain ⟨A4, k4, rfl⟩ := Zr (hown.sl (V8 v4 i) (by simp)) (List.length_replicate)
  obtain ⟨A5, k5, rfl⟩ := Zr (hown.sl (eNds v5 nds) (by simp)) hr.len
  obtain ⟨A6, k6, rfl⟩ := Zr (hown.sl (V8 v6 i) (by simp)) (List.length_replicate)
  have bH := hb.le hown.le
  obtain ⟨leH1, zH1, q0, q1, q2, q3⟩ := id bH
  have zz := hown.size
  refine Xf ?_
  refine Xf ?_
  refine Xb (by kernel_rfl) ?_
  refine Xa (Xc Xl) ?_
  refine Xa (Xy Xl) ?_
  refine Xa (Ym rfl Tryz.underlying23) ?_
  refine Xa (Y0 rfl rfl) ?_
  refine X6 rfl rfl ?_ ?_
  intro hc1
  (try simp only [decide_eq_true_eq, decide_eq_false_iff_not, Bool.not_eq_true', Bool.not_eq_false'] at hc1)
  refine X8 ?_
  refine Xf ?_
  refine Yc ?_
  refine Xf ?_
  have hix : i < sizes.length := by omega
  have zz5 := hown.size
  have hL := (((hown.push (.own 1 [.string ⟨#[120]⟩])).push (.own 1 [.int .i64 i])).push (.own 1 [.int .i64 (-1)]))
  have leP : G.le (((G.push (.own 1 [.string ⟨#[120]⟩])).push (.own 1 [.int .i64 i])).push (.own 1 [.int .i64 (-1)])) := Hp.le_trans (Hp.le_trans (Hp.le_push (G) (.own 1 [.string ⟨#[120]⟩])) (Hp.le_push ((G.push (.own 1 [.string ⟨#[120]⟩]))) (.own 1 [.int .i64 i]))) (Hp.le_push (((G.push (.own 1 [.string ⟨#[120]⟩])).push (.own 1 [.int .i64 i]))) (.own 1 [.int .i64 (-1)]))
  have bL := hb.le leP
  have rL := hr.mono leP.sees
  have l0 : (((G.push (.own 1 [.string ⟨#[120]⟩])).push (.own 1 [.int .i64 i])).push (.own 1 [.int .i64 (-1)])).get (H1.size) = .own 1 [.string ⟨#[120]⟩] := by rw [zz5]; exact Yg
  have l1 : (((G.push (.own 1 [.string ⟨#[120]⟩])).push (.own 1 [.int .i64 i])).push (.own 1 [.int .i64 (-1)])).get (H1.size + 1) = .own 1 [.int .i64 i] := by rw [zz5]; exact Yg
  have l2 : (((G.push (.own 1 [.string ⟨#[120]⟩])).push (.own 1 [.int .i64 i])).push (.own 1 [.int .i64 (-1)])).get (H1.size + 2) = .own 1 [.int .i64 (-1)] := by rw [zz5]; exact Yg
  have zL : H1.size + 3 ≤ (((G.push (.own 1 [.string ⟨#[120]⟩])).push (.own 1 [.int .i64 i])).push (.own 1 [.int .i64 (-1)])).size := by simp; omega
  obtain ⟨GP, hGP⟩ : ∃ GP, GP = (((G.push (.own 1 [.string ⟨#[120]⟩])).push (.own 1 [.int .i64 i])).push (.own 1 [.int .i64 (-1)])) := ⟨_, rfl⟩
  rw [← hGP] at hL bL rL zL l0 l1 l2
  clear hGP leP
  refine Yr (by kernel_rfl) (Yy (B := [0, 1, 0, 7, 0, 16, 0, 64, 255, 0, 512, 0, 4095, 1599, 16383, 32767, 65535, 131071, 262143]) (π := [0, 1, 2, 4, 5, 6, 7, 9, 10, 11, 3, 13, 8, 12, 14, 15, 16, 17, 18]) (by kernel_rfl)) ?_
  refine Xd rfl rfl (Xg (off := 0) Xl Tryz.underlying26 Xl inf22.size (by decide) Xl) Xp ?_
  refine Xd rfl rfl (Xk rfl Tryz.underlying22 rfl Xr) Xp ?_
  first | refine Y5 rfl rfl (Ye (r := [.string _]) Tryz.underlying22 inf9.size inf9.zero rfl (by decide) (by decide) (by decide) rfl) ?_
  refine Xd rfl rfl (Xg (off := 1) Xl Tryz.underlying26 Xl inf23.size (by decide) Xl) Xp ?_
  refine Xd rfl rfl (Xk rfl Tryz.underlying23 rfl Xr) Xp ?_
  refine Xd rfl rfl (Xc Xl) Xp ?_
  first | refine Y5 rfl rfl (Ye (r := [.int .i64 _]) Tryz.underlying23 inf3.size inf3.zero rfl (by decide) (by decide) (by decide) rfl) ?_
  refine Xd rfl rfl (Xg (off := 2) Xl Tryz.underlying26 Xl inf23.size (by decide) Xl) Xp ?_
  refine Xd rfl rfl (Xk rfl Tryz.underlying23 rfl Xr) Xp ?_
  first | refine Y5 rfl rfl (Ye (r := [.int .i64 _]) Tryz.underlying23 inf3.size inf3.zero rfl (by decide) (by decide) (by decide) rfl) ?_
  obtain ⟨Ga0, leGa0, ha0, back0⟩ := hL.rot.last
  have zGa := leGa0.1
  obtain ⟨_, zA, qa, qb, qc, qd⟩ := bL.le leGa0
  have m0 := Xt leGa0 (by omega) (by intro e; cases e) l0
  have m1 := Xt leGa0 (by omega) (by intro e; cases e) l1
  have m2 := Xt leGa0 (by omega) (by intro e; cases e) l2
  refine Yh rfl rfl (Ent.append ha0 Tryz.underlying22 inf9 Xl Xl rfl (lb := H1.size) (by omega) m0 rfl (by intro v hv; simp at hv; subst hv; rfl) (by simp only [eStr, List.length_replicate]; omega) (by decide) ?_)
  rintro w0 Gb0 Hb0 leb0 hb0
  have hsameO := Ent.sameO ha0 leb0 hb0
  obtain ⟨Gc0, lec0, hc0⟩ := back0 Gb0 Hb0 _ leb0 hb0
  rw [eStr_next] at hc0 hb0
  obtain ⟨W0, cw0, rfl⟩ : ∃ A c, w0 = Value.slice A (i + 1) c := Zr (i := i + 1) (OwnP.sl hb0) (by simp [eStr])
  have bb0 := (bL.le lec0).le hc0.le
  obtain ⟨_, zb, qa0, qb0, qc0, qd0⟩ := id bb0
  have l1b := Xt hc0.le (by have := lec0.1; omega) (by intro e; cases e) (Xt lec0 (by omega) (by intro e; cases e) l1)
  have l2b := Xt hc0.le (by have := lec0.1; omega) (by intro e; cases e) (Xt lec0 (by omega) (by intro e; cases e) l2)
  refine ⟨Yf, ?_⟩
  clear hsameO qa qb qc qd m0 m1 m2
  clear l1b
  have l1 := Xt lec0 (by omega) (by intro e; cases e) l1
  clear l2b
  have l2 := Xt lec0 (by omega) (by intro e; cases e) l2
  replace bL := bL.le lec0
  replace rL := rL.mono lec0.sees
  replace zL := Nat.le_trans zL lec0.1
  clear hL
  have hL := hc0
  have zH0 := hL.size
  refine Xd rfl rfl (Xg (off := 0) Xl Tryz.underlying26 Xl inf22.size (by decide) Xl) Xp ?_
  obtain ⟨Ga1, leGa1, ha1, back1⟩ := hL.rot.last
  have zGa := leGa1.1
  obtain ⟨_, zA, qa, qb, qc, qd⟩ := bL.le leGa1
  have m0 := Xt leGa1 (by omega) (by intro e; cases e) l1
  have m1 := Xt leGa1 (by omega) (by intro e; cases e) l2
  refine Yh rfl rfl (Ent.append ha1 Tryz.underlying23 inf3 Xl Xl rfl (lb := H1.size + 1) (by omega) m0 rfl (by intro v hv; simp at hv; subst hv; rfl) (by simp only [eInt, List.length_map, List.length_range]; omega) (by decide) ?_)
  rintro w1 Gb1 Hb1 leb1 hb1
  have hsameO := Ent.sameO ha1 leb1 hb1
  obtain ⟨Gc1, lec1, hc1⟩ := back1 Gb1 Hb1 _ leb1 hb1
  rw [eInt_next] at hc1 hb1
  obtain ⟨W1, cw1, rfl⟩ : ∃ A c, w1 = Value.slice A (i + 1) c := Zr (i := i + 1) (OwnP.sl hb1) (by simp [eInt])
  have bb1 := (bL.le lec1).le hc1.le
  obtain ⟨_, zb, qa1, qb1, qc1, qd1⟩ := id bb1
  have l2b := Xt hc1.le (by have := lec1.1; omega) (by intro e; cases e) (Xt lec1 (by omega) (by intro e; cases e) l2)
  refine ⟨Yf, ?_⟩
  clear hsameO qa qb qc qd m0 m1
  clear l2b
  have l2 := Xt lec1 (by omega) (by intro e; cases e) l2
  replace bL := bL.le lec1
  replace rL := rL.mono lec1.sees
  replace zL := Nat.le_trans zL lec1.1
  clear hL
  have hL := hc1
  have zH1 := hL.size
  obtain ⟨Ga2, leGa2, ha2, back2⟩ := hL.rot.last
  have zGa := leGa2.1
  obtain ⟨_, zA, qa, qb, qc, qd⟩ := bL.le leGa2
  have m0 := Xt leGa2 (by omega) (by intro e; cases e) l2
  refine Yh rfl rfl (Ent.append ha2 Tryz.underlying23 inf3 Xl Xl rfl (lb := H1.size + 2) (by omega) m0 rfl (by intro v hv; simp at hv; subst hv; rfl) (by simp only [eNeg, List.length_replicate]; omega) (by decide) ?_)
  rintro w2 Gb2 Hb2 leb2 hb2
  have hsameO := Ent.sameO ha2 leb2 hb2
  obtain ⟨Gc2, lec2, hc2⟩ := back2 Gb2 Hb2 _ leb2 hb2
  rw [eNeg_next] at hc2 hb2
  obtain ⟨W2, cw2, rfl⟩ : ∃ A c, w2 = Value.slice A (i + 1) c := Zr (i := i + 1) (OwnP.sl hb2) (by simp [eNeg])
  have bb2 := (bL.le lec2).le hc2.le
  obtain ⟨_, zb, qa2, qb2, qc2, qd2⟩ := id bb2
  refine ⟨Yf, ?_⟩
  clear hsameO qa qb qc qd m0
  replace bL := bL.le lec2
  replace rL := rL.mono lec2.sees
  replace zL := Nat.le_trans zL lec2.1
  clear hL
  have hL := hc2
  have zH2 := hL.size
  first | refine Yh rfl rfl (Yx rfl rfl rfl inf22.size Yg Yi rfl ?_)
  refine ⟨Yf, ?_⟩
  refine Xd rfl rfl (Xg (off := 1) Xl Tryz.underlying26 Xl inf23.size (by decide) Xl) Xp ?_
  first | refine Yh rfl rfl (Yx rfl rfl rfl inf23.size Yg Yi rfl ?_)
  refine ⟨Yf, ?_⟩
  refine Xd rfl rfl (Xg (off := 2) Xl Tryz.underlying26 Xl inf23.size (by decide) Xl) Xp ?_
  first | refine Yh rfl rfl (Yx rfl rfl rfl inf23.size Yg Yi rfl ?_)
  refine ⟨Yf, ?_⟩
  refine Xf ?_
  obtain ⟨H6, hH6⟩ : ∃ H6, H6 = Hb2.put (H.size + 2) (.own 0 [.slice W0 (i + 1) cw0, .slice W1 (i + 1) cw1, .slice W2 (i + 1) cw2, .slice A3 i k3, .slice A4 i k4]) := ⟨_, rfl⟩
  obtain ⟨G6, hG6⟩ : ∃ G6, G6 = Gc2.put (H.size + 2) (.own 0 [.slice W0 (i + 1) cw0, .slice W1 (i + 1) cw1, .slice W2 (i + 1) cw2, .slice A3 i k3, .slice A4 i k4]) := ⟨_, rfl⟩
  have ownG6 := hL.put_box (by have := bL.2.1; omega) bL.2.2.2.2.1 [.slice W0 (i + 1) cw0, .slice W1 (i + 1) cw1, .slice W2 (i + 1) cw2, .slice A3 i k3, .slice A4 i k4]
  have bG6 := bL.put2 [.slice W0 (i + 1) cw0, .slice W1 (i + 1) cw1, .slice W2 (i + 1) cw2, .slice A3 i k3, .slice A4 i k4]
  have rG6 := rL.mono (Hp.sees_box (cs' := [.slice W0 (i + 1) cw0, .slice W1 (i + 1) cw1, .slice W2 (i + 1) cw2, .slice A3 i k3, .slice A4 i k4]) _ bL.2.2.2.2.1)
  rw [← hG6] at ownG6 bG6 rG6
  rw [← hH6] at ownG6
  change ACode true _ _ _ _ _ (((Hb2.put (H.size + 2) (.own 0 [.slice W0 (i + 1) cw0, .slice A1 i k1, .slice A2 i k2, .slice A3 i k3, .slice A4 i k4])).put (H.size + 2) (.own 0 [.slice W0 (i + 1) cw0, .slice W1 (i + 1) cw1, .slice A2 i k2, .slice A3 i k3, .slice A4 i k4])).put (H.size + 2) (.own 0 [.slice W0 (i + 1) cw0, .slice W1 (i + 1) cw1, .slice W2 (i + 1) cw2, .slice A3 i k3, .slice A4 i k4]))
  rw [Hp.put_put]
  rw [Hp.put_put]
  rw [← hH6]
  clear hH6 hG6 hL bL rL zL
  have bbH6 := bG6.le ownG6.le
  obtain ⟨_, zzH6, s0H6, s1H6, s2H6, s3H6⟩ := id bbH6
  have zz6 := ownG6.size
  have hL := ((ownG6.push (.own 1 [.slice none 0 0])).push (.own 1 [.slice none 0 0]))
  have leP : G6.le ((G6.push (.own 1 [.slice none 0 0])).push (.own 1 [.slice none 0 0])) := Hp.le_trans (Hp.le_push (G6) (.own 1 [.slice none 0 0])) (Hp.le_push ((G6.push (.own 1 [.slice none 0 0]))) (.own 1 [.slice none 0 0]))
  have bL := bG6.le leP
  have rL := rG6.mono leP.sees
  have l0 : ((G6.push (.own 1 [.slice none 0 0])).push (.own 1 [.slice none 0 0])).get (H6.size) = .own 1 [.slice none 0 0] := by rw [zz6]; exact Yg
  have l1 : ((G6.push (.own 1 [.slice none 0 0])).push (.own 1 [.slice none 0 0])).get (H6.size + 1) = .own 1 [.slice none 0 0] := by rw [zz6]; exact Yg
  have zL : H6.size + 2 ≤ ((G6.push (.own 1 [.slice none 0 0])).push (.own 1 [.slice none 0 0])).size := by simp; omega
  obtain ⟨GP, hGP⟩ : ∃ GP, GP = ((G6.push (.own 1 [.slice none 0 0])).push (.own 1 [.slice none 0 0])) := ⟨_, rfl⟩
  rw [← hGP] at hL bL rL zL l0 l1
  clear hGP leP
  refine Yr (by kernel_rfl) (Yy (B := [0, 1, 0, 7, 0, 16, 0, 127, 63, 511, 1023, 2047]) (π := [0, 1, 2, 4, 5, 6, 3, 8, 7, 9, 10, 11]) (by kernel_rfl)) ?_
  refine Xd rfl rfl (Xg (off := 3) Xl Tryz.underlying26 Xl inf24.size (by decide) Xl) Xp ?_
  refine Xd rfl rfl (Xk rfl Tryz.underlying24 rfl Xr) Xp ?_
  refine Y5 rfl rfl (Ye (r := [.slice _ _ _]) Tryz.underlying24 inf23.size inf23.zero rfl (by decide) (by decide) (by decide) rfl) ?_
  refine Xd rfl rfl (Xg (off := 4) Xl Tryz.underlying26 Xl inf24.size (by decide) Xl) Xp ?_
  refine Xd rfl rfl (Xk rfl Tryz.underlying24 rfl Xr) Xp ?_
  refine Y5 rfl rfl (Ye (r := [.slice _ _ _]) Tryz.underlying24 inf23.size inf23.zero rfl (by decide) (by decide) (by decide) rfl) ?_
  obtain ⟨Ga3, leGa3, ha3, back3⟩ := hL.rot.last
  have zGa := leGa3.1
  obtain ⟨_, zA, qa, qb, qc, qd⟩ := bL.le leGa3
  have m0 := Xt leGa3 (by omega) (by intro e; cases e) l0
  have m1 := Xt leGa3 (by omega) (by intro e; cases e) l1
  refine Yh rfl rfl (Ent.append ha3 Tryz.underlying24 inf23 Xl Xl rfl (lb := H6.size) (by omega) m0 rfl (by intro v hv; simp at hv; subst hv; rfl) (by simp only [V8, List.length_replicate]; omega) (by decide) ?_)
  rintro w3 Gb3 Hb3 leb3 hb3
  have hsameO := Ent.sameO ha3 leb3 hb3
  obtain ⟨Gc3, lec3, hc3⟩ := back3 Gb3 Hb3 _ leb3 hb3
  rw [eNil_next] at hc3 hb3
  obtain ⟨W3, cw3, rfl⟩ : ∃ A c, w3 = Value.slice A (i + 1) c := Zr (i := i + 1) (OwnP.sl hb3) (by simp [V8])
  have bb3 := (bL.le lec3).le hc3.le
  obtain ⟨_, zb, qa3, qb3, qc3, qd3⟩ := id bb3
  have l1b := Xt hc3.le (by have := lec3.1; omega) (by intro e; cases e) (Xt lec3 (by omega) (by intro e; cases e) l1)
  refine ⟨Yf, ?_⟩
  clear hsameO qa qb qc qd m0 m1
  clear l1b
  have l1 := Xt lec3 (by omega) (by intro e; cases e) l1
  replace bL := bL.le lec3
  replace rL := rL.mono lec3.sees
  replace zL := Nat.le_trans zL lec3.1
  clear hL
  have hL := hc3
  have zH3 := hL.size
  refine Xd rfl rfl (Xg (off := 3) Xl Tryz.underlying26 Xl inf24.size (by decide) Xl) Xp ?_
  obtain ⟨Ga4, leGa4, ha4, back4⟩ := hL.rot.last
  have zGa := leGa4.1
  obtain ⟨_, zA, qa, qb, qc, qd⟩ := bL.le leGa4
  have m0 := Xt leGa4 (by omega) (by intro e; cases e) l1
  refine Yh rfl rfl (Ent.append ha4 Tryz.underlying24 inf23 Xl Xl rfl (lb := H6.size + 1) (by omega) m0 rfl (by intro v hv; simp at hv; subst hv; rfl) (by simp only [V8, List.length_replicate]; omega) (by decide) ?_)
  rintro w4 Gb4 Hb4 leb4 hb4
  have hsameO := Ent.sameO ha4 leb4 hb4
  obtain ⟨Gc4, lec4, hc4⟩ := back4 Gb4 Hb4 _ leb4 hb4
  rw [eNil_next] at hc4 hb4
  obtain ⟨W4, cw4, rfl⟩ : ∃ A c, w4 = Value.slice A (i + 1) c := Zr (i := i + 1) (OwnP.sl hb4) (by simp [V8])
  have bb4 := (bL.le lec4).le hc4.le
  obtain ⟨_, zb, qa4, qb4, qc4, qd4⟩ := id bb4
  refine ⟨Yf, ?_⟩
  clear hsameO qa qb qc qd m0
  replace bL := bL.le lec4
  replace rL := rL.mono lec4.sees
  replace zL := Nat.le_trans zL lec4.1
  clear hL
  have hL := hc4
  have zH4 := hL.size
  first | refine Yh rfl rfl (Yx rfl rfl rfl inf24.size Yg Yi rfl ?_)
  refine ⟨Yf, ?_⟩
  refine Xd rfl rfl (Xg (off := 4) Xl Tryz.underlying26 Xl inf24.size (by decide) Xl) Xp ?_
  first | refine Yh rfl rfl (Yx rfl rfl rfl inf24.size Yg Yi rfl ?_)
  refine ⟨Yf, ?_⟩
  refine Xf ?_
  obtain ⟨H7, hH7⟩ : ∃ H7, H7 = Hb4.put (H.size + 2) (.own 0 [.slice W0 (i + 1) cw0, .slice W1 (i + 1) cw1, .slice W2 (i + 1) cw2, .slice W3 (i + 1) cw3, .slice W4 (i + 1) cw4]) := ⟨_, rfl⟩
  obtain ⟨G7, hG7⟩ : ∃ G7, G7 = Gc4.put (H.size + 2) (.own 0 [.slice W0 (i + 1) cw0, .slice W1 (i + 1) cw1, .slice W2 (i + 1) cw2, .slice W3 (i + 1) cw3, .slice W4 (i + 1) cw4]) := ⟨_, rfl⟩
  have ownG7 := hL.put_box (by have := bL.2.1; omega) bL.2.2.2.2.1 [.slice W0 (i + 1) cw0, .slice W1 (i + 1) cw1, .slice W2 (i + 1) cw2, .slice W3 (i + 1) cw3, .slice W4 (i + 1) cw4]
  have bG7 := bL.put2 [.slice W0 (i + 1) cw0, .slice W1 (i + 1) cw1, .slice W2 (i + 1) cw2, .slice W3 (i + 1) cw3, .slice W4 (i + 1) cw4]
  have rG7 := rL.mono (Hp.sees_box (cs' := [.slice W0 (i + 1) cw0, .slice W1 (i + 1) cw1, .slice W2 (i + 1) cw2, .slice W3 (i + 1) cw3, .slice W4 (i + 1) cw4]) _ bL.2.2.2.2.1)
  rw [← hG7] at ownG7 bG7 rG7
  rw [← hH7] at ownG7
  change ACode true _ _ _ _ _ ((Hb4.put (H.size + 2) (.own 0 [.slice W0 (i + 1) cw0, .slice W1 (i + 1) cw1, .slice W2 (i + 1) cw2, .slice W3 (i + 1) cw3, .slice A4 i k4])).put (H.size + 2) (.own 0 [.slice W0 (i + 1) cw0, .slice W1 (i + 1) cw1, .slice W2 (i + 1) cw2, .slice W3 (i + 1) cw3, .slice W4 (i + 1) cw4]))
  rw [Hp.put_put]
  rw [← hH7]
  clear hH7 hG7 hL bL rL zL
  have bbH7 := bG7.le ownG7.le
  obtain ⟨_, zzH7, s0H7, s1H7, s2H7, s3H7⟩ := id bbH7
  have lit7 := OwnP.lit kLink H7 (cs := [])
  have own7 := ownG7.push .dead
  have b7 := bG7.le (G7.le_push .dead)
  have r7 := rG7.mono (G7.le_push .dead).sees
  obtain ⟨bs, os, es, hbs, hcs⟩ := (hs.mono leH1.sees).int_at (i := (i : Int)) (by omega) (by omega)
  subst es
  rw [Int.toNat_natCast, Zd hix] at hcs
  have hmi := hm _ (List.getElem_mem hix)
  have hcs0 : H.cell? bs (os + i * 1) = some (.int .i64 sizes[i]) := by
    obtain ⟨b9, o9, e9, hb9, hc9⟩ := hs.int_at (i := (i : Int)) (by omega) (by omega)
    simp only [Option.some.injEq, Addr.mk.injEq, and_true] at e9
    obtain ⟨rfl, rfl⟩ := e9
    rwa [Int.toNat_natCast, Zd hix] at hc9
  have hbs0 : bs < H.size := by
    obtain ⟨b9, o9, e9, hb9, hc9⟩ := hs.int_at (i := (i : Int)) (by omega) (by omega)
    simp only [Option.some.injEq, Addr.mk.injEq, and_true] at e9
    obtain ⟨rfl, rfl⟩ := e9
    exact hb9
  have hlen7 : nds.length = i := hr.len
  refine Xb (by kernel_rfl) ?_
  first | refine X4 (Ye (r := []) Tryz.underlying68 inf78.size inf78.zero rfl (by decide) (by decide) (by decide) rfl) ?_
  refine Xa (X7 rfl) ?_
  refine Xf ?_
  refine Xf ?_
  refine Xb (by kernel_rfl) ?_
  refine Xa (Xn rfl) ?_
  refine Yc ?_
  refine Y2 (fun n t H' => ∃ (k : Nat) (Gx Gm : Hp) (C : Option Addr) (c9 : Nat), k ≤ sizes[i].toNat ∧ n = sizes[i].toNat - k ∧ BxP H Gx [.slice W0 (i + 1) cw0, .slice W1 (i + 1) cw1, .slice W2 (i + 1) cw2, .slice W3 (i + 1) cw3, .slice W4 (i + 1) cw4] [.slice A5 i k5, .slice A6 i k6] ∧ OwnL Gx [eNds (.slice A5 i k5) nds, V8 (.slice A6 i k6) i, eStr (.slice W0 (i + 1) cw0) (i + 1), eInt (.slice W1 (i + 1) cw1) (i + 1), eNeg (.slice W2 (i + 1) cw2) (i + 1), V8 (.slice W3 (i + 1) cw3) (i + 1), V8 (.slice W4 (i + 1) cw4) (i + 1)] Gm ∧ ApartR Gx ways sizes i nds ∧ OwnP kLink Gm H' (.slice C k c9) (apartL ways k) ∧ t 0 = .int .u64 ways ∧ t 1 = .slice (some ⟨bs, os, none⟩) sizes.length cu ∧ t 4 = .pointer (some ⟨H.size, 0, none⟩) ∧ t 5 = .pointer (some ⟨H.size + 1, 0, none⟩) ∧ t 6 = .pointer (some ⟨H.size + 2, 0, none⟩) ∧ t 7 = .pointer (some ⟨H.size + 3, 0, none⟩) ∧ t 8 = .int .i64 i ∧ t 9 = .slice C k c9 ∧ t 10 = .int .i64 k) (sizes[i].toNat) (⟨0, _, _, _, _, by omega, rfl, b7, own7, r7, lit7, e0, e1, e4, e5, e6, e7, e8, rfl, rfl⟩) ?_
  rintro n t H8 ⟨k, Gx, Gm, C, c9, hk, rfl, bx, ownx, rx, ownl, e0, e1, e4, e5, e6, e7, e8, e9, e10⟩
  have leH8 := (bx.le (Hp.le_trans ownx.le ownl.le)).1
  have hcs8 := leH8.cell1 hbs0 hcs0
  have hll := apartL_len ways k
  have zl := ownl.size
  refine Xf ?_
  refine Xf ?_
  refine Xb (by kernel_rfl) ?_
  refine Xa (Xc Xl) ?_
  refine Xa (Xy Xl) ?_
  refine Xa (Xc Xl) ?_
  refine Xa (Xs rfl rfl Tryz.underlying23 inf3.size X1 X1) ?_
  refine Xa (Xk rfl Tryz.underlying3 rfl Xr) ?_
  refine Xa (Y0 rfl rfl) ?_
  refine X6 rfl rfl ?_ ?_
  intro hc2
  (try simp only [decide_eq_true_eq, decide_eq_false_iff_not, Bool.not_eq_true', Bool.not_eq_false'] at hc2)
  refine X8 ?_
  refine Xf ?_
  refine Yc ?_
  refine Xb (by kernel_rfl) ?_
  refine Xa (Xy Xl) ?_
  refine Xa (Xc Xl) ?_
  refine Xa (Xc Xl) ?_
  refine Xa (Xc Xl) ?_
  refine Xa (Xc Xl) ?_
  refine Xa (Y7 (pl := [(0, 1), (1, 1), (2, 1), (3, 1)]) (r := [.int .i64 _, .int .i64 _, .int .i64 _, .int .u64 _]) Tryz.underlying78 inf78.zero (by decide) rfl rfl) ?_
  first | refine X4 (Ye (r := [.int .i64 _, .int .i64 _, .int .i64 _, .int .u64 _]) Tryz.underlying68 inf78.size inf78.zero rfl (by decide) (by decide) (by decide) rfl) ?_
  refine X3 (OwnP.append (ys := [⟨k, k, k, ways⟩]) (ownl.push _) Tryz.underlying68 inf78 Xl Xl rfl (Zn (k := kLink) rfl rfl ownl.size rfl) (by rw [hll]; simp only [List.length_singleton]; omega) (by rw [hll]; simp only [List.length_singleton]; omega) ?_)
  rintro w9 G9 H9 le9 own9
  obtain ⟨C9, c99, e99⟩ := own9.shape
  rw [← apartL_next] at own9
  rw [List.length_append, hll, List.length_singleton] at e99
  subst e99
  obtain ⟨Gy, ley, owny⟩ := ownx.later (Hp.le_trans (Gm.le_push _) le9)
  refine Xa (X7 rfl) ?_
  refine Xb (by kernel_rfl) ?_
  refine Xa (Xc Xl) ?_
  refine Xa (Yk rfl rfl Yu) ?_
  refine Xa (Xn rfl) ?_
  exact ⟨sizes[i].toNat - (k + 1), by omega, k + 1, Gy, G9, C9, c99, by omega, rfl, bx.le ley, owny, rx.mono ley.sees, own9, e0, e1, e4, e5, e6, e7, e8, rfl, rfl⟩
  intro hc2
  (try simp only [decide_eq_true_eq, decide_eq_false_iff_not, Bool.not_eq_true', Bool.not_eq_false'] at hc2)
  refine Yq ?_
  obtain rfl : k = sizes[i].toNat := by omega
  obtain ⟨Gy, ley, owny⟩ := ownx.later ownl.le
  have by' := bx.le ley
  have slN := owny.below (k' := kLink) (fun st => Zc st) (by intro e he; simp at he; rcases he with rfl | rfl | rfl | rfl | rfl | rfl | rfl <;> exact (show (1 : Nat) ≠ 4 by decide)) ownl.sl
  have ry := rx.mono ley.sees
  obtain ⟨_, zz8, s08, s18, s28, s38⟩ := by'.le owny.le
  have zz12 := owny.size
  have hL := ((owny.push (.own 1 [.slice C sizes[i].toNat c9])).push (.own 1 [.slice none 0 0]))
  have leP : Gy.le ((Gy.push (.own 1 [.slice C sizes[i].toNat c9])).push (.own 1 [.slice none 0 0])) := Hp.le_trans (Hp.le_push (Gy) (.own 1 [.slice C sizes[i].toNat c9])) (Hp.le_push ((Gy.push (.own 1 [.slice C sizes[i].toNat c9]))) (.own 1 [.slice none 0 0]))
  have bL := by'.le leP
  have rL := ry.mono leP.sees
  have sN := slN.mono leP.sees
  have l0 : ((Gy.push (.own 1 [.slice C sizes[i].toNat c9])).push (.own 1 [.slice none 0 0])).get (H8.size) = .own 1 [.slice C sizes[i].toNat c9] := by rw [zz12]; exact Yg
  have l1 : ((Gy.push (.own 1 [.slice C sizes[i].toNat c9])).push (.own 1 [.slice none 0 0])).get (H8.size + 1) = .own 1 [.slice none 0 0] := by rw [zz12]; exact Yg
  have zL : H8.size + 2 ≤ ((Gy.push (.own 1 [.slice C sizes[i].toNat c9])).push (.own 1 [.slice none 0 0])).size := by simp; omega
  obtain ⟨GP, hGP⟩ : ∃ GP, GP = ((Gy.push (.own 1 [.slice C sizes[i].toNat c9])).push (.own 1 [.slice none 0 0])) := ⟨_, rfl⟩
  rw [← hGP] at hL bL rL zL sN l0 l1
  clear hGP leP
  refine Yr (by kernel_rfl) (Yy (B := [0, 1, 0, 4, 15, 0, 32, 0, 255, 127, 1023, 2047, 4095]) (π := [0, 1, 2, 3, 5, 6, 7, 4, 9, 8, 10, 11, 12]) (by kernel_rfl)) ?_
  refine Xd rfl rfl (Xg (off := 0) Xl Tryz.underlying29 Xl inf27.size (by decide) Xl) Xp ?_
  refine Xd rfl rfl (Xk rfl Tryz.underlying27 rfl Xr) Xp ?_
  refine Xd rfl rfl (Xy Xl) Xp ?_
  refine Y5 rfl rfl (Ye (r := [.slice _ _ _]) Tryz.underlying27 inf68.size inf68.zero rfl (by decide) (by decide) (by decide) rfl) ?_
  refine Xd rfl rfl (Xg (off := 1) Xl Tryz.underlying29 Xl inf27.size (by decide) Xl) Xp ?_
  refine Xd rfl rfl (Xk rfl Tryz.underlying27 rfl Xr) Xp ?_
  refine Y5 rfl rfl (Ye (r := [.slice _ _ _]) Tryz.underlying27 inf68.size inf68.zero rfl (by decide) (by decide) (by decide) rfl) ?_
  obtain ⟨Ga5, leGa5, ha5, back5⟩ := hL.rot.last
  have zGa := leGa5.1
  obtain ⟨_, zA, qa, qb, qc, qd⟩ := bL.le leGa5
  have m0 := Xt leGa5 (by omega) (by intro e; cases e) l0
  have m1 := Xt leGa5 (by omega) (by intro e; cases e) l1
  refine Yh rfl rfl (Ent.append ha5 Tryz.underlying27 inf68 Xl Xl rfl (lb := H8.size) (by omega) m0 rfl (by intro v hv; simp at hv; subst hv; rfl) (by simp only [eNds, rL.len]; omega) (by decide) ?_)
  rintro w5 Gb5 Hb5 leb5 hb5
  have hsameO := Ent.sameO ha5 leb5 hb5
  obtain ⟨Gc5, lec5, hc5⟩ := back5 Gb5 Hb5 _ leb5 hb5
  rw [eNds_next] at hc5 hb5
  obtain ⟨W5, cw5, rfl⟩ : ∃ A c, w5 = Value.slice A (i + 1) c := Zr (i := i + 1) (OwnP.sl hb5) (by simp [eNds, rL.len])
  have bb5 := (bL.le lec5).le hc5.le
  obtain ⟨_, zb, qa5, qb5, qc5, qd5⟩ := id bb5
  have l1b := Xt hc5.le (by have := lec5.1; omega) (by intro e; cases e) (Xt lec5 (by omega) (by intro e; cases e) l1)
  refine ⟨Yf, ?_⟩
  clear hsameO qa qb qc qd m0 m1
  clear l1b
  have l1 := Xt lec5 (by omega) (by intro e; cases e) l1
  replace bL := bL.le lec5
  replace sN := sN.mono lec5.sees
  replace rL := rL.mono lec5.sees
  replace zL := Nat.le_trans zL lec5.1
  clear hL
  have hL := hc5
  have zH5 := hL.size
  refine Xd rfl rfl (Xg (off := 0) Xl Tryz.underlying29 Xl inf27.size (by decide) Xl) Xp ?_
  obtain ⟨Ga6, leGa6, ha6, back6⟩ := hL.rot.last
  have zGa := leGa6.1
  obtain ⟨_, zA, qa, qb, qc, qd⟩ := bL.le leGa6
  have m0 := Xt leGa6 (by omega) (by intro e; cases e) l1
  refine Yh rfl rfl (Ent.append ha6 Tryz.underlying27 inf68 Xl Xl rfl (lb := H8.size + 1) (by omega) m0 rfl (by intro v hv; simp at hv; subst hv; rfl) (by simp only [V8, List.length_replicate]; omega) (by decide) ?_)
  rintro w6 Gb6 Hb6 leb6 hb6
  have hsameO := Ent.sameO ha6 leb6 hb6
  obtain ⟨Gc6, lec6, hc6⟩ := back6 Gb6 Hb6 _ leb6 hb6
  rw [eNil_next] at hc6 hb6
  obtain ⟨W6, cw6, rfl⟩ : ∃ A c, w6 = Value.slice A (i + 1) c := Zr (i := i + 1) (OwnP.sl hb6) (by simp [V8])
  have bb6 := (bL.le lec6).le hc6.le
  obtain ⟨_, zb, qa6, qb6, qc6, qd6⟩ := id bb6
  refine ⟨Yf, ?_⟩
  clear hsameO qa qb qc qd m0
  replace bL := bL.le lec6
  replace sN := sN.mono lec6.sees
  replace rL := rL.mono lec6.sees
  replace zL := Nat.le_trans zL lec6.1
  clear hL
  have hL := hc6
  have zH6 := hL.size
  first | refine Yh rfl rfl (Yx rfl rfl rfl inf27.size Yg Yi rfl ?_)
  refine ⟨Yf, ?_⟩
  refine Xd rfl rfl (Xg (off := 1) Xl Tryz.underlying29 Xl inf27.size (by decide) Xl) Xp ?_
  first | refine Yh rfl rfl (Yx rfl rfl rfl inf27.size Yg Yi rfl ?_)
  refine ⟨Yf, ?_⟩
  obtain ⟨H4, hH4⟩ : ∃ H4, H4 = Hb6.put (H.size + 3) (.own 0 [.slice W5 (i + 1) cw5, .slice W6 (i + 1) cw6]) := ⟨_, rfl⟩
  obtain ⟨G4, hG4⟩ : ∃ G4, G4 = Gc6.put (H.size + 3) (.own 0 [.slice W5 (i + 1) cw5, .slice W6 (i + 1) cw6]) := ⟨_, rfl⟩
  have ownG4 := hL.put_box (by have := bL.2.1; omega) bL.2.2.2.2.2 [.slice W5 (i + 1) cw5, .slice W6 (i + 1) cw6]
  have bG4 := bL.put3 [.slice W5 (i + 1) cw5, .slice W6 (i + 1) cw6]
  have rG4 := rL.mono (Hp.sees_box (cs' := [.slice W5 (i + 1) cw5, .slice W6 (i + 1) cw6]) _ bL.2.2.2.2.2)
  rw [← hG4] at ownG4 bG4 rG4
  rw [← hH4] at ownG4
  change ACode true _ _ _ _ _ ((Hb6.put (H.size + 3) (.own 0 [.slice W5 (i + 1) cw5, .slice A6 i k6])).put (H.size + 3) (.own 0 [.slice W5 (i + 1) cw5, .slice W6 (i + 1) cw6]))
  rw [Hp.put_put]
  rw [← hH4]
  have sN4 := sN.mono (Hp.sees_box (cs' := [.slice W5 (i + 1) cw5, .slice W6 (i + 1) cw6]) _ bL.2.2.2.2.2)
  rw [← hG4] at sN4
  clear hH4 hG4 hL bL rL zL
  have bbH4 := bG4.le ownG4.le
  obtain ⟨_, zzH4, s0H4, s1H4, s2H4, s3H4⟩ := id bbH4
  refine Xb (by kernel_rfl) ?_
  refine Xa (Xc Xl) ?_
  refine Xa (Yk rfl rfl Yu) ?_
  refine Xa (Xn rfl) ?_
  exact ⟨sizes.length - (i + 1), by omega, i + 1, G4, _, _, _, _, _, _, _, (nds ++ [[Value.slice C sizes[i].toNat c9]] : List (List Value)), by omega, rfl, bG4, ownG4, rG4.snoc hix sN4, e0, e1, e4, e5, e6, e7, rfl⟩
  intro hc1
  (try simp only [decide_eq_true_eq, decide_eq_false_iff_not, Bool.not_eq_true', Bool.not_eq_false'] at hc1)
  refine Yq ?_
  refine Xf ?_
  refine Yr (by kernel_rfl) (Yy (B := [0, 0, 1, 7]) (π := [0, 1, 2, 3]) (by kernel_rfl)) ?_
  refine Xd rfl rfl (Yj (cs := [.slice _ _ _, .slice _ _ _, .slice _ _ _, .slice _ _ _, .slice _ _ _]) Xl Tryz.underlying26 Xl inf26.size X9) Xp ?_
  refine Xd rfl rfl (Yj (cs := [.slice _ _ _, .slice _ _ _]) Xl Tryz.underlying29 Xl inf29.size X9) Xp ?_
  refine Yh rfl rfl (Yl (vs := [.slice _ _ _, .slice _ _ _, .slice _ _ _, .slice _ _ _, .slice _ _ _]) Xl Xl inf26.size Yg Yi Xl Xl ?_)
  refine ⟨Yf, ?_⟩
  refine Yh rfl rfl (Yl (vs := [.slice _ _ _, .slice _ _ _]) Xl Xl inf29.size Yg Yi Xl Xl ?_)
  refine ⟨Yf, ?_⟩
  refine X5 ?_
  obtain rfl : i = sizes.length := by omega
  have se := hown.le.sees
  have p0 := hown.sl (eStr (.slice A0 sizes.length k0) sizes.length) (by simp)
  have p1 := hown.sl (eInt (.slice A1 sizes.length k1) sizes.length) (by simp)
  have p2 := hown.sl (eNeg (.slice A2 sizes.length k2) sizes.length) (by simp)
  have p3 := hown.sl (V8 (.slice A3 sizes.length k3) sizes.length) (by simp)
  have p4 := hown.sl (V8 (.slice A4 sizes.length k4) sizes.length) (by simp)
  have p5 := hown.sl (eNds (.slice A5 sizes.length k5) nds) (by simp)
  have p6 := hown.sl (V8 (.slice A6 sizes.length k6) sizes.length) (by simp)
  have hrl := hr.len
  have hz1 : H1.sees (H1.put H.size (.own 0 [.slice A0 sizes.length k0, .slice A1 sizes.length k1, .slice A2 sizes.length k2, .slice A3 sizes.length k3, .slice A4 sizes.length k4])) := Hp.sees_box _ q0
  have hz2 : (H1.put H.size (.own 0 [.slice A0 sizes.length k0, .slice A1 sizes.length k1, .slice A2 sizes.length k2, .slice A3 sizes.length k3, .slice A4 sizes.length k4])).sees ((H1.put H.size (.own 0 [.slice A0 sizes.length k0, .slice A1 sizes.length k1, .slice A2 sizes.length k2, .slice A3 sizes.length k3, .slice A4 sizes.length k4])).put (H.size + 1) (.own 0 [.slice A5 sizes.length k5, .slice A6 sizes.length k6])) := Hp.sees_box (cs := [.slice none 0 0, .slice none 0 0]) _ (by rw [Hp.put_other _ _ (by omega)]; exact q1)
  have hz := hz1.trans hz2
  refine ⟨_, Za (Ys Xl (Yo (cs := [.slice A0 sizes.length k0, .slice A1 sizes.length k1, .slice A2 sizes.length k2, .slice A3 sizes.length k3, .slice A4 sizes.length k4]) Tryz.underlying26 rfl inf26.size X9)) (Ys Xl (Yo (cs := [.slice A5 sizes.length k5, .slice A6 sizes.length k6]) Tryz.underlying29 rfl inf29.size X9)), [_, _, _, _, _], [_, _], rfl, ⟨_, _, _, _, _, rfl, ?_, ?_, ?_, ?_, ?_⟩, ⟨_, _, rfl, ?_, ?_⟩, Hp.le_put_new (Hp.le_put_new leH1 (Nat.le_refl _) _) (by omega) _⟩
  · exact Sl.conv (k := kStr) (p0.mono hz) (by simp [eStr, apartF]) (fun j a b => by simp [eStr, apartF, kStr])
  · exact Sl.conv (k := Y3 .i64) (p1.mono hz) (by simp [eInt, apartF]) (fun j a b => by simp [eInt, apartF, Y3])
  · exact Sl.conv (k := Y3 .i64) (p2.mono hz) (by simp [eNeg, apartF]) (fun j a b => by simp [eNeg, apartF, Y3])
  · exact Sl.conv (k := Vi (Y3 .i64)) (p3.mono hz) (by simp [V8, apartF]) (fun j a b => by simp only [V8, apartF, List.getElem_replicate]; exact ⟨_, rfl, Sl.nil _ _⟩)
  · exact Sl.conv (k := Vi (Y3 .i64)) (p4.mono hz) (by simp [V8, apartF]) (fun j a b => by simp only [V8, apartF, List.getElem_replicate]; exact ⟨_, rfl, Sl.nil _ _⟩)
  · exact Sl.conv (k := Vi kLink) (p5.mono hz) (by simp [eNds, apartP, hrl]) (fun j a b => by
      obtain ⟨w, h1, h2⟩ := hr.at_ j a (by simpa [apartP] using b)
      simp only [apartP, List.getElem_map]
      exact ⟨w, h1, (h2.mono se).mono hz⟩)
  · exact Sl.conv (k := Vi kLink) (p6.mono hz) (by simp [V8, apartP]) (fun j a b => by simp only [V8, apartP, List.getElem_replicate, List.getElem_map]; exact ⟨_, rfl, Sl.nil _ _⟩)
end Go.Proofs.YtcaeoebphfjfiaaGreat.Am


/- What is told of no tree and of no walk; the small living call of the statements on walks. -/
namespace Go.Proofs.YtcaeoebphfjfiaaGreat.Am
open Go Go.RowKit
set_option maxRecDepth 100000
set_option linter.unusedVariables false
set_option linter.unusedSimpArgs false

theorem allN_nodes {T : TreeT} (hT : GoodT T) (hA : Alive T) : ∀ (k : Nat) (S : Zk), ValS T S → (allN T k S).map RowT.nodes = (Zo T S).take k ∧ ∀ r ∈ allN T k S, V2 T r.nodes = some r
  | 0, S, _ => ⟨by simp [allN], fun r h => by cases h⟩
  | k + 1, S, hv => by
    obtain ⟨h1, h2, _, _⟩ := next_tells hT hA _ S hv (Nat.le_refl _)
    rw [allN]
    cases hn : Vu T S with
    | mk S1 o =>
      rw [hn] at h1 h2
      cases o with
      | none =>
        have h2 : Zo T S = [] ∧ _ := h2
        simp [h2.1]
      | some r =>
        have h2 : Zo T S = r.nodes :: Zo T S1 ∧ V2 T r.nodes = some r := h2
        obtain ⟨i1, i2⟩ := allN_nodes hT hA k S1 h1
        refine ⟨by simp only [List.map_cons, i1, h2.1, List.take_succ_cons], fun r' h => ?_⟩
        rcases List.mem_cons.1 h with rfl | h
        · exact h2.2
        · exact i2 r' h
theorem allN_len {T : TreeT} (hT : GoodT T) (hA : Alive T) (k : Nat) (S : Zk) (hv : ValS T S) : (allN T k S).length ≤ (Zo T S).length := by
  have h := congrArg List.length (allN_nodes hT hA k S hv).1
  rw [List.length_map, List.length_take] at h
  omega
def liveF : Forest := apartF 2
def liveP : Parts := apartP 1 [2, 2]
def liveT : TreeT := ⟨[⟨#[120]⟩, ⟨#[120]⟩], [-1, -1], [[⟨0, 0, 0, 1⟩, ⟨1, 1, 1, 1⟩], [⟨0, 0, 0, 1⟩, ⟨1, 1, 1, 1⟩]]⟩
theorem good_live : GoodP liveF liveP := by
  refine ⟨⟨rfl, rfl, rfl, rfl, fun i hi => ?_⟩, rfl, rfl, fun v hv => ?_⟩
  · have hi' : i < 2 := hi
    rcases (by omega : i = 0 ∨ i = 1) with rfl | rfl <;> (unfold OkF; decide)
  · have hv' : v < 2 := hv
    rcases (by omega : v = 0 ∨ v = 1) with rfl | rfl <;> (unfold OkP; rw [Vk, Vk]; unfold OkL; decide)
theorem small_live : Small liveF liveP := ⟨by decide, by decide, by decide, by decide, by decide, by decide, by decide⟩
theorem cheap_live : Cheap liveP := by
  refine ⟨fun v => ?_, fun v => ?_⟩
  · match v with
    | 0 => decide
    | 1 => decide
    | v + 2 => intro x hx; cases hx
  · match v with
    | 0 => decide
    | 1 => decide
    | v + 2 => intro x hx; cases hx
theorem of_live : ofP liveF liveP = liveP := by
  refine ofP_fix good_live.gf good_live.lens good_live.nb (fun v hv hp => ?_) (fun h => ?_)
  · have hv' : v < 2 := hv
    rcases (by omega : v = 0 ∨ v = 1) with rfl | rfl <;> exact absurd rfl hp
  · have : liveF.order.any (Vj liveF liveP) = false := by decide
    rw [this] at h; cases h
theorem tree_live : Y8 liveF (ofP liveF liveP) = liveT := by rw [of_live]; rfl
theorem goodT_live : GoodT liveT := by
  have h := ofP_all good_live
  have := good_tree (ofP_good good_live) (by rw [of_live]; exact small_live) (cheap_live.sub h.2.1) (by decide)
  rwa [tree_live] at this
theorem alive_live : Alive liveT := by have := alive_tree good_live; rwa [tree_live] at this
set_option maxHeartbeats 1000000 in
theorem lives31_ok (H : Hp) : ACalls Tryz.prog 11 #[] H (fun r H' => r = .bool true ∧ H.le H') := by
  refine Xw Tryz.func11 rfl rfl rfl (by simp) ?_
  refine Xf ?_
  refine Xb (by kernel_rfl) ?_
  refine Xa (Xo rfl) ?_
  refine Xf ?_
  refine Xb (by kernel_rfl) ?_
  first | refine X4 (Ye (r := [.int .i64 _, .int .i64 _]) Tryz.underlying23 inf3.size inf3.zero rfl (by decide) (by decide) (by decide) rfl) ?_
  refine X3 (X2 (Apart_ok 1 [2, 2] (.slice (some ⟨H.size, 0, none⟩) 2 2) _ (sl_two (k := Y3 .i64) Yg (by simp) rfl rfl rfl) (by decide) (by decide)) rfl Tryz.func45 rfl rfl rfl ?_)
  rintro v1 H1 ⟨cs1, ds1, rfl, hf1, hp1, hle1⟩; have hf10 := hf1; have hp10 := hp1; obtain ⟨a0, a1, a2, a3, a4, rfl, hs0, hs1, hs2, hs3, hs4⟩ := hf1; obtain ⟨A0, c0, rfl⟩ := hs0.shape; obtain ⟨A1, c1, rfl⟩ := hs1.shape; obtain ⟨A2, c2, rfl⟩ := hs2.shape; obtain ⟨A3, c3, rfl⟩ := hs3.shape; obtain ⟨A4, c4, rfl⟩ := hs4.shape; obtain ⟨u0, u1, rfl, hn0, hn1⟩ := hp1; obtain ⟨B0, d0, rfl⟩ := hn0.shape; obtain ⟨B1, d1, rfl⟩ := hn1.shape; have hz1 := hle1.1; simp only [Hp.push_size] at hz1
  refine Xa (Zt rfl) ?_
  refine Xa (Yw rfl rfl) ?_
  refine Xa (Yw rfl rfl) ?_
  refine X4 (Y4 (l := [.slice none 0 0, .slice none 0 0, .slice none 0 0, .slice none 0 0, .slice none 0 0]) inf26.zero rfl (by decide)) ?_
  refine X4 (Y4 (l := [.slice none 0 0, .slice none 0 0]) inf29.zero rfl (by decide)) ?_
  refine X3 (Yl (vs := [.slice _ _ _, .slice _ _ _, .slice _ _ _, .slice _ _ _, .slice _ _ _]) rfl rfl inf26.size Yg Yi rfl rfl ?_)
  refine X3 (Yl (vs := [.slice _ _ _, .slice _ _ _]) rfl rfl inf29.size Yg Yi rfl rfl ?_)
  refine Xf ?_
  refine Xb (by kernel_rfl) ?_
  refine Xa (Yj (cs := [.slice _ _ _, .slice _ _ _, .slice _ _ _, .slice _ _ _, .slice _ _ _]) rfl Tryz.underlying26 rfl inf26.size X9) ?_
  refine Xa (Yj (cs := [.slice _ _ _, .slice _ _ _]) rfl Tryz.underlying29 rfl inf29.size X9) ?_
  refine X3 (X2 (New_good liveF liveP _ _ _ (kForest.mono Zj hf10) (kParts.mono Zj hp10) small_live cheap_live good_live) rfl Tryz.func9 rfl rfl rfl ?_)
  rintro v2 H2 ⟨hle2, tb, rfl, htr⟩; rw [tree_live] at htr
  refine Xa (Zt rfl) ?_
  refine Xa (Yw rfl rfl) ?_
  refine Xa (Yw rfl rfl) ?_
  refine Xa (Zi rfl) ?_
  refine Xa (Xn rfl) ?_
  refine Xf ?_
  have leH1 : H.le H1 := Hp.le_trans (H.le_push _) hle1
  have leH2 : H.le H2 := Hp.le_trans t_le hle2
  clear hle2
  refine Xb (by kernel_rfl) ?_
  refine Xa (Xz rfl) ?_
  refine X3 (X2 (All_gen goodT_live alive_live (some ⟨tb, 0, none⟩) w0 (.inl rfl) (fun H => fresh_tree tb H) _ (fun _ => htr) 9 (fun k => Nat.le_trans (allN_len goodT_live alive_live k w0 (val_w0 _)) (by decide))) rfl Tryz.func19 rfl rfl rfl ?_)
  rintro v3 H3 ⟨hle3, hs3⟩; rw [show allN liveT (9 : Int).toNat w0 = [⟨[0, 0], 0, 1⟩, ⟨[0, 1], 1, 1⟩, ⟨[1, 0], 1, 1⟩, ⟨[1, 1], 2, 1⟩] from rfl] at hs3; obtain ⟨A3, k3, rfl⟩ := hs3.shape
  refine Xa (X7 rfl) ?_
  refine Xf ?_
  obtain ⟨b5, o5, w5, e5, hb5, hc5, hw5⟩ := hs3.row_at (i := 1) (by decide)
  subst e5
  obtain ⟨A5, k5, rfl⟩ := hw5.shape
  have hc50 := hc5 0 _ rfl
  obtain ⟨b6, o6, e6, hb6, hc6⟩ := hw5.int_at (i := 0) (by decide) (by decide)
  obtain ⟨b7, o7, e7, hb7, hc7⟩ := hw5.int_at (i := 1) (by decide) (by decide)
  subst e6
  simp only [Option.some.injEq, Addr.mk.injEq, and_true] at e7
  obtain ⟨rfl, rfl⟩ := e7
  refine Xb (by kernel_rfl) ?_
  refine Xa (Xc rfl) ?_
  refine Xa (Zy rfl rfl) ?_
  refine Xa (Xq rfl) ?_
  refine Yb rfl rfl rfl ?_ ?_
  intro hg1
  have hp1 := hg1; try simp only [decide_eq_true_eq, decide_eq_false_iff_not, Bool.not_eq_true', Bool.not_eq_false'] at hp1
  refine Xj (Xh rfl rfl rfl hg1) (Xy rfl) ?_
  refine Xj (Xh rfl rfl rfl hg1) (Ym rfl Tryz.underlying51) ?_
  refine Xj (Xh rfl rfl rfl hg1) (Zy rfl rfl) ?_
  refine Xa (Xm (congrArg Value.bool hg1) rfl) ?_
  refine Xa (Xq rfl) ?_
  refine Yb rfl rfl rfl ?_ ?_
  intro hg2
  have hp2 := hg2; try simp only [decide_eq_true_eq, decide_eq_false_iff_not, Bool.not_eq_true', Bool.not_eq_false'] at hp2
  refine Xj (Xh rfl rfl rfl hg2) (Xy rfl) ?_
  refine Xj (Xh rfl rfl rfl hg2) (Xs rfl rfl Tryz.underlying51 inf44.size X1 X1) ?_
  refine Xj (Xh rfl rfl rfl hg2) (Xg (off := 0) rfl Tryz.underlying44 rfl inf23.size (by decide) rfl) ?_
  refine Xj (Xh rfl rfl rfl hg2) (Xk rfl Tryz.underlying23 rfl Xr) ?_
  refine Xj (Xh rfl rfl rfl hg2) (Ym rfl Tryz.underlying23) ?_
  refine Xj (Xh rfl rfl rfl hg2) (Zy rfl rfl) ?_
  refine Xa (Xm (congrArg Value.bool hg2) rfl) ?_
  refine Xa (Xq rfl) ?_
  refine Yb rfl rfl rfl ?_ ?_
  intro hg3
  have hp3 := hg3; try simp only [decide_eq_true_eq, decide_eq_false_iff_not, Bool.not_eq_true', Bool.not_eq_false'] at hp3
  refine Xj (Xh rfl rfl rfl hg3) (Xy rfl) ?_
  refine Xj (Xh rfl rfl rfl hg3) (Xs rfl rfl Tryz.underlying51 inf44.size X1 X1) ?_
  refine Xj (Xh rfl rfl rfl hg3) (Xg (off := 0) rfl Tryz.underlying44 rfl inf23.size (by decide) rfl) ?_
  refine Xj (Xh rfl rfl rfl hg3) (Xk rfl Tryz.underlying23 rfl Xr) ?_
  refine Xj (Xh rfl rfl rfl hg3) (Xs rfl rfl Tryz.underlying23 inf3.size X1 X1) ?_
  refine Xj (Xh rfl rfl rfl hg3) (Xk rfl Tryz.underlying3 rfl Xr) ?_
  refine Xj (Xh rfl rfl rfl hg3) (Zy rfl rfl) ?_
  refine Xa (Xm (congrArg Value.bool hg3) rfl) ?_
  refine Xa (Xq rfl) ?_
  refine Yb rfl rfl rfl ?_ ?_
  intro hg4
  have hp4 := hg4; try simp only [decide_eq_true_eq, decide_eq_false_iff_not, Bool.not_eq_true', Bool.not_eq_false'] at hp4
  refine Xj (Xh rfl rfl rfl hg4) (Xy rfl) ?_
  refine Xj (Xh rfl rfl rfl hg4) (Xs rfl rfl Tryz.underlying51 inf44.size X1 X1) ?_
  refine Xj (Xh rfl rfl rfl hg4) (Xg (off := 0) rfl Tryz.underlying44 rfl inf23.size (by decide) rfl) ?_
  refine Xj (Xh rfl rfl rfl hg4) (Xk rfl Tryz.underlying23 rfl Xr) ?_
  refine Xj (Xh rfl rfl rfl hg4) (Xs rfl rfl Tryz.underlying23 inf3.size X1 X1) ?_
  refine Xj (Xh rfl rfl rfl hg4) (Xk rfl Tryz.underlying3 rfl Xr) ?_
  refine Xj (Xh rfl rfl rfl hg4) (Zy rfl rfl) ?_
  refine Xa (Xm (congrArg Value.bool hg4) rfl) ?_
  refine Xa (Xo rfl) ?_
  refine X5 ?_
  exact ⟨.bool true, Xx (Xv rfl), rfl, Hp.le_trans leH2 hle3⟩
  intro hg4
  exact absurd hg4 (by decide)
  intro hg3
  exact absurd hg3 (by decide)
  intro hg2
  exact absurd hg2 (by decide)
  intro hg1
  exact absurd hg1 (by decide)
end Go.Proofs.YtcaeoebphfjfiaaGreat.Am


/- Whether two lists of numbers are one; what a tree tells of nodes. -/
namespace Go.Proofs.YtcaeoebphfjfiaaGreat.Am
open Go Go.RowKit
set_option maxRecDepth 100000
set_option linter.unusedVariables false
set_option linter.unusedSimpArgs false

end Go.Proofs.YtcaeoebphfjfiaaGreat.Am


/- The small living call of the statements on reducing. -/
namespace Go.Proofs.YtcaeoebphfjfiaaGreat.Am
open Go Go.RowKit
set_option maxRecDepth 100000
set_option linter.unusedVariables false
set_option linter.unusedSimpArgs false

end Go.Proofs.YtcaeoebphfjfiaaGreat.Am


/- Forests of few variables: cut once is cut twice; the statements' own words. -/
namespace Go.Proofs.YtcaeoebphfjfiaaGreat.Am
open Go Go.RowKit
set_option maxRecDepth 100000
set_option linter.unusedVariables false
set_option linter.unusedSimpArgs false

structure BigF (f : Forest) : Prop where
  l0 : f.vars.length ≤ 9223372036854775807
  l1 : f.order.length ≤ 9223372036854775807
  l2 : f.parent.length ≤ 9223372036854775807
  l3 : f.links.length ≤ 9223372036854775807
  l4 : f.loops.length ≤ 9223372036854775807
  s3 : ∀ l ∈ f.links, l.length ≤ 9223372036854775807
  s4 : ∀ l ∈ f.loops, l.length ≤ 9223372036854775807
structure BigP (p : Parts) : Prop where
  l0 : p.nodes.length ≤ 9223372036854775807
  l1 : p.links.length ≤ 9223372036854775807
  s0 : ∀ l ∈ p.nodes, l.length ≤ 9223372036854775807
  s1 : ∀ l ∈ p.links, l.length ≤ 9223372036854775807
theorem Forest_28 (f : Forest) (cs : List Value) (H : Hp) (hp : kForest.rep H f cs) (hb : BigF f) :
    ACalls Tryz.prog 7 #[.agg cs.toArray] H (fun r H' => H.le H' ∧ ∃ ds, r = .agg ds.toArray ∧ kForest.rep H' f.few ds) := by
  have hp0 := hp
  obtain ⟨v0, v1, v2, v3, v4, rfl, hs0, hs1, hs2, hs3, hs4⟩ := hp
  obtain ⟨A0, c0, rfl⟩ := hs0.shape
  obtain ⟨A1, c1, rfl⟩ := hs1.shape
  obtain ⟨A2, c2, rfl⟩ := hs2.shape
  obtain ⟨A3, c3, rfl⟩ := hs3.shape
  obtain ⟨A4, c4, rfl⟩ := hs4.shape
  refine Xw Tryz.func7 rfl rfl rfl (by simp) ?_
  refine Xf ?_
  refine Xb (by kernel_rfl) ?_
  refine X4 (Yp rfl) ?_
  refine X4 (Y4 (l := [.slice none 0 0, .slice none 0 0, .slice none 0 0, .slice none 0 0, .slice none 0 0]) inf26.zero rfl (by decide)) ?_
  refine Xf ?_
  refine Xb (by kernel_rfl) ?_
  refine Xa (Yj (cs := [.slice _ _ _, .slice _ _ _, .slice _ _ _, .slice _ _ _, .slice _ _ _]) rfl Tryz.underlying26 rfl inf26.size X9) ?_
  refine X3 (X2 (Few_forest f _ _ (kForest.mono Zj hp0) hb.l0 hb.l1 hb.l2 hb.l3 hb.l4 hb.s3 hb.s4) rfl Tryz.func38 rfl rfl rfl ?_)
  rintro v2 H2 ⟨hle2, ds, rfl, hds⟩; have hds0 := hds; obtain ⟨a0, a1, a2, a3, a4, rfl, ht0, ht1, ht2, ht3, ht4⟩ := hds; obtain ⟨B0, d0, rfl⟩ := ht0.shape; obtain ⟨B1, d1, rfl⟩ := ht1.shape; obtain ⟨B2, d2, rfl⟩ := ht2.shape; obtain ⟨B3, d3, rfl⟩ := ht3.shape; obtain ⟨B4, d4, rfl⟩ := ht4.shape; have hz2 := hle2.1; simp only [Hp.push_size] at hz2
  refine X3 (Yl (vs := [.slice _ _ _, .slice _ _ _, .slice _ _ _, .slice _ _ _, .slice _ _ _]) rfl rfl inf26.size Yg Yi rfl rfl ?_)
  refine X5 ?_
  have k1 : H2.get (H.size + 1) = .own 0 [.slice none 0 0, .slice none 0 0, .slice none 0 0, .slice none 0 0, .slice none 0 0] := Xt hle2 (by simp) (by intro e; cases e) Yg
  exact ⟨_, Xx (Ys Xl (Yo (cs := [_, _, _, _, _]) Tryz.underlying26 rfl inf26.size X9)), Hp.le_put_new (Hp.le_trans (Hp.le_push' (H.le_push _) _) hle2) (by simp <;> omega) _, [_, _, _, _, _], rfl, kForest.mono (Hp.sees_box _ k1) hds0⟩
theorem small_few (f : Forest) (p : Parts) : Small f.few p.few4 := by
  have h8 : ∀ {α : Type} (xs : List α), (xs.take 8).length ≤ 8 := fun xs => by rw [List.length_take]; omega
  refine ⟨?_, ?_, ?_, ?_, ?_, fun l hl => ?_, fun l hl => ?_⟩
  · show ((f.vars.take 8).map _).length ≤ _; rw [List.length_map]; have := h8 f.vars; omega
  · show (f.order.take 8).length ≤ _; have := h8 f.order; omega
  · show (f.parent.take 8).length ≤ _; have := h8 f.parent; omega
  · show (((p.nodes.take 8).map Zw).map _).length ≤ _; rw [List.length_map, List.length_map]; have := h8 p.nodes; omega
  · show ((p.links.take 8).map Zw).length ≤ _; rw [List.length_map]; have := h8 p.links; omega
  · obtain ⟨m, _, rfl⟩ := List.mem_map.1 hl
    rw [List.length_take]; omega
  · obtain ⟨m, _, rfl⟩ := List.mem_map.1 hl
    unfold Zw; rw [List.length_map, List.length_take]; omega
theorem Link.few_few (x : Link) : x.few.few = x.few := by
  unfold Link.few
  by_cases h : 1000000000 < x.cost
  · rw [if_pos h]; simp
  · rw [if_neg h, if_neg h]
theorem fewL_le (xs : List Link) : (Zw xs).length ≤ 25 := by unfold Zw; rw [List.length_map, List.length_take]; omega
theorem fewL_take (m : Nat) (xs : List Link) : Zw ((Zw xs).take m) = (Zw xs).take m := by
  have h : (Zw xs).map Link.few = Zw xs := by
    unfold Zw
    rw [List.map_map, show Link.few ∘ Link.few = Link.few from funext Link.few_few]
  show (((Zw xs).take m).take 25).map Link.few = _
  rw [List.take_of_length_le (by rw [List.length_take]; have := fewL_le xs; omega), List.map_take, h]
theorem fewL_idem (xs : List Link) : Zw (Zw xs) = Zw xs := by
  have := fewL_take (Zw xs).length xs
  rwa [List.take_length] at this
theorem few4_few4 (p : Parts) : p.few4.few4 = p.few4 := by
  unfold Parts.few4 Parts.few
  simp only [List.map_map, ← List.map_take, List.take_take, Nat.min_self]
  congr 1
  · refine List.map_congr_left fun l _ => ?_
    simp only [Function.comp]
    rw [fewL_take, List.take_take, Nat.min_self]
  · exact List.map_congr_left fun l _ => fewL_idem l
theorem cutS_idem (s : ByteArray) : cutS (cutS s 32) 32 = cutS s 32 := by
  unfold cutS
  by_cases h : 32 < s.size
  · rw [if_pos h, if_neg (by rw [ByteArray.size_extract]; omega)]
  · rw [if_neg h, if_neg h]
theorem ffew_ffew (f : Forest) : f.few.few = f.few := by
  unfold Forest.few
  simp only [← List.map_take, List.take_take, Nat.min_self, List.map_map]
  congr 1
  · exact List.map_congr_left fun s _ => cutS_idem s
  · exact List.map_congr_left fun l _ => by simp [List.take_take]
  · exact List.map_congr_left fun l _ => by simp [List.take_take]
theorem bigF_few (f : Forest) : BigF f.few := by
  have h := (small_few f ⟨[], []⟩)
  have h8 : ∀ {α : Type} (xs : List α), (xs.take 8).length ≤ 8 := fun xs => by rw [List.length_take]; omega
  refine ⟨by have := h.s0; omega, by have := h.s1; omega, by have := h.s2; omega, ?_, ?_, fun l hl => ?_, fun l hl => ?_⟩
  · show ((f.links.take 8).map _).length ≤ _; rw [List.length_map]; have := h8 f.links; omega
  · show ((f.loops.take 8).map _).length ≤ _; rw [List.length_map]; have := h8 f.loops; omega
  · obtain ⟨m, _, rfl⟩ := List.mem_map.1 hl; rw [List.length_take]; omega
  · obtain ⟨m, _, rfl⟩ := List.mem_map.1 hl; rw [List.length_take]; omega
theorem bigP_few (p : Parts) : BigP p.few4 := by
  have h := (small_few ⟨[], [], [], [], []⟩ p)
  exact ⟨by have := h.s3; omega, by have := h.s4; omega, fun l hl => by have := h.s5 l hl; omega, fun l hl => by have := h.s6 l hl; omega⟩
end Go.Proofs.YtcaeoebphfjfiaaGreat.Am


/- The statement ReduceTwice, as the abstract machine runs it. -/
namespace Go.Proofs.YtcaeoebphfjfiaaGreat.Am
open Go Go.RowKit
set_option maxRecDepth 100000
set_option linter.unusedVariables false
set_option linter.unusedSimpArgs false

theorem small_sub {f : Forest} {p q : Parts} (h : Small f p) (hl : Lens f.vars.length q) (hs : Sub q p) : Small f q :=
  ⟨h.s0, h.s1, h.s2, by rw [hl.1]; exact h.s0, by rw [hl.2]; exact h.s0, fun l hm => by
    obtain ⟨i, hi, rfl⟩ := List.getElem_of_mem hm
    have k1 := (hs i).1.length_le
    unfold nd at k1
    rw [Y6 hi] at k1
    exact Nat.le_trans k1 (Vh h.s5 i), fun l hm => by
    obtain ⟨i, hi, rfl⟩ := List.getElem_of_mem hm
    have k1 := (hs i).2.length_le
    unfold lk at k1
    rw [Y6 hi] at k1
    exact Nat.le_trans k1 (Vh h.s6 i)⟩
end Go.Proofs.YtcaeoebphfjfiaaGreat.Am


/- The document's Up and Down. -/
namespace Go.Proofs.YtcaeoebphfjfiaaGreat.Am
open Go Go.RowKit
set_option maxRecDepth 100000
set_option linter.unusedVariables false
set_option linter.unusedSimpArgs false

end Go.Proofs.YtcaeoebphfjfiaaGreat.Am


/- The statement ReduceHalves, as the abstract machine runs it. -/
namespace Go.Proofs.YtcaeoebphfjfiaaGreat.Am
open Go Go.RowKit
set_option maxRecDepth 100000
set_option linter.unusedVariables false
set_option linter.unusedSimpArgs false

end Go.Proofs.YtcaeoebphfjfiaaGreat.Am


/- How many nodes and links; whether nothing is left. -/
namespace Go.Proofs.YtcaeoebphfjfiaaGreat.Am
open Go Go.RowKit
set_option maxRecDepth 100000
set_option linter.unusedVariables false
set_option linter.unusedSimpArgs false

end Go.Proofs.YtcaeoebphfjfiaaGreat.Am


/- The statement ReduceRows, as the abstract machine runs it. -/
namespace Go.Proofs.YtcaeoebphfjfiaaGreat.Am
open Go Go.RowKit
set_option maxRecDepth 100000
set_option linter.unusedVariables false
set_option linter.unusedSimpArgs false

theorem few_cost (x : Link) : x.few.cost ≤ 1000000000 := by
  unfold Link.few
  by_cases h : 1000000000 < x.cost
  · rw [if_pos h]; simp
  · rw [if_neg h]; omega
theorem fewL_cost {xs : List Link} {x : Link} (h : x ∈ Zw xs) : x.cost ≤ 1000000000 := by
  unfold Zw at h
  obtain ⟨y, _, rfl⟩ := List.mem_map.1 h
  exact few_cost y
theorem tiny_few {f : Forest} {p : Parts} (hg : GoodP f.few p.few4) (hs : f.few.vars.length < 6) : Tiny f.few p.few4 := by
  have getn : ∀ v, ∀ x ∈ nd p.few4 v, v < f.few.vars.length := fun v x hx => by
    rcases Nat.lt_or_ge v f.few.vars.length with h | h
    · exact h
    · unfold nd at hx
      rw [List.getD_eq_getElem?_getD, List.getElem?_eq_none (by have := hg.n1; omega)] at hx; simp at hx
  have getl : ∀ v, ∀ x ∈ lk p.few4 v, v < f.few.vars.length := fun v x hx => by
    rcases Nat.lt_or_ge v f.few.vars.length with h | h
    · exact h
    · unfold lk at hx
      rw [List.getD_eq_getElem?_getD, List.getElem?_eq_none (by have := hg.n2; omega)] at hx; simp at hx
  refine ⟨by omega, fun v => ?_, fun v x hx => ?_, fun v x hx => ?_⟩
  · unfold nd
    by_cases h : v < p.few4.nodes.length
    · rw [Y6 h]
      obtain ⟨l, _, e⟩ := List.mem_map.1 (show p.few4.nodes[v] ∈ (p.few.nodes.map (·.take 4)) from List.getElem_mem h)
      rw [← e, List.length_take]; omega
    · rw [List.getD_eq_getElem?_getD, List.getElem?_eq_none (by omega)]; simp
  · have hv := getn v x hx
    obtain ⟨k1, _⟩ := Vk.1 (hg.ok v hv).1
    obtain ⟨a1, a2, a3, a4, a5, a6, a7⟩ := k1 x hx
    refine ⟨a5, ?_, by omega, a7⟩
    have h : v < p.few4.nodes.length := by rw [hg.n1]; exact hv
    unfold nd at hx
    rw [Y6 h] at hx
    obtain ⟨l, hl, e⟩ := List.mem_map.1 (show p.few4.nodes[v] ∈ (p.few.nodes.map (·.take 4)) from List.getElem_mem h)
    rw [← e] at hx
    obtain ⟨l2, _, rfl⟩ := List.mem_map.1 hl
    exact fewL_cost (List.mem_of_mem_take hx)
  · have hv := getl v x hx
    obtain ⟨k1, _⟩ := Vk.1 (hg.ok v hv).2.1
    obtain ⟨a1, a2, a3, a4, a5, a6, a7⟩ := k1 x hx
    refine ⟨a5, ?_, by omega, a7⟩
    have h : v < p.few4.links.length := by rw [hg.n2]; exact hv
    unfold lk at hx
    rw [Y6 h] at hx
    obtain ⟨l, hl, e⟩ := List.mem_map.1 (show p.few4.links[v] ∈ ((p.links.take 8).map Zw) from List.getElem_mem h)
    rw [← e] at hx
    exact fewL_cost hx
theorem Tiny.sub {f : Forest} {p q : Parts} (h : Tiny f p) (hs : Sub q p) : Tiny f q :=
  ⟨h.vars, fun v => Nat.le_trans (hs v).1.length_le (h.nodes v), fun v x hx => h.costN v x ((hs v).1.subset hx), fun v x hx => h.costL v x ((hs v).2.subset hx)⟩
end Go.Proofs.YtcaeoebphfjfiaaGreat.Am


/- The statement TreeRows, as the abstract machine runs it. -/
namespace Go.Proofs.YtcaeoebphfjfiaaGreat.Am
open Go Go.RowKit
set_option maxRecDepth 100000
set_option linter.unusedVariables false
set_option linter.unusedSimpArgs false

theorem cheap_few {f : Forest} {p : Parts} (hg : GoodP f.few p.few4) : Cheap p.few4 := by
  have getn : ∀ v, ∀ x ∈ nd p.few4 v, v < f.few.vars.length := fun v x hx => by
    rcases Nat.lt_or_ge v f.few.vars.length with h | h
    · exact h
    · unfold nd at hx
      rw [List.getD_eq_getElem?_getD, List.getElem?_eq_none (by have := hg.n1; omega)] at hx; simp at hx
  have getl : ∀ v, ∀ x ∈ lk p.few4 v, v < f.few.vars.length := fun v x hx => by
    rcases Nat.lt_or_ge v f.few.vars.length with h | h
    · exact h
    · unfold lk at hx
      rw [List.getD_eq_getElem?_getD, List.getElem?_eq_none (by have := hg.n2; omega)] at hx; simp at hx
  refine ⟨fun v x hx => ?_, fun v x hx => ?_⟩
  · have hv := getn v x hx
    obtain ⟨k1, _⟩ := Vk.1 (hg.ok v hv).1
    obtain ⟨a1, a2, a3, a4, a5, a6, a7⟩ := k1 x hx
    refine ⟨a5, ?_, by omega⟩
    have h : v < p.few4.nodes.length := by rw [hg.n1]; exact hv
    unfold nd at hx
    rw [Y6 h] at hx
    obtain ⟨l, hl, e⟩ := List.mem_map.1 (show p.few4.nodes[v] ∈ (p.few.nodes.map (·.take 4)) from List.getElem_mem h)
    rw [← e] at hx
    obtain ⟨l2, _, rfl⟩ := List.mem_map.1 hl
    exact fewL_cost (List.mem_of_mem_take hx)
  · have hv := getl v x hx
    obtain ⟨k1, _⟩ := Vk.1 (hg.ok v hv).2.1
    obtain ⟨a1, a2, a3, a4, a5, a6, a7⟩ := k1 x hx
    refine ⟨a5, ?_, by omega⟩
    have h : v < p.few4.links.length := by rw [hg.n2]; exact hv
    unfold lk at hx
    rw [Y6 h] at hx
    obtain ⟨l, hl, e⟩ := List.mem_map.1 (show p.few4.links[v] ∈ ((p.links.take 8).map Zw) from List.getElem_mem h)
    rw [← e] at hx
    exact fewL_cost hx
theorem few_vars (f : Forest) : f.few.vars.length ≤ 8 := by
  show ((f.vars.take 8).map _).length ≤ 8
  rw [List.length_map, List.length_take]; omega
end Go.Proofs.YtcaeoebphfjfiaaGreat.Am


/- Rows as the document tells them. -/
namespace Go.Proofs.YtcaeoebphfjfiaaGreat.Am
open Go Go.RowKit
set_option maxRecDepth 100000
set_option linter.unusedVariables false
set_option linter.unusedSimpArgs false

def cmpZ : List Int → List Int → Int
  | x :: xs, y :: ys => if x < y then -1 else if y < x then 1 else cmpZ xs ys
  | _, _ => 0
theorem cmpZ_self : ∀ xs : List Int, cmpZ xs xs = 0
  | [] => rfl
  | x :: xs => by rw [cmpZ, if_neg (by omega), if_neg (by omega)]; exact cmpZ_self xs
theorem cmpZ_end {xs ys : List Int} (h : xs = [] ∨ ys = []) : cmpZ xs ys = 0 := by
  rcases h with rfl | rfl
  · cases ys <;> rfl
  · cases xs <;> rfl
theorem Cmp_raw (xs ys : List Int) (v u : Value) (H : Hp) (hs : Sl (Y3 .i64) H v xs) (hu : Sl (Y3 .i64) H u ys) (hl : xs.length ≤ 1000000000) (hl2 : ys.length ≤ 1000000000) :
    ACalls Tryz.prog 51 #[v, u] H (fun r _ => r = .int .i64 (cmpZ xs ys)) := by
  obtain ⟨A, c, rfl⟩ := hs.shape
  obtain ⟨B, c2, rfl⟩ := hu.shape
  refine Xw Tryz.func51 rfl rfl rfl (by simp) ?_
  refine Xf ?_
  refine Xb (by kernel_rfl) ?_
  refine Xa (Xn rfl) ?_
  refine Xf ?_
  refine Xf ?_
  refine Xb (by kernel_rfl) ?_
  refine Xa (Xn rfl) ?_
  refine Yc ?_
  refine Y2 (fun n t H' => ∃ i : Nat, i ≤ xs.length ∧ i ≤ ys.length ∧ n = xs.length - i ∧ H' = H ∧ cmpZ xs ys = cmpZ (xs.drop i) (ys.drop i) ∧ t 0 = .slice A xs.length c ∧ t 1 = .slice B ys.length c2 ∧ t 5 = .int .i64 i) (xs.length) (⟨0, by omega, by omega, rfl, rfl, rfl, rfl, rfl, rfl⟩) ?_
  rintro n t H ⟨i, hi, hi2, rfl, rfl, hor, e0, e1, e5⟩
  refine Xf ?_
  refine Xf ?_
  refine Xb (by kernel_rfl) ?_
  refine Xa (Xc Xl) ?_
  refine Xa (Xy Xl) ?_
  refine Xa (Ym rfl Tryz.underlying23) ?_
  refine Xa (Y0 rfl rfl) ?_
  refine Xa (Xq rfl) ?_
  refine Yb rfl rfl rfl ?_ ?_
  intro hg1
  have hx : i < xs.length := by have := of_decide_eq_true hg1; omega
  refine Xj (Xh rfl rfl rfl hg1) (Xc Xl) ?_
  refine Xj (Xh rfl rfl rfl hg1) (Xy Xl) ?_
  refine Xj (Xh rfl rfl rfl hg1) (Ym rfl Tryz.underlying23) ?_
  refine Xj (Xh rfl rfl rfl hg1) (Y0 rfl rfl) ?_
  refine Xa (Xm (congrArg Value.bool hg1) rfl) ?_
  refine X6 rfl rfl ?_ ?_
  intro hc2
  have hy : i < ys.length := by have := of_decide_eq_true hc2; omega
  have d1 : xs.drop i = xs[i] :: xs.drop (i + 1) := List.drop_eq_getElem_cons hx
  have d2 : ys.drop i = ys[i] :: ys.drop (i + 1) := List.drop_eq_getElem_cons hy
  rw [d1, d2, cmpZ] at hor
  refine X8 ?_
  refine Xf ?_
  refine Yc ?_
  refine Xf ?_
  refine Xf ?_
  obtain ⟨b, o, eb, hb, hcell⟩ := hs.int_at (i := (i : Int)) (by omega) (by omega)
  obtain ⟨b2, o2, eb2, hb2, hcell2⟩ := hu.int_at (i := (i : Int)) (by omega) (by omega)
  subst eb eb2
  rw [Int.toNat_natCast, Zd hx] at hcell
  rw [Int.toNat_natCast, Zd hy] at hcell2
  refine Yr (by kernel_rfl) (Yy (B := [0, 0, 3, 7, 0, 0, 48, 112, 255]) (π := [0, 1, 2, 3, 4, 5, 6, 7, 8]) (by kernel_rfl)) ?_
  refine Xd rfl rfl (Xy Xl) Xp ?_
  refine Xd rfl rfl (Xc Xl) Xp ?_
  refine Xd rfl rfl (Xs rfl rfl Tryz.underlying23 inf3.size X1 X1) Xp ?_
  refine Xd rfl rfl (Xk rfl Tryz.underlying3 rfl Xr) Xp ?_
  refine Xd rfl rfl (Xy Xl) Xp ?_
  refine Xd rfl rfl (Xc Xl) Xp ?_
  refine Xd rfl rfl (Xs rfl rfl Tryz.underlying23 inf3.size X1 X1) Xp ?_
  refine Xd rfl rfl (Xk rfl Tryz.underlying3 rfl Xr) Xp ?_
  refine Xd rfl rfl (Y0 rfl rfl) Xp ?_
  refine X6 rfl rfl ?_ ?_
  intro hc3
  have h1 : xs[i] < ys[i] := of_decide_eq_true hc3
  rw [if_pos h1] at hor
  refine Xf ?_
  refine Xb (by kernel_rfl) ?_
  refine Xa (Xn rfl) ?_
  refine X5 ?_
  exact ⟨.int .i64 (-1), Xx (Xv rfl), by rw [hor]⟩
  intro hc3
  have h1 : ¬ xs[i] < ys[i] := of_decide_eq_false hc3
  rw [if_neg h1] at hor
  refine X8 ?_
  refine Xf ?_
  refine Yr (by kernel_rfl) (Yy (B := [0, 0, 3, 7, 0, 0, 48, 112, 255]) (π := [0, 1, 2, 3, 4, 5, 6, 7, 8]) (by kernel_rfl)) ?_
  refine Xd rfl rfl (Xy Xl) Xp ?_
  refine Xd rfl rfl (Xc Xl) Xp ?_
  refine Xd rfl rfl (Xs rfl rfl Tryz.underlying23 inf3.size X1 X1) Xp ?_
  refine Xd rfl rfl (Xk rfl Tryz.underlying3 rfl Xr) Xp ?_
  refine Xd rfl rfl (Xy Xl) Xp ?_
  refine Xd rfl rfl (Xc Xl) Xp ?_
  refine Xd rfl rfl (Xs rfl rfl Tryz.underlying23 inf3.size X1 X1) Xp ?_
  refine Xd rfl rfl (Xk rfl Tryz.underlying3 rfl Xr) Xp ?_
  refine Xd rfl rfl (av_gt rfl rfl) Xp ?_
  refine X6 rfl rfl ?_ ?_
  intro hc4
  have h2 : ys[i] < xs[i] := of_decide_eq_true hc4
  rw [if_pos h2] at hor
  refine Xf ?_
  refine Xb (by kernel_rfl) ?_
  refine Xa (Xn rfl) ?_
  refine X5 ?_
  exact ⟨.int .i64 1, Xx (Xv rfl), by rw [hor]⟩
  intro hc4
  have h2 : ¬ ys[i] < xs[i] := of_decide_eq_false hc4
  rw [if_neg h2] at hor
  refine X8 ?_
  refine Xb (by kernel_rfl) ?_
  refine Xa (Xc Xl) ?_
  refine Xa (Yk rfl rfl Yu) ?_
  refine Xa (Xn rfl) ?_
  exact ⟨xs.length - (i + 1), by omega, i + 1, by omega, by omega, rfl, rfl, hor, e0, e1, rfl⟩
  intro hc2
  have hy : ¬ i < ys.length := by have := of_decide_eq_false hc2; omega
  refine Yq ?_
  refine Xf ?_
  refine Xb (by kernel_rfl) ?_
  refine Xa (Xn rfl) ?_
  refine X5 ?_
  have h0 : cmpZ (xs.drop i) (ys.drop i) = 0 := cmpZ_end (by
    first
      | exact .inl (List.drop_of_length_le (by omega))
      | exact .inr (List.drop_of_length_le (by omega)))
  exact ⟨.int .i64 0, Xx (Xv rfl), by rw [hor, h0]⟩
  intro hg1
  have hx : ¬ i < xs.length := by have := of_decide_eq_false hg1; omega
  refine Xe (Xi rfl rfl rfl hg1 rfl) ?_
  refine Xe (Xi rfl rfl rfl hg1 rfl) ?_
  refine Xe (Xi rfl rfl rfl hg1 rfl) ?_
  refine Xe (Xi rfl rfl rfl hg1 rfl) ?_
  refine Xa (Xm (congrArg Value.bool hg1) Xl) ?_
  refine Yt rfl rfl ?_
  refine Yq ?_
  refine Xf ?_
  refine Xb (by kernel_rfl) ?_
  refine Xa (Xn rfl) ?_
  refine X5 ?_
  have h0 : cmpZ (xs.drop i) (ys.drop i) = 0 := cmpZ_end (by
    first
      | exact .inl (List.drop_of_length_le (by omega))
      | exact .inr (List.drop_of_length_le (by omega)))
  exact ⟨.int .i64 0, Xx (Xv rfl), by rw [hor, h0]⟩
theorem Cmp_ints (xs ys : List Int) (v u : Value) (H : Hp) (hs : Sl (Y3 .i64) H v xs) (hu : Sl (Y3 .i64) H u ys) (hl : xs.length ≤ 1000000000) (hl2 : ys.length ≤ 1000000000) :
    ACalls Tryz.prog 51 #[v, u] H (fun r H' => r = .int .i64 (cmpZ xs ys) ∧ H' = H) :=
  ACalls.pure (fun v h => by rw [h]; rfl) (Cmp_raw xs ys v u H.ro (hs.mono H.sees_ro) (hu.mono H.sees_ro) hl hl2)
theorem SameRow_raw (ns : List Int) (cost m : Int) (A B : Option Addr) (c c2 : Nat) (H : Hp) (hs : Sl (Y3 .i64) H (.slice A ns.length c) ns) (hu : Sl (Y3 .i64) H (.slice B ns.length c2) ns) (hl : ns.length ≤ 1000000000) :
    ACalls Tryz.prog 16 #[.agg #[.slice A ns.length c, .int .i64 cost, .int .u64 m], .agg #[.slice B ns.length c2, .int .i64 cost, .int .u64 m]] H (fun r _ => r = .bool true) := by
  refine Xw Tryz.func16 rfl rfl rfl (by simp) ?_
  refine Xf ?_
  refine Xb (by kernel_rfl) ?_
  refine X4 (Yp rfl) ?_
  refine X4 (Yp rfl) ?_
  refine Xa (Xo rfl) ?_
  refine Xf ?_
  refine Xf ?_
  refine Xb (by kernel_rfl) ?_
  refine Xa (Xg (off := 1) rfl Tryz.underlying44 rfl inf3.size (by decide) rfl) ?_
  refine Xa (Xk rfl Tryz.underlying3 rfl Xr) ?_
  refine Xa (Xg (off := 1) rfl Tryz.underlying44 rfl inf3.size (by decide) rfl) ?_
  refine Xa (Xk rfl Tryz.underlying3 rfl Xr) ?_
  refine Xa (Zq rfl rfl) ?_
  refine Xa (Xq rfl) ?_
  refine Yb rfl rfl rfl ?_ ?_
  intro hg1
  (have h := hg1; simp at h)
  intro hg1
  have hp1 := hg1; try simp only [decide_eq_true_eq, decide_eq_false_iff_not, Bool.not_eq_true', Bool.not_eq_false'] at hp1
  refine Xj (Xh rfl rfl rfl hg1) (Xg (off := 2) rfl Tryz.underlying44 rfl inf42.size (by decide) rfl) ?_
  refine Xj (Xh rfl rfl rfl hg1) (Xk rfl Tryz.underlying42 rfl Xr) ?_
  refine Xj (Xh rfl rfl rfl hg1) (Xg (off := 2) rfl Tryz.underlying44 rfl inf42.size (by decide) rfl) ?_
  refine Xj (Xh rfl rfl rfl hg1) (Xk rfl Tryz.underlying42 rfl Xr) ?_
  refine Xj (Xh rfl rfl rfl hg1) (Zq rfl rfl) ?_
  refine Xa (Xm (congrArg Value.bool hg1) rfl) ?_
  refine Xa (Xq rfl) ?_
  refine Yb rfl rfl rfl ?_ ?_
  intro hg2
  (have h := hg2; simp at h)
  intro hg2
  have hp2 := hg2; try simp only [decide_eq_true_eq, decide_eq_false_iff_not, Bool.not_eq_true', Bool.not_eq_false'] at hp2
  refine Xj (Xh rfl rfl rfl hg2) (Xg (off := 0) rfl Tryz.underlying44 rfl inf23.size (by decide) rfl) ?_
  refine Xj (Xh rfl rfl rfl hg2) (Xk rfl Tryz.underlying23 rfl Xr) ?_
  refine Xj (Xh rfl rfl rfl hg2) (Ym rfl Tryz.underlying23) ?_
  refine Xj (Xh rfl rfl rfl hg2) (Xg (off := 0) rfl Tryz.underlying44 rfl inf23.size (by decide) rfl) ?_
  refine Xj (Xh rfl rfl rfl hg2) (Xk rfl Tryz.underlying23 rfl Xr) ?_
  refine Xj (Xh rfl rfl rfl hg2) (Ym rfl Tryz.underlying23) ?_
  refine Xj (Xh rfl rfl rfl hg2) (Zq rfl rfl) ?_
  refine Xa (Xm (congrArg Value.bool hg2) rfl) ?_
  refine X6 rfl rfl ?_ ?_
  intro hc3
  (have h := hc3; simp at h)
  intro hc3
  (try simp only [decide_eq_true_eq, decide_eq_false_iff_not, Bool.not_eq_true', Bool.not_eq_false'] at hc3)
  refine X8 ?_
  refine Xf ?_
  refine Xb (by kernel_rfl) ?_
  refine Xa (Xg (off := 0) rfl Tryz.underlying44 rfl inf23.size (by decide) rfl) ?_
  refine Xa (Xk rfl Tryz.underlying23 rfl Xr) ?_
  refine Xa (Xg (off := 0) rfl Tryz.underlying44 rfl inf23.size (by decide) rfl) ?_
  refine Xa (Xk rfl Tryz.underlying23 rfl Xr) ?_
  refine X3 (X2 (Cmp_ints ns ns _ _ _ (hs.mono Zj) (hu.mono Zj) hl hl) rfl Tryz.func51 rfl rfl rfl ?_)
  rintro v5 H5 ⟨rfl, rfl⟩; rw [cmpZ_self]
  refine Xa (Zy rfl rfl) ?_
  refine Xa (Xo rfl) ?_
  refine X5 ?_
  exact ⟨.bool true, Xx (Xv rfl), rfl⟩
theorem SameRow_true (ns : List Int) (cost m : Int) (A B : Option Addr) (c c2 : Nat) (H : Hp) (hs : Sl (Y3 .i64) H (.slice A ns.length c) ns) (hu : Sl (Y3 .i64) H (.slice B ns.length c2) ns) (hl : ns.length ≤ 1000000000) :
    ACalls Tryz.prog 16 #[.agg #[.slice A ns.length c, .int .i64 cost, .int .u64 m], .agg #[.slice B ns.length c2, .int .i64 cost, .int .u64 m]] H (fun r H' => r = .bool true ∧ H' = H) :=
  ACalls.pure (fun v h => by rw [h]; rfl) (SameRow_raw ns cost m A B c c2 H.ro (hs.mono H.sees_ro) (hu.mono H.sees_ro) hl)
theorem OfRow_ref (A : Option Addr) (n c : Nat) (cost m : Int) (H : Hp) :
    ACalls Tryz.prog 17 #[.agg #[.slice A n c, .int .i64 cost, .int .u64 m]] H (fun r H' => r = .agg #[.slice A n c, .int .i64 cost, .int .u64 m] ∧ H.le H') := by
  refine Xw Tryz.func17 rfl rfl rfl (by simp) ?_
  refine Xf ?_
  refine Xb (by kernel_rfl) ?_
  refine X4 (Yp rfl) ?_
  refine X4 (Y4 (l := [.slice none 0 0, .int .i64 0, .int .u64 0]) inf44.zero rfl (by decide)) ?_
  refine Xf ?_
  refine Xb (by kernel_rfl) ?_
  refine Xa (Xg (off := 0) rfl Tryz.underlying49 rfl inf23.size (by decide) rfl) ?_
  refine Xa (Xk rfl Tryz.underlying23 rfl Xr) ?_
  refine Xa (Xg (off := 1) rfl Tryz.underlying49 rfl inf3.size (by decide) rfl) ?_
  refine Xa (Xk rfl Tryz.underlying3 rfl Xr) ?_
  refine Xa (Xg (off := 2) rfl Tryz.underlying49 rfl inf42.size (by decide) rfl) ?_
  refine Xa (Xk rfl Tryz.underlying42 rfl Xr) ?_
  refine Xa (Y7 (pl := [(0, 1), (1, 1), (2, 1)]) (r := [.slice _ _ _, .int .i64 _, .int .u64 _]) Tryz.underlying44 inf44.zero (by decide) rfl rfl) ?_
  refine X3 (Yl (vs := [.slice _ _ _, .int .i64 _, .int .u64 _]) rfl rfl inf44.size Yg Yi rfl rfl ?_)
  refine X5 ?_
  · exact ⟨_, Xx (Ys Xl (Yo (cs := [_, _, _]) Tryz.underlying44 rfl inf44.size X9)), rfl, Hp.le_put_new (Hp.le_push' (H.le_push _) _) (by first | (simp; done) | (simp; omega) | omega) _⟩
theorem few31_raw (f : Forest) (p : Parts) (cs ds : List Value) (H : Hp) (hp : kForest.rep H f cs) (hq : kParts.rep H p ds) (hsm : Small f p) :
    ACalls Tryz.prog 10 #[.agg cs.toArray, .agg ds.toArray] H (fun r _ => ∃ b, r = .bool b ∧ (b = true ↔ GoodP f p ∧ f.vars.length < 5)) := by
  have hp0 := hp
  have hq0 := hq
  obtain ⟨v0, v1, v2, v3, v4, rfl, hs0, hs1, hs2, hs3, hs4⟩ := hp
  obtain ⟨A0, c0, rfl⟩ := hs0.shape
  obtain ⟨A1, c1, rfl⟩ := hs1.shape
  obtain ⟨A2, c2, rfl⟩ := hs2.shape
  obtain ⟨A3, c3, rfl⟩ := hs3.shape
  obtain ⟨A4, c4, rfl⟩ := hs4.shape
  obtain ⟨u0, u1, rfl, hn0, hn1⟩ := hq
  obtain ⟨B0, d0, rfl⟩ := hn0.shape
  obtain ⟨B1, d1, rfl⟩ := hn1.shape
  refine Xw Tryz.func10 rfl rfl rfl (by simp) ?_
  refine Xf ?_
  refine Xb (by kernel_rfl) ?_
  refine X4 (Yp rfl) ?_
  refine X4 (Yp rfl) ?_
  refine Xa (Xo rfl) ?_
  refine Xf ?_
  refine Xb (by kernel_rfl) ?_
  refine Xa (Yj (cs := [.slice _ _ _, .slice _ _ _, .slice _ _ _, .slice _ _ _, .slice _ _ _]) rfl Tryz.underlying26 rfl inf26.size X9) ?_
  refine Xa (Yj (cs := [.slice _ _ _, .slice _ _ _]) rfl Tryz.underlying29 rfl inf29.size X9) ?_
  refine X3 (X2 (GoodP_ref f p _ _ _ (kForest.mono Zj hp0) (kParts.mono Zj hq0) hsm) rfl Tryz.func23 rfl rfl rfl ?_)
  rintro v5 H5 ⟨⟨g, rfl, hg⟩, rfl⟩
  refine Xa (Xq rfl) ?_
  refine Yb rfl rfl rfl ?_ ?_
  intro hg1
  have hgt : g = true := hg1
  have hG := hg.1 hgt
  refine Xj (Xh rfl rfl rfl hg1) (Xg (off := 0) rfl Tryz.underlying26 rfl inf22.size (by decide) rfl) ?_
  refine Xj (Xh rfl rfl rfl hg1) (Xk rfl Tryz.underlying22 rfl Xr) ?_
  refine Xj (Xh rfl rfl rfl hg1) (Ym rfl Tryz.underlying22) ?_
  refine Xj (Xh rfl rfl rfl hg1) (Y0 rfl rfl) ?_
  refine Xa (Xm (congrArg Value.bool hg1) rfl) ?_
  refine Xa (Xo rfl) ?_
  refine X5 ?_
  refine ⟨_, Xx (Xv rfl), _, rfl, ?_⟩
  first
    | exact ⟨fun h => ⟨hG, by have := of_decide_eq_true h; omega⟩, fun h => decide_eq_true (by have := h.2; omega)⟩
    | exact ⟨fun h => (by cases h), fun h => (by have := hg.2 h.1; rw [hgf] at this; cases this)⟩
  intro hg1
  have hgf : g = false := hg1
  refine Xe (Xi rfl rfl rfl hg1 rfl) ?_
  refine Xe (Xi rfl rfl rfl hg1 rfl) ?_
  refine Xe (Xi rfl rfl rfl hg1 rfl) ?_
  refine Xe (Xi rfl rfl rfl hg1 rfl) ?_
  refine Xa (Xm (congrArg Value.bool hg1) rfl) ?_
  refine Xa (Xo rfl) ?_
  refine X5 ?_
  refine ⟨_, Xx (Xv rfl), _, rfl, ?_⟩
  first
    | exact ⟨fun h => ⟨hG, by have := of_decide_eq_true h; omega⟩, fun h => decide_eq_true (by have := h.2; omega)⟩
    | exact ⟨fun h => (by cases h), fun h => (by have := hg.2 h.1; rw [hgf] at this; cases this)⟩
theorem few31_ok (f : Forest) (p : Parts) (cs ds : List Value) (H : Hp) (hp : kForest.rep H f cs) (hq : kParts.rep H p ds) (hsm : Small f p) :
    ACalls Tryz.prog 10 #[.agg cs.toArray, .agg ds.toArray] H (fun r H' => (∃ b, r = .bool b ∧ (b = true ↔ GoodP f p ∧ f.vars.length < 5)) ∧ H' = H) :=
  ACalls.pure (fun v ⟨b, h, _⟩ => by rw [h]; rfl) (few31_raw f p cs ds H.ro (kForest.mono H.sees_ro hp) (kParts.mono H.sees_ro hq) hsm)
theorem rows_eq {T : TreeT} {r s : RowT} (h : r.nodes = s.nodes) (hr : V2 T r.nodes = some r) (hs : V2 T s.nodes = some s) : r = s := by
  rw [h, hs] at hr
  exact (Option.some.inj hr).symm
end Go.Proofs.YtcaeoebphfjfiaaGreat.Am


/- The statement EachSteps, as the abstract machine runs it. -/
namespace Go.Proofs.YtcaeoebphfjfiaaGreat.Am
open Go Go.RowKit
set_option maxRecDepth 100000
set_option linter.unusedVariables false
set_option linter.unusedSimpArgs false

theorem rows_map {T : TreeT} : ∀ {xs ys : List RowT}, xs.map RowT.nodes = ys.map RowT.nodes → (∀ r ∈ xs, V2 T r.nodes = some r) → (∀ r ∈ ys, V2 T r.nodes = some r) → xs = ys
  | [], [], _, _, _ => rfl
  | [], y :: ys, h, _, _ => by simp at h
  | x :: xs, [], h, _, _ => by simp at h
  | x :: xs, y :: ys, h, h1, h2 => by
    simp only [List.map_cons, List.cons.injEq] at h
    rw [rows_eq h.1 (h1 x (by simp)) (h2 y (by simp)), rows_map h.2 (fun r hr => h1 r (by simp [hr])) (fun r hr => h2 r (by simp [hr]))]
set_option maxHeartbeats 8000000 in
theorem EachSteps_ok (f : Forest) (p : Parts) (most : Int) (cs ds : List Value) (H : Hp) (hp : kForest.rep H f cs) (hq : kParts.rep H p ds) (hbf : BigF f) (hbp : BigP p) :
    ACalls Tryz.prog 3 #[.agg cs.toArray, .agg ds.toArray, .int .i64 most] H (fun r H' => r = .bool true ∧ H.le H') := by
  have hp0 := hp
  have hq0 := hq
  obtain ⟨v0, v1, v2, v3, v4, rfl, hs0, hs1, hs2, hs3, hs4⟩ := hp
  obtain ⟨A0, c0, rfl⟩ := hs0.shape
  obtain ⟨A1, c1, rfl⟩ := hs1.shape
  obtain ⟨A2, c2, rfl⟩ := hs2.shape
  obtain ⟨A3, c3, rfl⟩ := hs3.shape
  obtain ⟨A4, c4, rfl⟩ := hs4.shape
  obtain ⟨u0, u1, rfl, hn0, hn1⟩ := hq
  obtain ⟨B0, d0, rfl⟩ := hn0.shape
  obtain ⟨B1, d1, rfl⟩ := hn1.shape
  have hsm := small_few f p
  have hbq := bigP_few p
  have hbg := bigF_few f
  have hpp := few4_few4 p
  have hff := ffew_ffew f
  have htn : GoodP f.few p.few4 → f.few.vars.length < 6 → Tiny f.few p.few4 := tiny_few
  have hch : GoodP f.few p.few4 → Cheap p.few4 := cheap_few
  have hvar := few_vars f
  obtain ⟨F, hF⟩ : ∃ F, F = f.few := ⟨_, rfl⟩
  obtain ⟨Q, hQ⟩ : ∃ Q, Q = p.few4 := ⟨_, rfl⟩
  rw [← hF, ← hQ] at hsm htn hch
  rw [← hQ] at hpp hbq
  rw [← hF] at hff hbg hvar
  refine Xw Tryz.func3 rfl rfl rfl (by simp) ?_
  refine Xf ?_
  refine Xb (by kernel_rfl) ?_
  refine X4 (Yp rfl) ?_
  refine X4 (Yp rfl) ?_
  refine Xa (Xo rfl) ?_
  refine Xf ?_
  refine Yr (by kernel_rfl) (Yy (B := [0, 1, 0, 7, 15, 31]) (π := [0, 2, 1, 3, 4, 5]) (by kernel_rfl)) ?_
  refine Xd rfl rfl (Yj (cs := [.slice _ _ _, .slice _ _ _, .slice _ _ _, .slice _ _ _, .slice _ _ _]) rfl Tryz.underlying26 rfl inf26.size X9) Xp ?_
  refine Xd rfl rfl (Yj (cs := [.slice _ _ _, .slice _ _ _]) rfl Tryz.underlying29 rfl inf29.size X9) Xp ?_
  refine Yh rfl rfl (X2 (Forest_28 f _ _ (kForest.mono Zj hp0) hbf) rfl Tryz.func7 rfl rfl rfl ?_)
  rintro v5 H5 ⟨hle5, es, rfl, hes⟩; rw [← hF] at hes; have hf5 := hes; obtain ⟨a0, a1, a2, a3, a4, rfl, ht0, ht1, ht2, ht3, ht4⟩ := hes; obtain ⟨C0, k0, rfl⟩ := ht0.shape; obtain ⟨C1, k1, rfl⟩ := ht1.shape; obtain ⟨C2, k2, rfl⟩ := ht2.shape; obtain ⟨C3, k3, rfl⟩ := ht3.shape; obtain ⟨C4, k4, rfl⟩ := ht4.shape; have hz5 := hle5.1; simp only [Hp.push_size] at hz5
  refine ⟨Yf, ?_⟩
  refine Yh rfl rfl (X2 (Few4_parts p _ _ (kParts.mono Zj hq0) hbp.l0 hbp.l1 hbp.s0 hbp.s1) rfl Tryz.func8 rfl rfl rfl ?_)
  rintro v6 H6 ⟨hle6, es, rfl, hes⟩; rw [← hQ] at hes; have hq6 := hes; obtain ⟨b0, b1, rfl, hm0, hm1⟩ := hes; obtain ⟨D0, m0, rfl⟩ := hm0.shape; obtain ⟨D1, m1, rfl⟩ := hm1.shape; have hz6 := hle6.1; have hf6 := kForest.mono hle6.sees hf5; have h60 : H6.get H.size = .own 0 [.slice A0 f.vars.length c0, .slice A1 f.order.length c1, .slice A2 f.parent.length c2, .slice A3 f.links.length c3, .slice A4 f.loops.length c4] := Xt (Hp.le_trans hle5 hle6) (by simp <;> omega) (by intro e; cases e) Yg; have h61 : H6.get (H.size + 1) = .own 0 [.slice B0 p.nodes.length d0, .slice B1 p.links.length d1] := Xt (Hp.le_trans hle5 hle6) (by simp <;> omega) (by intro e; cases e) Yg
  refine ⟨Yf, ?_⟩
  refine Yh rfl rfl (Yl (vs := [.slice _ _ _, .slice _ _ _, .slice _ _ _, .slice _ _ _, .slice _ _ _]) rfl rfl inf26.size Yg Yi rfl rfl ?_)
  refine ⟨Yf, ?_⟩
  refine Yh rfl rfl (Yl (vs := [.slice _ _ _, .slice _ _ _]) rfl rfl inf29.size Yg Yi rfl rfl ?_)
  refine ⟨Yf, ?_⟩
  refine Xf ?_
  obtain ⟨HA, hHA⟩ : ∃ HA, HA = (H6.put H.size (.own 0 [.slice C0 F.vars.length k0, .slice C1 F.order.length k1, .slice C2 F.parent.length k2, .slice C3 F.links.length k3, .slice C4 F.loops.length k4])).put (H.size + 1) (.own 0 [.slice D0 Q.nodes.length m0, .slice D1 Q.links.length m1]) := ⟨_, rfl⟩
  have g5 : H6.sees (H6.put H.size (.own 0 [.slice C0 F.vars.length k0, .slice C1 F.order.length k1, .slice C2 F.parent.length k2, .slice C3 F.links.length k3, .slice C4 F.loops.length k4])) := Hp.sees_box _ h60
  have g6 : (H6.put H.size (.own 0 [.slice C0 F.vars.length k0, .slice C1 F.order.length k1, .slice C2 F.parent.length k2, .slice C3 F.links.length k3, .slice C4 F.loops.length k4])).sees HA := by rw [hHA]; exact Hp.sees_box _ (by rw [Hp.put_other _ _ (by omega)]; exact h61)
  have fA := kForest.mono (g5.trans g6) hf6
  have qA := kParts.mono (g5.trans g6) hq6
  have leA : H.le HA := by rw [hHA]; exact Hp.le_put_new (Hp.le_put_new (Hp.le_trans (Hp.le_trans (Hp.le_push' (H.le_push _) _) hle5) hle6) (by omega) _) (by omega) _
  have zA : H.size + 2 ≤ HA.size := by rw [hHA]; simp; omega
  have A0' : HA.get H.size = .own 0 [.slice C0 F.vars.length k0, .slice C1 F.order.length k1, .slice C2 F.parent.length k2, .slice C3 F.links.length k3, .slice C4 F.loops.length k4] := by rw [hHA, Hp.put_other _ _ (by omega)]; exact Hp.put_same _ _ _
  have A1' : HA.get (H.size + 1) = .own 0 [.slice D0 Q.nodes.length m0, .slice D1 Q.links.length m1] := by rw [hHA]; exact Hp.put_same _ _ _
  change ACode true _ _ _ _ _ ((H6.put H.size (.own 0 [.slice C0 F.vars.length k0, .slice C1 F.order.length k1, .slice C2 F.parent.length k2, .slice C3 F.links.length k3, .slice C4 F.loops.length k4])).put (H.size + 1) (.own 0 [.slice D0 Q.nodes.length m0, .slice D1 Q.links.length m1]))
  rw [← hHA]
  clear hHA g5 g6 h60 h61 hf6 hq6 hle5 hle6 hz5 hz6 hf5
  refine Yr (by kernel_rfl) (Yy (B := [0, 1, 0, 7, 15, 31, 63, 63, 127, 511]) (π := [0, 2, 1, 3, 4, 5, 6, 7, 8, 9]) (by kernel_rfl)) ?_
  refine Xd rfl rfl (Yj (cs := [.slice _ _ _, .slice _ _ _, .slice _ _ _, .slice _ _ _, .slice _ _ _]) rfl Tryz.underlying26 rfl inf26.size X9) Xp ?_
  refine Xd rfl rfl (Yj (cs := [.slice _ _ _, .slice _ _ _]) rfl Tryz.underlying29 rfl inf29.size X9) Xp ?_
  refine Yh rfl rfl (X2 (Forest_28 F _ _ fA hbg) rfl Tryz.func7 rfl rfl rfl ?_)
  rintro v8 H8 ⟨hle8, es, rfl, hes⟩; rw [hff] at hes; have f8 := hes; obtain ⟨a5, a6, a7, a8, a9, rfl, hu0, hu1, hu2, hu3, hu4⟩ := hes; obtain ⟨E1, l1, rfl⟩ := hu0.shape; obtain ⟨E2, l2, rfl⟩ := hu1.shape; obtain ⟨E3, l3, rfl⟩ := hu2.shape; obtain ⟨E4, l4, rfl⟩ := hu3.shape; obtain ⟨E5, l5, rfl⟩ := hu4.shape
  refine ⟨Yf, ?_⟩
  refine Yh rfl rfl (X2 (Few4_parts Q _ _ (kParts.mono hle8.sees qA) hbq.l0 hbq.l1 hbq.s0 hbq.s1) rfl Tryz.func8 rfl rfl rfl ?_)
  rintro v9 H9 ⟨hle9, es, rfl, hes⟩; rw [hpp] at hes; have q9 := hes; obtain ⟨b2, b3, rfl, hm2, hm3⟩ := hes; obtain ⟨D2, m2, rfl⟩ := hm2.shape; obtain ⟨D3, m3, rfl⟩ := hm3.shape
  refine ⟨Yf, ?_⟩
  refine Yh rfl rfl (X2 (New_tree F Q _ _ _ (kForest.mono hle9.sees f8) q9 hsm hch) rfl Tryz.func9 rfl rfl rfl ?_)
  rintro v10 HB ⟨hle10, g, tv, hg, rfl, htv⟩
  refine ⟨Yf, ?_⟩
  refine Xd rfl rfl (Zt rfl) Xp ?_
  refine Xd rfl rfl (Yw rfl rfl) Xp ?_
  refine Xd rfl rfl (Yw rfl rfl) Xp ?_
  refine Xd rfl rfl (Z7 rfl) Xp ?_
  refine Xd rfl rfl (Xn rfl) Xp ?_
  refine Xf ?_
  refine Xf ?_
  have leAB := Hp.le_trans hle8 (Hp.le_trans hle9 hle10)
  have leB := Hp.le_trans leA leAB
  have zAB := leAB.1
  have fB := kForest.mono leAB.sees fA
  have qB := kParts.mono leAB.sees qA
  have B0' := Xt leAB (by omega) (by intro e; cases e) A0'
  have B1' := Xt leAB (by omega) (by intro e; cases e) A1'
  clear hle8 hle9 hle10 f8 q9 hm2 hm3 hu0 hu1 hu2 hu3 hu4
  refine Xb (by kernel_rfl) ?_
  refine Xa (Yj (cs := [.slice _ _ _, .slice _ _ _, .slice _ _ _, .slice _ _ _, .slice _ _ _]) rfl Tryz.underlying26 rfl inf26.size X9) ?_
  refine Xa (Yj (cs := [.slice _ _ _, .slice _ _ _]) rfl Tryz.underlying29 rfl inf29.size X9) ?_
  refine X3 (X2 (few31_ok F Q _ _ _ fB qB hsm) rfl Tryz.func10 rfl rfl rfl ?_)
  rintro v13 HB ⟨⟨bf, rfl, hbf2⟩, rfl⟩
  refine Xa (Zs rfl) ?_
  refine X6 rfl rfl ?_ ?_
  intro hc1
  obtain rfl : bf = false := by simpa using hc1
  have hbad : ¬ (GoodP F Q ∧ F.vars.length < 5) := fun h => by have := hbf2.2 h; cases this
  refine Xf ?_
  refine Xb (by kernel_rfl) ?_
  refine Xa (Xc rfl) ?_
  refine Xa (Zq rfl rfl) ?_
  refine Xa (Xq rfl) ?_
  refine Yb rfl rfl rfl ?_ ?_
  intro hg2
  have hgf : True := trivial
  refine Xe (Xi rfl rfl rfl hg2 rfl) ?_
  refine Xe (Xi rfl rfl rfl hg2 rfl) ?_
  refine Xe (Xi rfl rfl rfl hg2 rfl) ?_
  refine Xe (Xi rfl rfl rfl hg2 rfl) ?_
  refine Xa (Xm (congrArg Value.bool hg2) rfl) ?_
  refine Xa (Xq rfl) ?_
  refine Z0 (Xh rfl rfl rfl rfl) (X2 (lives31_ok _) rfl Tryz.func11 rfl rfl rfl ?_)
  rintro v H' ⟨rfl, hlv⟩
  refine Xa (Xm (congrArg Value.bool rfl) rfl) ?_
  refine Xa (Xo rfl) ?_
  refine X5 ?_
  exact ⟨.bool true, Xx (Xv rfl), rfl, Hp.le_trans leB hlv⟩
  intro hg2
  have hgt : g = true := by cases g with | true => rfl | false => exact absurd hg2 (by simp)
  have hmany : ¬ F.vars.length < 5 := fun h => hbad ⟨hg.1 hgt, h⟩
  refine Xj (Xh rfl rfl rfl hg2) (Xg (off := 0) rfl Tryz.underlying26 rfl inf22.size (by decide) rfl) ?_
  refine Xj (Xh rfl rfl rfl hg2) (Xk rfl Tryz.underlying22 rfl Xr) ?_
  refine Xj (Xh rfl rfl rfl hg2) (Ym rfl Tryz.underlying22) ?_
  refine Xj (Xh rfl rfl rfl hg2) (av_gt rfl rfl) ?_
  refine Xa (Xm (congrArg Value.bool hg2) rfl) ?_
  refine Xa (Xq rfl) ?_
  refine Yb rfl rfl rfl ?_ ?_
  intro hg3
  have hp3 := hg3; try simp only [decide_eq_true_eq, decide_eq_false_iff_not, Bool.not_eq_true', Bool.not_eq_false'] at hp3
  refine Z0 (Xh rfl rfl rfl hg3) (X2 (lives31_ok _) rfl Tryz.func11 rfl rfl rfl ?_)
  rintro v H' ⟨rfl, hlv⟩
  refine Xa (Xm (congrArg Value.bool hg3) rfl) ?_
  refine Xa (Xo rfl) ?_
  refine X5 ?_
  exact ⟨.bool true, Xx (Xv rfl), rfl, Hp.le_trans leB hlv⟩
  intro hg3
  (have h := of_decide_eq_false hg3; omega)
  intro hc1
  obtain rfl : bf = true := by simpa using hc1
  obtain ⟨hG, hfive⟩ := hbf2.1 rfl
  obtain rfl : g = true := hg.2 hG
  rw [if_pos rfl] at htv
  obtain ⟨tb, _, _, _, _, _, etv, _⟩ := id htv
  subst etv
  have ht := htn hG (by omega)
  obtain ⟨k1', k2', k3', k4'⟩ := ofP_all hG
  have hX := ofP_good hG
  have hsx := small_sub hsm k1' k2'
  have hT := good_tree hX hsx ((hch hG).sub k2') (by omega)
  have hA := alive_tree hG
  obtain ⟨hrm, hrr⟩ := rows_ext hG
  have hol : F.order.length = F.vars.length := hG.gf.l1
  obtain ⟨tl1, tl2, tl3⟩ := Vy (f := F) (ofP F Q)
  have hrl : (V5 F Q).length ≤ 256 := Nat.le_trans (rowsK_len ht F.order.length) (Nat.pow_le_pow_right (by omega) (by omega : F.order.length ≤ 4))
  have hrn : ∀ r ∈ V5 F Q, r.nodes.length = F.vars.length := fun r hr => by have := rows_len (f := F) (p := Q) F.order.length r hr; omega
  obtain ⟨T, hTe⟩ : ∃ T, T = Y8 F (ofP F Q) := ⟨_, rfl⟩
  rw [← hTe] at htv hT hA hrm tl1 tl2 tl3
  simp only [← hTe] at hrr
  obtain ⟨rows, hrows⟩ : ∃ rows, rows = V5 F Q := ⟨_, rfl⟩
  rw [← hrows] at hrm hrl
  simp only [← hrows] at hrr hrn
  have hvl : T.vars.length = F.vars.length := tl1.trans hol
  have hrest0 : Zo T w0 = rows.map RowT.nodes := by
    rw [hrm, ← hvl]
    show extN T (T.vars.length - 0) [] ++ [] = _
    rw [List.append_nil, Nat.sub_zero]
  refine X8 ?_
  refine Xf ?_
  refine Xb (by kernel_rfl) ?_
  refine Xa (Yj (cs := [.slice _ _ _, .slice _ _ _, .slice _ _ _, .slice _ _ _, .slice _ _ _]) rfl Tryz.underlying26 rfl inf26.size X9) ?_
  refine Xa (Yj (cs := [.slice _ _ _, .slice _ _ _]) rfl Tryz.underlying29 rfl inf29.size X9) ?_
  refine X3 (X2 (Rows_ref F Q _ _ _ fB qB hG hsm ht) rfl Tryz.func12 rfl rfl rfl ?_)
  rintro v18 HR ⟨hleR, hrR⟩; rw [← hrows] at hrR; obtain ⟨D8, m8, rfl⟩ := hrR.shape; have zR := hleR.1; have trR := htv.mono hleR; have leHR := Hp.le_trans leB hleR
  refine Xa (Xz rfl) ?_
  refine X3 (X2 (New_walk tb _) rfl Tryz.func13 rfl rfl rfl ?_)
  rintro v19 HW ⟨rfl, hleW, hW⟩; have zW := hleW.1
  refine Xa (X7 rfl) ?_
  refine Xa (Zi rfl) ?_
  refine Xa (Xn rfl) ?_
  refine Xf ?_
  refine Xf ?_
  refine Xb (by kernel_rfl) ?_
  refine Xa (Xz rfl) ?_
  refine Xa (Z4 rfl t_spot rfl Tryz.underlying40) ?_
  refine X6 rfl rfl ?_ ?_
  intro hc4
  cases hc4
  intro hc4
  (try simp only [decide_eq_true_eq, decide_eq_false_iff_not, Bool.not_eq_true', Bool.not_eq_false'] at hc4)
  refine X8 ?_
  refine Xf ?_
  refine Xf ?_
  refine Xb (by kernel_rfl) ?_
  refine Xa (Xn rfl) ?_
  refine Yc ?_
  refine Y2 (fun n t H' => ∃ (i k : Nat) (G : Hp) (S : Zk) (D : Option Addr), n = 12000 - i ∧ k ≤ rows.length ∧ HR.le G ∧ Zu G H' HR.size (.pointer (some ⟨tb, 0, none⟩)) S ∧ ValS T S ∧ Zo T S = (rows.drop k).map RowT.nodes ∧ S.steps = i ∧ i + phi T S + 10 * (rows.length - k) ≤ 2570 ∧ Sl kRow HR (.slice D rows.length m8) rows ∧ t 2 = .int .i64 most ∧ t 7 = .pointer (some ⟨tb, 0, none⟩) ∧ t 9 = .slice D rows.length m8 ∧ t 10 = .pointer (some ⟨HR.size, 0, none⟩) ∧ t 11 = .int .i64 k ∧ t 12 = .int .i64 i) (12000) (⟨0, 0, HW, w0, _, by omega, by omega, hleW, hW, val_w0 T, by rw [hrest0]; rfl, by rfl, by have := phi_le (val_w0 T).len; omega, hrR, rfl, rfl, rfl, rfl, rfl, rfl⟩) ?_
  rintro n t H1 ⟨i, k, G, S, D, rfl, hk, leG, hWS, hv, hrest, hst, hpot, hrD, e2, e7, e9, e10, e11, e12⟩
  have trG := trR.mono leG
  have hph := phi_le hv.len
  have htell := step_tells hT hv
  obtain ⟨S2, hS2⟩ : ∃ S2, S2 = (Z8 T S).1 := ⟨_, rfl⟩
  obtain ⟨o, ho⟩ : ∃ o, o = (Z8 T S).2 := ⟨_, rfl⟩
  have hstp := fun h => step_steps (T := T) (S := S) h
  have hsph := fun h h2 => step_phi hA hv h hT h2
  rw [← hS2, ← ho] at htell
  rw [← hS2] at hstp
  rw [← hS2, ← ho] at hsph
  obtain ⟨_, _, _, _, hownS⟩ := id hWS
  have leH1 := Hp.le_trans leG hownS.le
  have hsome : o.isSome = true → k < rows.length ∧ o = rows[k]? ∧ Zo T S2 = (rows.drop (k + 1)).map RowT.nodes := fun h => by
    obtain ⟨r, rfl⟩ := Option.isSome_iff_exists.1 h
    have h1 : Zo T S = r.nodes :: Zo T S2 ∧ V2 T r.nodes = some r := htell.2
    rw [hrest] at h1
    have hkx : k < rows.length := by
      rcases Nat.lt_or_ge k rows.length with h2 | h2
      · exact h2
      · rw [List.drop_of_length_le h2] at h1; exact absurd h1.1 (by simp)
    rw [List.drop_eq_getElem_cons hkx, List.map_cons, List.cons.injEq] at h1
    refine ⟨hkx, ?_, h1.1.2.symm⟩
    rw [List.getElem?_eq_getElem hkx, rows_eq h1.1.1 (hrr _ (List.getElem_mem hkx)) h1.2]
  have e2 := e2; have e7 := e7; have e9 := e9; have e10 := e10; have e11 := e11; have e12 := e12
  refine Xf ?_
  refine Xf ?_
  refine Xb (by kernel_rfl) ?_
  refine Xa (Xc Xl) ?_
  refine Xa (Y0 rfl rfl) ?_
  refine Xa (Xq rfl) ?_
  refine Yb rfl rfl rfl ?_ ?_
  intro hg5
  have hp5 := hg5; try simp only [decide_eq_true_eq, decide_eq_false_iff_not, Bool.not_eq_true', Bool.not_eq_false'] at hp5
  refine Xj (Xh rfl rfl rfl hg5) (Xz Xl) ?_
  refine Z0 (Xh rfl rfl rfl hg5) (X2 (Over_walk hWS) rfl Tryz.func14 rfl rfl rfl ?_)
  rintro v20 H1 ⟨rfl, rfl⟩
  refine Xj (Xh rfl rfl rfl hg5) (Zs rfl) ?_
  refine Xa (Xm (congrArg Value.bool hg5) rfl) ?_
  refine X6 rfl rfl ?_ ?_
  intro hc6
  have hno : S.over = false := by have h := hc6; simpa using h
  have hstp := hstp hno
  have hsph := hsph hno
  refine X8 ?_
  refine Xf ?_
  refine Yc ?_
  refine Xf ?_
  refine Xb (by kernel_rfl) ?_
  refine Xa (Xz Xl) ?_
  refine X3 (X2 (Step_walk hT hWS (fun _ => trG) hv.len (by omega) (by omega) ⟨_, rfl⟩) rfl Tryz.func15 rfl rfl rfl ?_)
  rintro v21 H2 ⟨G2, aw2, hW2, A2', k2'', rfl, sl2⟩; rw [← hS2] at hW2; rw [← ho] at sl2; rw [← ho]
  refine Xa (Zt rfl) ?_
  refine Xa (Yw rfl rfl) ?_
  refine Xa (Yw rfl rfl) ?_
  refine X4 (Y4 (l := [.slice none 0 0, .int .i64 0, .int .u64 0]) inf44.zero rfl (by decide)) ?_
  refine X3 (Yl (vs := [.slice _ _ _, .int .i64 _, .int .u64 _]) rfl rfl inf44.size Yg Yi rfl rfl ?_)
  refine Xa (Xo rfl) ?_
  refine Xf ?_
  refine Xf ?_
  refine ac_cut (fun t H' => ∃ G', HR.le G' ∧ Zu G' H' HR.size (.pointer (some ⟨tb, 0, none⟩)) S2 ∧ t 2 = .int .i64 most ∧ t 7 = .pointer (some ⟨tb, 0, none⟩) ∧ t 9 = .slice D rows.length m8 ∧ t 10 = .pointer (some ⟨HR.size, 0, none⟩) ∧ t 11 = .int .i64 k ∧ t 12 = .int .i64 i ∧ t 14 = .bool o.isSome ∧ t 104 = .bool false) ?_ ?_
  obtain ⟨B2, c2', hwb2, gw2, hown2⟩ := id hW2
  have leG2 : HR.le G2 := aw2.base leG (Nat.le_refl _)
  have zz2 := hown2.size
  obtain ⟨H3, hH3⟩ : ∃ H3, H3 = (H2.push (.own 0 [.slice none 0 0, .int .i64 0, .int .u64 0])).put H2.size (.own 0 [.slice A2' (V3 o).length k2'', .int .i64 (rowC o), .int .u64 (rowM o)]) := ⟨_, rfl⟩
  obtain ⟨G3, hG3⟩ : ∃ G3, G3 = (G2.push (.own 0 [.slice none 0 0, .int .i64 0, .int .u64 0])).put H2.size (.own 0 [.slice A2' (V3 o).length k2'', .int .i64 (rowC o), .int .u64 (rowM o)]) := ⟨_, rfl⟩
  have hown3 := hown2.boxed [.slice none 0 0, .int .i64 0, .int .u64 0] [.slice A2' (V3 o).length k2'', .int .i64 (rowC o), .int .u64 (rowM o)]
  rw [← hH3, ← hG3] at hown3
  have leG23 : G2.le G3 := by rw [hG3]; exact Hp.le_put_new (G2.le_push _) (by omega) _
  have leG3 := Hp.le_trans leG2 leG23
  have hW3 : Zu G3 H3 HR.size (.pointer (some ⟨tb, 0, none⟩)) S2 := ⟨B2, c2', Nat.lt_of_lt_of_le hwb2 leG23.1, Xt leG23 hwb2 (by intro e; cases e) gw2, hown3⟩
  have hr3 : H3.get H2.size = .own 0 [.slice A2' (V3 o).length k2'', .int .i64 (rowC o), .int .u64 (rowM o)] := by rw [hH3]; exact Hp.put_same _ _ _
  have z3 : H3.size = H2.size + 1 := by rw [hH3]; simp
  change ACode true _ _ _ _ _ ((H2.push (.own 0 [.slice none 0 0, .int .i64 0, .int .u64 0])).put H2.size (.own 0 [.slice A2' (V3 o).length k2'', .int .i64 (rowC o), .int .u64 (rowM o)]))
  rw [← hH3]
  clear hH3 hG3
  have leR3 := Hp.le_trans leG3 hown3.le
  have sl3 := (sl2.mono leG23.sees).mono hown3.le.sees
  have e2 := e2; have e7 := e7; have e9 := e9; have e10 := e10; have e11 := e11; have e12 := e12
  refine Yr (by kernel_rfl) (Yy (B := [0, 1, 3, 3, 11, 31, 63, 127, 127, 127, 895, 1919, 3967, 8191, 16383, 32767, 65535, 131071, 262143, 524287, 1048575, 2097151, 4194303, 8388607, 16777215, 33554431, 67108863, 134217727, 268435455, 536870911, 1073741823, 2147483647, 4294967295, 8589934591, 17179869183, 8589934591, 42949672959, 137438953471, 274877906943]) (π := [0, 1, 2, 3, 4, 5, 6, 7, 8, 9, 10, 11, 12, 13, 14, 15, 16, 17, 18, 19, 20, 21, 22, 23, 24, 25, 26, 27, 28, 29, 30, 31, 32, 33, 35, 36, 34, 37, 38]) (by kernel_rfl)) ?_
  refine Xd rfl rfl (Xq rfl) Xp ?_
  refine Xd rfl rfl (Xq rfl) Xp ?_
  refine Zm rfl rfl rfl rfl ?_ ?_
  intro hg7
  have hos : o.isSome = true := hg7
  obtain ⟨hkx, hok, _⟩ := hsome hos
  obtain ⟨bD, oD, wD, eD, hbD, hcD, hwD⟩ := (hrD.mono leR3.sees).row_at hkx
  subst eD
  obtain ⟨r, hrd⟩ : ∃ r, r = rows[k] := ⟨_, rfl⟩
  rw [← hrd] at hcD hwD
  have hok : o = some r := by rw [hok, List.getElem?_eq_getElem hkx, hrd]
  subst hok
  have hrlen := hrn r (by rw [hrd]; exact List.getElem_mem hkx)
  obtain ⟨AD, cD, rfl⟩ := hwD.shape
  have e2 := e2; have e7 := e7; have e9 := e9; have e10 := e10; have e11 := e11; have e12 := e12
  refine Ya rfl (Xh rfl rfl rfl hg7) rfl (Xc Xl) Xp ?_
  refine Ya rfl (Xh rfl rfl rfl hg7) rfl (Xy Xl) Xp ?_
  refine Ya rfl (Xh rfl rfl rfl hg7) rfl (Ym rfl Tryz.underlying38) Xp ?_
  refine Ya rfl (Xh rfl rfl rfl hg7) rfl (av_ge rfl rfl) Xp ?_
  refine Ya rfl (Xh rfl rfl rfl hg7) rfl (Xq rfl) Xp ?_
  refine Zm rfl rfl rfl rfl ?_ ?_
  intro hg8
  (have h := of_decide_eq_true hg8; omega)
  intro hg8
  have hp8 := hg8; try simp only [decide_eq_true_eq, decide_eq_false_iff_not, Bool.not_eq_true', Bool.not_eq_false'] at hp8
  refine Ya rfl (Xh rfl rfl rfl hg8) rfl (Yj (cs := [.slice _ _ _, .int .i64 _, .int .u64 _]) rfl Tryz.underlying44 rfl inf44.size X9) Xp ?_
  refine Ya rfl (Xh rfl rfl rfl hg8) rfl (Xy Xl) Xp ?_
  refine Ya rfl (Xh rfl rfl rfl hg8) rfl (Xc Xl) Xp ?_
  refine Ya rfl (Xh rfl rfl rfl hg8) rfl (Xs rfl rfl Tryz.underlying38 inf49.size X1 X1) Xp ?_
  refine Ya rfl (Xh rfl rfl rfl hg8) rfl (Yj (cs := [.slice _ _ _, .int .i64 _, .int .u64 _]) rfl Tryz.underlying49 rfl inf49.size X9) Xp ?_
  refine adr_wop rfl (Xh rfl rfl rfl hg8) rfl (X2 (OfRow_ref _ _ _ _ _ _) rfl Tryz.func17 rfl rfl rfl ?_)
  rintro v22 H4 ⟨rfl, hle4⟩; have zL := hle4.1; have h43 := Xt hle4 (by omega) (by intro e; cases e) hr3
  refine ⟨Yf, ?_⟩
  refine adr_wop rfl (Xh rfl rfl rfl hg8) rfl (X2 (SameRow_true r.nodes r.cost r.n A2' AD k2'' cD _ (sl3.mono hle4.sees) (hwD.mono hle4.sees) (by omega)) rfl Tryz.func16 rfl rfl rfl ?_)
  rintro v23 H4 ⟨rfl, rfl⟩; obtain ⟨G4, leG34, hown4⟩ := hown3.later hle4; have leG4 := Hp.le_trans leG3 leG34; have hW4 : Zu G4 H4 HR.size (.pointer (some ⟨tb, 0, none⟩)) S2 := ⟨B2, c2', Nat.lt_of_lt_of_le (Nat.lt_of_lt_of_le hwb2 leG23.1) leG34.1, Xt leG34 (Nat.lt_of_lt_of_le hwb2 leG23.1) (by intro e; cases e) (Xt leG23 hwb2 (by intro e; cases e) gw2), hown4⟩
  refine ⟨Yf, ?_⟩
  refine Ya rfl (Xh rfl rfl rfl hg8) rfl (Zs rfl) Xp ?_
  refine Ya rfl (Xh rfl rfl rfl hg7) rfl (Xm (congrArg Value.bool hg8) rfl) Xp ?_
  refine Xd rfl rfl (Xm (congrArg Value.bool hg7) rfl) Xp ?_
  refine Xd rfl rfl (Xq rfl) Xp ?_
  refine Zm rfl rfl rfl rfl ?_ ?_
  intro hg9
  (have h := hg9; simp at h)
  intro hg9
  have hp9 := hg9; try simp only [decide_eq_true_eq, decide_eq_false_iff_not, Bool.not_eq_true', Bool.not_eq_false'] at hp9
  refine Ya rfl (Xh rfl rfl rfl hg9) rfl (Xq rfl) Xp ?_
  refine Ya rfl (Xh rfl rfl rfl hg9) rfl (Zs rfl) Xp ?_
  refine Ya rfl (Xh rfl rfl rfl hg9) rfl (Xq rfl) Xp ?_
  refine Zm rfl rfl rfl rfl ?_ ?_
  intro hg10
  (have h := hg10; simp at h)
  intro hg10
  have hp10 := hg10; try simp only [decide_eq_true_eq, decide_eq_false_iff_not, Bool.not_eq_true', Bool.not_eq_false'] at hp10
  refine Xu rfl (Xi rfl rfl rfl hg10 rfl) ?_
  refine Xu rfl (Xi rfl rfl rfl hg10 rfl) ?_
  refine Xu rfl (Xi rfl rfl rfl hg10 rfl) ?_
  refine Xu rfl (Xi rfl rfl rfl hg10 rfl) ?_
  refine Xu rfl (Xi rfl rfl rfl hg10 rfl) ?_
  refine Xu rfl (X0 rfl rfl rfl) ?_
  refine Xu rfl (X0 rfl rfl rfl) ?_
  refine Xu rfl (X0 rfl rfl rfl) ?_
  refine Xu rfl (Xi rfl rfl rfl hg10 rfl) ?_
  refine Ya rfl (Xh rfl rfl rfl hg9) rfl (Xm (congrArg Value.bool hg10) Xl) Xp ?_
  refine Xd rfl rfl (Xm (congrArg Value.bool hg9) rfl) Xp ?_
  refine Xd rfl rfl (Xq rfl) Xp ?_
  refine Ya rfl (Xh rfl rfl rfl rfl) rfl (Xz Xl) Xp ?_
  refine Ya rfl (Xh rfl rfl rfl rfl) rfl (Xc Xl) Xp ?_
  refine Ya rfl (Xh rfl rfl rfl rfl) rfl (Yk rfl rfl Yu) Xp ?_
  refine adr_wop rfl (Xh rfl rfl rfl rfl) rfl (X2 (Steps_walk hW4) rfl Tryz.func18 rfl rfl rfl ?_)
  rintro v24 H5 ⟨rfl, rfl⟩
  refine ⟨Yf, ?_⟩
  refine Ya rfl (Xh rfl rfl rfl rfl) rfl (Zq rfl rfl) Xp ?_
  refine Xd rfl rfl (Xm (congrArg Value.bool rfl) rfl) Xp ?_
  exact ⟨_, leG4, hW4, e2, e7, e9, e10, e11, e12, rfl, congrArg Value.bool (decide_eq_false (fun h => h (by omega)))⟩
  intro hg7
  have hos : o.isSome = false := hg7
  have hon : o = none := by cases o with | none => rfl | some r => cases hos
  have hW4 := hW3
  have leG4 := leG3
  have e2 := e2; have e7 := e7; have e9 := e9; have e10 := e10; have e11 := e11; have e12 := e12
  refine Xu rfl (Xi rfl rfl rfl hg7 rfl) ?_
  refine Xu rfl (Xi rfl rfl rfl hg7 rfl) ?_
  refine Xu rfl (Xi rfl rfl rfl hg7 rfl) ?_
  refine Xu rfl (Xi rfl rfl rfl hg7 rfl) ?_
  refine Xu rfl (Xi rfl rfl rfl hg7 rfl) ?_
  refine Xu rfl (X0 rfl rfl rfl) ?_
  refine Xu rfl (X0 rfl rfl rfl) ?_
  refine Xu rfl (X0 rfl rfl rfl) ?_
  refine Xu rfl (X0 rfl rfl rfl) ?_
  refine Xu rfl (X0 rfl rfl rfl) ?_
  refine Xu rfl (X0 rfl rfl rfl) ?_
  refine Xu rfl (X0 rfl rfl rfl) ?_
  refine Xu rfl (X0 rfl rfl rfl) ?_
  refine Xu rfl (Xi rfl rfl rfl hg7 rfl) ?_
  refine Xd rfl rfl (Xm (congrArg Value.bool hg7) Xl) Xp ?_
  refine Xd rfl rfl (Xq rfl) Xp ?_
  refine Ya rfl (Xh rfl rfl rfl rfl) rfl (Xq rfl) Xp ?_
  refine Ya rfl (Xh rfl rfl rfl rfl) rfl (Zs rfl) Xp ?_
  refine Ya rfl (Xh rfl rfl rfl rfl) rfl (Xq rfl) Xp ?_
  refine Zm rfl rfl rfl rfl ?_ ?_
  intro hg11
  have hp11 := hg11; try simp only [decide_eq_true_eq, decide_eq_false_iff_not, Bool.not_eq_true', Bool.not_eq_false'] at hp11
  refine Ya rfl (Xh rfl rfl rfl hg11) rfl (Xg (off := 0) rfl Tryz.underlying44 rfl inf23.size (by decide) rfl) Xp ?_
  refine Ya rfl (Xh rfl rfl rfl hg11) rfl (Xk rfl Tryz.underlying23 rfl Xr) Xp ?_
  refine Ya rfl (Xh rfl rfl rfl hg11) rfl (Ym rfl Tryz.underlying23) Xp ?_
  refine Ya rfl (Xh rfl rfl rfl hg11) rfl (av_gt rfl rfl) Xp ?_
  refine Ya rfl (Xh rfl rfl rfl hg11) rfl (Xq rfl) Xp ?_
  refine Zm rfl rfl rfl rfl ?_ ?_
  intro hg12
  (have h := hg12; rw [hon] at h; exact absurd h (by decide))
  intro hg12
  have hp12 := hg12; try simp only [decide_eq_true_eq, decide_eq_false_iff_not, Bool.not_eq_true', Bool.not_eq_false'] at hp12
  refine Ya rfl (Xh rfl rfl rfl hg12) rfl (Xg (off := 2) rfl Tryz.underlying44 rfl inf42.size (by decide) rfl) Xp ?_
  refine Ya rfl (Xh rfl rfl rfl hg12) rfl (Xk rfl Tryz.underlying42 rfl Xr) Xp ?_
  refine Ya rfl (Xh rfl rfl rfl hg12) rfl (Zq rfl rfl) Xp ?_
  refine Ya rfl (Xh rfl rfl rfl hg11) rfl (Xm (congrArg Value.bool hg12) rfl) Xp ?_
  refine Ya rfl (Xh rfl rfl rfl rfl) rfl (Xm (congrArg Value.bool hg11) rfl) Xp ?_
  refine Xd rfl rfl (Xm (congrArg Value.bool rfl) rfl) Xp ?_
  refine Xd rfl rfl (Xq rfl) Xp ?_
  refine Zm rfl rfl rfl rfl ?_ ?_
  intro hg13
  · (have h := hg13; first | (rw [hon] at h; exact absurd h (by decide)) | (simp at h; done))
  intro hg13
  have hp13 := hg13; try simp only [decide_eq_true_eq, decide_eq_false_iff_not, Bool.not_eq_true', Bool.not_eq_false'] at hp13
  refine Ya rfl (Xh rfl rfl rfl hg13) rfl (Xz Xl) Xp ?_
  refine Ya rfl (Xh rfl rfl rfl hg13) rfl (Xc Xl) Xp ?_
  refine Ya rfl (Xh rfl rfl rfl hg13) rfl (Yk rfl rfl Yu) Xp ?_
  refine adr_wop rfl (Xh rfl rfl rfl hg13) rfl (X2 (Steps_walk hW4) rfl Tryz.func18 rfl rfl rfl ?_)
  rintro v24 H5 ⟨rfl, rfl⟩
  refine ⟨Yf, ?_⟩
  refine Ya rfl (Xh rfl rfl rfl hg13) rfl (Zq rfl rfl) Xp ?_
  refine Xd rfl rfl (Xm (congrArg Value.bool hg13) rfl) Xp ?_
  exact ⟨_, leG4, hW4, e2, e7, e9, e10, e11, e12, rfl, congrArg Value.bool (decide_eq_false (fun h => h (by omega)))⟩
  intro hg11
  have hp11 := hg11; try simp only [decide_eq_true_eq, decide_eq_false_iff_not, Bool.not_eq_true', Bool.not_eq_false'] at hp11
  refine Xu rfl (Xi rfl rfl rfl hg11 rfl) ?_
  refine Xu rfl (Xi rfl rfl rfl hg11 rfl) ?_
  refine Xu rfl (Xi rfl rfl rfl hg11 rfl) ?_
  refine Xu rfl (Xi rfl rfl rfl hg11 rfl) ?_
  refine Xu rfl (Xi rfl rfl rfl hg11 rfl) ?_
  refine Xu rfl (X0 rfl rfl rfl) ?_
  refine Xu rfl (X0 rfl rfl rfl) ?_
  refine Xu rfl (X0 rfl rfl rfl) ?_
  refine Xu rfl (Xi rfl rfl rfl hg11 rfl) ?_
  refine Ya rfl (Xh rfl rfl rfl rfl) rfl (Xm (congrArg Value.bool hg11) Xl) Xp ?_
  refine Xd rfl rfl (Xm (congrArg Value.bool rfl) rfl) Xp ?_
  refine Xd rfl rfl (Xq rfl) Xp ?_
  refine Ya rfl (Xh rfl rfl rfl rfl) rfl (Xz Xl) Xp ?_
  refine Ya rfl (Xh rfl rfl rfl rfl) rfl (Xc Xl) Xp ?_
  refine Ya rfl (Xh rfl rfl rfl rfl) rfl (Yk rfl rfl Yu) Xp ?_
  refine adr_wop rfl (Xh rfl rfl rfl rfl) rfl (X2 (Steps_walk hW4) rfl Tryz.func18 rfl rfl rfl ?_)
  rintro v24 H5 ⟨rfl, rfl⟩
  refine ⟨Yf, ?_⟩
  refine Ya rfl (Xh rfl rfl rfl rfl) rfl (Zq rfl rfl) Xp ?_
  refine Xd rfl rfl (Xm (congrArg Value.bool rfl) rfl) Xp ?_
  exact ⟨_, leG4, hW4, e2, e7, e9, e10, e11, e12, rfl, congrArg Value.bool (decide_eq_false (fun h => h (by omega)))⟩
  rintro t H5 ⟨G5, leG5, hW5, e2, e7, e9, e10, e11, e12, e14, e104⟩
  refine Yt (e104) rfl ?_
  refine X8 ?_
  refine Xf ?_
  refine Xb (by kernel_rfl) ?_
  refine Xa (Xq Xl) ?_
  refine X6 rfl rfl ?_ ?_
  intro hc15
  have hos : o.isSome = true := hc15
  obtain ⟨hkx, _, hrest2⟩ := hsome hos
  have hphi2 := phi_le htell.1.len
  refine Xb (by kernel_rfl) ?_
  refine Xa (Xc Xl) ?_
  refine Xa (Yk rfl rfl Yu) ?_
  refine Xa (Xn rfl) ?_
  refine Xb (by kernel_rfl) ?_
  refine Xa (Xc Xl) ?_
  refine Xa (Yk rfl rfl Yu) ?_
  refine Xa (Xn rfl) ?_
  first
    | exact ⟨12000 - (i + 1), by omega, i + 1, k + 1, G5, S2, D, rfl, by omega, leG5, hW5, htell.1, hrest2, by omega, by omega, hrD, e2, e7, e9, e10, rfl, rfl⟩
    | exact ⟨12000 - (i + 1), by omega, i + 1, k, G5, S2, D, rfl, hk, leG5, hW5, htell.1, hrest2, by omega, by omega, hrD, e2, e7, e9, e10, e11, rfl⟩
  intro hc15
  have hos : o.isSome = false := hc15
  have hon : o = none := by cases o with | none => rfl | some r => cases hos
  have hrest2 : Zo T S2 = (rows.drop k).map RowT.nodes := by
    have h := htell.2
    rw [hon] at h
    rw [← hrest]; exact h.symm
  have hphi2 := hsph hon
  refine X8 ?_
  refine Xb (by kernel_rfl) ?_
  refine Xa (Xc Xl) ?_
  refine Xa (Yk rfl rfl Yu) ?_
  refine Xa (Xn rfl) ?_
  first
    | exact ⟨12000 - (i + 1), by omega, i + 1, k + 1, G5, S2, D, rfl, by omega, leG5, hW5, htell.1, hrest2, by omega, by omega, hrD, e2, e7, e9, e10, rfl, rfl⟩
    | exact ⟨12000 - (i + 1), by omega, i + 1, k, G5, S2, D, rfl, hk, leG5, hW5, htell.1, hrest2, by omega, by omega, hrD, e2, e7, e9, e10, e11, rfl⟩
  intro hc6
  have hno : S.over = true := by have h := hc6; simpa using h
  have hrest0' : Zo T S = [] := by unfold Zo; rw [if_pos hno]
  have hkl : k = rows.length := by
    rw [hrest0'] at hrest
    have h := congrArg List.length hrest
    rw [List.length_map, List.length_drop] at h
    simp only [List.length_nil] at h
    omega
  refine Yq ?_
  refine Xf ?_
  refine Xb (by kernel_rfl) ?_
  refine Xa (Xy Xl) ?_
  refine Xa (Ym rfl Tryz.underlying38) ?_
  refine Xa (Xn rfl) ?_
  refine Xf ?_
  refine Xf ?_
  refine Xb (by kernel_rfl) ?_
  refine Xa (Xc Xl) ?_
  refine Xa (Xc rfl) ?_
  refine Xa (Y0 rfl rfl) ?_
  refine ac_cut (fun t H' => H' = H1 ∧ t 2 = .int .i64 most ∧ t 7 = .pointer (some ⟨tb, 0, none⟩) ∧ t 9 = .slice D rows.length m8 ∧ t 11 = .int .i64 k ∧ t 15 = .int .i64 (if most < rows.length then most else rows.length)) ?_ ?_
  refine X6 rfl rfl ?_ ?_
  intro hc16
  have hmm := of_decide_eq_true hc16
  refine Xb (by kernel_rfl) ?_
  refine Xa (Xc Xl) ?_
  refine Xa (Xn rfl) ?_
  first
    | exact ⟨rfl, e2, e7, e9, e11, by rw [if_pos hmm]; rfl⟩
    | exact ⟨rfl, e2, e7, e9, e11, by rw [if_neg hmm]; rfl⟩
  intro hc16
  have hmm := of_decide_eq_false hc16
  refine X8 ?_
  first
    | exact ⟨rfl, e2, e7, e9, e11, by rw [if_pos hmm]; rfl⟩
    | exact ⟨rfl, e2, e7, e9, e11, by rw [if_neg hmm]; rfl⟩
  rintro t H1 ⟨rfl, e2, e7, e9, e11, e15⟩
  refine Xf ?_
  refine Xf ?_
  refine Xb (by kernel_rfl) ?_
  refine Xa (Xc Xl) ?_
  refine Xa (Y0 rfl rfl) ?_
  refine ac_cut (fun t H' => H' = H1 ∧ t 2 = .int .i64 most ∧ t 7 = .pointer (some ⟨tb, 0, none⟩) ∧ t 9 = .slice D rows.length m8 ∧ t 11 = .int .i64 k ∧ t 15 = .int .i64 ((min most.toNat rows.length : Nat) : Int)) ?_ ?_
  refine X6 rfl rfl ?_ ?_
  intro hc17
  have hmm := of_decide_eq_true hc17
  refine Xb (by kernel_rfl) ?_
  refine Xa (Xn rfl) ?_
  first
    | exact ⟨rfl, e2, e7, e9, e11, congrArg (Value.int .i64) (by split at hmm <;> omega)⟩
    | exact ⟨rfl, e2, e7, e9, e11, e15.trans (congrArg (Value.int .i64) (by split at hmm <;> split <;> omega))⟩
  intro hc17
  have hmm := of_decide_eq_false hc17
  refine X8 ?_
  first
    | exact ⟨rfl, e2, e7, e9, e11, congrArg (Value.int .i64) (by split at hmm <;> omega)⟩
    | exact ⟨rfl, e2, e7, e9, e11, e15.trans (congrArg (Value.int .i64) (by split at hmm <;> split <;> omega))⟩
  rintro t H1 ⟨rfl, e2, e7, e9, e11, e15⟩
  refine Xf ?_
  refine Xb (by kernel_rfl) ?_
  refine Xa (Xz Xl) ?_
  refine Xa (Xc Xl) ?_
  refine X3 (X2 (All_gen hT hA (some ⟨tb, 0, none⟩) w0 (.inl rfl) (fun H => fresh_tree tb H) _ (fun _ => trR.mono leH1) most (fun k => Nat.le_trans (allN_len hT hA k w0 (val_w0 T)) (by rw [hrest0, List.length_map]; omega))) rfl Tryz.func19 rfl rfl rfl ?_)
  rintro v31 HX ⟨hleX, hsX⟩; have hAll : allN T most.toNat w0 = rows.take most.toNat := (by obtain ⟨h1, h2⟩ := allN_nodes hT hA most.toNat w0 (val_w0 T); rw [hrest0] at h1; exact rows_map (by rw [h1, List.map_take]) h2 (fun r hr => hrr r (List.mem_of_mem_take hr))); rw [hAll] at hsX; obtain ⟨AX, cX, rfl⟩ := hsX.shape; have hlX : (rows.take most.toNat).length = min most.toNat rows.length := List.length_take; have leRX := Hp.le_trans leH1 hleX
  refine Xa (X7 rfl) ?_
  refine Xf ?_
  refine Xf ?_
  refine Xb (by kernel_rfl) ?_
  refine Xa (Xn rfl) ?_
  refine Yc ?_
  refine Y2 (fun n t H' => ∃ (j : Nat) (D X : Option Addr), n = (rows.take most.toNat).length - j ∧ HX.le H' ∧ Sl kRow HR (.slice D rows.length m8) rows ∧ Sl kRow HX (.slice X (rows.take most.toNat).length cX) (rows.take most.toNat) ∧ t 9 = .slice D rows.length m8 ∧ t 11 = .int .i64 k ∧ t 15 = .int .i64 ((min most.toNat rows.length : Nat) : Int) ∧ t 16 = .slice X (rows.take most.toNat).length cX ∧ t 17 = .int .i64 j) ((rows.take most.toNat).length) (⟨0, _, _, rfl, Hp.le_refl _, hrD, hsX, e9, e11, e15, rfl, rfl⟩) ?_
  rintro n t H6 ⟨j, D, X, rfl, leX6, hrD, hsX, e9, e11, e15, e16, e17⟩
  refine Xf ?_
  refine Xf ?_
  refine Xb (by kernel_rfl) ?_
  refine Xa (Xc Xl) ?_
  refine Xa (Xy Xl) ?_
  refine Xa (Ym rfl Tryz.underlying51) ?_
  refine Xa (Y0 rfl rfl) ?_
  refine Xa (Xq rfl) ?_
  refine Yb rfl rfl rfl ?_ ?_
  intro hg18
  have hj1 : j < (rows.take most.toNat).length := by have := of_decide_eq_true hg18; omega
  refine Xj (Xh rfl rfl rfl hg18) (Xc Xl) ?_
  refine Xj (Xh rfl rfl rfl hg18) (Xy Xl) ?_
  refine Xj (Xh rfl rfl rfl hg18) (Ym rfl Tryz.underlying38) ?_
  refine Xj (Xh rfl rfl rfl hg18) (Y0 rfl rfl) ?_
  refine Xa (Xm (congrArg Value.bool hg18) rfl) ?_
  refine X6 rfl rfl ?_ ?_
  intro hc19
  have hj2 : j < rows.length := by have := of_decide_eq_true hc19; omega
  refine X8 ?_
  refine Xf ?_
  refine Yc ?_
  refine Xf ?_
  obtain ⟨bD, oD, wD, eD, hbD, hcD, hwD⟩ := (hrD.mono (Hp.le_trans leRX leX6).sees).row_at hj2
  obtain ⟨bX, oX, wX, eX, hbX, hcX, hwX⟩ := (hsX.mono leX6.sees).row_at hj1
  subst eD eX
  rw [List.getElem_take] at hcX hwX
  obtain ⟨r, hrd⟩ : ∃ r, r = rows[j] := ⟨_, rfl⟩
  rw [← hrd] at hcD hwD hcX hwX
  have hrlen := hrn r (by rw [hrd]; exact List.getElem_mem hj2)
  obtain ⟨AD, cD, rfl⟩ := hwD.shape
  obtain ⟨AX', cX', rfl⟩ := hwX.shape
  refine Yr (by kernel_rfl) (Yy (B := [0, 0, 3, 7, 0, 0, 48, 112, 240, 511, 1023]) (π := [0, 1, 2, 3, 4, 5, 6, 7, 8, 9, 10]) (by kernel_rfl)) ?_
  refine Xd rfl rfl (Xy Xl) Xp ?_
  refine Xd rfl rfl (Xc Xl) Xp ?_
  refine Xd rfl rfl (Xs rfl rfl Tryz.underlying51 inf44.size X1 X1) Xp ?_
  refine Xd rfl rfl (Yj (cs := [.slice _ _ _, .int .i64 _, .int .u64 _]) rfl Tryz.underlying44 rfl inf44.size X9) Xp ?_
  refine Xd rfl rfl (Xy Xl) Xp ?_
  refine Xd rfl rfl (Xc Xl) Xp ?_
  refine Xd rfl rfl (Xs rfl rfl Tryz.underlying38 inf49.size X1 X1) Xp ?_
  refine Xd rfl rfl (Yj (cs := [.slice _ _ _, .int .i64 _, .int .u64 _]) rfl Tryz.underlying49 rfl inf49.size X9) Xp ?_
  refine Yh rfl rfl (X2 (OfRow_ref _ _ _ _ _ _) rfl Tryz.func17 rfl rfl rfl ?_)
  rintro v32 H7 ⟨rfl, hle7⟩; have zL := hle7.1; have hsame : ∀ b ∈ [bX], H7.get b = H6.get b := fun b hb => by rw [List.mem_singleton.1 hb]; exact hle7.2 _ hbX (fun e => by have := hcX 0 _ rfl; unfold Hp.cell? at this; rw [e] at this; cases this)
  refine ⟨Yf, ?_⟩
  refine Yh rfl rfl (X2 (SameRow_true r.nodes r.cost r.n AX' AD cX' cD _ (hwX.mono hle7.sees) (hwD.mono hle7.sees) (by omega)) rfl Tryz.func16 rfl rfl rfl ?_)
  rintro v33 H7 ⟨rfl, rfl⟩
  refine ⟨Yf, ?_⟩
  refine Xd rfl rfl (Zs rfl) Xp ?_
  refine X6 rfl rfl ?_ ?_
  intro hc20
  (have h := hc20; simp at h)
  intro hc20
  (try simp only [decide_eq_true_eq, decide_eq_false_iff_not, Bool.not_eq_true', Bool.not_eq_false'] at hc20)
  refine X8 ?_
  refine Xb (by kernel_rfl) ?_
  refine Xa (Xc Xl) ?_
  refine Xa (Yk rfl rfl Yu) ?_
  refine Xa (Xn rfl) ?_
  exact ⟨(rows.take most.toNat).length - (j + 1), by omega, j + 1, _, _, rfl, Hp.le_trans leX6 hle7, hrD, hsX, e9, e11, e15, e16, rfl⟩
  intro hc19
  have hj2 : ¬ j < rows.length := by have := of_decide_eq_false hc19; omega
  refine Yq ?_
  refine Xf ?_
  refine Xb (by kernel_rfl) ?_
  refine Xa (Xc Xl) ?_
  refine Xa (Xy Xl) ?_
  refine Xa (Ym rfl Tryz.underlying38) ?_
  refine Xa (Zy rfl rfl) ?_
  refine Xa (Xq rfl) ?_
  refine Yb rfl rfl rfl ?_ ?_
  intro hg21
  have hp21 := hg21; try simp only [decide_eq_true_eq, decide_eq_false_iff_not, Bool.not_eq_true', Bool.not_eq_false'] at hp21
  refine Xj (Xh rfl rfl rfl hg21) (Xy Xl) ?_
  refine Xj (Xh rfl rfl rfl hg21) (Ym rfl Tryz.underlying51) ?_
  refine Xj (Xh rfl rfl rfl hg21) (Xc Xl) ?_
  refine Xj (Xh rfl rfl rfl hg21) (Zy rfl rfl) ?_
  refine Xa (Xm (congrArg Value.bool hg21) rfl) ?_
  refine Xa (Xq rfl) ?_
  refine Yb rfl rfl rfl ?_ ?_
  intro hg22
  have hp22 := hg22; try simp only [decide_eq_true_eq, decide_eq_false_iff_not, Bool.not_eq_true', Bool.not_eq_false'] at hp22
  refine Z0 (Xh rfl rfl rfl hg22) (X2 (lives31_ok _) rfl Tryz.func11 rfl rfl rfl ?_)
  rintro v H' ⟨rfl, hlv⟩
  refine Xa (Xm (congrArg Value.bool hg22) rfl) ?_
  refine Xa (Xo rfl) ?_
  refine X5 ?_
  exact ⟨.bool true, Xx (Xv rfl), rfl, Hp.le_trans leHR (Hp.le_trans leRX (Hp.le_trans leX6 hlv))⟩
  intro hg22
  (have h := of_decide_eq_false hg22; omega)
  intro hg21
  (have h := of_decide_eq_false hg21; omega)
  intro hg18
  have hj1 : ¬ j < (rows.take most.toNat).length := by have := of_decide_eq_false hg18; omega
  refine Xe (Xi rfl rfl rfl hg18 rfl) ?_
  refine Xe (Xi rfl rfl rfl hg18 rfl) ?_
  refine Xe (Xi rfl rfl rfl hg18 rfl) ?_
  refine Xe (Xi rfl rfl rfl hg18 rfl) ?_
  refine Xa (Xm (congrArg Value.bool hg18) Xl) ?_
  refine Yt rfl rfl ?_
  refine Yq ?_
  refine Xf ?_
  refine Xb (by kernel_rfl) ?_
  refine Xa (Xc Xl) ?_
  refine Xa (Xy Xl) ?_
  refine Xa (Ym rfl Tryz.underlying38) ?_
  refine Xa (Zy rfl rfl) ?_
  refine Xa (Xq rfl) ?_
  refine Yb rfl rfl rfl ?_ ?_
  intro hg24
  have hp24 := hg24; try simp only [decide_eq_true_eq, decide_eq_false_iff_not, Bool.not_eq_true', Bool.not_eq_false'] at hp24
  refine Xj (Xh rfl rfl rfl hg24) (Xy Xl) ?_
  refine Xj (Xh rfl rfl rfl hg24) (Ym rfl Tryz.underlying51) ?_
  refine Xj (Xh rfl rfl rfl hg24) (Xc Xl) ?_
  refine Xj (Xh rfl rfl rfl hg24) (Zy rfl rfl) ?_
  refine Xa (Xm (congrArg Value.bool hg24) rfl) ?_
  refine Xa (Xq rfl) ?_
  refine Yb rfl rfl rfl ?_ ?_
  intro hg25
  have hp25 := hg25; try simp only [decide_eq_true_eq, decide_eq_false_iff_not, Bool.not_eq_true', Bool.not_eq_false'] at hp25
  refine Z0 (Xh rfl rfl rfl hg25) (X2 (lives31_ok _) rfl Tryz.func11 rfl rfl rfl ?_)
  rintro v H' ⟨rfl, hlv⟩
  refine Xa (Xm (congrArg Value.bool hg25) rfl) ?_
  refine Xa (Xo rfl) ?_
  refine X5 ?_
  exact ⟨.bool true, Xx (Xv rfl), rfl, Hp.le_trans leHR (Hp.le_trans leRX (Hp.le_trans leX6 hlv))⟩
  intro hg25
  (have h := of_decide_eq_false hg25; omega)
  intro hg24
  (have h := of_decide_eq_false hg24; omega)
  intro hg5
  (have h := of_decide_eq_false hg5; omega)
end Go.Proofs.YtcaeoebphfjfiaaGreat.Am


/- Links among the arguments of a statement. -/
namespace Go.Proofs.YtcaeoebphfjfiaaGreat.Am
open Go Go.RowKit
set_option maxRecDepth 100000
theorem cells_i64 : Tryz.prog.cellsOf 3 = 1 := by kernel_rfl
theorem cells_u64 : Tryz.prog.cellsOf 42 = 1 := by kernel_rfl
theorem cells_link : Tryz.prog.cellsOf 78 = 4 := by kernel_rfl
theorem opens_ints : Opens Tryz.prog (Vi (Y3 .i64)) 23 (fun xs => xs.length ≤ maxLen ∧ ∀ x ∈ xs, fits .i64 x) := opens_sl Tryz.underlying23 cells_i64 (opens_int Tryz.underlying3)
theorem opens_link : Opens Tryz.prog kLink 78 (fun x => fits .i64 x.a ∧ fits .i64 x.b ∧ fits .i64 x.cost ∧ fits .u64 x.n) := fun Hh enc W fuel cs x h => by
  obtain ⟨xs, n, _, _, hl, hxs, hf⟩ := DataW.trod_struct Tryz.underlying78 h
  rw [cells_link] at hl
  have hxs : xs.length = 4 := hxs
  match cs, hl with
  | [c0, c1, c2, c3], _ =>
    have f0 : DataW.trod enc Tryz.prog W 0 (fun _ => true) true n 3 (([c0, c1, c2, c3].drop 0).take (Tryz.prog.cellsOf 3)) = xs[0]? := hf 0 _ rfl
    have f1 : DataW.trod enc Tryz.prog W 0 (fun _ => true) true n 3 (([c0, c1, c2, c3].drop 1).take (Tryz.prog.cellsOf 3)) = xs[1]? := hf 1 _ rfl
    have f2 : DataW.trod enc Tryz.prog W 0 (fun _ => true) true n 3 (([c0, c1, c2, c3].drop 2).take (Tryz.prog.cellsOf 3)) = xs[2]? := hf 2 _ rfl
    have f3 : DataW.trod enc Tryz.prog W 0 (fun _ => true) true n 42 (([c0, c1, c2, c3].drop 3).take (Tryz.prog.cellsOf 42)) = xs[3]? := hf 3 _ rfl
    rw [cells_i64, List.getElem?_eq_getElem (show 0 < xs.length by omega)] at f0
    rw [cells_i64, List.getElem?_eq_getElem (show 1 < xs.length by omega)] at f1
    rw [cells_i64, List.getElem?_eq_getElem (show 2 < xs.length by omega)] at f2
    rw [cells_u64, List.getElem?_eq_getElem (show 3 < xs.length by omega)] at f3
    obtain ⟨y0, r0, b0, v0⟩ := opens_int (P := Tryz.prog) Tryz.underlying3 Hh enc W n _ _ f0
    obtain ⟨y1, r1, b1, v1⟩ := opens_int (P := Tryz.prog) Tryz.underlying3 Hh enc W n _ _ f1
    obtain ⟨y2, r2, b2, v2⟩ := opens_int (P := Tryz.prog) Tryz.underlying3 Hh enc W n _ _ f2
    obtain ⟨y3, r3, b3, v3⟩ := opens_int (P := Tryz.prog) Tryz.underlying42 Hh enc W n _ _ f3
    refine ⟨⟨y0, y1, y2, y3⟩, ?_, ⟨b0, b1, b2, b3⟩, fun v hv => ?_⟩
    · have e0 : [absV W c0] = [Value.int .i64 y0] := r0
      have e1 : [absV W c1] = [Value.int .i64 y1] := r1
      have e2 : [absV W c2] = [Value.int .i64 y2] := r2
      have e3 : [absV W c3] = [Value.int .u64 y3] := r3
      simp only [List.cons.injEq, and_true] at e0 e1 e2 e3
      simp [kLink, e0, e1, e2, e3]
    · simp at hv
      rcases hv with rfl | rfl | rfl | rfl
      · exact v0 _ (List.mem_singleton.2 rfl)
      · exact v1 _ (List.mem_singleton.2 rfl)
      · exact v2 _ (List.mem_singleton.2 rfl)
      · exact v3 _ (List.mem_singleton.2 rfl)
theorem opens_links : Opens Tryz.prog (Vi kLink) 68 (fun xs => xs.length ≤ maxLen ∧ ∀ x ∈ xs, fits .i64 x.a ∧ fits .i64 x.b ∧ fits .i64 x.cost ∧ fits .u64 x.n) := opens_sl Tryz.underlying68 cells_link opens_link
end Go.Proofs.YtcaeoebphfjfiaaGreat.Am


/- Forests and parts among the arguments of a statement. -/
namespace Go.Proofs.YtcaeoebphfjfiaaGreat.Am
open Go Go.RowKit
set_option maxRecDepth 100000
theorem cells_links : Tryz.prog.cellsOf 68 = 1 := by kernel_rfl
theorem cells_ints : Tryz.prog.cellsOf 23 = 1 := by kernel_rfl
theorem cells_str : Tryz.prog.cellsOf 9 = 1 := by kernel_rfl
theorem cells_strs : Tryz.prog.cellsOf 22 = 1 := by kernel_rfl
theorem cells_intss : Tryz.prog.cellsOf 24 = 1 := by kernel_rfl
theorem cells_linkss : Tryz.prog.cellsOf 27 = 1 := by kernel_rfl
theorem cells_parts : Tryz.prog.cellsOf 29 = 2 := by kernel_rfl
theorem cells_forest : Tryz.prog.cellsOf 26 = 5 := by kernel_rfl
theorem opens_strs : Opens Tryz.prog (Vi kStr) 22 (fun xs => xs.length ≤ maxLen ∧ ∀ x ∈ xs, x.size ≤ maxLen) := opens_sl Tryz.underlying22 cells_str (opens_str Tryz.underlying9)
theorem opens_intss : Opens Tryz.prog (Vi (Vi (Y3 .i64))) 24 (fun xs => xs.length ≤ maxLen ∧ ∀ x ∈ xs, x.length ≤ maxLen ∧ ∀ n ∈ x, fits .i64 n) := opens_sl Tryz.underlying24 cells_ints opens_ints
theorem opens_linkss : Opens Tryz.prog (Vi (Vi kLink)) 27 (fun xs : List (List Link) => xs.length ≤ maxLen ∧ ∀ l ∈ xs, l.length ≤ maxLen ∧ ∀ x ∈ l, fits .i64 x.a ∧ fits .i64 x.b ∧ fits .i64 x.cost ∧ fits .u64 x.n) := opens_sl Tryz.underlying27 cells_links opens_links
theorem opens_parts : Opens Tryz.prog kParts 29 BigP := fun Hh enc W fuel cs x h => by
  obtain ⟨xs, n, _, _, hl, hxs, hf⟩ := DataW.trod_struct Tryz.underlying29 h
  rw [cells_parts] at hl
  have hxs : xs.length = 2 := hxs
  match cs, hl with
  | [c0, c1], _ =>
    have f0 : DataW.trod enc Tryz.prog W 0 (fun _ => true) true n 27 (([c0, c1].drop 0).take (Tryz.prog.cellsOf 27)) = xs[0]? := hf 0 _ rfl
    have f1 : DataW.trod enc Tryz.prog W 0 (fun _ => true) true n 27 (([c0, c1].drop 1).take (Tryz.prog.cellsOf 27)) = xs[1]? := hf 1 _ rfl
    rw [cells_linkss, List.getElem?_eq_getElem (show 0 < xs.length by omega)] at f0
    rw [cells_linkss, List.getElem?_eq_getElem (show 1 < xs.length by omega)] at f1
    obtain ⟨y0, ⟨w0, r0, s0⟩, b0, v0⟩ := opens_linkss Hh enc W n _ _ f0
    obtain ⟨y1, ⟨w1, r1, s1⟩, b1, v1⟩ := opens_linkss Hh enc W n _ _ f1
    refine ⟨⟨y0, y1⟩, ⟨w0, w1, ?_, s0, s1⟩, ⟨b0.1, b1.1, fun l hl => (b0.2 l hl).1, fun l hl => (b1.2 l hl).1⟩, fun v hv => ?_⟩
    · have e0 : [absV W c0] = [w0] := r0
      have e1 : [absV W c1] = [w1] := r1
      simp only [List.cons.injEq, and_true] at e0 e1
      simp [e0, e1]
    · simp at hv
      rcases hv with rfl | rfl
      · exact v0 _ (List.mem_singleton.2 rfl)
      · exact v1 _ (List.mem_singleton.2 rfl)
theorem opens_forest : Opens Tryz.prog kForest 26 BigF := fun Hh enc W fuel cs x h => by
  obtain ⟨xs, n, _, _, hl, hxs, hf⟩ := DataW.trod_struct Tryz.underlying26 h
  rw [cells_forest] at hl
  have hxs : xs.length = 5 := hxs
  match cs, hl with
  | [c0, c1, c2, c3, c4], _ =>
    have f0 : DataW.trod enc Tryz.prog W 0 (fun _ => true) true n 22 (([c0, c1, c2, c3, c4].drop 0).take (Tryz.prog.cellsOf 22)) = xs[0]? := hf 0 _ rfl
    have f1 : DataW.trod enc Tryz.prog W 0 (fun _ => true) true n 23 (([c0, c1, c2, c3, c4].drop 1).take (Tryz.prog.cellsOf 23)) = xs[1]? := hf 1 _ rfl
    have f2 : DataW.trod enc Tryz.prog W 0 (fun _ => true) true n 23 (([c0, c1, c2, c3, c4].drop 2).take (Tryz.prog.cellsOf 23)) = xs[2]? := hf 2 _ rfl
    have f3 : DataW.trod enc Tryz.prog W 0 (fun _ => true) true n 24 (([c0, c1, c2, c3, c4].drop 3).take (Tryz.prog.cellsOf 24)) = xs[3]? := hf 3 _ rfl
    have f4 : DataW.trod enc Tryz.prog W 0 (fun _ => true) true n 24 (([c0, c1, c2, c3, c4].drop 4).take (Tryz.prog.cellsOf 24)) = xs[4]? := hf 4 _ rfl
    rw [cells_strs, List.getElem?_eq_getElem (show 0 < xs.length by omega)] at f0
    rw [cells_ints, List.getElem?_eq_getElem (show 1 < xs.length by omega)] at f1
    rw [cells_ints, List.getElem?_eq_getElem (show 2 < xs.length by omega)] at f2
    rw [cells_intss, List.getElem?_eq_getElem (show 3 < xs.length by omega)] at f3
    rw [cells_intss, List.getElem?_eq_getElem (show 4 < xs.length by omega)] at f4
    obtain ⟨y0, ⟨w0, r0, s0⟩, b0, v0⟩ := opens_strs Hh enc W n _ _ f0
    obtain ⟨y1, ⟨w1, r1, s1⟩, b1, v1⟩ := opens_ints Hh enc W n _ _ f1
    obtain ⟨y2, ⟨w2, r2, s2⟩, b2, v2⟩ := opens_ints Hh enc W n _ _ f2
    obtain ⟨y3, ⟨w3, r3, s3⟩, b3, v3⟩ := opens_intss Hh enc W n _ _ f3
    obtain ⟨y4, ⟨w4, r4, s4⟩, b4, v4⟩ := opens_intss Hh enc W n _ _ f4
    refine ⟨⟨y0, y1, y2, y3, y4⟩, ⟨w0, w1, w2, w3, w4, ?_, s0, s1, s2, s3, s4⟩, ⟨b0.1, b1.1, b2.1, b3.1, b4.1, fun l hl => (b3.2 l hl).1, fun l hl => (b4.2 l hl).1⟩, fun v hv => ?_⟩
    · have e0 : [absV W c0] = [w0] := r0
      have e1 : [absV W c1] = [w1] := r1
      have e2 : [absV W c2] = [w2] := r2
      have e3 : [absV W c3] = [w3] := r3
      have e4 : [absV W c4] = [w4] := r4
      simp only [List.cons.injEq, and_true] at e0 e1 e2 e3 e4
      simp [e0, e1, e2, e3, e4]
    · simp at hv
      rcases hv with rfl | rfl | rfl | rfl | rfl
      · exact v0 _ (List.mem_singleton.2 rfl)
      · exact v1 _ (List.mem_singleton.2 rfl)
      · exact v2 _ (List.mem_singleton.2 rfl)
      · exact v3 _ (List.mem_singleton.2 rfl)
      · exact v4 _ (List.mem_singleton.2 rfl)
end Go.Proofs.YtcaeoebphfjfiaaGreat.Am
