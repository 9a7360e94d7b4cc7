/- Texts that the proof rests on, part 6: lemmas for every heap that is related to a world, no condition beyond each lemma's own. -/
import Derived.Test.YtcaeoebphfjfiaaGreatEb5
import Derived.Test.YtcaeoebphfjfiaaGreatEbOwnL
import Derived.Test.YtcaeoebphfjfiaaGreatEb4
import Derived.Test.YtcaeoebphfjfiaaGreatEb3
import Derived.Test.YtcaeoebphfjfiaaGreatEbGrow

/- Variables that hang from nobody. -/
namespace Go.Proofs.YtcaeoebphfjfiaaGreat.Am
open Go Go.RowKit
set_option maxRecDepth 100000
set_option linter.unusedVariables false
set_option linter.unusedSimpArgs false

def apartL (ways : Int) (m : Nat) : List Link := (List.range m).map fun (k : Nat) => ⟨k, k, k, ways⟩
def apartF (k : Nat) : Forest := ⟨List.replicate k ⟨#[120]⟩, (List.range k).map fun (i : Nat) => (i : Int), List.replicate k (-1), List.replicate k [], List.replicate k []⟩
def apartP (ways : Int) (sizes : List Int) : Parts := ⟨sizes.map fun m => apartL ways m.toNat, sizes.map fun _ => []⟩
theorem apartL_next (ways : Int) (m : Nat) : apartL ways (m + 1) = apartL ways m ++ [⟨m, m, m, ways⟩] := by
  unfold apartL
  rw [List.range_succ, List.map_append]; rfl
theorem apartL_len (ways : Int) (m : Nat) : (apartL ways m).length = m := by unfold apartL; simp
structure ApartR (G : Hp) (ways : Int) (sizes : List Int) (i : Nat) (nds : List (List Value)) : Prop where
  len : nds.length = i
  at_ : ∀ (j : Nat) (h : j < nds.length) (h' : j < sizes.length), ∃ w, nds[j] = [w] ∧ Sl kLink G w (apartL ways sizes[j].toNat)
theorem ApartR.mono {G G' : Hp} (h : G.sees G') {ways : Int} {sizes : List Int} {i : Nat} {nds : List (List Value)} (hr : ApartR G ways sizes i nds) : ApartR G' ways sizes i nds :=
  ⟨hr.len, fun j a b => let ⟨w, h1, h2⟩ := hr.at_ j a b; ⟨w, h1, h2.mono h⟩⟩
theorem ApartR.snoc {G : Hp} {ways : Int} {sizes : List Int} {i : Nat} {nds : List (List Value)} (hr : ApartR G ways sizes i nds) (hi : i < sizes.length) {w : Value} (hs : Sl kLink G w (apartL ways sizes[i].toNat)) : ApartR G ways sizes (i + 1) (nds ++ [[w]]) := by
  have hl := hr.len
  refine ⟨by simp [hl], fun j a b => ?_⟩
  rw [List.length_append, List.length_singleton] at a
  by_cases h : j < nds.length
  · rw [List.getElem_append_left h]; exact hr.at_ j h b
  · obtain rfl : j = nds.length := by omega
    rw [List.getElem_append_right (Nat.le_refl _)]
    simp only [Nat.sub_self, List.getElem_cons_zero]
    subst hl
    exact ⟨w, rfl, hs⟩
theorem rep_next {α : Type} (n : Nat) (x : α) : List.replicate n x ++ [x] = List.replicate (n + 1) x := by rw [List.replicate_succ']
def eStr (v : Value) (i : Nat) : Ent := ⟨1, by decide, v, List.replicate i [.string ⟨#[120]⟩]⟩
def eInt (v : Value) (i : Nat) : Ent := ⟨1, by decide, v, (List.range i).map fun (k : Nat) => [.int .i64 k]⟩
def eNeg (v : Value) (i : Nat) : Ent := ⟨1, by decide, v, List.replicate i [.int .i64 (-1)]⟩
def Uq (v : Value) (i : Nat) : Ent := ⟨1, by decide, v, List.replicate i [.slice none 0 0]⟩
def eNds (v : Value) (nds : List (List Value)) : Ent := ⟨1, by decide, v, nds⟩
theorem range_cells (i : Nat) : ((List.range i).map fun (k : Nat) => [Value.int .i64 k]) ++ [[.int .i64 i]] = (List.range (i + 1)).map fun (k : Nat) => [Value.int .i64 k] := by rw [List.range_succ, List.map_append]; rfl
theorem eStr_next (v w : Value) (i : Nat) : (⟨(eStr v i).sz, (eStr v i).pos, w, (eStr v i).raws ++ [[.string ⟨#[120]⟩]]⟩ : Ent) = eStr w (i + 1) := by unfold eStr; simp only [rep_next]
theorem eInt_next (v w : Value) (i : Nat) : (⟨(eInt v i).sz, (eInt v i).pos, w, (eInt v i).raws ++ [[.int .i64 i]]⟩ : Ent) = eInt w (i + 1) := by unfold eInt; simp only [range_cells]
theorem eNeg_next (v w : Value) (i : Nat) : (⟨(eNeg v i).sz, (eNeg v i).pos, w, (eNeg v i).raws ++ [[.int .i64 (-1)]]⟩ : Ent) = eNeg w (i + 1) := by unfold eNeg; simp only [rep_next]
theorem eNil_next (v w : Value) (i : Nat) : (⟨(Uq v i).sz, (Uq v i).pos, w, (Uq v i).raws ++ [[.slice none 0 0]]⟩ : Ent) = Uq w (i + 1) := by unfold Uq; simp only [rep_next]
theorem eNds_next (v w : Value) (nds : List (List Value)) (x : List Value) : (⟨(eNds v nds).sz, (eNds v nds).pos, w, (eNds v nds).raws ++ [x]⟩ : Ent) = eNds w (nds ++ [x]) := rfl
def BxP (H G : Hp) (b2 b3 : List Value) : Prop := H.le G ∧ H.size + 4 ≤ G.size ∧ G.get H.size = .own 0 [.slice none 0 0, .slice none 0 0, .slice none 0 0, .slice none 0 0, .slice none 0 0] ∧ G.get (H.size + 1) = .own 0 [.slice none 0 0, .slice none 0 0] ∧ G.get (H.size + 2) = .own 0 b2 ∧ G.get (H.size + 3) = .own 0 b3
theorem BxP.le {H G G' : Hp} {b2 b3 : List Value} (h : BxP H G b2 b3) (hle : G.le G') : BxP H G' b2 b3 :=
  ⟨Hp.le_trans h.1 hle, Nat.le_trans h.2.1 hle.1, Xt hle (by have := h.2.1; omega) (by intro e; cases e) h.2.2.1, Xt hle (by have := h.2.1; omega) (by intro e; cases e) h.2.2.2.1, Xt hle (by have := h.2.1; omega) (by intro e; cases e) h.2.2.2.2.1, Xt hle (by have := h.2.1; omega) (by intro e; cases e) h.2.2.2.2.2⟩
theorem BxP.put2 {H G : Hp} {b2 b3 : List Value} (h : BxP H G b2 b3) (b2' : List Value) : BxP H (G.put (H.size + 2) (.own 0 b2')) b2' b3 :=
  ⟨Hp.le_put_new h.1 (by omega) _, h.2.1, by rw [Hp.put_other _ _ (by omega)]; exact h.2.2.1, by rw [Hp.put_other _ _ (by omega)]; exact h.2.2.2.1, Hp.put_same _ _ _, by rw [Hp.put_other _ _ (by omega)]; exact h.2.2.2.2.2⟩
theorem BxP.put3 {H G : Hp} {b2 b3 : List Value} (h : BxP H G b2 b3) (b3' : List Value) : BxP H (G.put (H.size + 3) (.own 0 b3')) b2 b3' :=
  ⟨Hp.le_put_new h.1 (by omega) _, h.2.1, by rw [Hp.put_other _ _ (by omega)]; exact h.2.2.1, by rw [Hp.put_other _ _ (by omega)]; exact h.2.2.2.1, by rw [Hp.put_other _ _ (by omega)]; exact h.2.2.2.2.1, Hp.put_same _ _ _⟩
theorem Zx {H : Hp} {h : 1 ≠ 0} {v : Value} {raws : List (List Value)} {i : Nat} (hs : Sl (kCel 1 h) H v raws) (hl : raws.length = i) : ∃ A c, v = .slice A i c := by
  obtain ⟨A, c, e⟩ := hs.shape
  exact ⟨A, c, by rw [e, hl]⟩
set_option maxHeartbeats 4000000 in
theorem Apart_ok (ways : Int) (sizes : List Int) (u : Value) (H : Hp) (hs : Sl (Y1 .i64) H u sizes) (hl : sizes.length ≤ 1000) (hm : ∀ m ∈ sizes, m ≤ 100000) :
    ACalls Tryz.prog 45 #[.int .u64 ways, u] H (fun r H' => ∃ cs ds, r = .tuple #[.agg cs.toArray, .agg ds.toArray] ∧ kForest.rep H' (apartF sizes.length) cs ∧ kParts.rep H' (apartP ways sizes) ds ∧ H.le H') := by
  obtain ⟨Au, cu, rfl⟩ := hs.shape
  refine Xv Tryz.func45 rfl rfl rfl (by simp) ?_
  refine Xe ?_
  refine Xb (by kernel_rfl) ?_
  refine X3 (Yz (l := [.slice none 0 0, .slice none 0 0, .slice none 0 0, .slice none 0 0, .slice none 0 0]) inf26.zero rfl (by decide)) ?_
  refine X3 (Yz (l := [.slice none 0 0, .slice none 0 0]) inf29.zero rfl (by decide)) ?_
  refine Xe ?_
  refine Xb (by kernel_rfl) ?_
  refine Xa (Y6 (pl := [(0, 1), (1, 1), (2, 1), (3, 1), (4, 1)]) (r := [.slice _ _ _, .slice _ _ _, .slice _ _ _, .slice _ _ _, .slice _ _ _]) Tryz.underlying26 inf26.zero (by decide) rfl rfl) ?_
  refine Xa (Y6 (pl := [(0, 1), (1, 1)]) (r := [.slice _ _ _, .slice _ _ _]) Tryz.underlying29 inf29.zero (by decide) rfl rfl) ?_
  refine X3 (Yz (l := [.slice none 0 0, .slice none 0 0, .slice none 0 0, .slice none 0 0, .slice none 0 0]) inf26.zero rfl (by decide)) ?_
  refine X3 (Yz (l := [.slice none 0 0, .slice none 0 0]) inf29.zero rfl (by decide)) ?_
  refine X0 (Yj (vs := [.slice _ _ _, .slice _ _ _, .slice _ _ _, .slice _ _ _, .slice _ _ _]) rfl rfl inf26.size Yc Yh rfl rfl ?_)
  refine X0 (Yj (vs := [.slice _ _ _, .slice _ _ _]) rfl rfl inf29.size Yc Yh rfl rfl ?_)
  refine Xe ?_
  refine Xe ?_
  refine Xb (by kernel_rfl) ?_
  refine Xa (Xn rfl) ?_
  refine Yb ?_
  refine Y2 (fun n t H' => ∃ (i : Nat) (G : Hp) (v0 v1 v2 v3 v4 v5 v6 : Value) (nds : List (List Value)), i ≤ sizes.length ∧ n = sizes.length - i ∧ BxP H G [v0, v1, v2, v3, v4] [v5, v6] ∧ OwnL G [eStr v0 i, eInt v1 i, eNeg v2 i, Uq v3 i, Uq v4 i, eNds v5 nds, Uq v6 i] H' ∧ ApartR G ways sizes i nds ∧ t 0 = .int .u64 ways ∧ t 1 = .slice Au sizes.length cu ∧ t 4 = .pointer (some ⟨H.size, 0, none⟩) ∧ t 5 = .pointer (some ⟨H.size + 1, 0, none⟩) ∧ t 6 = .pointer (some ⟨H.size + 2, 0, none⟩) ∧ t 7 = .pointer (some ⟨H.size + 3, 0, none⟩) ∧ t 8 = .int .i64 i) (sizes.length) (⟨0, _, .slice none 0 0, .slice none 0 0, .slice none 0 0, .slice none 0 0, .slice none 0 0, .slice none 0 0, .slice none 0 0, [], by omega, rfl, ⟨t_le, by simp, Yc, Yc, Yc, Yc⟩, ⟨_, OwnP.nil _ _, _, OwnP.nil _ _, _, OwnP.nil _ _, _, OwnP.nil _ _, _, OwnP.nil _ _, _, OwnP.nil _ _, _, OwnP.nil _ _, rfl⟩, ⟨rfl, fun j h _ => absurd h (Nat.not_lt_zero _)⟩, rfl, rfl, rfl, rfl, rfl, rfl, rfl⟩) ?_
  rintro n t H1 ⟨i, G, v0, v1, v2, v3, v4, v5, v6, nds, hi, rfl, hb, hown, hr, e0, e1, e4, e5, e6, e7, e8⟩
  obtain ⟨A0, k0, rfl⟩ := Zx (hown.sl (eStr v0 i) (by simp)) (List.length_replicate)
  obtain ⟨A1, k1, rfl⟩ := Zx (hown.sl (eInt v1 i) (by simp)) (show ((List.range i).map fun (k : Nat) => [Value.int .i64 k]).length = i by simp)
  obtain ⟨A2, k2, rfl⟩ := Zx (hown.sl (eNeg v2 i) (by simp)) (List.length_replicate)
  obtain ⟨A3, k3, rfl⟩ := Zx (hown.sl (Uq v3 i) (by simp)) (List.length_replicate)
  obtain ⟨A4, k4, rfl⟩ := Zx (hown.sl (Uq v4 i) (by simp)) (List.length_replicate)
  obtain ⟨A5, k5, rfl⟩ := Zx (hown.sl (eNds v5 nds) (by simp)) hr.len
  obtain ⟨A6, k6, rfl⟩ := Zx (hown.sl (Uq v6 i) (by simp)) (List.length_replicate)
  have bH := hb.le hown.le
  obtain ⟨leH1, zH1, q0, q1, q2, q3⟩ := id bH
  have zz := hown.size
  refine Xe ?_
  refine Xe ?_
  refine Xb (by kernel_rfl) ?_
  refine Xa (Xc Xk) ?_
  refine Xa (Xx Xk) ?_
  refine Xa (Yo rfl Tryz.underlying23) ?_
  refine Xa (Y3 rfl rfl) ?_
  refine X5 rfl rfl ?_ ?_
  intro hc1
  (try simp only [decide_eq_true_eq, decide_eq_false_iff_not, Bool.not_eq_true', Bool.not_eq_false'] at hc1)
  refine X7 ?_
  refine Xe ?_
  refine Yb ?_
  refine Xe ?_
  have hix : i < sizes.length := by omega
  have zz5 := hown.size
  have hL := (((hown.push (.own 1 [.string ⟨#[120]⟩])).push (.own 1 [.int .i64 i])).push (.own 1 [.int .i64 (-1)]))
  have leP : G.le (((G.push (.own 1 [.string ⟨#[120]⟩])).push (.own 1 [.int .i64 i])).push (.own 1 [.int .i64 (-1)])) := Hp.le_trans (Hp.le_trans (Hp.le_push (G) (.own 1 [.string ⟨#[120]⟩])) (Hp.le_push ((G.push (.own 1 [.string ⟨#[120]⟩]))) (.own 1 [.int .i64 i]))) (Hp.le_push (((G.push (.own 1 [.string ⟨#[120]⟩])).push (.own 1 [.int .i64 i]))) (.own 1 [.int .i64 (-1)]))
  have bL := hb.le leP
  have rL := hr.mono leP.sees
  have l0 : (((G.push (.own 1 [.string ⟨#[120]⟩])).push (.own 1 [.int .i64 i])).push (.own 1 [.int .i64 (-1)])).get (H1.size) = .own 1 [.string ⟨#[120]⟩] := by rw [zz5]; exact Yc
  have l1 : (((G.push (.own 1 [.string ⟨#[120]⟩])).push (.own 1 [.int .i64 i])).push (.own 1 [.int .i64 (-1)])).get (H1.size + 1) = .own 1 [.int .i64 i] := by rw [zz5]; exact Yc
  have l2 : (((G.push (.own 1 [.string ⟨#[120]⟩])).push (.own 1 [.int .i64 i])).push (.own 1 [.int .i64 (-1)])).get (H1.size + 2) = .own 1 [.int .i64 (-1)] := by rw [zz5]; exact Yc
  have zL : H1.size + 3 ≤ (((G.push (.own 1 [.string ⟨#[120]⟩])).push (.own 1 [.int .i64 i])).push (.own 1 [.int .i64 (-1)])).size := by simp; omega
  obtain ⟨GP, hGP⟩ : ∃ GP, GP = (((G.push (.own 1 [.string ⟨#[120]⟩])).push (.own 1 [.int .i64 i])).push (.own 1 [.int .i64 (-1)])) := ⟨_, rfl⟩
  rw [← hGP] at hL bL rL zL l0 l1 l2
  clear hGP leP
  refine Ys (by kernel_rfl) (Yy (B := [0, 1, 0, 7, 0, 16, 0, 64, 255, 0, 512, 0, 4095, 1599, 16383, 32767, 65535, 131071, 262143]) (π := [0, 1, 2, 4, 5, 6, 7, 9, 10, 11, 3, 13, 8, 12, 14, 15, 16, 17, 18]) (by kernel_rfl)) ?_
  refine Xd rfl rfl (Xg (off := 0) Xk Tryz.underlying26 Xk inf22.size (by decide) Xk) Xp ?_
  refine Xd rfl rfl (Xj rfl Tryz.underlying22 rfl Xr) Xp ?_
  first | refine Y5 rfl rfl (Yg (r := [.string _]) Tryz.underlying22 inf9.size inf9.zero rfl (by decide) (by decide) (by decide) rfl) ?_
  refine Xd rfl rfl (Xg (off := 1) Xk Tryz.underlying26 Xk inf23.size (by decide) Xk) Xp ?_
  refine Xd rfl rfl (Xj rfl Tryz.underlying23 rfl Xr) Xp ?_
  refine Xd rfl rfl (Xc Xk) Xp ?_
  first | refine Y5 rfl rfl (Yg (r := [.int .i64 _]) Tryz.underlying23 inf3.size inf3.zero rfl (by decide) (by decide) (by decide) rfl) ?_
  refine Xd rfl rfl (Xg (off := 2) Xk Tryz.underlying26 Xk inf23.size (by decide) Xk) Xp ?_
  refine Xd rfl rfl (Xj rfl Tryz.underlying23 rfl Xr) Xp ?_
  first | refine Y5 rfl rfl (Yg (r := [.int .i64 _]) Tryz.underlying23 inf3.size inf3.zero rfl (by decide) (by decide) (by decide) rfl) ?_
  obtain ⟨Ga0, leGa0, ha0, back0⟩ := hL.rot.last
  have zGa := leGa0.1
  obtain ⟨_, zA, qa, qb, qc, qd⟩ := bL.le leGa0
  have m0 := Xt leGa0 (by omega) (by intro e; cases e) l0
  have m1 := Xt leGa0 (by omega) (by intro e; cases e) l1
  have m2 := Xt leGa0 (by omega) (by intro e; cases e) l2
  refine Yi rfl rfl (Ent.append ha0 Tryz.underlying22 inf9 Xk Xk rfl (lb := H1.size) (by omega) m0 rfl (by intro v hv; simp at hv; subst hv; rfl) (by simp only [eStr, List.length_replicate]; omega) (by decide) ?_)
  rintro w0 Gb0 Hb0 leb0 hb0
  have hsameO := Ent.sameO ha0 leb0 hb0
  obtain ⟨Gc0, lec0, hc0⟩ := back0 Gb0 Hb0 _ leb0 hb0
  rw [eStr_next] at hc0 hb0
  obtain ⟨W0, cw0, rfl⟩ : ∃ A c, w0 = Value.slice A (i + 1) c := Zx (i := i + 1) (OwnP.sl hb0) (by simp [eStr])
  have bb0 := (bL.le lec0).le hc0.le
  obtain ⟨_, zb, qa0, qb0, qc0, qd0⟩ := id bb0
  have l1b := Xt hc0.le (by have := lec0.1; omega) (by intro e; cases e) (Xt lec0 (by omega) (by intro e; cases e) l1)
  have l2b := Xt hc0.le (by have := lec0.1; omega) (by intro e; cases e) (Xt lec0 (by omega) (by intro e; cases e) l2)
  refine ⟨Ye, ?_⟩
  clear hsameO qa qb qc qd m0 m1 m2
  clear l1b
  have l1 := Xt lec0 (by omega) (by intro e; cases e) l1
  clear l2b
  have l2 := Xt lec0 (by omega) (by intro e; cases e) l2
  replace bL := bL.le lec0
  replace rL := rL.mono lec0.sees
  replace zL := Nat.le_trans zL lec0.1
  clear hL
  have hL := hc0
  have zH0 := hL.size
  refine Xd rfl rfl (Xg (off := 0) Xk Tryz.underlying26 Xk inf22.size (by decide) Xk) Xp ?_
  obtain ⟨Ga1, leGa1, ha1, back1⟩ := hL.rot.last
  have zGa := leGa1.1
  obtain ⟨_, zA, qa, qb, qc, qd⟩ := bL.le leGa1
  have m0 := Xt leGa1 (by omega) (by intro e; cases e) l1
  have m1 := Xt leGa1 (by omega) (by intro e; cases e) l2
  refine Yi rfl rfl (Ent.append ha1 Tryz.underlying23 inf3 Xk Xk rfl (lb := H1.size + 1) (by omega) m0 rfl (by intro v hv; simp at hv; subst hv; rfl) (by simp only [eInt, List.length_map, List.length_range]; omega) (by decide) ?_)
  rintro w1 Gb1 Hb1 leb1 hb1
  have hsameO := Ent.sameO ha1 leb1 hb1
  obtain ⟨Gc1, lec1, hc1⟩ := back1 Gb1 Hb1 _ leb1 hb1
  rw [eInt_next] at hc1 hb1
  obtain ⟨W1, cw1, rfl⟩ : ∃ A c, w1 = Value.slice A (i + 1) c := Zx (i := i + 1) (OwnP.sl hb1) (by simp [eInt])
  have bb1 := (bL.le lec1).le hc1.le
  obtain ⟨_, zb, qa1, qb1, qc1, qd1⟩ := id bb1
  have l2b := Xt hc1.le (by have := lec1.1; omega) (by intro e; cases e) (Xt lec1 (by omega) (by intro e; cases e) l2)
  refine ⟨Ye, ?_⟩
  clear hsameO qa qb qc qd m0 m1
  clear l2b
  have l2 := Xt lec1 (by omega) (by intro e; cases e) l2
  replace bL := bL.le lec1
  replace rL := rL.mono lec1.sees
  replace zL := Nat.le_trans zL lec1.1
  clear hL
  have hL := hc1
  have zH1 := hL.size
  obtain ⟨Ga2, leGa2, ha2, back2⟩ := hL.rot.last
  have zGa := leGa2.1
  obtain ⟨_, zA, qa, qb, qc, qd⟩ := bL.le leGa2
  have m0 := Xt leGa2 (by omega) (by intro e; cases e) l2
  refine Yi rfl rfl (Ent.append ha2 Tryz.underlying23 inf3 Xk Xk rfl (lb := H1.size + 2) (by omega) m0 rfl (by intro v hv; simp at hv; subst hv; rfl) (by simp only [eNeg, List.length_replicate]; omega) (by decide) ?_)
  rintro w2 Gb2 Hb2 leb2 hb2
  have hsameO := Ent.sameO ha2 leb2 hb2
  obtain ⟨Gc2, lec2, hc2⟩ := back2 Gb2 Hb2 _ leb2 hb2
  rw [eNeg_next] at hc2 hb2
  obtain ⟨W2, cw2, rfl⟩ : ∃ A c, w2 = Value.slice A (i + 1) c := Zx (i := i + 1) (OwnP.sl hb2) (by simp [eNeg])
  have bb2 := (bL.le lec2).le hc2.le
  obtain ⟨_, zb, qa2, qb2, qc2, qd2⟩ := id bb2
  refine ⟨Ye, ?_⟩
  clear hsameO qa qb qc qd m0
  replace bL := bL.le lec2
  replace rL := rL.mono lec2.sees
  replace zL := Nat.le_trans zL lec2.1
  clear hL
  have hL := hc2
  have zH2 := hL.size
  first | refine Yi rfl rfl (Yt rfl rfl rfl inf22.size Yc Yh rfl ?_)
  refine ⟨Ye, ?_⟩
  refine Xd rfl rfl (Xg (off := 1) Xk Tryz.underlying26 Xk inf23.size (by decide) Xk) Xp ?_
  first | refine Yi rfl rfl (Yt rfl rfl rfl inf23.size Yc Yh rfl ?_)
  refine ⟨Ye, ?_⟩
  refine Xd rfl rfl (Xg (off := 2) Xk Tryz.underlying26 Xk inf23.size (by decide) Xk) Xp ?_
  first | refine Yi rfl rfl (Yt rfl rfl rfl inf23.size Yc Yh rfl ?_)
  refine ⟨Ye, ?_⟩
  refine Xe ?_
  obtain ⟨H6, hH6⟩ : ∃ H6, H6 = Hb2.put (H.size + 2) (.own 0 [.slice W0 (i + 1) cw0, .slice W1 (i + 1) cw1, .slice W2 (i + 1) cw2, .slice A3 i k3, .slice A4 i k4]) := ⟨_, rfl⟩
  obtain ⟨G6, hG6⟩ : ∃ G6, G6 = Gc2.put (H.size + 2) (.own 0 [.slice W0 (i + 1) cw0, .slice W1 (i + 1) cw1, .slice W2 (i + 1) cw2, .slice A3 i k3, .slice A4 i k4]) := ⟨_, rfl⟩
  have ownG6 := hL.put_box (by have := bL.2.1; omega) bL.2.2.2.2.1 [.slice W0 (i + 1) cw0, .slice W1 (i + 1) cw1, .slice W2 (i + 1) cw2, .slice A3 i k3, .slice A4 i k4]
  have bG6 := bL.put2 [.slice W0 (i + 1) cw0, .slice W1 (i + 1) cw1, .slice W2 (i + 1) cw2, .slice A3 i k3, .slice A4 i k4]
  have rG6 := rL.mono (Hp.sees_box (cs' := [.slice W0 (i + 1) cw0, .slice W1 (i + 1) cw1, .slice W2 (i + 1) cw2, .slice A3 i k3, .slice A4 i k4]) _ bL.2.2.2.2.1)
  rw [← hG6] at ownG6 bG6 rG6
  rw [← hH6] at ownG6
  change ACode true _ _ _ _ _ (((Hb2.put (H.size + 2) (.own 0 [.slice W0 (i + 1) cw0, .slice A1 i k1, .slice A2 i k2, .slice A3 i k3, .slice A4 i k4])).put (H.size + 2) (.own 0 [.slice W0 (i + 1) cw0, .slice W1 (i + 1) cw1, .slice A2 i k2, .slice A3 i k3, .slice A4 i k4])).put (H.size + 2) (.own 0 [.slice W0 (i + 1) cw0, .slice W1 (i + 1) cw1, .slice W2 (i + 1) cw2, .slice A3 i k3, .slice A4 i k4]))
  rw [Hp.put_put]
  rw [Hp.put_put]
  rw [← hH6]
  clear hH6 hG6 hL bL rL zL
  have bbH6 := bG6.le ownG6.le
  obtain ⟨_, zzH6, s0H6, s1H6, s2H6, s3H6⟩ := id bbH6
  have zz6 := ownG6.size
  have hL := ((ownG6.push (.own 1 [.slice none 0 0])).push (.own 1 [.slice none 0 0]))
  have leP : G6.le ((G6.push (.own 1 [.slice none 0 0])).push (.own 1 [.slice none 0 0])) := Hp.le_trans (Hp.le_push (G6) (.own 1 [.slice none 0 0])) (Hp.le_push ((G6.push (.own 1 [.slice none 0 0]))) (.own 1 [.slice none 0 0]))
  have bL := bG6.le leP
  have rL := rG6.mono leP.sees
  have l0 : ((G6.push (.own 1 [.slice none 0 0])).push (.own 1 [.slice none 0 0])).get (H6.size) = .own 1 [.slice none 0 0] := by rw [zz6]; exact Yc
  have l1 : ((G6.push (.own 1 [.slice none 0 0])).push (.own 1 [.slice none 0 0])).get (H6.size + 1) = .own 1 [.slice none 0 0] := by rw [zz6]; exact Yc
  have zL : H6.size + 2 ≤ ((G6.push (.own 1 [.slice none 0 0])).push (.own 1 [.slice none 0 0])).size := by simp; omega
  obtain ⟨GP, hGP⟩ : ∃ GP, GP = ((G6.push (.own 1 [.slice none 0 0])).push (.own 1 [.slice none 0 0])) := ⟨_, rfl⟩
  rw [← hGP] at hL bL rL zL l0 l1
  clear hGP leP
  refine Ys (by kernel_rfl) (Yy (B := [0, 1, 0, 7, 0, 16, 0, 127, 63, 511, 1023, 2047]) (π := [0, 1, 2, 4, 5, 6, 3, 8, 7, 9, 10, 11]) (by kernel_rfl)) ?_
  refine Xd rfl rfl (Xg (off := 3) Xk Tryz.underlying26 Xk inf24.size (by decide) Xk) Xp ?_
  refine Xd rfl rfl (Xj rfl Tryz.underlying24 rfl Xr) Xp ?_
  refine Y5 rfl rfl (Yg (r := [.slice _ _ _]) Tryz.underlying24 inf23.size inf23.zero rfl (by decide) (by decide) (by decide) rfl) ?_
  refine Xd rfl rfl (Xg (off := 4) Xk Tryz.underlying26 Xk inf24.size (by decide) Xk) Xp ?_
  refine Xd rfl rfl (Xj rfl Tryz.underlying24 rfl Xr) Xp ?_
  refine Y5 rfl rfl (Yg (r := [.slice _ _ _]) Tryz.underlying24 inf23.size inf23.zero rfl (by decide) (by decide) (by decide) rfl) ?_
  obtain ⟨Ga3, leGa3, ha3, back3⟩ := hL.rot.last
  have zGa := leGa3.1
  obtain ⟨_, zA, qa, qb, qc, qd⟩ := bL.le leGa3
  have m0 := Xt leGa3 (by omega) (by intro e; cases e) l0
  have m1 := Xt leGa3 (by omega) (by intro e; cases e) l1
  refine Yi rfl rfl (Ent.append ha3 Tryz.underlying24 inf23 Xk Xk rfl (lb := H6.size) (by omega) m0 rfl (by intro v hv; simp at hv; subst hv; rfl) (by simp only [Uq, List.length_replicate]; omega) (by decide) ?_)
  rintro w3 Gb3 Hb3 leb3 hb3
  have hsameO := Ent.sameO ha3 leb3 hb3
  obtain ⟨Gc3, lec3, hc3⟩ := back3 Gb3 Hb3 _ leb3 hb3
  rw [eNil_next] at hc3 hb3
  obtain ⟨W3, cw3, rfl⟩ : ∃ A c, w3 = Value.slice A (i + 1) c := Zx (i := i + 1) (OwnP.sl hb3) (by simp [Uq])
  have bb3 := (bL.le lec3).le hc3.le
  obtain ⟨_, zb, qa3, qb3, qc3, qd3⟩ := id bb3
  have l1b := Xt hc3.le (by have := lec3.1; omega) (by intro e; cases e) (Xt lec3 (by omega) (by intro e; cases e) l1)
  refine ⟨Ye, ?_⟩
  clear hsameO qa qb qc qd m0 m1
  clear l1b
  have l1 := Xt lec3 (by omega) (by intro e; cases e) l1
  replace bL := bL.le lec3
  replace rL := rL.mono lec3.sees
  replace zL := Nat.le_trans zL lec3.1
  clear hL
  have hL := hc3
  have zH3 := hL.size
  refine Xd rfl rfl (Xg (off := 3) Xk Tryz.underlying26 Xk inf24.size (by decide) Xk) Xp ?_
  obtain ⟨Ga4, leGa4, ha4, back4⟩ := hL.rot.last
  have zGa := leGa4.1
  obtain ⟨_, zA, qa, qb, qc, qd⟩ := bL.le leGa4
  have m0 := Xt leGa4 (by omega) (by intro e; cases e) l1
  refine Yi rfl rfl (Ent.append ha4 Tryz.underlying24 inf23 Xk Xk rfl (lb := H6.size + 1) (by omega) m0 rfl (by intro v hv; simp at hv; subst hv; rfl) (by simp only [Uq, List.length_replicate]; omega) (by decide) ?_)
  rintro w4 Gb4 Hb4 leb4 hb4
  have hsameO := Ent.sameO ha4 leb4 hb4
  obtain ⟨Gc4, lec4, hc4⟩ := back4 Gb4 Hb4 _ leb4 hb4
  rw [eNil_next] at hc4 hb4
  obtain ⟨W4, cw4, rfl⟩ : ∃ A c, w4 = Value.slice A (i + 1) c := Zx (i := i + 1) (OwnP.sl hb4) (by simp [Uq])
  have bb4 := (bL.le lec4).le hc4.le
  obtain ⟨_, zb, qa4, qb4, qc4, qd4⟩ := id bb4
  refine ⟨Ye, ?_⟩
  clear hsameO qa qb qc qd m0
  replace bL := bL.le lec4
  replace rL := rL.mono lec4.sees
  replace zL := Nat.le_trans zL lec4.1
  clear hL
  have hL := hc4
  have zH4 := hL.size
  first | refine Yi rfl rfl (Yt rfl rfl rfl inf24.size Yc Yh rfl ?_)
  refine ⟨Ye, ?_⟩
  refine Xd rfl rfl (Xg (off := 4) Xk Tryz.underlying26 Xk inf24.size (by decide) Xk) Xp ?_
  first | refine Yi rfl rfl (Yt rfl rfl rfl inf24.size Yc Yh rfl ?_)
  refine ⟨Ye, ?_⟩
  refine Xe ?_
  obtain ⟨H7, hH7⟩ : ∃ H7, H7 = Hb4.put (H.size + 2) (.own 0 [.slice W0 (i + 1) cw0, .slice W1 (i + 1) cw1, .slice W2 (i + 1) cw2, .slice W3 (i + 1) cw3, .slice W4 (i + 1) cw4]) := ⟨_, rfl⟩
  obtain ⟨G7, hG7⟩ : ∃ G7, G7 = Gc4.put (H.size + 2) (.own 0 [.slice W0 (i + 1) cw0, .slice W1 (i + 1) cw1, .slice W2 (i + 1) cw2, .slice W3 (i + 1) cw3, .slice W4 (i + 1) cw4]) := ⟨_, rfl⟩
  have ownG7 := hL.put_box (by have := bL.2.1; omega) bL.2.2.2.2.1 [.slice W0 (i + 1) cw0, .slice W1 (i + 1) cw1, .slice W2 (i + 1) cw2, .slice W3 (i + 1) cw3, .slice W4 (i + 1) cw4]
  have bG7 := bL.put2 [.slice W0 (i + 1) cw0, .slice W1 (i + 1) cw1, .slice W2 (i + 1) cw2, .slice W3 (i + 1) cw3, .slice W4 (i + 1) cw4]
  have rG7 := rL.mono (Hp.sees_box (cs' := [.slice W0 (i + 1) cw0, .slice W1 (i + 1) cw1, .slice W2 (i + 1) cw2, .slice W3 (i + 1) cw3, .slice W4 (i + 1) cw4]) _ bL.2.2.2.2.1)
  rw [← hG7] at ownG7 bG7 rG7
  rw [← hH7] at ownG7
  change ACode true _ _ _ _ _ ((Hb4.put (H.size + 2) (.own 0 [.slice W0 (i + 1) cw0, .slice W1 (i + 1) cw1, .slice W2 (i + 1) cw2, .slice W3 (i + 1) cw3, .slice A4 i k4])).put (H.size + 2) (.own 0 [.slice W0 (i + 1) cw0, .slice W1 (i + 1) cw1, .slice W2 (i + 1) cw2, .slice W3 (i + 1) cw3, .slice W4 (i + 1) cw4]))
  rw [Hp.put_put]
  rw [← hH7]
  clear hH7 hG7 hL bL rL zL
  have bbH7 := bG7.le ownG7.le
  obtain ⟨_, zzH7, s0H7, s1H7, s2H7, s3H7⟩ := id bbH7
  have lit7 := OwnP.lit kLink H7 (cs := [])
  have own7 := ownG7.push .dead
  have b7 := bG7.le (G7.le_push .dead)
  have r7 := rG7.mono (G7.le_push .dead).sees
  obtain ⟨bs, os, es, hbs, hcs⟩ := (hs.mono leH1.sees).int_at (i := (i : Int)) (by omega) (by omega)
  subst es
  rw [Int.toNat_natCast, Zc hix] at hcs
  have hmi := hm _ (List.getElem_mem hix)
  have hcs0 : H.cell? bs (os + i * 1) = some (.int .i64 sizes[i]) := by
    obtain ⟨b9, o9, e9, hb9, hc9⟩ := hs.int_at (i := (i : Int)) (by omega) (by omega)
    simp only [Option.some.injEq, Addr.mk.injEq, and_true] at e9
    obtain ⟨rfl, rfl⟩ := e9
    rwa [Int.toNat_natCast, Zc hix] at hc9
  have hbs0 : bs < H.size := by
    obtain ⟨b9, o9, e9, hb9, hc9⟩ := hs.int_at (i := (i : Int)) (by omega) (by omega)
    simp only [Option.some.injEq, Addr.mk.injEq, and_true] at e9
    obtain ⟨rfl, rfl⟩ := e9
    exact hb9
  have hlen7 : nds.length = i := hr.len
  refine Xb (by kernel_rfl) ?_
  first | refine X3 (Yg (r := []) Tryz.underlying68 inf78.size inf78.zero rfl (by decide) (by decide) (by decide) rfl) ?_
  refine Xa (Ya rfl) ?_
  refine Xe ?_
  refine Xe ?_
  refine Xb (by kernel_rfl) ?_
  refine Xa (Xn rfl) ?_
  refine Yb ?_
  refine Y2 (fun n t H' => ∃ (k : Nat) (Gx Gm : Hp) (C : Option Addr) (c9 : Nat), k ≤ sizes[i].toNat ∧ n = sizes[i].toNat - k ∧ BxP H Gx [.slice W0 (i + 1) cw0, .slice W1 (i + 1) cw1, .slice W2 (i + 1) cw2, .slice W3 (i + 1) cw3, .slice W4 (i + 1) cw4] [.slice A5 i k5, .slice A6 i k6] ∧ OwnL Gx [eNds (.slice A5 i k5) nds, Uq (.slice A6 i k6) i, eStr (.slice W0 (i + 1) cw0) (i + 1), eInt (.slice W1 (i + 1) cw1) (i + 1), eNeg (.slice W2 (i + 1) cw2) (i + 1), Uq (.slice W3 (i + 1) cw3) (i + 1), Uq (.slice W4 (i + 1) cw4) (i + 1)] Gm ∧ ApartR Gx ways sizes i nds ∧ OwnP kLink Gm H' (.slice C k c9) (apartL ways k) ∧ t 0 = .int .u64 ways ∧ t 1 = .slice (some ⟨bs, os, none⟩) sizes.length cu ∧ t 4 = .pointer (some ⟨H.size, 0, none⟩) ∧ t 5 = .pointer (some ⟨H.size + 1, 0, none⟩) ∧ t 6 = .pointer (some ⟨H.size + 2, 0, none⟩) ∧ t 7 = .pointer (some ⟨H.size + 3, 0, none⟩) ∧ t 8 = .int .i64 i ∧ t 9 = .slice C k c9 ∧ t 10 = .int .i64 k) (sizes[i].toNat) (⟨0, _, _, _, _, by omega, rfl, b7, own7, r7, lit7, e0, e1, e4, e5, e6, e7, e8, rfl, rfl⟩) ?_
  rintro n t H8 ⟨k, Gx, Gm, C, c9, hk, rfl, bx, ownx, rx, ownl, e0, e1, e4, e5, e6, e7, e8, e9, e10⟩
  have leH8 := (bx.le (Hp.le_trans ownx.le ownl.le)).1
  have hcs8 := leH8.cell1 hbs0 hcs0
  have hll := apartL_len ways k
  have zl := ownl.size
  refine Xe ?_
  refine Xe ?_
  refine Xb (by kernel_rfl) ?_
  refine Xa (Xc Xk) ?_
  refine Xa (Xx Xk) ?_
  refine Xa (Xc Xk) ?_
  refine Xa (Xs rfl rfl Tryz.underlying23 inf3.size X2 X2) ?_
  refine Xa (Xj rfl Tryz.underlying3 rfl Xr) ?_
  refine Xa (Y3 rfl rfl) ?_
  refine X5 rfl rfl ?_ ?_
  intro hc2
  (try simp only [decide_eq_true_eq, decide_eq_false_iff_not, Bool.not_eq_true', Bool.not_eq_false'] at hc2)
  refine X7 ?_
  refine Xe ?_
  refine Yb ?_
  refine Xb (by kernel_rfl) ?_
  refine Xa (Xx Xk) ?_
  refine Xa (Xc Xk) ?_
  refine Xa (Xc Xk) ?_
  refine Xa (Xc Xk) ?_
  refine Xa (Xc Xk) ?_
  refine Xa (Y6 (pl := [(0, 1), (1, 1), (2, 1), (3, 1)]) (r := [.int .i64 _, .int .i64 _, .int .i64 _, .int .u64 _]) Tryz.underlying78 inf78.zero (by decide) rfl rfl) ?_
  first | refine X3 (Yg (r := [.int .i64 _, .int .i64 _, .int .i64 _, .int .u64 _]) Tryz.underlying68 inf78.size inf78.zero rfl (by decide) (by decide) (by decide) rfl) ?_
  refine X0 (OwnP.append (ys := [⟨k, k, k, ways⟩]) (ownl.push _) Tryz.underlying68 inf78 Xk Xk rfl (Zp (k := kLink) rfl rfl ownl.size rfl) (by rw [hll]; simp only [List.length_singleton]; omega) (by rw [hll]; simp only [List.length_singleton]; omega) ?_)
  rintro w9 G9 H9 le9 own9
  obtain ⟨C9, c99, e99⟩ := own9.shape
  rw [← apartL_next] at own9
  rw [List.length_append, hll, List.length_singleton] at e99
  subst e99
  obtain ⟨Gy, ley, owny⟩ := ownx.later (Hp.le_trans (Gm.le_push _) le9)
  refine Xa (Ya rfl) ?_
  refine Xb (by kernel_rfl) ?_
  refine Xa (Xc Xk) ?_
  refine Xa (Ym rfl rfl Yx) ?_
  refine Xa (Xn rfl) ?_
  exact ⟨sizes[i].toNat - (k + 1), by omega, k + 1, Gy, G9, C9, c99, by omega, rfl, bx.le ley, owny, rx.mono ley.sees, own9, e0, e1, e4, e5, e6, e7, e8, rfl, rfl⟩
  intro hc2
  (try simp only [decide_eq_true_eq, decide_eq_false_iff_not, Bool.not_eq_true', Bool.not_eq_false'] at hc2)
  refine Yu ?_
  obtain rfl : k = sizes[i].toNat := by omega
  obtain ⟨Gy, ley, owny⟩ := ownx.later ownl.le
  have by' := bx.le ley
  have slN := owny.below (k' := kLink) (fun st => Zd st) (by intro e he; simp at he; rcases he with rfl | rfl | rfl | rfl | rfl | rfl | rfl <;> exact (show (1 : Nat) ≠ 4 by decide)) ownl.sl
  have ry := rx.mono ley.sees
  obtain ⟨_, zz8, s08, s18, s28, s38⟩ := by'.le owny.le
  have zz12 := owny.size
  have hL := ((owny.push (.own 1 [.slice C sizes[i].toNat c9])).push (.own 1 [.slice none 0 0]))
  have leP : Gy.le ((Gy.push (.own 1 [.slice C sizes[i].toNat c9])).push (.own 1 [.slice none 0 0])) := Hp.le_trans (Hp.le_push (Gy) (.own 1 [.slice C sizes[i].toNat c9])) (Hp.le_push ((Gy.push (.own 1 [.slice C sizes[i].toNat c9]))) (.own 1 [.slice none 0 0]))
  have bL := by'.le leP
  have rL := ry.mono leP.sees
  have sN := slN.mono leP.sees
  have l0 : ((Gy.push (.own 1 [.slice C sizes[i].toNat c9])).push (.own 1 [.slice none 0 0])).get (H8.size) = .own 1 [.slice C sizes[i].toNat c9] := by rw [zz12]; exact Yc
  have l1 : ((Gy.push (.own 1 [.slice C sizes[i].toNat c9])).push (.own 1 [.slice none 0 0])).get (H8.size + 1) = .own 1 [.slice none 0 0] := by rw [zz12]; exact Yc
  have zL : H8.size + 2 ≤ ((Gy.push (.own 1 [.slice C sizes[i].toNat c9])).push (.own 1 [.slice none 0 0])).size := by simp; omega
  obtain ⟨GP, hGP⟩ : ∃ GP, GP = ((Gy.push (.own 1 [.slice C sizes[i].toNat c9])).push (.own 1 [.slice none 0 0])) := ⟨_, rfl⟩
  rw [← hGP] at hL bL rL zL sN l0 l1
  clear hGP leP
  refine Ys (by kernel_rfl) (Yy (B := [0, 1, 0, 4, 15, 0, 32, 0, 255, 127, 1023, 2047, 4095]) (π := [0, 1, 2, 3, 5, 6, 7, 4, 9, 8, 10, 11, 12]) (by kernel_rfl)) ?_
  refine Xd rfl rfl (Xg (off := 0) Xk Tryz.underlying29 Xk inf27.size (by decide) Xk) Xp ?_
  refine Xd rfl rfl (Xj rfl Tryz.underlying27 rfl Xr) Xp ?_
  refine Xd rfl rfl (Xx Xk) Xp ?_
  refine Y5 rfl rfl (Yg (r := [.slice _ _ _]) Tryz.underlying27 inf68.size inf68.zero rfl (by decide) (by decide) (by decide) rfl) ?_
  refine Xd rfl rfl (Xg (off := 1) Xk Tryz.underlying29 Xk inf27.size (by decide) Xk) Xp ?_
  refine Xd rfl rfl (Xj rfl Tryz.underlying27 rfl Xr) Xp ?_
  refine Y5 rfl rfl (Yg (r := [.slice _ _ _]) Tryz.underlying27 inf68.size inf68.zero rfl (by decide) (by decide) (by decide) rfl) ?_
  obtain ⟨Ga5, leGa5, ha5, back5⟩ := hL.rot.last
  have zGa := leGa5.1
  obtain ⟨_, zA, qa, qb, qc, qd⟩ := bL.le leGa5
  have m0 := Xt leGa5 (by omega) (by intro e; cases e) l0
  have m1 := Xt leGa5 (by omega) (by intro e; cases e) l1
  refine Yi rfl rfl (Ent.append ha5 Tryz.underlying27 inf68 Xk Xk rfl (lb := H8.size) (by omega) m0 rfl (by intro v hv; simp at hv; subst hv; rfl) (by simp only [eNds, rL.len]; omega) (by decide) ?_)
  rintro w5 Gb5 Hb5 leb5 hb5
  have hsameO := Ent.sameO ha5 leb5 hb5
  obtain ⟨Gc5, lec5, hc5⟩ := back5 Gb5 Hb5 _ leb5 hb5
  rw [eNds_next] at hc5 hb5
  obtain ⟨W5, cw5, rfl⟩ : ∃ A c, w5 = Value.slice A (i + 1) c := Zx (i := i + 1) (OwnP.sl hb5) (by simp [eNds, rL.len])
  have bb5 := (bL.le lec5).le hc5.le
  obtain ⟨_, zb, qa5, qb5, qc5, qd5⟩ := id bb5
  have l1b := Xt hc5.le (by have := lec5.1; omega) (by intro e; cases e) (Xt lec5 (by omega) (by intro e; cases e) l1)
  refine ⟨Ye, ?_⟩
  clear hsameO qa qb qc qd m0 m1
  clear l1b
  have l1 := Xt lec5 (by omega) (by intro e; cases e) l1
  replace bL := bL.le lec5
  replace sN := sN.mono lec5.sees
  replace rL := rL.mono lec5.sees
  replace zL := Nat.le_trans zL lec5.1
  clear hL
  have hL := hc5
  have zH5 := hL.size
  refine Xd rfl rfl (Xg (off := 0) Xk Tryz.underlying29 Xk inf27.size (by decide) Xk) Xp ?_
  obtain ⟨Ga6, leGa6, ha6, back6⟩ := hL.rot.last
  have zGa := leGa6.1
  obtain ⟨_, zA, qa, qb, qc, qd⟩ := bL.le leGa6
  have m0 := Xt leGa6 (by omega) (by intro e; cases e) l1
  refine Yi rfl rfl (Ent.append ha6 Tryz.underlying27 inf68 Xk Xk rfl (lb := H8.size + 1) (by omega) m0 rfl (by intro v hv; simp at hv; subst hv; rfl) (by simp only [Uq, List.length_replicate]; omega) (by decide) ?_)
  rintro w6 Gb6 Hb6 leb6 hb6
  have hsameO := Ent.sameO ha6 leb6 hb6
  obtain ⟨Gc6, lec6, hc6⟩ := back6 Gb6 Hb6 _ leb6 hb6
  rw [eNil_next] at hc6 hb6
  obtain ⟨W6, cw6, rfl⟩ : ∃ A c, w6 = Value.slice A (i + 1) c := Zx (i := i + 1) (OwnP.sl hb6) (by simp [Uq])
  have bb6 := (bL.le lec6).le hc6.le
  obtain ⟨_, zb, qa6, qb6, qc6, qd6⟩ := id bb6
  refine ⟨Ye, ?_⟩
  clear hsameO qa qb qc qd m0
  replace bL := bL.le lec6
  replace sN := sN.mono lec6.sees
  replace rL := rL.mono lec6.sees
  replace zL := Nat.le_trans zL lec6.1
  clear hL
  have hL := hc6
  have zH6 := hL.size
  first | refine Yi rfl rfl (Yt rfl rfl rfl inf27.size Yc Yh rfl ?_)
  refine ⟨Ye, ?_⟩
  refine Xd rfl rfl (Xg (off := 1) Xk Tryz.underlying29 Xk inf27.size (by decide) Xk) Xp ?_
  first | refine Yi rfl rfl (Yt rfl rfl rfl inf27.size Yc Yh rfl ?_)
  refine ⟨Ye, ?_⟩
  obtain ⟨H4, hH4⟩ : ∃ H4, H4 = Hb6.put (H.size + 3) (.own 0 [.slice W5 (i + 1) cw5, .slice W6 (i + 1) cw6]) := ⟨_, rfl⟩
  obtain ⟨G4, hG4⟩ : ∃ G4, G4 = Gc6.put (H.size + 3) (.own 0 [.slice W5 (i + 1) cw5, .slice W6 (i + 1) cw6]) := ⟨_, rfl⟩
  have ownG4 := hL.put_box (by have := bL.2.1; omega) bL.2.2.2.2.2 [.slice W5 (i + 1) cw5, .slice W6 (i + 1) cw6]
  have bG4 := bL.put3 [.slice W5 (i + 1) cw5, .slice W6 (i + 1) cw6]
  have rG4 := rL.mono (Hp.sees_box (cs' := [.slice W5 (i + 1) cw5, .slice W6 (i + 1) cw6]) _ bL.2.2.2.2.2)
  rw [← hG4] at ownG4 bG4 rG4
  rw [← hH4] at ownG4
  change ACode true _ _ _ _ _ ((Hb6.put (H.size + 3) (.own 0 [.slice W5 (i + 1) cw5, .slice A6 i k6])).put (H.size + 3) (.own 0 [.slice W5 (i + 1) cw5, .slice W6 (i + 1) cw6]))
  rw [Hp.put_put]
  rw [← hH4]
  have sN4 := sN.mono (Hp.sees_box (cs' := [.slice W5 (i + 1) cw5, .slice W6 (i + 1) cw6]) _ bL.2.2.2.2.2)
  rw [← hG4] at sN4
  clear hH4 hG4 hL bL rL zL
  have bbH4 := bG4.le ownG4.le
  obtain ⟨_, zzH4, s0H4, s1H4, s2H4, s3H4⟩ := id bbH4
  refine Xb (by kernel_rfl) ?_
  refine Xa (Xc Xk) ?_
  refine Xa (Ym rfl rfl Yx) ?_
  refine Xa (Xn rfl) ?_
  exact ⟨sizes.length - (i + 1), by omega, i + 1, G4, _, _, _, _, _, _, _, (nds ++ [[Value.slice C sizes[i].toNat c9]] : List (List Value)), by omega, rfl, bG4, ownG4, rG4.snoc hix sN4, e0, e1, e4, e5, e6, e7, rfl⟩
  intro hc1
  (try simp only [decide_eq_true_eq, decide_eq_false_iff_not, Bool.not_eq_true', Bool.not_eq_false'] at hc1)
  refine Yu ?_
  refine Xe ?_
  refine Ys (by kernel_rfl) (Yy (B := [0, 0, 1, 7]) (π := [0, 1, 2, 3]) (by kernel_rfl)) ?_
  refine Xd rfl rfl (Yk (cs := [.slice _ _ _, .slice _ _ _, .slice _ _ _, .slice _ _ _, .slice _ _ _]) Xk Tryz.underlying26 Xk inf26.size X8) Xp ?_
  refine Xd rfl rfl (Yk (cs := [.slice _ _ _, .slice _ _ _]) Xk Tryz.underlying29 Xk inf29.size X8) Xp ?_
  refine Yi rfl rfl (Yj (vs := [.slice _ _ _, .slice _ _ _, .slice _ _ _, .slice _ _ _, .slice _ _ _]) Xk Xk inf26.size Yc Yh Xk Xk ?_)
  refine ⟨Ye, ?_⟩
  refine Yi rfl rfl (Yj (vs := [.slice _ _ _, .slice _ _ _]) Xk Xk inf29.size Yc Yh Xk Xk ?_)
  refine ⟨Ye, ?_⟩
  refine X4 ?_
  obtain rfl : i = sizes.length := by omega
  have se := hown.le.sees
  have p0 := hown.sl (eStr (.slice A0 sizes.length k0) sizes.length) (by simp)
  have p1 := hown.sl (eInt (.slice A1 sizes.length k1) sizes.length) (by simp)
  have p2 := hown.sl (eNeg (.slice A2 sizes.length k2) sizes.length) (by simp)
  have p3 := hown.sl (Uq (.slice A3 sizes.length k3) sizes.length) (by simp)
  have p4 := hown.sl (Uq (.slice A4 sizes.length k4) sizes.length) (by simp)
  have p5 := hown.sl (eNds (.slice A5 sizes.length k5) nds) (by simp)
  have p6 := hown.sl (Uq (.slice A6 sizes.length k6) sizes.length) (by simp)
  have hrl := hr.len
  have hz1 : H1.sees (H1.put H.size (.own 0 [.slice A0 sizes.length k0, .slice A1 sizes.length k1, .slice A2 sizes.length k2, .slice A3 sizes.length k3, .slice A4 sizes.length k4])) := Hp.sees_box _ q0
  have hz2 : (H1.put H.size (.own 0 [.slice A0 sizes.length k0, .slice A1 sizes.length k1, .slice A2 sizes.length k2, .slice A3 sizes.length k3, .slice A4 sizes.length k4])).sees ((H1.put H.size (.own 0 [.slice A0 sizes.length k0, .slice A1 sizes.length k1, .slice A2 sizes.length k2, .slice A3 sizes.length k3, .slice A4 sizes.length k4])).put (H.size + 1) (.own 0 [.slice A5 sizes.length k5, .slice A6 sizes.length k6])) := Hp.sees_box (cs := [.slice none 0 0, .slice none 0 0]) _ (by rw [Hp.put_other _ _ (by omega)]; exact q1)
  have hz := hz1.trans hz2
  refine ⟨_, Y7 (Yr Xk (Yq (cs := [.slice A0 sizes.length k0, .slice A1 sizes.length k1, .slice A2 sizes.length k2, .slice A3 sizes.length k3, .slice A4 sizes.length k4]) Tryz.underlying26 rfl inf26.size X8)) (Yr Xk (Yq (cs := [.slice A5 sizes.length k5, .slice A6 sizes.length k6]) Tryz.underlying29 rfl inf29.size X8)), [_, _, _, _, _], [_, _], rfl, ⟨_, _, _, _, _, rfl, ?_, ?_, ?_, ?_, ?_⟩, ⟨_, _, rfl, ?_, ?_⟩, Hp.le_put_new (Hp.le_put_new leH1 (Nat.le_refl _) _) (by omega) _⟩
  · exact Sl.conv (k := kStr) (p0.mono hz) (by simp [eStr, apartF]) (fun j a b => by simp [eStr, apartF, kStr])
  · exact Sl.conv (k := Y1 .i64) (p1.mono hz) (by simp [eInt, apartF]) (fun j a b => by simp [eInt, apartF, Y1])
  · exact Sl.conv (k := Y1 .i64) (p2.mono hz) (by simp [eNeg, apartF]) (fun j a b => by simp [eNeg, apartF, Y1])
  · exact Sl.conv (k := Vm (Y1 .i64)) (p3.mono hz) (by simp [Uq, apartF]) (fun j a b => by simp only [Uq, apartF, List.getElem_replicate]; exact ⟨_, rfl, Sl.nil _ _⟩)
  · exact Sl.conv (k := Vm (Y1 .i64)) (p4.mono hz) (by simp [Uq, apartF]) (fun j a b => by simp only [Uq, apartF, List.getElem_replicate]; exact ⟨_, rfl, Sl.nil _ _⟩)
  · exact Sl.conv (k := Vm kLink) (p5.mono hz) (by simp [eNds, apartP, hrl]) (fun j a b => by
      obtain ⟨w, h1, h2⟩ := hr.at_ j a (by simpa [apartP] using b)
      simp only [apartP, List.getElem_map]
      exact ⟨w, h1, (h2.mono se).mono hz⟩)
  · exact Sl.conv (k := Vm kLink) (p6.mono hz) (by simp [Uq, apartP]) (fun j a b => by simp only [Uq, apartP, List.getElem_replicate, List.getElem_map]; exact ⟨_, rfl, Sl.nil _ _⟩)
end Go.Proofs.YtcaeoebphfjfiaaGreat.Am


/- What is told of no tree and of no walk; the small living call of the statements on walks. -/
namespace Go.Proofs.YtcaeoebphfjfiaaGreat.Am
open Go Go.RowKit
set_option maxRecDepth 100000
set_option linter.unusedVariables false
set_option linter.unusedSimpArgs false

theorem allN_nodes {T : TreeT} (hT : GoodT T) (hA : Alive T) : ∀ (k : Nat) (S : Zl), ValS T S → (allN T k S).map RowT.nodes = (Zt T S).take k ∧ ∀ r ∈ allN T k S, Vs T r.nodes = some r
  | 0, S, _ => ⟨by simp [allN], fun r h => by cases h⟩
  | k + 1, S, hv => by
    obtain ⟨h1, h2, _, _⟩ := next_tells hT hA _ S hv (Nat.le_refl _)
    rw [allN]
    cases hn : Zy T S with
    | mk S1 o =>
      rw [hn] at h1 h2
      cases o with
      | none =>
        have h2 : Zt T S = [] ∧ _ := h2
        simp [h2.1]
      | some r =>
        have h2 : Zt T S = r.nodes :: Zt T S1 ∧ Vs T r.nodes = some r := h2
        obtain ⟨i1, i2⟩ := allN_nodes hT hA k S1 h1
        refine ⟨by simp only [List.map_cons, i1, h2.1, List.take_succ_cons], fun r' h => ?_⟩
        rcases List.mem_cons.1 h with rfl | h
        · exact h2.2
        · exact i2 r' h
theorem allN_len {T : TreeT} (hT : GoodT T) (hA : Alive T) (k : Nat) (S : Zl) (hv : ValS T S) : (allN T k S).length ≤ (Zt T S).length := by
  have h := congrArg List.length (allN_nodes hT hA k S hv).1
  rw [List.length_map, List.length_take] at h
  omega
def liveF : Forest := apartF 2
def liveP : Parts := apartP 1 [2, 2]
def liveT : TreeT := ⟨[⟨#[120]⟩, ⟨#[120]⟩], [-1, -1], [[⟨0, 0, 0, 1⟩, ⟨1, 1, 1, 1⟩], [⟨0, 0, 0, 1⟩, ⟨1, 1, 1, 1⟩]]⟩
theorem good_live : GoodP liveF liveP := by
  refine ⟨⟨rfl, rfl, rfl, rfl, fun i hi => ?_⟩, rfl, rfl, fun v hv => ?_⟩
  · have hi' : i < 2 := hi
    rcases (by omega : i = 0 ∨ i = 1) with rfl | rfl <;> (unfold OkF; decide)
  · have hv' : v < 2 := hv
    rcases (by omega : v = 0 ∨ v = 1) with rfl | rfl <;> (unfold OkP; rw [Vr, Vr]; unfold OkL; decide)
theorem small_live : Small liveF liveP := ⟨by decide, by decide, by decide, by decide, by decide, by decide, by decide⟩
theorem cheap_live : Cheap liveP := by
  refine ⟨fun v => ?_, fun v => ?_⟩
  · match v with
    | 0 => decide
    | 1 => decide
    | v + 2 => intro x hx; cases hx
  · match v with
    | 0 => decide
    | 1 => decide
    | v + 2 => intro x hx; cases hx
theorem of_live : ofP liveF liveP = liveP := by
  refine ofP_fix good_live.gf good_live.lens good_live.nb (fun v hv hp => ?_) (fun h => ?_)
  · have hv' : v < 2 := hv
    rcases (by omega : v = 0 ∨ v = 1) with rfl | rfl <;> exact absurd rfl hp
  · have : liveF.order.any (Vn liveF liveP) = false := by decide
    rw [this] at h; cases h
theorem tree_live : Y9 liveF (ofP liveF liveP) = liveT := by rw [of_live]; rfl
theorem goodT_live : GoodT liveT := by
  have h := ofP_all good_live
  have := good_tree (ofP_good good_live) (by rw [of_live]; exact small_live) (cheap_live.sub h.2.1) (by decide)
  rwa [tree_live] at this
theorem alive_live : Alive liveT := by have := alive_tree good_live; rwa [tree_live] at this
set_option maxHeartbeats 1000000 in
theorem Uc (H : Hp) : ACalls Tryz.prog 11 #[] H (fun r H' => r = .bool true ∧ H.le H') := by
  refine Xv Tryz.func11 rfl rfl rfl (by simp) ?_
  refine Xe ?_
  refine Xb (by kernel_rfl) ?_
  refine Xa (Xo rfl) ?_
  refine Xe ?_
  refine Xb (by kernel_rfl) ?_
  first | refine X3 (Yg (r := [.int .i64 _, .int .i64 _]) Tryz.underlying23 inf3.size inf3.zero rfl (by decide) (by decide) (by decide) rfl) ?_
  refine X0 (X1 (Apart_ok 1 [2, 2] (.slice (some ⟨H.size, 0, none⟩) 2 2) _ (sl_two (k := Y1 .i64) Yc (by simp) rfl rfl rfl) (by decide) (by decide)) rfl Tryz.func45 rfl rfl rfl ?_)
  rintro v1 H1 ⟨cs1, ds1, rfl, hf1, hp1, hle1⟩; have hf10 := hf1; have hp10 := hp1; obtain ⟨a0, a1, a2, a3, a4, rfl, hs0, hs1, hs2, hs3, hs4⟩ := hf1; obtain ⟨A0, c0, rfl⟩ := hs0.shape; obtain ⟨A1, c1, rfl⟩ := hs1.shape; obtain ⟨A2, c2, rfl⟩ := hs2.shape; obtain ⟨A3, c3, rfl⟩ := hs3.shape; obtain ⟨A4, c4, rfl⟩ := hs4.shape; obtain ⟨u0, u1, rfl, hn0, hn1⟩ := hp1; obtain ⟨B0, d0, rfl⟩ := hn0.shape; obtain ⟨B1, d1, rfl⟩ := hn1.shape; have hz1 := hle1.1; simp only [Hp.push_size] at hz1
  refine Xa (Zn rfl) ?_
  refine Xa (Yn rfl rfl) ?_
  refine Xa (Yn rfl rfl) ?_
  refine X3 (Yz (l := [.slice none 0 0, .slice none 0 0, .slice none 0 0, .slice none 0 0, .slice none 0 0]) inf26.zero rfl (by decide)) ?_
  refine X3 (Yz (l := [.slice none 0 0, .slice none 0 0]) inf29.zero rfl (by decide)) ?_
  refine X0 (Yj (vs := [.slice _ _ _, .slice _ _ _, .slice _ _ _, .slice _ _ _, .slice _ _ _]) rfl rfl inf26.size Yc Yh rfl rfl ?_)
  refine X0 (Yj (vs := [.slice _ _ _, .slice _ _ _]) rfl rfl inf29.size Yc Yh rfl rfl ?_)
  refine Xe ?_
  refine Xb (by kernel_rfl) ?_
  refine Xa (Yk (cs := [.slice _ _ _, .slice _ _ _, .slice _ _ _, .slice _ _ _, .slice _ _ _]) rfl Tryz.underlying26 rfl inf26.size X8) ?_
  refine Xa (Yk (cs := [.slice _ _ _, .slice _ _ _]) rfl Tryz.underlying29 rfl inf29.size X8) ?_
  refine X0 (X1 (New_good liveF liveP _ _ _ (kForest.mono Zk hf10) (kParts.mono Zk hp10) small_live cheap_live good_live) rfl Tryz.func9 rfl rfl rfl ?_)
  rintro v2 H2 ⟨hle2, tb, rfl, htr⟩; rw [tree_live] at htr
  refine Xa (Zn rfl) ?_
  refine Xa (Yn rfl rfl) ?_
  refine Xa (Yn rfl rfl) ?_
  refine Xa (Ze rfl) ?_
  refine Xa (Xn rfl) ?_
  refine Xe ?_
  have leH1 : H.le H1 := Hp.le_trans (H.le_push _) hle1
  have leH2 : H.le H2 := Hp.le_trans t_le hle2
  clear hle2
  refine Xb (by kernel_rfl) ?_
  refine Xa (Xw rfl) ?_
  refine X0 (X1 (All_gen goodT_live alive_live (some ⟨tb, 0, none⟩) w0 (.inl rfl) (fun H => fresh_tree tb H) _ (fun _ => htr) 9 (fun k => Nat.le_trans (allN_len goodT_live alive_live k w0 (val_w0 _)) (by decide))) rfl Tryz.func19 rfl rfl rfl ?_)
  rintro v3 H3 ⟨hle3, hs3⟩; rw [show allN liveT (9 : Int).toNat w0 = [⟨[0, 0], 0, 1⟩, ⟨[0, 1], 1, 1⟩, ⟨[1, 0], 1, 1⟩, ⟨[1, 1], 2, 1⟩] from rfl] at hs3; obtain ⟨A3, k3, rfl⟩ := hs3.shape
  refine Xa (Ya rfl) ?_
  refine Xe ?_
  obtain ⟨b5, o5, w5, e5, hb5, hc5, hw5⟩ := hs3.row_at (i := 1) (by decide)
  subst e5
  obtain ⟨A5, k5, rfl⟩ := hw5.shape
  have hc50 := hc5 0 _ rfl
  obtain ⟨b6, o6, e6, hb6, hc6⟩ := hw5.int_at (i := 0) (by decide) (by decide)
  obtain ⟨b7, o7, e7, hb7, hc7⟩ := hw5.int_at (i := 1) (by decide) (by decide)
  subst e6
  simp only [Option.some.injEq, Addr.mk.injEq, and_true] at e7
  obtain ⟨rfl, rfl⟩ := e7
  refine Xb (by kernel_rfl) ?_
  refine Xa (Xc rfl) ?_
  refine Xa (Z3 rfl rfl) ?_
  refine Xa (Xq rfl) ?_
  refine Yd rfl rfl rfl ?_ ?_
  intro hg1
  have hp1 := hg1; try simp only [decide_eq_true_eq, decide_eq_false_iff_not, Bool.not_eq_true', Bool.not_eq_false'] at hp1
  refine Xl (Xh rfl rfl rfl hg1) (Xx rfl) ?_
  refine Xl (Xh rfl rfl rfl hg1) (Yo rfl Tryz.underlying51) ?_
  refine Xl (Xh rfl rfl rfl hg1) (Z3 rfl rfl) ?_
  refine Xa (Xm (congrArg Value.bool hg1) rfl) ?_
  refine Xa (Xq rfl) ?_
  refine Yd rfl rfl rfl ?_ ?_
  intro hg2
  have hp2 := hg2; try simp only [decide_eq_true_eq, decide_eq_false_iff_not, Bool.not_eq_true', Bool.not_eq_false'] at hp2
  refine Xl (Xh rfl rfl rfl hg2) (Xx rfl) ?_
  refine Xl (Xh rfl rfl rfl hg2) (Xs rfl rfl Tryz.underlying51 inf44.size X2 X2) ?_
  refine Xl (Xh rfl rfl rfl hg2) (Xg (off := 0) rfl Tryz.underlying44 rfl inf23.size (by decide) rfl) ?_
  refine Xl (Xh rfl rfl rfl hg2) (Xj rfl Tryz.underlying23 rfl Xr) ?_
  refine Xl (Xh rfl rfl rfl hg2) (Yo rfl Tryz.underlying23) ?_
  refine Xl (Xh rfl rfl rfl hg2) (Z3 rfl rfl) ?_
  refine Xa (Xm (congrArg Value.bool hg2) rfl) ?_
  refine Xa (Xq rfl) ?_
  refine Yd rfl rfl rfl ?_ ?_
  intro hg3
  have hp3 := hg3; try simp only [decide_eq_true_eq, decide_eq_false_iff_not, Bool.not_eq_true', Bool.not_eq_false'] at hp3
  refine Xl (Xh rfl rfl rfl hg3) (Xx rfl) ?_
  refine Xl (Xh rfl rfl rfl hg3) (Xs rfl rfl Tryz.underlying51 inf44.size X2 X2) ?_
  refine Xl (Xh rfl rfl rfl hg3) (Xg (off := 0) rfl Tryz.underlying44 rfl inf23.size (by decide) rfl) ?_
  refine Xl (Xh rfl rfl rfl hg3) (Xj rfl Tryz.underlying23 rfl Xr) ?_
  refine Xl (Xh rfl rfl rfl hg3) (Xs rfl rfl Tryz.underlying23 inf3.size X2 X2) ?_
  refine Xl (Xh rfl rfl rfl hg3) (Xj rfl Tryz.underlying3 rfl Xr) ?_
  refine Xl (Xh rfl rfl rfl hg3) (Z3 rfl rfl) ?_
  refine Xa (Xm (congrArg Value.bool hg3) rfl) ?_
  refine Xa (Xq rfl) ?_
  refine Yd rfl rfl rfl ?_ ?_
  intro hg4
  have hp4 := hg4; try simp only [decide_eq_true_eq, decide_eq_false_iff_not, Bool.not_eq_true', Bool.not_eq_false'] at hp4
  refine Xl (Xh rfl rfl rfl hg4) (Xx rfl) ?_
  refine Xl (Xh rfl rfl rfl hg4) (Xs rfl rfl Tryz.underlying51 inf44.size X2 X2) ?_
  refine Xl (Xh rfl rfl rfl hg4) (Xg (off := 0) rfl Tryz.underlying44 rfl inf23.size (by decide) rfl) ?_
  refine Xl (Xh rfl rfl rfl hg4) (Xj rfl Tryz.underlying23 rfl Xr) ?_
  refine Xl (Xh rfl rfl rfl hg4) (Xs rfl rfl Tryz.underlying23 inf3.size X2 X2) ?_
  refine Xl (Xh rfl rfl rfl hg4) (Xj rfl Tryz.underlying3 rfl Xr) ?_
  refine Xl (Xh rfl rfl rfl hg4) (Z3 rfl rfl) ?_
  refine Xa (Xm (congrArg Value.bool hg4) rfl) ?_
  refine Xa (Xo rfl) ?_
  refine X4 ?_
  exact ⟨.bool true, Xy (Xu rfl), rfl, Hp.le_trans leH2 hle3⟩
  intro hg4
  exact absurd hg4 (by decide)
  intro hg3
  exact absurd hg3 (by decide)
  intro hg2
  exact absurd hg2 (by decide)
  intro hg1
  exact absurd hg1 (by decide)
end Go.Proofs.YtcaeoebphfjfiaaGreat.Am


/- Whether two lists of numbers are one; what a tree tells of nodes. -/
namespace Go.Proofs.YtcaeoebphfjfiaaGreat.Am
open Go Go.RowKit
set_option maxRecDepth 100000
set_option linter.unusedVariables false
set_option linter.unusedSimpArgs false

end Go.Proofs.YtcaeoebphfjfiaaGreat.Am


/- The small living call of the statements on reducing. -/
namespace Go.Proofs.YtcaeoebphfjfiaaGreat.Am
open Go Go.RowKit
set_option maxRecDepth 100000
set_option linter.unusedVariables false
set_option linter.unusedSimpArgs false

end Go.Proofs.YtcaeoebphfjfiaaGreat.Am


/- Forests of few variables: cut once is cut twice; the statements' own words. -/
namespace Go.Proofs.YtcaeoebphfjfiaaGreat.Am
open Go Go.RowKit
set_option maxRecDepth 100000
set_option linter.unusedVariables false
set_option linter.unusedSimpArgs false

structure BigF (f : Forest) : Prop where
  l0 : f.vars.length ≤ 9223372036854775807
  l1 : f.order.length ≤ 9223372036854775807
  l2 : f.parent.length ≤ 9223372036854775807
  l3 : f.links.length ≤ 9223372036854775807
  l4 : f.loops.length ≤ 9223372036854775807
  s3 : ∀ l ∈ f.links, l.length ≤ 9223372036854775807
  s4 : ∀ l ∈ f.loops, l.length ≤ 9223372036854775807
structure BigP (p : Parts) : Prop where
  l0 : p.nodes.length ≤ 9223372036854775807
  l1 : p.links.length ≤ 9223372036854775807
  s0 : ∀ l ∈ p.nodes, l.length ≤ 9223372036854775807
  s1 : ∀ l ∈ p.links, l.length ≤ 9223372036854775807
theorem Forest_28 (f : Forest) (cs : List Value) (H : Hp) (hp : kForest.rep H f cs) (hb : BigF f) :
    ACalls Tryz.prog 7 #[.agg cs.toArray] H (fun r H' => H.le H' ∧ ∃ ds, r = .agg ds.toArray ∧ kForest.rep H' f.few ds) := by
  have hp0 := hp
  obtain ⟨v0, v1, v2, v3, v4, rfl, hs0, hs1, hs2, hs3, hs4⟩ := hp
  obtain ⟨A0, c0, rfl⟩ := hs0.shape
  obtain ⟨A1, c1, rfl⟩ := hs1.shape
  obtain ⟨A2, c2, rfl⟩ := hs2.shape
  obtain ⟨A3, c3, rfl⟩ := hs3.shape
  obtain ⟨A4, c4, rfl⟩ := hs4.shape
  refine Xv Tryz.func7 rfl rfl rfl (by simp) ?_
  refine Xe ?_
  refine Xb (by kernel_rfl) ?_
  refine X3 (Yv rfl) ?_
  refine X3 (Yz (l := [.slice none 0 0, .slice none 0 0, .slice none 0 0, .slice none 0 0, .slice none 0 0]) inf26.zero rfl (by decide)) ?_
  refine Xe ?_
  refine Xb (by kernel_rfl) ?_
  refine Xa (Yk (cs := [.slice _ _ _, .slice _ _ _, .slice _ _ _, .slice _ _ _, .slice _ _ _]) rfl Tryz.underlying26 rfl inf26.size X8) ?_
  refine X0 (X1 (Few_forest f _ _ (kForest.mono Zk hp0) hb.l0 hb.l1 hb.l2 hb.l3 hb.l4 hb.s3 hb.s4) rfl Tryz.func38 rfl rfl rfl ?_)
  rintro v2 H2 ⟨hle2, ds, rfl, hds⟩; have hds0 := hds; obtain ⟨a0, a1, a2, a3, a4, rfl, ht0, ht1, ht2, ht3, ht4⟩ := hds; obtain ⟨B0, d0, rfl⟩ := ht0.shape; obtain ⟨B1, d1, rfl⟩ := ht1.shape; obtain ⟨B2, d2, rfl⟩ := ht2.shape; obtain ⟨B3, d3, rfl⟩ := ht3.shape; obtain ⟨B4, d4, rfl⟩ := ht4.shape; have hz2 := hle2.1; simp only [Hp.push_size] at hz2
  refine X0 (Yj (vs := [.slice _ _ _, .slice _ _ _, .slice _ _ _, .slice _ _ _, .slice _ _ _]) rfl rfl inf26.size Yc Yh rfl rfl ?_)
  refine X4 ?_
  have k1 : H2.get (H.size + 1) = .own 0 [.slice none 0 0, .slice none 0 0, .slice none 0 0, .slice none 0 0, .slice none 0 0] := Xt hle2 (by simp) (by intro e; cases e) Yc
  exact ⟨_, Xy (Yr Xk (Yq (cs := [_, _, _, _, _]) Tryz.underlying26 rfl inf26.size X8)), Hp.le_put_new (Hp.le_trans (Hp.le_push' (H.le_push _) _) hle2) (by simp <;> omega) _, [_, _, _, _, _], rfl, kForest.mono (Hp.sees_box _ k1) hds0⟩
theorem small_few (f : Forest) (p : Parts) : Small f.few p.few4 := by
  have h8 : ∀ {α : Type} (xs : List α), (xs.take 8).length ≤ 8 := fun xs => by rw [List.length_take]; omega
  refine ⟨?_, ?_, ?_, ?_, ?_, fun l hl => ?_, fun l hl => ?_⟩
  · show ((f.vars.take 8).map _).length ≤ _; rw [List.length_map]; have := h8 f.vars; omega
  · show (f.order.take 8).length ≤ _; have := h8 f.order; omega
  · show (f.parent.take 8).length ≤ _; have := h8 f.parent; omega
  · show (((p.nodes.take 8).map Z0).map _).length ≤ _; rw [List.length_map, List.length_map]; have := h8 p.nodes; omega
  · show ((p.links.take 8).map Z0).length ≤ _; rw [List.length_map]; have := h8 p.links; omega
  · obtain ⟨m, _, rfl⟩ := List.mem_map.1 hl
    rw [List.length_take]; omega
  · obtain ⟨m, _, rfl⟩ := List.mem_map.1 hl
    unfold Z0; rw [List.length_map, List.length_take]; omega
theorem Link.few_few (x : Link) : x.few.few = x.few := by
  unfold Link.few
  by_cases h : 1000000000 < x.cost
  · rw [if_pos h]; simp
  · rw [if_neg h, if_neg h]
theorem fewL_le (xs : List Link) : (Z0 xs).length ≤ 25 := by unfold Z0; rw [List.length_map, List.length_take]; omega
theorem fewL_take (m : Nat) (xs : List Link) : Z0 ((Z0 xs).take m) = (Z0 xs).take m := by
  have h : (Z0 xs).map Link.few = Z0 xs := by
    unfold Z0
    rw [List.map_map, show Link.few ∘ Link.few = Link.few from funext Link.few_few]
  show (((Z0 xs).take m).take 25).map Link.few = _
  rw [List.take_of_length_le (by rw [List.length_take]; have := fewL_le xs; omega), List.map_take, h]
theorem fewL_idem (xs : List Link) : Z0 (Z0 xs) = Z0 xs := by
  have := fewL_take (Z0 xs).length xs
  rwa [List.take_length] at this
theorem few4_few4 (p : Parts) : p.few4.few4 = p.few4 := by
  unfold Parts.few4 Parts.few
  simp only [List.map_map, ← List.map_take, List.take_take, Nat.min_self]
  congr 1
  · refine List.map_congr_left fun l _ => ?_
    simp only [Function.comp]
    rw [fewL_take, List.take_take, Nat.min_self]
  · exact List.map_congr_left fun l _ => fewL_idem l
theorem cutS_idem (s : ByteArray) : cutS (cutS s 32) 32 = cutS s 32 := by
  unfold cutS
  by_cases h : 32 < s.size
  · rw [if_pos h, if_neg (by rw [ByteArray.size_extract]; omega)]
  · rw [if_neg h, if_neg h]
theorem ffew_ffew (f : Forest) : f.few.few = f.few := by
  unfold Forest.few
  simp only [← List.map_take, List.take_take, Nat.min_self, List.map_map]
  congr 1
  · exact List.map_congr_left fun s _ => cutS_idem s
  · exact List.map_congr_left fun l _ => by simp [List.take_take]
  · exact List.map_congr_left fun l _ => by simp [List.take_take]
theorem bigF_few (f : Forest) : BigF f.few := by
  have h := (small_few f ⟨[], []⟩)
  have h8 : ∀ {α : Type} (xs : List α), (xs.take 8).length ≤ 8 := fun xs => by rw [List.length_take]; omega
  refine ⟨by have := h.s0; omega, by have := h.s1; omega, by have := h.s2; omega, ?_, ?_, fun l hl => ?_, fun l hl => ?_⟩
  · show ((f.links.take 8).map _).length ≤ _; rw [List.length_map]; have := h8 f.links; omega
  · show ((f.loops.take 8).map _).length ≤ _; rw [List.length_map]; have := h8 f.loops; omega
  · obtain ⟨m, _, rfl⟩ := List.mem_map.1 hl; rw [List.length_take]; omega
  · obtain ⟨m, _, rfl⟩ := List.mem_map.1 hl; rw [List.length_take]; omega
theorem bigP_few (p : Parts) : BigP p.few4 := by
  have h := (small_few ⟨[], [], [], [], []⟩ p)
  exact ⟨by have := h.s3; omega, by have := h.s4; omega, fun l hl => by have := h.s5 l hl; omega, fun l hl => by have := h.s6 l hl; omega⟩
end Go.Proofs.YtcaeoebphfjfiaaGreat.Am


/- The statement ReduceTwice, as the abstract machine runs it. -/
namespace Go.Proofs.YtcaeoebphfjfiaaGreat.Am
open Go Go.RowKit
set_option maxRecDepth 100000
set_option linter.unusedVariables false
set_option linter.unusedSimpArgs false

theorem small_sub {f : Forest} {p q : Parts} (h : Small f p) (hl : Lens f.vars.length q) (hs : Sub q p) : Small f q :=
  ⟨h.s0, h.s1, h.s2, by rw [hl.1]; exact h.s0, by rw [hl.2]; exact h.s0, fun l hm => by
    obtain ⟨i, hi, rfl⟩ := List.getElem_of_mem hm
    have k1 := (hs i).1.length_le
    unfold nd at k1
    rw [Y8 hi] at k1
    exact Nat.le_trans k1 (Vo h.s5 i), fun l hm => by
    obtain ⟨i, hi, rfl⟩ := List.getElem_of_mem hm
    have k1 := (hs i).2.length_le
    unfold lk at k1
    rw [Y8 hi] at k1
    exact Nat.le_trans k1 (Vo h.s6 i)⟩
end Go.Proofs.YtcaeoebphfjfiaaGreat.Am


/- The document's Up and Down. -/
namespace Go.Proofs.YtcaeoebphfjfiaaGreat.Am
open Go Go.RowKit
set_option maxRecDepth 100000
set_option linter.unusedVariables false
set_option linter.unusedSimpArgs false

end Go.Proofs.YtcaeoebphfjfiaaGreat.Am


/- The statement ReduceHalves, as the abstract machine runs it. -/
namespace Go.Proofs.YtcaeoebphfjfiaaGreat.Am
open Go Go.RowKit
set_option maxRecDepth 100000
set_option linter.unusedVariables false
set_option linter.unusedSimpArgs false

end Go.Proofs.YtcaeoebphfjfiaaGreat.Am


/- How many nodes and links; whether nothing is left. -/
namespace Go.Proofs.YtcaeoebphfjfiaaGreat.Am
open Go Go.RowKit
set_option maxRecDepth 100000
set_option linter.unusedVariables false
set_option linter.unusedSimpArgs false

end Go.Proofs.YtcaeoebphfjfiaaGreat.Am


/- The statement ReduceRows, as the abstract machine runs it. -/
namespace Go.Proofs.YtcaeoebphfjfiaaGreat.Am
open Go Go.RowKit
set_option maxRecDepth 100000
set_option linter.unusedVariables false
set_option linter.unusedSimpArgs false

theorem few_cost (x : Link) : x.few.cost ≤ 1000000000 := by
  unfold Link.few
  by_cases h : 1000000000 < x.cost
  · rw [if_pos h]; simp
  · rw [if_neg h]; omega
theorem fewL_cost {xs : List Link} {x : Link} (h : x ∈ Z0 xs) : x.cost ≤ 1000000000 := by
  unfold Z0 at h
  obtain ⟨y, _, rfl⟩ := List.mem_map.1 h
  exact few_cost y
theorem tiny_few {f : Forest} {p : Parts} (hg : GoodP f.few p.few4) (hs : f.few.vars.length < 6) : Tiny f.few p.few4 := by
  have getn : ∀ v, ∀ x ∈ nd p.few4 v, v < f.few.vars.length := fun v x hx => by
    rcases Nat.lt_or_ge v f.few.vars.length with h | h
    · exact h
    · unfold nd at hx
      rw [List.getD_eq_getElem?_getD, List.getElem?_eq_none (by have := hg.n1; omega)] at hx; simp at hx
  have getl : ∀ v, ∀ x ∈ lk p.few4 v, v < f.few.vars.length := fun v x hx => by
    rcases Nat.lt_or_ge v f.few.vars.length with h | h
    · exact h
    · unfold lk at hx
      rw [List.getD_eq_getElem?_getD, List.getElem?_eq_none (by have := hg.n2; omega)] at hx; simp at hx
  refine ⟨by omega, fun v => ?_, fun v x hx => ?_, fun v x hx => ?_⟩
  · unfold nd
    by_cases h : v < p.few4.nodes.length
    · rw [Y8 h]
      obtain ⟨l, _, e⟩ := List.mem_map.1 (show p.few4.nodes[v] ∈ (p.few.nodes.map (·.take 4)) from List.getElem_mem h)
      rw [← e, List.length_take]; omega
    · rw [List.getD_eq_getElem?_getD, List.getElem?_eq_none (by omega)]; simp
  · have hv := getn v x hx
    obtain ⟨k1, _⟩ := Vr.1 (hg.ok v hv).1
    obtain ⟨a1, a2, a3, a4, a5, a6, a7⟩ := k1 x hx
    refine ⟨a5, ?_, by omega, a7⟩
    have h : v < p.few4.nodes.length := by rw [hg.n1]; exact hv
    unfold nd at hx
    rw [Y8 h] at hx
    obtain ⟨l, hl, e⟩ := List.mem_map.1 (show p.few4.nodes[v] ∈ (p.few.nodes.map (·.take 4)) from List.getElem_mem h)
    rw [← e] at hx
    obtain ⟨l2, _, rfl⟩ := List.mem_map.1 hl
    exact fewL_cost (List.mem_of_mem_take hx)
  · have hv := getl v x hx
    obtain ⟨k1, _⟩ := Vr.1 (hg.ok v hv).2.1
    obtain ⟨a1, a2, a3, a4, a5, a6, a7⟩ := k1 x hx
    refine ⟨a5, ?_, by omega, a7⟩
    have h : v < p.few4.links.length := by rw [hg.n2]; exact hv
    unfold lk at hx
    rw [Y8 h] at hx
    obtain ⟨l, hl, e⟩ := List.mem_map.1 (show p.few4.links[v] ∈ ((p.links.take 8).map Z0) from List.getElem_mem h)
    rw [← e] at hx
    exact fewL_cost hx
theorem Tiny.sub {f : Forest} {p q : Parts} (h : Tiny f p) (hs : Sub q p) : Tiny f q :=
  ⟨h.vars, fun v => Nat.le_trans (hs v).1.length_le (h.nodes v), fun v x hx => h.costN v x ((hs v).1.subset hx), fun v x hx => h.costL v x ((hs v).2.subset hx)⟩
end Go.Proofs.YtcaeoebphfjfiaaGreat.Am


/- The statement TreeRows, as the abstract machine runs it. -/
namespace Go.Proofs.YtcaeoebphfjfiaaGreat.Am
open Go Go.RowKit
set_option maxRecDepth 100000
set_option linter.unusedVariables false
set_option linter.unusedSimpArgs false

theorem cheap_few {f : Forest} {p : Parts} (hg : GoodP f.few p.few4) : Cheap p.few4 := by
  have getn : ∀ v, ∀ x ∈ nd p.few4 v, v < f.few.vars.length := fun v x hx => by
    rcases Nat.lt_or_ge v f.few.vars.length with h | h
    · exact h
    · unfold nd at hx
      rw [List.getD_eq_getElem?_getD, List.getElem?_eq_none (by have := hg.n1; omega)] at hx; simp at hx
  have getl : ∀ v, ∀ x ∈ lk p.few4 v, v < f.few.vars.length := fun v x hx => by
    rcases Nat.lt_or_ge v f.few.vars.length with h | h
    · exact h
    · unfold lk at hx
      rw [List.getD_eq_getElem?_getD, List.getElem?_eq_none (by have := hg.n2; omega)] at hx; simp at hx
  refine ⟨fun v x hx => ?_, fun v x hx => ?_⟩
  · have hv := getn v x hx
    obtain ⟨k1, _⟩ := Vr.1 (hg.ok v hv).1
    obtain ⟨a1, a2, a3, a4, a5, a6, a7⟩ := k1 x hx
    refine ⟨a5, ?_, by omega⟩
    have h : v < p.few4.nodes.length := by rw [hg.n1]; exact hv
    unfold nd at hx
    rw [Y8 h] at hx
    obtain ⟨l, hl, e⟩ := List.mem_map.1 (show p.few4.nodes[v] ∈ (p.few.nodes.map (·.take 4)) from List.getElem_mem h)
    rw [← e] at hx
    obtain ⟨l2, _, rfl⟩ := List.mem_map.1 hl
    exact fewL_cost (List.mem_of_mem_take hx)
  · have hv := getl v x hx
    obtain ⟨k1, _⟩ := Vr.1 (hg.ok v hv).2.1
    obtain ⟨a1, a2, a3, a4, a5, a6, a7⟩ := k1 x hx
    refine ⟨a5, ?_, by omega⟩
    have h : v < p.few4.links.length := by rw [hg.n2]; exact hv
    unfold lk at hx
    rw [Y8 h] at hx
    obtain ⟨l, hl, e⟩ := List.mem_map.1 (show p.few4.links[v] ∈ ((p.links.take 8).map Z0) from List.getElem_mem h)
    rw [← e] at hx
    exact fewL_cost hx
theorem few_vars (f : Forest) : f.few.vars.length ≤ 8 := by
  show ((f.vars.take 8).map _).length ≤ 8
  rw [List.length_map, List.length_take]; omega
end Go.Proofs.YtcaeoebphfjfiaaGreat.Am


/- Rows as the document tells them. -/
namespace Go.Proofs.YtcaeoebphfjfiaaGreat.Am
open Go Go.RowKit
set_option maxRecDepth 100000
set_option linter.unusedVariables false
set_option linter.unusedSimpArgs false

def V8 : List Int → List Int → Int
  | x :: xs, y :: ys => if x < y then -1 else if y < x then 1 else V8 xs ys
  | _, _ => 0
theorem cmpZ_self : ∀ xs : List Int, V8 xs xs = 0
  | [] => rfl
  | x :: xs => by rw [V8, if_neg (by omega), if_neg (by omega)]; exact cmpZ_self xs
theorem cmpZ_end {xs ys : List Int} (h : xs = [] ∨ ys = []) : V8 xs ys = 0 := by
  rcases h with rfl | rfl
  · cases ys <;> rfl
  · cases xs <;> rfl
theorem Cmp_raw (xs ys : List Int) (v u : Value) (H : Hp) (hs : Sl (Y1 .i64) H v xs) (hu : Sl (Y1 .i64) H u ys) (hl : xs.length ≤ 1000000000) (hl2 : ys.length ≤ 1000000000) :
    ACalls Tryz.prog 51 #[v, u] H (fun r _ => r = .int .i64 (V8 xs ys)) := by
  obtain ⟨A, c, rfl⟩ := hs.shape
  obtain ⟨B, c2, rfl⟩ := hu.shape
  refine Xv Tryz.func51 rfl rfl rfl (by simp) ?_
  refine Xe ?_
  refine Xb (by kernel_rfl) ?_
  refine Xa (Xn rfl) ?_
  refine Xe ?_
  refine Xe ?_
  refine Xb (by kernel_rfl) ?_
  refine Xa (Xn rfl) ?_
  refine Yb ?_
  refine Y2 (fun n t H' => ∃ i : Nat, i ≤ xs.length ∧ i ≤ ys.length ∧ n = xs.length - i ∧ H' = H ∧ V8 xs ys = V8 (xs.drop i) (ys.drop i) ∧ t 0 = .slice A xs.length c ∧ t 1 = .slice B ys.length c2 ∧ t 5 = .int .i64 i) (xs.length) (⟨0, by omega, by omega, rfl, rfl, rfl, rfl, rfl, rfl⟩) ?_
  rintro n t H ⟨i, hi, hi2, rfl, rfl, hor, e0, e1, e5⟩
  refine Xe ?_
  refine Xe ?_
  refine Xb (by kernel_rfl) ?_
  refine Xa (Xc Xk) ?_
  refine Xa (Xx Xk) ?_
  refine Xa (Yo rfl Tryz.underlying23) ?_
  refine Xa (Y3 rfl rfl) ?_
  refine Xa (Xq rfl) ?_
  refine Yd rfl rfl rfl ?_ ?_
  intro hg1
  have hx : i < xs.length := by have := of_decide_eq_true hg1; omega
  refine Xl (Xh rfl rfl rfl hg1) (Xc Xk) ?_
  refine Xl (Xh rfl rfl rfl hg1) (Xx Xk) ?_
  refine Xl (Xh rfl rfl rfl hg1) (Yo rfl Tryz.underlying23) ?_
  refine Xl (Xh rfl rfl rfl hg1) (Y3 rfl rfl) ?_
  refine Xa (Xm (congrArg Value.bool hg1) rfl) ?_
  refine X5 rfl rfl ?_ ?_
  intro hc2
  have hy : i < ys.length := by have := of_decide_eq_true hc2; omega
  have d1 : xs.drop i = xs[i] :: xs.drop (i + 1) := List.drop_eq_getElem_cons hx
  have d2 : ys.drop i = ys[i] :: ys.drop (i + 1) := List.drop_eq_getElem_cons hy
  rw [d1, d2, V8] at hor
  refine X7 ?_
  refine Xe ?_
  refine Yb ?_
  refine Xe ?_
  refine Xe ?_
  obtain ⟨b, o, eb, hb, hcell⟩ := hs.int_at (i := (i : Int)) (by omega) (by omega)
  obtain ⟨b2, o2, eb2, hb2, hcell2⟩ := hu.int_at (i := (i : Int)) (by omega) (by omega)
  subst eb eb2
  rw [Int.toNat_natCast, Zc hx] at hcell
  rw [Int.toNat_natCast, Zc hy] at hcell2
  refine Ys (by kernel_rfl) (Yy (B := [0, 0, 3, 7, 0, 0, 48, 112, 255]) (π := [0, 1, 2, 3, 4, 5, 6, 7, 8]) (by kernel_rfl)) ?_
  refine Xd rfl rfl (Xx Xk) Xp ?_
  refine Xd rfl rfl (Xc Xk) Xp ?_
  refine Xd rfl rfl (Xs rfl rfl Tryz.underlying23 inf3.size X2 X2) Xp ?_
  refine Xd rfl rfl (Xj rfl Tryz.underlying3 rfl Xr) Xp ?_
  refine Xd rfl rfl (Xx Xk) Xp ?_
  refine Xd rfl rfl (Xc Xk) Xp ?_
  refine Xd rfl rfl (Xs rfl rfl Tryz.underlying23 inf3.size X2 X2) Xp ?_
  refine Xd rfl rfl (Xj rfl Tryz.underlying3 rfl Xr) Xp ?_
  refine Xd rfl rfl (Y3 rfl rfl) Xp ?_
  refine X5 rfl rfl ?_ ?_
  intro hc3
  have h1 : xs[i] < ys[i] := of_decide_eq_true hc3
  rw [if_pos h1] at hor
  refine Xe ?_
  refine Xb (by kernel_rfl) ?_
  refine Xa (Xn rfl) ?_
  refine X4 ?_
  exact ⟨.int .i64 (-1), Xy (Xu rfl), by rw [hor]⟩
  intro hc3
  have h1 : ¬ xs[i] < ys[i] := of_decide_eq_false hc3
  rw [if_neg h1] at hor
  refine X7 ?_
  refine Xe ?_
  refine Ys (by kernel_rfl) (Yy (B := [0, 0, 3, 7, 0, 0, 48, 112, 255]) (π := [0, 1, 2, 3, 4, 5, 6, 7, 8]) (by kernel_rfl)) ?_
  refine Xd rfl rfl (Xx Xk) Xp ?_
  refine Xd rfl rfl (Xc Xk) Xp ?_
  refine Xd rfl rfl (Xs rfl rfl Tryz.underlying23 inf3.size X2 X2) Xp ?_
  refine Xd rfl rfl (Xj rfl Tryz.underlying3 rfl Xr) Xp ?_
  refine Xd rfl rfl (Xx Xk) Xp ?_
  refine Xd rfl rfl (Xc Xk) Xp ?_
  refine Xd rfl rfl (Xs rfl rfl Tryz.underlying23 inf3.size X2 X2) Xp ?_
  refine Xd rfl rfl (Xj rfl Tryz.underlying3 rfl Xr) Xp ?_
  refine Xd rfl rfl (Uh rfl rfl) Xp ?_
  refine X5 rfl rfl ?_ ?_
  intro hc4
  have h2 : ys[i] < xs[i] := of_decide_eq_true hc4
  rw [if_pos h2] at hor
  refine Xe ?_
  refine Xb (by kernel_rfl) ?_
  refine Xa (Xn rfl) ?_
  refine X4 ?_
  exact ⟨.int .i64 1, Xy (Xu rfl), by rw [hor]⟩
  intro hc4
  have h2 : ¬ ys[i] < xs[i] := of_decide_eq_false hc4
  rw [if_neg h2] at hor
  refine X7 ?_
  refine Xb (by kernel_rfl) ?_
  refine Xa (Xc Xk) ?_
  refine Xa (Ym rfl rfl Yx) ?_
  refine Xa (Xn rfl) ?_
  exact ⟨xs.length - (i + 1), by omega, i + 1, by omega, by omega, rfl, rfl, hor, e0, e1, rfl⟩
  intro hc2
  have hy : ¬ i < ys.length := by have := of_decide_eq_false hc2; omega
  refine Yu ?_
  refine Xe ?_
  refine Xb (by kernel_rfl) ?_
  refine Xa (Xn rfl) ?_
  refine X4 ?_
  have h0 : V8 (xs.drop i) (ys.drop i) = 0 := cmpZ_end (by
    first
      | exact .inl (List.drop_of_length_le (by omega))
      | exact .inr (List.drop_of_length_le (by omega)))
  exact ⟨.int .i64 0, Xy (Xu rfl), by rw [hor, h0]⟩
  intro hg1
  have hx : ¬ i < xs.length := by have := of_decide_eq_false hg1; omega
  refine Xf (Xi rfl rfl rfl hg1 rfl) ?_
  refine Xf (Xi rfl rfl rfl hg1 rfl) ?_
  refine Xf (Xi rfl rfl rfl hg1 rfl) ?_
  refine Xf (Xi rfl rfl rfl hg1 rfl) ?_
  refine Xa (Xm (congrArg Value.bool hg1) Xk) ?_
  refine Yw rfl rfl ?_
  refine Yu ?_
  refine Xe ?_
  refine Xb (by kernel_rfl) ?_
  refine Xa (Xn rfl) ?_
  refine X4 ?_
  have h0 : V8 (xs.drop i) (ys.drop i) = 0 := cmpZ_end (by
    first
      | exact .inl (List.drop_of_length_le (by omega))
      | exact .inr (List.drop_of_length_le (by omega)))
  exact ⟨.int .i64 0, Xy (Xu rfl), by rw [hor, h0]⟩
theorem Cmp_ints (xs ys : List Int) (v u : Value) (H : Hp) (hs : Sl (Y1 .i64) H v xs) (hu : Sl (Y1 .i64) H u ys) (hl : xs.length ≤ 1000000000) (hl2 : ys.length ≤ 1000000000) :
    ACalls Tryz.prog 51 #[v, u] H (fun r H' => r = .int .i64 (V8 xs ys) ∧ H' = H) :=
  ACalls.pure (fun v h => by rw [h]; rfl) (Cmp_raw xs ys v u H.ro (hs.mono H.sees_ro) (hu.mono H.sees_ro) hl hl2)
theorem SameRow_raw (ns : List Int) (cost m : Int) (A B : Option Addr) (c c2 : Nat) (H : Hp) (hs : Sl (Y1 .i64) H (.slice A ns.length c) ns) (hu : Sl (Y1 .i64) H (.slice B ns.length c2) ns) (hl : ns.length ≤ 1000000000) :
    ACalls Tryz.prog 16 #[.agg #[.slice A ns.length c, .int .i64 cost, .int .u64 m], .agg #[.slice B ns.length c2, .int .i64 cost, .int .u64 m]] H (fun r _ => r = .bool true) := by
  refine Xv Tryz.func16 rfl rfl rfl (by simp) ?_
  refine Xe ?_
  refine Xb (by kernel_rfl) ?_
  refine X3 (Yv rfl) ?_
  refine X3 (Yv rfl) ?_
  refine Xa (Xo rfl) ?_
  refine Xe ?_
  refine Xe ?_
  refine Xb (by kernel_rfl) ?_
  refine Xa (Xg (off := 1) rfl Tryz.underlying44 rfl inf3.size (by decide) rfl) ?_
  refine Xa (Xj rfl Tryz.underlying3 rfl Xr) ?_
  refine Xa (Xg (off := 1) rfl Tryz.underlying44 rfl inf3.size (by decide) rfl) ?_
  refine Xa (Xj rfl Tryz.underlying3 rfl Xr) ?_
  refine Xa (Zw rfl rfl) ?_
  refine Xa (Xq rfl) ?_
  refine Yd rfl rfl rfl ?_ ?_
  intro hg1
  (have h := hg1; simp at h)
  intro hg1
  have hp1 := hg1; try simp only [decide_eq_true_eq, decide_eq_false_iff_not, Bool.not_eq_true', Bool.not_eq_false'] at hp1
  refine Xl (Xh rfl rfl rfl hg1) (Xg (off := 2) rfl Tryz.underlying44 rfl inf42.size (by decide) rfl) ?_
  refine Xl (Xh rfl rfl rfl hg1) (Xj rfl Tryz.underlying42 rfl Xr) ?_
  refine Xl (Xh rfl rfl rfl hg1) (Xg (off := 2) rfl Tryz.underlying44 rfl inf42.size (by decide) rfl) ?_
  refine Xl (Xh rfl rfl rfl hg1) (Xj rfl Tryz.underlying42 rfl Xr) ?_
  refine Xl (Xh rfl rfl rfl hg1) (Zw rfl rfl) ?_
  refine Xa (Xm (congrArg Value.bool hg1) rfl) ?_
  refine Xa (Xq rfl) ?_
  refine Yd rfl rfl rfl ?_ ?_
  intro hg2
  (have h := hg2; simp at h)
  intro hg2
  have hp2 := hg2; try simp only [decide_eq_true_eq, decide_eq_false_iff_not, Bool.not_eq_true', Bool.not_eq_false'] at hp2
  refine Xl (Xh rfl rfl rfl hg2) (Xg (off := 0) rfl Tryz.underlying44 rfl inf23.size (by decide) rfl) ?_
  refine Xl (Xh rfl rfl rfl hg2) (Xj rfl Tryz.underlying23 rfl Xr) ?_
  refine Xl (Xh rfl rfl rfl hg2) (Yo rfl Tryz.underlying23) ?_
  refine Xl (Xh rfl rfl rfl hg2) (Xg (off := 0) rfl Tryz.underlying44 rfl inf23.size (by decide) rfl) ?_
  refine Xl (Xh rfl rfl rfl hg2) (Xj rfl Tryz.underlying23 rfl Xr) ?_
  refine Xl (Xh rfl rfl rfl hg2) (Yo rfl Tryz.underlying23) ?_
  refine Xl (Xh rfl rfl rfl hg2) (Zw rfl rfl) ?_
  refine Xa (Xm (congrArg Value.bool hg2) rfl) ?_
  refine X5 rfl rfl ?_ ?_
  intro hc3
  (have h := hc3; simp at h)
  intro hc3
  (try simp only [decide_eq_true_eq, decide_eq_false_iff_not, Bool.not_eq_true', Bool.not_eq_false'] at hc3)
  refine X7 ?_
  refine Xe ?_
  refine Xb (by kernel_rfl) ?_
  refine Xa (Xg (off := 0) rfl Tryz.underlying44 rfl inf23.size (by decide) rfl) ?_
  refine Xa (Xj rfl Tryz.underlying23 rfl Xr) ?_
  refine Xa (Xg (off := 0) rfl Tryz.underlying44 rfl inf23.size (by decide) rfl) ?_
  refine Xa (Xj rfl Tryz.underlying23 rfl Xr) ?_
  refine X0 (X1 (Cmp_ints ns ns _ _ _ (hs.mono Zk) (hu.mono Zk) hl hl) rfl Tryz.func51 rfl rfl rfl ?_)
  rintro v5 H5 ⟨rfl, rfl⟩; rw [cmpZ_self]
  refine Xa (Z3 rfl rfl) ?_
  refine Xa (Xo rfl) ?_
  refine X4 ?_
  exact ⟨.bool true, Xy (Xu rfl), rfl⟩
theorem SameRow_true (ns : List Int) (cost m : Int) (A B : Option Addr) (c c2 : Nat) (H : Hp) (hs : Sl (Y1 .i64) H (.slice A ns.length c) ns) (hu : Sl (Y1 .i64) H (.slice B ns.length c2) ns) (hl : ns.length ≤ 1000000000) :
    ACalls Tryz.prog 16 #[.agg #[.slice A ns.length c, .int .i64 cost, .int .u64 m], .agg #[.slice B ns.length c2, .int .i64 cost, .int .u64 m]] H (fun r H' => r = .bool true ∧ H' = H) :=
  ACalls.pure (fun v h => by rw [h]; rfl) (SameRow_raw ns cost m A B c c2 H.ro (hs.mono H.sees_ro) (hu.mono H.sees_ro) hl)
theorem OfRow_ref (A : Option Addr) (n c : Nat) (cost m : Int) (H : Hp) :
    ACalls Tryz.prog 17 #[.agg #[.slice A n c, .int .i64 cost, .int .u64 m]] H (fun r H' => r = .agg #[.slice A n c, .int .i64 cost, .int .u64 m] ∧ H.le H') := by
  refine Xv Tryz.func17 rfl rfl rfl (by simp) ?_
  refine Xe ?_
  refine Xb (by kernel_rfl) ?_
  refine X3 (Yv rfl) ?_
  refine X3 (Yz (l := [.slice none 0 0, .int .i64 0, .int .u64 0]) inf44.zero rfl (by decide)) ?_
  refine Xe ?_
  refine Xb (by kernel_rfl) ?_
  refine Xa (Xg (off := 0) rfl Tryz.underlying49 rfl inf23.size (by decide) rfl) ?_
  refine Xa (Xj rfl Tryz.underlying23 rfl Xr) ?_
  refine Xa (Xg (off := 1) rfl Tryz.underlying49 rfl inf3.size (by decide) rfl) ?_
  refine Xa (Xj rfl Tryz.underlying3 rfl Xr) ?_
  refine Xa (Xg (off := 2) rfl Tryz.underlying49 rfl inf42.size (by decide) rfl) ?_
  refine Xa (Xj rfl Tryz.underlying42 rfl Xr) ?_
  refine Xa (Y6 (pl := [(0, 1), (1, 1), (2, 1)]) (r := [.slice _ _ _, .int .i64 _, .int .u64 _]) Tryz.underlying44 inf44.zero (by decide) rfl rfl) ?_
  refine X0 (Yj (vs := [.slice _ _ _, .int .i64 _, .int .u64 _]) rfl rfl inf44.size Yc Yh rfl rfl ?_)
  refine X4 ?_
  · exact ⟨_, Xy (Yr Xk (Yq (cs := [_, _, _]) Tryz.underlying44 rfl inf44.size X8)), rfl, Hp.le_put_new (Hp.le_push' (H.le_push _) _) (by first | (simp; done) | (simp; omega) | omega) _⟩
theorem few31_raw (f : Forest) (p : Parts) (cs ds : List Value) (H : Hp) (hp : kForest.rep H f cs) (hq : kParts.rep H p ds) (hsm : Small f p) :
    ACalls Tryz.prog 10 #[.agg cs.toArray, .agg ds.toArray] H (fun r _ => ∃ b, r = .bool b ∧ (b = true ↔ GoodP f p ∧ f.vars.length < 5)) := by
  have hp0 := hp
  have hq0 := hq
  obtain ⟨v0, v1, v2, v3, v4, rfl, hs0, hs1, hs2, hs3, hs4⟩ := hp
  obtain ⟨A0, c0, rfl⟩ := hs0.shape
  obtain ⟨A1, c1, rfl⟩ := hs1.shape
  obtain ⟨A2, c2, rfl⟩ := hs2.shape
  obtain ⟨A3, c3, rfl⟩ := hs3.shape
  obtain ⟨A4, c4, rfl⟩ := hs4.shape
  obtain ⟨u0, u1, rfl, hn0, hn1⟩ := hq
  obtain ⟨B0, d0, rfl⟩ := hn0.shape
  obtain ⟨B1, d1, rfl⟩ := hn1.shape
  refine Xv Tryz.func10 rfl rfl rfl (by simp) ?_
  refine Xe ?_
  refine Xb (by kernel_rfl) ?_
  refine X3 (Yv rfl) ?_
  refine X3 (Yv rfl) ?_
  refine Xa (Xo rfl) ?_
  refine Xe ?_
  refine Xb (by kernel_rfl) ?_
  refine Xa (Yk (cs := [.slice _ _ _, .slice _ _ _, .slice _ _ _, .slice _ _ _, .slice _ _ _]) rfl Tryz.underlying26 rfl inf26.size X8) ?_
  refine Xa (Yk (cs := [.slice _ _ _, .slice _ _ _]) rfl Tryz.underlying29 rfl inf29.size X8) ?_
  refine X0 (X1 (GoodP_ref f p _ _ _ (kForest.mono Zk hp0) (kParts.mono Zk hq0) hsm) rfl Tryz.func23 rfl rfl rfl ?_)
  rintro v5 H5 ⟨⟨g, rfl, hg⟩, rfl⟩
  refine Xa (Xq rfl) ?_
  refine Yd rfl rfl rfl ?_ ?_
  intro hg1
  have hgt : g = true := hg1
  have hG := hg.1 hgt
  refine Xl (Xh rfl rfl rfl hg1) (Xg (off := 0) rfl Tryz.underlying26 rfl inf22.size (by decide) rfl) ?_
  refine Xl (Xh rfl rfl rfl hg1) (Xj rfl Tryz.underlying22 rfl Xr) ?_
  refine Xl (Xh rfl rfl rfl hg1) (Yo rfl Tryz.underlying22) ?_
  refine Xl (Xh rfl rfl rfl hg1) (Y3 rfl rfl) ?_
  refine Xa (Xm (congrArg Value.bool hg1) rfl) ?_
  refine Xa (Xo rfl) ?_
  refine X4 ?_
  refine ⟨_, Xy (Xu rfl), _, rfl, ?_⟩
  first
    | exact ⟨fun h => ⟨hG, by have := of_decide_eq_true h; omega⟩, fun h => decide_eq_true (by have := h.2; omega)⟩
    | exact ⟨fun h => (by cases h), fun h => (by have := hg.2 h.1; rw [hgf] at this; cases this)⟩
  intro hg1
  have hgf : g = false := hg1
  refine Xf (Xi rfl rfl rfl hg1 rfl) ?_
  refine Xf (Xi rfl rfl rfl hg1 rfl) ?_
  refine Xf (Xi rfl rfl rfl hg1 rfl) ?_
  refine Xf (Xi rfl rfl rfl hg1 rfl) ?_
  refine Xa (Xm (congrArg Value.bool hg1) rfl) ?_
  refine Xa (Xo rfl) ?_
  refine X4 ?_
  refine ⟨_, Xy (Xu rfl), _, rfl, ?_⟩
  first
    | exact ⟨fun h => ⟨hG, by have := of_decide_eq_true h; omega⟩, fun h => decide_eq_true (by have := h.2; omega)⟩
    | exact ⟨fun h => (by cases h), fun h => (by have := hg.2 h.1; rw [hgf] at this; cases this)⟩
theorem few31_ok (f : Forest) (p : Parts) (cs ds : List Value) (H : Hp) (hp : kForest.rep H f cs) (hq : kParts.rep H p ds) (hsm : Small f p) :
    ACalls Tryz.prog 10 #[.agg cs.toArray, .agg ds.toArray] H (fun r H' => (∃ b, r = .bool b ∧ (b = true ↔ GoodP f p ∧ f.vars.length < 5)) ∧ H' = H) :=
  ACalls.pure (fun v ⟨b, h, _⟩ => by rw [h]; rfl) (few31_raw f p cs ds H.ro (kForest.mono H.sees_ro hp) (kParts.mono H.sees_ro hq) hsm)
theorem rows_eq {T : TreeT} {r s : RowT} (h : r.nodes = s.nodes) (hr : Vs T r.nodes = some r) (hs : Vs T s.nodes = some s) : r = s := by
  rw [h, hs] at hr
  exact (Option.some.inj hr).symm
end Go.Proofs.YtcaeoebphfjfiaaGreat.Am


/- Which row stands behind any nodes, plain. -/
namespace Go.Proofs.YtcaeoebphfjfiaaGreat.Am
open Go Go.RowKit
set_option maxRecDepth 100000
set_option linter.unusedVariables false
set_option linter.unusedSimpArgs false

def behN (T : TreeT) (ns : List Int) : List (List Int) := (Vz T T.vars.length []).filter fun x => decide (0 < V8 x ns)
theorem cmp_app : ∀ (p xs ys : List Int), V8 (p ++ xs) (p ++ ys) = V8 xs ys
  | [], _, _ => rfl
  | a :: p, xs, ys => by
    show V8 (a :: (p ++ xs)) (a :: (p ++ ys)) = _
    rw [V8, if_neg (by omega), if_neg (by omega), cmp_app p]
theorem ext_pre {T : TreeT} : ∀ (d : Nat) (p x : List Int), x ∈ Vz T d p → ∃ s, x = p ++ s
  | 0, p, x, h => ⟨[], by rw [List.append_nil]; exact List.mem_singleton.1 h⟩
  | d + 1, p, x, h => by
    obtain ⟨l, _, h2⟩ := List.mem_flatMap.1 h
    obtain ⟨s, rfl⟩ := ext_pre d _ x h2
    exact ⟨l.b :: s, by simp⟩
theorem split_list {ns : List Int} {i : Nat} (h : i < ns.length) : ns = ns.take i ++ ns.getD i 0 :: ns.drop (i + 1) := by
  conv => lhs; rw [← List.take_append_drop i ns, List.drop_eq_getElem_cons h]
  rw [Zc h]
theorem take_more {ns : List Int} {i : Nat} (h : i < ns.length) : ns.take i ++ [ns.getD i 0] = ns.take (i + 1) := by
  rw [Zc h, List.take_append_getElem]
theorem cut_group {F : Link → List (List Int)} {P : List Int → Bool} {x : Int} : ∀ {g : List Link}, g.Pairwise (fun y z => y.b < z.b) → (∀ l : Link, l.b < x → (F l).filter P = []) → (∀ l : Link, x < l.b → (F l).filter P = F l) →
    (g.flatMap F).filter P = (match Zq g x with | some l => (F l).filter P | none => []) ++ (g.filter fun l => decide (x < l.b)).flatMap F
  | [], _, _, _ => rfl
  | y :: g, hs, h1, h2 => by
    obtain ⟨hy, hg⟩ := List.pairwise_cons.1 hs
    have ih := cut_group hg h1 h2
    rw [List.flatMap_cons, List.filter_append, ih]
    rcases Int.lt_trichotomy y.b x with h | h | h
    · rw [h1 y h, List.nil_append, List.filter_cons, if_neg (by simp; omega)]
      have : Zq (y :: g) x = Zq g x := by unfold Zq; rw [List.find?_cons, decide_eq_false (by omega)]
      rw [this]
    · have hf : Zq (y :: g) x = some y := by unfold Zq; rw [List.find?_cons, decide_eq_true h]
      have hn : Zq g x = none := findB_none fun l hl => by have := hy l hl; omega
      rw [hf, hn, List.filter_cons, if_neg (by simp; omega), List.nil_append]
    · have hf : Zq (y :: g) x = none := findB_none fun l hl => by
        rcases List.mem_cons.1 hl with rfl | hl
        · omega
        · have := hy l hl; omega
      have hn : Zq g x = none := findB_none fun l hl => by have := hy l hl; omega
      rw [hf, hn, h2 y h, List.nil_append, List.nil_append, List.filter_cons, if_pos (by simpa using h), List.flatMap_cons]
section
variable {T : TreeT} (hT : GoodT T)
include hT
theorem beh_step {ns : List Int} (hl : ns.length = T.vars.length) {i : Nat} (hi : i < ns.length) :
    (Vz T (T.vars.length - i) (ns.take i)).filter (fun x => decide (0 < V8 x ns)) = (match Zq (T.group i (Yl T ns i)) (ns.getD i 0) with
      | some _ => (Vz T (T.vars.length - (i + 1)) (ns.take (i + 1))).filter fun x => decide (0 < V8 x ns)
      | none => []) ++ ((T.group i (Yl T ns i)).filter fun l => decide (ns.getD i 0 < l.b)).flatMap (fun l => Vz T (T.vars.length - (i + 1)) (ns.take i ++ [l.b])) := by
  have e : T.vars.length - i = (T.vars.length - (i + 1)) + 1 := by omega
  have hlp : (ns.take i).length = i := by rw [List.length_take]; omega
  have ha : Yl T (ns.take i) i = Yl T ns i := Z6 hT (by omega) (fun j hj => Vq hj)
  rw [e, Vz, hlp, ha, cut_group (x := ns.getD i 0) (hT.sort i (Yl T ns i))]
  · congr 1
    cases hf : Zq (T.group i (Yl T ns i)) (ns.getD i 0) with
    | none => rfl
    | some l =>
      have := ((findB_iff (hT.sort i (Yl T ns i))).1 hf).2
      simp only
      rw [this, take_more hi]
  · intro l h
    refine List.filter_eq_nil_iff.2 fun x hx => ?_
    obtain ⟨s, rfl⟩ := ext_pre _ _ x hx
    have : V8 (ns.take i ++ [l.b] ++ s) ns = -1 := by
      conv => lhs; rhs; rw [split_list hi]
      rw [List.append_assoc, cmp_app]
      show V8 (l.b :: s) _ = _
      rw [V8, if_pos h]
    rw [this]; decide
  · intro l h
    refine List.filter_eq_self.2 fun x hx => ?_
    obtain ⟨s, rfl⟩ := ext_pre _ _ x hx
    have : V8 (ns.take i ++ [l.b] ++ s) ns = 1 := by
      conv => lhs; rhs; rw [split_list hi]
      rw [List.append_assoc, cmp_app]
      show V8 (l.b :: s) _ = _
      rw [V8, if_neg (by omega), if_pos h]
    rw [this]; decide
theorem beh_aft {ns : List Int} (hl : ns.length = T.vars.length) {g : Nat} (hg : g < ns.length) (hp : Path T (ns.take g)) (hend : g + 1 = ns.length ∨ Zq (T.group g (Yl T ns g)) (ns.getD g 0) = none) :
    ∀ d i : Nat, i + d = g → (Vz T (T.vars.length - i) (ns.take i)).filter (fun x => decide (0 < V8 x ns)) ++ Uk T ns i = Uk T ns (g + 1)
  | 0, i, h => by
    obtain rfl : i = g := by omega
    rw [beh_step hT hl hg, List.append_assoc]
    have : (match Zq (T.group i (Yl T ns i)) (ns.getD i 0) with
      | some _ => (Vz T (T.vars.length - (i + 1)) (ns.take (i + 1))).filter fun x => decide (0 < V8 x ns)
      | none => []) = [] := by
      rcases hend with h1 | h1
      · have e : T.vars.length - (i + 1) = 0 := by omega
        rw [e, List.take_of_length_le (by omega)]
        cases Zq (T.group i (Yl T ns i)) (ns.getD i 0) with
        | none => rfl
        | some l => show [ns].filter _ = []; rw [List.filter_cons, cmpZ_self]; rfl
      · rw [h1]
    rw [this]; rfl
  | d + 1, i, h => by
    have hi : i < ns.length := by omega
    obtain ⟨l, h1, h2⟩ := hp i (by rw [List.length_take]; omega)
    have ha : Yl T (ns.take g) i = Yl T ns i := Z6 hT (by omega) (fun j hj => Vq (by omega))
    rw [ha] at h1
    rw [Vq (by omega)] at h2
    rw [beh_step hT hl hi, (findB_iff (hT.sort i (Yl T ns i))).2 ⟨h1, h2⟩, List.append_assoc]
    exact beh_aft hl hg hp hend d (i + 1) (by omega)
theorem beh_is {ns : List Int} (hl : ns.length = T.vars.length) {g : Nat} (hg : g < ns.length) (hp : Path T (ns.take g)) (hend : g + 1 = ns.length ∨ Zq (T.group g (Yl T ns g)) (ns.getD g 0) = none) : behN T ns = Uk T ns (g + 1) := by
  have := beh_aft hT hl hg hp hend g 0 (by omega)
  rw [List.take_zero, Nat.sub_zero] at this
  exact (List.append_nil _).symm.trans this
omit hT in
theorem ext_ne (hA : Alive T) : ∀ (d : Nat) (p : List Int), Path T p → 0 < p.length → p.length + d = T.vars.length → GoodT T → Vz T d p ≠ []
  | 0, p, _, _, _, _ => by intro h; cases h
  | d + 1, p, hp, h0, hd, hT => by
    have hne := hA p hp h0 (by omega)
    obtain ⟨l, ls, hls⟩ : ∃ l ls, T.group p.length (Yl T p p.length) = l :: ls := by
      cases h : T.group p.length (Yl T p p.length) with
      | nil => exact absurd h hne
      | cons l ls => exact ⟨l, ls, rfl⟩
    intro h
    rw [Vz, hls, List.flatMap_cons] at h
    exact ext_ne hA d (p ++ [l.b]) (Ud hT hp (by omega) (by rw [hls]; exact List.mem_cons_self ..)) (by simp) (by simp; omega) hT (List.append_eq_nil_iff.1 h).1
theorem aft_head (hA : Alive T) {ns : List Int} (hl : ns.length = T.vars.length) {i : Nat} (hi : i < ns.length) (hp : Path T (ns.take i)) {l : Link} (hn : Uo (T.group i (Yl T ns i)) (ns.getD i 0) = some l) :
    Path T (ns.take i ++ [l.b]) ∧ (Uk T ns (i + 1)).head? = (Vz T (T.vars.length - (i + 1)) (ns.take i ++ [l.b])).head? := by
  have hlp : (ns.take i).length = i := by rw [List.length_take]; omega
  have hm : l ∈ T.group i (Yl T ns i) := List.mem_of_find?_eq_some hn
  have ha : Yl T (ns.take i) i = Yl T ns i := Z6 hT (by omega) (fun j hj => Vq hj)
  have hp2 : Path T (ns.take i ++ [l.b]) := Ud hT hp (by omega) (by rw [hlp, ha]; exact hm)
  refine ⟨hp2, ?_⟩
  have hne := ext_ne hA (T.vars.length - (i + 1)) (ns.take i ++ [l.b]) hp2 (by simp) (by rw [List.length_append, hlp, List.length_singleton]; omega) hT
  show (((T.group i (Yl T ns i)).filter _).flatMap _ ++ Uk T ns i).head? = _
  rw [next_filter (hT.sort i (Yl T ns i)) hn, List.flatMap_cons, List.append_assoc]
  cases h : Vz T (T.vars.length - (i + 1)) (ns.take i ++ [l.b]) with
  | nil => exact absurd h hne
  | cons a tl => rfl
omit hT in
theorem aft_none {ns : List Int} {i : Nat} (hn : Uo (T.group i (Yl T ns i)) (ns.getD i 0) = none) : Uk T ns (i + 1) = Uk T ns i := by
  show ((T.group i (Yl T ns i)).filter _).flatMap _ ++ Uk T ns i = _
  rw [next_none hn]; rfl
def TellsH (T : TreeT) (o : Option RowT) (l : List (List Int)) : Prop := o.map RowT.nodes = l.head? ∧ ∀ r, o = some r → Vs T r.nodes = some r
theorem least_is (hA : Alive T) {p : List Int} (hp : Path T p) (h0 : 0 < p.length) (hl : p.length ≤ T.vars.length) : TellsH T (if p.length = T.vars.length then Vs T p else (Zy T ⟨p, false, false, 0⟩).2) (Vz T (T.vars.length - p.length) p) := by
  by_cases h : p.length = T.vars.length
  · rw [if_pos h]
    obtain ⟨r, h1, h2⟩ := rowT_path hT h hp
    rw [h1, h, Nat.sub_self]
    exact ⟨by show some r.nodes = some p; rw [h2], fun r' e => by injection e with e; subst e; rw [h2]; exact h1⟩
  · rw [if_neg h]
    have ht := (next_tells hT hA _ ⟨p, false, false, 0⟩ ⟨hl, hp⟩ (Nat.le_refl _)).2.1
    have hr : Zt T ⟨p, false, false, 0⟩ = Vz T (T.vars.length - p.length) p ++ Uk T p p.length := rfl
    have hne := ext_ne hA (T.vars.length - p.length) p hp h0 (by omega) hT
    rw [hr] at ht
    cases hn : (Zy T ⟨p, false, false, 0⟩).2 with
    | none => rw [hn] at ht; exact absurd (List.append_eq_nil_iff.1 ht.1).1 hne
    | some r =>
      rw [hn] at ht
      have h1 : _ = r.nodes :: _ ∧ _ := ht
      refine ⟨?_, fun r' e => by injection e with e; subst e; exact h1.2⟩
      cases hx : Vz T (T.vars.length - p.length) p with
      | nil => exact absurd hx hne
      | cons a tl =>
        rw [hx] at h1
        have h2 := h1.1
        rw [List.cons_append, List.cons.injEq] at h2
        show some r.nodes = some a
        rw [h2.1]
end
end Go.Proofs.YtcaeoebphfjfiaaGreat.Am


/- A walk is put to a row; the first row below some nodes. -/
namespace Go.Proofs.YtcaeoebphfjfiaaGreat.Am
open Go Go.RowKit
set_option maxRecDepth 100000
set_option linter.unusedVariables false
set_option linter.unusedSimpArgs false

def toS (T : TreeT) (S : Zl) (ns : List Int) : Zl := match Vs T ns with
  | none => S
  | some r => ⟨r.nodes, true, false, S.steps⟩
theorem To_walk {T : TreeT} (hT : GoodT T) {tv : Value} {S : Zl} {wb : Nat} {G H : Hp} (hW : Zv G H wb tv S) (ht : TreeR G tv T) {u : Value} {ns : List Int} (hs : Sl (Y1 .i64) G u ns) (hl : ns.length ≤ 1000000) :
    ACalls Tryz.prog 36 #[.pointer (some ⟨wb, 0, none⟩), u] H (fun r H' => ∃ G', Away wb G G' ∧ r = .bool (Vs T ns).isSome ∧ Zv G' H' wb tv (toS T S ns)) := by
  obtain ⟨B, c, hwb, gw, hown⟩ := hW
  have hw := Xt hown.le hwb (by intro e; cases e) gw
  have zz := hown.size
  obtain ⟨tb, _, _, _, _, _, etv, _⟩ := id ht
  subst etv
  refine Xv Tryz.func36 rfl rfl rfl (by simp) ?_
  refine Xe ?_
  refine Xb (by kernel_rfl) ?_
  refine Xa (Xo rfl) ?_
  refine Xe ?_
  refine Xe ?_
  refine Xb (by kernel_rfl) ?_
  refine Xa (Xw rfl) ?_
  refine Xa (Vb rfl t_spot rfl Tryz.underlying40) ?_
  refine X5 rfl rfl ?_ ?_
  intro hc1
  cases hc1
  intro hc1
  (try simp only [decide_eq_true_eq, decide_eq_false_iff_not, Bool.not_eq_true', Bool.not_eq_false'] at hc1)
  refine X7 ?_
  refine Xe ?_
  refine Xb (by kernel_rfl) ?_
  refine Xa (Xw rfl) ?_
  refine Xa (X9 rfl) ?_
  refine Xa (Xg (off := 0) rfl Tryz.underlying86 rfl inf32.size (by decide) rfl) ?_
  refine Xa (Xj rfl Tryz.underlying32 rfl Xr) ?_
  refine Xa (Zn rfl) ?_
  refine X0 (X1 (Row_rowT (ht.mono hown.le) hT (hs.mono hown.le.sees) hl) rfl Tryz.func70 rfl rfl rfl ?_)
  rintro v6 H6 ⟨G1, A1, k1, le1, rfl, own1⟩; obtain ⟨o, ho⟩ : ∃ o, o = Vs T ns := ⟨_, rfl⟩; rw [← ho] at own1 ⊢; have le6 := Hp.le_trans le1 own1.le; have z6 := le6.1; have hw6 := Xt le6 (by omega) (by intro e; cases e) hw; have leG1 := Hp.le_trans hown.le le1; have gw1 := Xt leG1 hwb (by intro e; cases e) gw; have zo := own1.size; have zG := leG1.1
  refine Xa (Zn rfl) ?_
  refine Xa (Yn rfl rfl) ?_
  refine Xa (Yn rfl rfl) ?_
  refine X3 (Yz (l := [.slice none 0 0, .int .i64 0, .int .u64 0]) inf44.zero rfl (by decide)) ?_
  refine X0 (Yj (vs := [.slice _ _ _, .int .i64 _, .int .u64 _]) rfl rfl inf44.size Yc Yh rfl rfl ?_)
  refine Xa (Xo rfl) ?_
  refine Xe ?_
  refine Xe ?_
  refine Xb (by kernel_rfl) ?_
  refine Xa (Xq rfl) ?_
  refine Xa (Zr rfl) ?_
  refine X5 rfl rfl ?_ ?_
  intro hc2
  obtain rfl : o = none := by have h := hc2; cases o with | none => rfl | some r => cases h
  refine Xe ?_
  refine Xb (by kernel_rfl) ?_
  refine Xa (Xo rfl) ?_
  refine X4 ?_
  obtain ⟨G2, l2, o2⟩ := hown.later le6
  have e : toS T S ns = S := by unfold toS; rw [← ho]
  rw [e]
  exact ⟨_, Xy (Xu rfl), (G2.push (.own 0 [.slice none 0 0, .int .i64 0, .int .u64 0])).put H6.size (.own 0 [.slice A1 (Va none).length k1, .int .i64 (Ui none), .int .u64 (Uj none)]), .of_le (Hp.le_put_new (Hp.le_trans l2 (G2.le_push _)) (by have := o2.size; omega) _), rfl, B, c, by have := l2.1; simp; omega, by rw [Hp.put_other _ _ (by omega), Hp.push_old _ _ (by have := l2.1; omega)]; exact Xt l2 hwb (by intro e; cases e) gw, o2.boxed _ _⟩
  intro hc2
  obtain ⟨r, rfl⟩ : ∃ r, o = some r := by have h := hc2; cases o with | none => cases h | some r => exact ⟨r, rfl⟩
  refine X7 ?_
  refine Xe ?_
  refine Xb (by kernel_rfl) ?_
  refine Xa (Xw rfl) ?_
  refine Xa (Xw rfl) ?_
  refine Xa (Xw rfl) ?_
  refine Xa (Xg (off := 0) rfl Tryz.underlying44 rfl inf23.size (by decide) rfl) ?_
  refine Xa (Xj rfl Tryz.underlying23 rfl Xr) ?_
  refine Xa (X9 rfl) ?_
  refine Xa (Xg (off := 1) rfl Tryz.underlying86 rfl inf23.size (by decide) rfl) ?_
  first | refine X0 (Yt rfl rfl rfl inf23.size Yc Yh rfl ?_)
  refine Xa (X9 rfl) ?_
  refine Xa (Xg (off := 2) rfl Tryz.underlying86 rfl inf4.size (by decide) rfl) ?_
  first | refine X0 (Yt rfl rfl rfl inf4.size Yc Yh rfl ?_)
  refine Xa (X9 rfl) ?_
  refine Xa (Xg (off := 3) rfl Tryz.underlying86 rfl inf4.size (by decide) rfl) ?_
  first | refine X0 (Yt rfl rfl rfl inf4.size Yc Yh rfl ?_)
  refine Xe ?_
  refine Xb (by kernel_rfl) ?_
  refine Xa (Xo rfl) ?_
  refine X4 ?_
  have e : toS T S ns = ⟨r.nodes, true, false, S.steps⟩ := by unfold toS; rw [← ho]
  rw [e]
  have gwB : ((G1.push (.own 0 [.slice none 0 0, .int .i64 0, .int .u64 0])).put H6.size (.own 0 [.slice A1 (Va (some r)).length k1, .int .i64 (Ui (some r)), .int .u64 (Uj (some r))])).get wb = .own 0 [.pointer (some ⟨tb, 0, none⟩), .slice B S.nodes.length c, .bool S.back, .bool S.over, .int .i64 S.steps] := by rw [Hp.put_other _ _ (by omega), Hp.push_old _ _ (by omega)]; exact gw1
  have ob := own1.boxed [.slice none 0 0, .int .i64 0, .int .u64 0] [.slice A1 (Va (some r)).length k1, .int .i64 (Ui (some r)), .int .u64 (Uj (some r))]
  exact ⟨_, Xy (Xu rfl), ((G1.push (.own 0 [.slice none 0 0, .int .i64 0, .int .u64 0])).put H6.size (.own 0 [.slice A1 (Va (some r)).length k1, .int .i64 (Ui (some r)), .int .u64 (Uj (some r))])).put wb (.own 0 [.pointer (some ⟨tb, 0, none⟩), .slice A1 (Va (some r)).length k1, .bool true, .bool false, .int .i64 S.steps]), Away.put (.of_le (Hp.le_put_new (Hp.le_trans leG1 (G1.le_push _)) (by omega) _)) _, rfl, A1, k1, by simp; omega, Hp.put_same _ _ _, by
      have := ob.put (by rw [gwB]; intro e; cases e) (.own 0 [.pointer (some ⟨tb, 0, none⟩), .slice A1 (Va (some r)).length k1, .bool true, .bool false, .int .i64 S.steps]) (Hp.sees_box _ gwB)
      rw [Hp.put_put, Hp.put_put]; exact this⟩
theorem least_walk {T : TreeT} (hT : GoodT T) (hA : Alive T) {tb : Nat} {u : Value} {p : List Int} {H : Hp} (ht : TreeR H (.pointer (some ⟨tb, 0, none⟩)) T) (hu : Sl (Y1 .i64) H u p) (hp : Path T p) (h0 : 0 < p.length) (hl : p.length ≤ T.vars.length) :
    ACalls Tryz.prog 69 #[.pointer (some ⟨tb, 0, none⟩), u] H (fun r H' => H.le H' ∧ ∃ o, TellsH T o (Vz T (T.vars.length - p.length) p) ∧ RowO H' r o) := by
  have hfew := hT.few
  have hleast := least_is hT hA hp h0 hl
  refine Xv Tryz.func69 rfl rfl rfl (by simp) ?_
  refine Xe ?_
  refine Xb (by kernel_rfl) ?_
  refine X3 (Yz (l := [.slice none 0 0, .int .i64 0, .int .u64 0]) inf44.zero rfl (by decide)) ?_
  refine Xa (Xo rfl) ?_
  refine Xe ?_
  refine Xb (by kernel_rfl) ?_
  refine Xa (Xw rfl) ?_
  refine X0 (X1 (fresh_tree tb _) rfl Tryz.func49 rfl rfl rfl ?_)
  rintro v3 H3 ⟨rfl, hle3, ⟨B3, c3, hwb3, gw3, hown3⟩⟩; have z3 := hle3.1; simp only [Hp.push_size] at z3; have hz3 : H3.get H.size = .own 0 [.slice none 0 0, .int .i64 0, .int .u64 0] := Xt hle3 (by simp) (by intro e; cases e) Yc; have ht3 := (ht.mono (H.le_push (.own 0 [.slice none 0 0, .int .i64 0, .int .u64 0]))).mono hle3; have hu3 := (hu.mono (H.le_push (.own 0 [.slice none 0 0, .int .i64 0, .int .u64 0])).sees).mono hle3.sees; simp only [Hp.push_size] at gw3 hwb3
  refine Xa (Ze rfl) ?_
  refine Xe ?_
  refine Xb (by kernel_rfl) ?_
  refine Xa (Xw rfl) ?_
  refine Xa (Xw rfl) ?_
  refine Xa (X9 rfl) ?_
  refine Xa (Xg (off := 1) rfl Tryz.underlying86 rfl inf23.size (by decide) rfl) ?_
  refine Xa (Xj rfl Tryz.underlying23 rfl Xr) ?_
  refine Xa (Zn rfl) ?_
  refine X0 (OwnP.append (ys := p) hown3 Tryz.underlying23 inf3 Xk Xk rfl hu3 (by simp only [List.length_nil]; omega) (by simp only [List.length_nil]; omega) ?_)
  rintro v9 G5 H5 hle5 hown5
  rw [List.nil_append] at hown5
  have hsameO := OwnP.sameO hown3 hle5 hown5
  obtain ⟨B5, c5, rfl⟩ := hown5.shape
  have z5 := hle5.1
  have zz5 := hown5.size
  have gw5 := Xt hle5 (by omega) (by intro e; cases e) gw3
  have gz5 := Xt hle5 (by omega) (by intro e; cases e) hz3
  have hw5 := Xt hown5.le (by omega) (by intro e; cases e) gw5
  have hz5 := Xt hown5.le (by omega) (by intro e; cases e) gz5
  have ht5 := ht3.mono hle5
  have hu5 := hu3.mono hle5.sees
  refine Xa (X9 rfl) ?_
  refine Xa (Xg (off := 1) rfl Tryz.underlying86 rfl inf23.size (by decide) rfl) ?_
  first | refine X0 (Yt rfl rfl rfl inf23.size Yc Yh rfl ?_)
  refine Xe ?_
  refine Xe ?_
  obtain ⟨H6, hH6⟩ : ∃ H6, H6 = H5.put (H.size + 1) (.own 0 [.pointer (some ⟨tb, 0, none⟩), .slice B5 p.length c5, .bool false, .bool false, .int .i64 0]) := ⟨_, rfl⟩
  obtain ⟨G6, hG6⟩ : ∃ G6, G6 = G5.put (H.size + 1) (.own 0 [.pointer (some ⟨tb, 0, none⟩), .slice B5 p.length c5, .bool false, .bool false, .int .i64 0]) := ⟨_, rfl⟩
  have hown6 : OwnP (Y1 .i64) G6 H6 (.slice B5 p.length c5) p := by rw [hG6, hH6]; exact hown5.put (by rw [gw5]; intro e; cases e) _ (Hp.sees_box _ gw5)
  have aw56 : Away (H.size + 1) G5 G6 := by rw [hG6]; exact Away.put (.refl _ _) _
  have gw6 : G6.get (H.size + 1) = .own 0 [.pointer (some ⟨tb, 0, none⟩), .slice B5 p.length c5, .bool false, .bool false, .int .i64 0] := by rw [hG6]; exact Hp.put_same _ _ _
  have gz6 : G6.get H.size = .own 0 [.slice none 0 0, .int .i64 0, .int .u64 0] := aw56.keep (by omega) (by omega) (by intro e; cases e) gz5
  have z6 := aw56.size
  have zz6 := hown6.size
  have hW6 : Zv G6 H6 (H.size + 1) (.pointer (some ⟨tb, 0, none⟩)) ⟨p, false, false, 0⟩ := ⟨B5, c5, by omega, gw6, hown6⟩
  have ht6 := aw56.tree gw5 ht5
  have leG6 : H.le G6 := aw56.base (Hp.le_trans (Hp.le_trans (H.le_push _) hle3) hle5) (by omega)
  have leH6 := Hp.le_trans leG6 hown6.le
  have hu6 := hu.mono leH6.sees
  have htH6 := ht6.mono hown6.le
  change ACode true _ _ _ _ _ (H5.put (H.size + 1) (.own 0 [.pointer (some ⟨tb, 0, none⟩), .slice B5 p.length c5, .bool false, .bool false, .int .i64 0]))
  rw [← hH6]
  clear hH6 hG6 hsameO
  obtain ⟨AU, cU, rfl⟩ := hu6.shape
  refine Xb (by kernel_rfl) ?_
  refine Xa (Xx rfl) ?_
  refine Xa (Yo rfl Tryz.underlying23) ?_
  refine Xa (Xw rfl) ?_
  refine X0 (X1 (Len_tree htH6) rfl Tryz.func57 rfl rfl rfl ?_)
  rintro v10 H6 ⟨rfl, rfl⟩
  refine Xa (Z3 rfl rfl) ?_
  refine X5 rfl rfl ?_ ?_
  intro hc1
  have hfull : p.length = T.vars.length := by have := of_decide_eq_true hc1; omega
  rw [if_pos hfull] at hleast
  refine Xe ?_
  refine Xb (by kernel_rfl) ?_
  refine Xa (Xw rfl) ?_
  refine X0 (X1 (row_walk hT hW6 ht6 (by show p.length ≤ _; omega)) rfl Tryz.func88 rfl rfl rfl ?_)
  rintro v11 H9 ⟨G9, le69, ⟨B9, c9, hwb9, gw9, hown9⟩, A9, k9, rfl, sl9⟩; have aw9 := Away.of_le (wb := H.size + 1) le69; have z9 := aw9.size; have gz9 := aw9.keep (by omega) (by omega) (by intro e; cases e) gz6; have hz9 := Xt hown9.le (by omega) (by intro e; cases e) gz9; have leG9 := aw9.base leG6 (by omega)
  refine Xa (Yn rfl rfl) ?_
  refine Xa (Yn rfl rfl) ?_
  refine X0 (Yj (vs := [.slice _ _ _, .int .i64 _, .int .u64 _]) rfl rfl inf44.size Yc Yh rfl rfl ?_)
  refine Xa (Xo rfl) ?_
  refine X4 ?_
  exact ⟨_, Y7 (Yr Xk (Yq (cs := [_, _, _]) Tryz.underlying44 rfl inf44.size X8)) (Xu rfl), Hp.le_put_new (Hp.le_trans leG9 hown9.le) (Nat.le_refl _) _, _, hleast, A9, k9, rfl, (sl9.mono hown9.le.sees).mono (Hp.sees_box _ hz9)⟩
  intro hc1
  have hfull : ¬ p.length = T.vars.length := by have := of_decide_eq_false hc1; omega
  rw [if_neg hfull] at hleast
  refine X7 ?_
  refine Xe ?_
  refine Xb (by kernel_rfl) ?_
  refine Xa (Xw rfl) ?_
  refine X0 (X1 (next_walk hT hA hW6 (fun _ => ht6) ⟨hl, hp⟩ (Int.le_refl 0) (by show (0 : Int) ≤ 100000000000; decide) ⟨_, rfl⟩) rfl Tryz.func52 rfl rfl rfl ?_)
  rintro v11 H9 ⟨G9, aw9, ⟨B9, c9, hwb9, gw9, hown9⟩, A9, k9, rfl, sl9⟩; have z9 := aw9.size; have gz9 := aw9.keep (by omega) (by omega) (by intro e; cases e) gz6; have hz9 := Xt hown9.le (by omega) (by intro e; cases e) gz9; have leG9 := aw9.base leG6 (by omega)
  refine Xa (Yn rfl rfl) ?_
  refine Xa (Yn rfl rfl) ?_
  refine X0 (Yj (vs := [.slice _ _ _, .int .i64 _, .int .u64 _]) rfl rfl inf44.size Yc Yh rfl rfl ?_)
  refine Xa (Xo rfl) ?_
  refine X4 ?_
  exact ⟨_, Y7 (Yr Xk (Yq (cs := [_, _, _]) Tryz.underlying44 rfl inf44.size X8)) (Xu rfl), Hp.le_put_new (Hp.le_trans leG9 hown9.le) (Nat.le_refl _) _, _, hleast, A9, k9, rfl, (sl9.mono hown9.le.sees).mono (Hp.sees_box _ hz9)⟩
end Go.Proofs.YtcaeoebphfjfiaaGreat.Am


/- The row behind any nodes. -/
namespace Go.Proofs.YtcaeoebphfjfiaaGreat.Am
open Go Go.RowKit
set_option maxRecDepth 100000
set_option linter.unusedVariables false
set_option linter.unusedSimpArgs false

theorem Sl.caps {α : Type} {k : Kd α} {H0 : Hp} {v : Value} {xs : List α} (hs : Sl k H0 v xs) {i : Nat} (hi : i < xs.length) : ∃ A S, Sl k H0 (.slice (some A) i i) (xs.take i) ∧ (∀ b ∈ S, b < H0.size ∧ H0.get b ≠ .dead) ∧
    ∀ (P : Program) (H : Hp) (t : Fr) (d : Option Tmp) (ty : TypeId) (pos : String) (after : Array Edge) (guard : Option (Nat × Bool)) (x y z : Operand) (xt e : TypeId) (k1 k2 : IntKind), H0.le H → t.eval x = v → P.underlying xt = some (.slice e) → (P.info? e).map (·.size) = some k.sz → t.eval y = .int k1 i → t.eval z = .int k2 i →
      AVal P ⟨d, .slice xt x none (some y) (some z), ty, pos, after, guard⟩ t S H (.slice (some A) i i) := by
  rcases hs with ⟨rfl, rfl⟩ | ⟨b, o, c, rfl, hb, hk, hx⟩
  · exact absurd hi (Nat.not_lt_zero _)
  · refine ⟨⟨b, o, none⟩, [b], .inr ⟨b, o, i, by rw [List.length_take, Nat.min_eq_left (Nat.le_of_lt hi)], hb, hk, fun j z hz => ?_⟩, fun u hu => by simp at hu; subst hu; exact ⟨hb, Blk.cut_ne hk⟩, fun P H t d ty pos after guard x y z xt e k1 k2 hle h1 h2 h3 h4 h5 => ?_⟩
    · rw [List.getElem?_take] at hz
      split at hz
      · exact hx j z hz
      · cases hz
    · have := av_slice3 (P := P) (t := t) (H := H) (d := d) (ty := ty) (pos := pos) (after := after) (guard := guard) (lo := none) (l := 0) (h := i) (m := i) h1 h2 h3 (.inl ⟨rfl, rfl⟩) h4 h5 (Nat.zero_le _) (Nat.le_refl _) (Nat.le_of_lt hi) (by rw [hle.2 b hb (Blk.cut_ne hk)]; exact Blk.cut_or hk)
      have e1 : (if i = 0 then o else o + 0 * k.sz) = o := by split <;> simp
      rwa [e1, Nat.sub_zero] at this
theorem Sl.grow {P : Program} {t : Fr} {d : Option Tmp} {ty : TypeId} {pos : String} {after : Array Edge} {guard : Option (Nat × Bool)} {K : Value → Hp → Prop} {H : Hp} {A : Addr} {xs : List Int} {i : Nat} {b2 c2 : Nat} {m : Int} {at_ e : TypeId} {x y : Operand} {by_ : Nat} {z : Value} (hs : Sl (Y1 .i64) H (.slice (some A) i i) xs) (hu : P.underlying at_ = some (.slice e)) (hi : (P.info? e).map (fun i => (i.zero, i.size, i.bytes)) = some (some z, 1, by_)) (hzs : z.cells.size = 1)
    (hx : t.eval x = .slice (some A) i i) (hy : t.eval y = .slice (some ⟨b2, 0, none⟩) 1 c2) (hg : H.get b2 = .own 1 [.int .i64 m]) (hb1 : i + 1 ≤ 1000000) (hb2 : (i + 1) * by_ ≤ 140737488355328)
    (hk : ∀ H', H' = H.push (.own 1 ((xs ++ [m]).map (Value.int .i64))) → Sl (Y1 .i64) H' (.slice (some ⟨H.size, 0, none⟩) (i + 1) unk) (xs ++ [m]) → K (.slice (some ⟨H.size, 0, none⟩) (i + 1) unk) H') : AOp P ⟨d, .call ⟨.builtin .append, #[x, y], #[at_, at_]⟩, ty, pos, after, guard⟩ t H K := by
  obtain ⟨b, o, eA, hlen⟩ : ∃ b o, A = ⟨b, o, none⟩ ∧ i = xs.length := by
    rcases hs with ⟨h, _⟩ | ⟨b, o, c, h, _⟩
    · cases h
    · injection h with h1 h2 h3
      injection h1 with h1
      exact ⟨b, o, h1, h2⟩
  subst eA
  have hcells : Cells H b o (xs.map (Value.int .i64)) := fun j v hj => by
    rw [List.getElem?_map] at hj
    cases hxj : xs[j]? with
    | none => rw [hxj] at hj; cases hj
    | some a =>
      rw [hxj] at hj
      injection hj with hj
      subst hj
      have hjl := (List.getElem?_eq_some_iff.1 hxj).1
      obtain ⟨b', o', e', hb', hc'⟩ := hs.int_at (i := (j : Int)) (by omega) (by omega)
      simp only [Option.some.injEq, Addr.mk.injEq, and_true] at e'
      obtain ⟨rfl, rfl⟩ := e'
      rw [Int.toNat_natCast, Nat.mul_one, List.getD_eq_getElem?_getD, hxj] at hc'
      exact hc'
  refine aop_append_new (olds := xs.map (Value.int .i64)) (news := [.int .i64 m]) hu hi hzs hx (.inr ⟨b, o, rfl, by unfold unk; omega, hcells, by rw [List.length_map, hlen, Nat.mul_one]⟩) (by omega) hy ?_ rfl (by decide) (by omega) hb2 ?_
  · intro j v hj
    cases j with
    | zero => injection hj with hj; subst hj; unfold Hp.cell?; rw [hg]; rfl
    | succ j => simp at hj
  · have e : xs.map (Value.int .i64) ++ [.int .i64 m] = (xs ++ [m]).map (Value.int .i64) := by rw [List.map_append]; rfl
    rw [e]
    have hl2 : i + 1 = (xs ++ [m]).length := by rw [List.length_append, hlen]; rfl
    exact hk _ rfl (by rw [hl2]; exact sl_ints (by simp) (Hp.push_new _ _))
theorem above_read {T : TreeT} (hT : GoodT T) {tv : Value} {wb : Nat} {H : Hp} {A : Option Addr} {c : Nat} {ns : List Int} {x y z : Value} (hw : H.get wb = .own 0 [tv, .slice A ns.length c, x, y, z]) (hs : Sl (Y1 .i64) H (.slice A ns.length c) ns) (ht : TreeR H tv T) (i : Nat) (hi : i < T.vars.length) (hl : i ≤ ns.length) :
    ACalls Tryz.prog 65 #[.pointer (some ⟨wb, 0, none⟩), .int .i64 i] H (fun r H' => r = .int .i64 (Yl T ns i) ∧ H' = H) := by
  have hp := hT.par i hi
  obtain ⟨tb, _, _, _, _, _, etv, _⟩ := id ht
  subst etv
  refine Xv Tryz.func65 rfl rfl rfl (by simp) ?_
  refine Xe ?_
  refine Xb (by kernel_rfl) ?_
  refine Xa (Xn rfl) ?_
  refine Xe ?_
  refine Xe ?_
  refine Xb (by kernel_rfl) ?_
  refine Xa (Xw rfl) ?_
  refine Xa (X9 rfl) ?_
  refine Xa (Xg (off := 0) rfl Tryz.underlying86 rfl inf32.size (by decide) rfl) ?_
  refine Xa (Xj rfl Tryz.underlying32 rfl Xr) ?_
  refine Xa (Xc rfl) ?_
  refine X0 (X1 (Parent_tree ht hT.l1 (i : Int)) rfl Tryz.func85 rfl rfl rfl ?_)
  rintro v6 H ⟨rfl, rfl⟩; rw [if_pos ⟨by omega, by omega⟩, Int.toNat_natCast]
  refine Xa (Xn rfl) ?_
  refine Xe ?_
  refine Xb (by kernel_rfl) ?_
  refine Xa (Xc rfl) ?_
  refine Xa (Zw rfl rfl) ?_
  refine X5 rfl rfl ?_ ?_
  intro hc1
  have hne : T.parent.getD i 0 ≠ -1 := of_decide_eq_true hc1
  have hpr := hp.resolve_left hne
  obtain ⟨b, o, rfl, hb, hcell⟩ := hs.int_at (i := T.parent.getD i 0) hpr.1 (by omega)
  refine Xe ?_
  refine Xb (by kernel_rfl) ?_
  refine Xa (Xw rfl) ?_
  refine Xa (X9 rfl) ?_
  refine Xa (Xg (off := 1) rfl Tryz.underlying86 rfl inf23.size (by decide) rfl) ?_
  refine Xa (Xj rfl Tryz.underlying23 rfl Xr) ?_
  refine Xa (Xc rfl) ?_
  refine Xa (Xs rfl rfl Tryz.underlying23 inf3.size X2 X2) ?_
  refine Xa (Xj rfl Tryz.underlying3 rfl Xr) ?_
  refine Xa (Xn rfl) ?_
  refine X4 ?_
  exact ⟨.int .i64 (ns.getD (T.parent.getD i 0).toNat 0), Xy (Xu rfl), by unfold Yl; rw [if_neg hne], rfl⟩
  intro hc1
  have hne : T.parent.getD i 0 = -1 := Decidable.not_not.1 (of_decide_eq_false hc1)
  refine X7 ?_
  refine Xe ?_
  refine Xb (by kernel_rfl) ?_
  refine Xa (Xn rfl) ?_
  refine X4 ?_
  exact ⟨.int .i64 (-1), Xy (Xu rfl), by unfold Yl; rw [if_pos hne], rfl⟩
theorem behind1_raw (xs : List Link) (ns : List Int) (A B : Option Addr) (c c2 i j : Nat) (b1 b2 b3 : Nat) (H : Hp) (h1 : H.cell? b1 0 = some (.slice A xs.length c)) (h2 : H.cell? b2 0 = some (.slice B ns.length c2)) (h3 : H.cell? b3 0 = some (.int .i64 j)) (hs : Sl kLink H (.slice A xs.length c) xs) (hn : Sl (Y1 .i64) H (.slice B ns.length c2) ns) (hi : i < xs.length) (hj : j < ns.length) (hb1 : b1 < H.size) (hb2 : b2 < H.size) (hb3 : b3 < H.size) :
    ACalls Tryz.prog 68 #[.int .i64 i, .pointer (some ⟨b1, 0, none⟩), .pointer (some ⟨b2, 0, none⟩), .pointer (some ⟨b3, 0, none⟩)] H (fun r _ => r = .bool (decide (ns.getD j 0 < xs[i].b))) := by
  obtain ⟨b, o, rfl, hb, hcell⟩ := hs.link_at hi
  have hcellb := hcell 1 _ rfl
  obtain ⟨b', o', rfl, hb', hcell'⟩ := hn.int_at (i := (j : Int)) (by omega) (by omega)
  rw [Int.toNat_natCast] at hcell'
  refine Xv Tryz.func68 rfl rfl rfl (by simp) ?_
  refine Xe ?_
  refine Xb (by kernel_rfl) ?_
  refine Xa (Xo rfl) ?_
  refine Xe ?_
  refine Ys (by kernel_rfl) (Yy (B := [0, 0, 3, 7, 15, 0, 0, 96, 224, 511, 1023]) (π := [0, 1, 2, 3, 4, 5, 6, 7, 8, 9, 10]) (by kernel_rfl)) ?_
  refine Xd rfl rfl (Xj rfl Tryz.underlying68 rfl Xr) Xp ?_
  refine Xd rfl rfl (Xc rfl) Xp ?_
  refine Xd rfl rfl (Xs rfl rfl Tryz.underlying68 inf78.size X2 X2) Xp ?_
  refine Xd rfl rfl (Xg (off := 1) rfl Tryz.underlying78 rfl inf3.size (by decide) rfl) Xp ?_
  refine Xd rfl rfl (Xj rfl Tryz.underlying3 rfl Xr) Xp ?_
  refine Xd rfl rfl (Xj rfl Tryz.underlying23 rfl Xr) Xp ?_
  refine Xd rfl rfl (Xj rfl Tryz.underlying3 rfl Xr) Xp ?_
  refine Xd rfl rfl (Xs rfl rfl Tryz.underlying23 inf3.size X2 X2) Xp ?_
  refine Xd rfl rfl (Xj rfl Tryz.underlying3 rfl Xr) Xp ?_
  refine Xd rfl rfl (Uh rfl rfl) Xp ?_
  refine Xd rfl rfl (Xo rfl) Xp ?_
  refine X4 ?_
  exact ⟨_, Xy (Xu rfl), rfl⟩
end Go.Proofs.YtcaeoebphfjfiaaGreat.Am


/- The row behind any nodes: the walk of each.Behind. -/
namespace Go.Proofs.YtcaeoebphfjfiaaGreat.Am
open Go Go.RowKit
set_option maxRecDepth 100000
set_option linter.unusedVariables false
set_option linter.unusedSimpArgs false

theorem av_func0 {P : Program} {t : Fr} {H : Hp} {d : Option Tmp} {ty : TypeId} {pos : String} {after : Array Edge} {guard : Option (Nat × Bool)} {f : FuncId} {cap : Array Operand} {cs : Array Value} (h : cap.toList.map t.eval = cs.toList) : AVal P ⟨d, .makeFunc (.func f) #[] cap, ty, pos, after, guard⟩ t [] H (.func (.func f) #[] cs) := by
  have := av_makeFunc (P := P) (t := t) (H := H) (d := d) (ty := ty) (pos := pos) (after := after) (guard := guard) (f := f) (first := #[]) (cap := cap)
  rw [h] at this
  exact this
set_option maxHeartbeats 2000000 in
theorem Behind_walk {T : TreeT} (hT : GoodT T) (hA : Alive T) {tb : Nat} {AU : Option Addr} {cU : Nat} {ns : List Int} {H : Hp} (ht : TreeR H (.pointer (some ⟨tb, 0, none⟩)) T) (hu : Sl (Y1 .i64) H (.slice AU ns.length cU) ns) (hul : ns.length ≤ 1000000) :
    ACalls Tryz.prog 35 #[.pointer (some ⟨tb, 0, none⟩), .slice AU ns.length cU] H (fun r H' => H.le H' ∧ ∃ o, (ns.length = T.vars.length → TellsH T o (behN T ns)) ∧ (ns.length ≠ T.vars.length → o = none) ∧ RowO H' r o) := by
  have hfew := hT.few
  refine Xv Tryz.func35 rfl rfl rfl (by simp) ?_
  refine Xe ?_
  refine Xb (by kernel_rfl) ?_
  refine X3 (am_box_sl rfl) ?_
  refine X3 (Yz (l := [.slice none 0 0, .int .i64 0, .int .u64 0]) inf44.zero rfl (by decide)) ?_
  refine Xa (Xo rfl) ?_
  refine Xe ?_
  refine Xe ?_
  refine Ys (by kernel_rfl) (Yy (B := [0, 1, 3, 7, 15, 7, 39, 127, 255]) (π := [0, 1, 2, 3, 4, 5, 6, 7, 8]) (by kernel_rfl)) ?_
  refine Xd rfl rfl (Xw rfl) Xp ?_
  refine Xd rfl rfl (Vb rfl t_spot rfl Tryz.underlying32) Xp ?_
  refine Xd rfl rfl (Xq rfl) Xp ?_
  refine Zm rfl rfl rfl rfl ?_ ?_
  intro hg1
  cases hg1
  intro hg1
  have hp1 := hg1; try simp only [decide_eq_true_eq, decide_eq_false_iff_not, Bool.not_eq_true', Bool.not_eq_false'] at hp1
  refine Yf rfl (Xh rfl rfl rfl hg1) rfl (Xj rfl Tryz.underlying23 rfl Xr) Xp ?_
  refine Yf rfl (Xh rfl rfl rfl hg1) rfl (Yo rfl Tryz.underlying23) Xp ?_
  refine Yf rfl (Xh rfl rfl rfl hg1) rfl (Xw rfl) Xp ?_
  refine Ua rfl (Xh rfl rfl rfl hg1) rfl (X1 (Len_tree (ht.mono t_le)) rfl Tryz.func57 rfl rfl rfl ?_)
  rintro v10 H1 ⟨rfl, rfl⟩
  refine ⟨Ye, ?_⟩
  refine Yf rfl (Xh rfl rfl rfl hg1) rfl (Zw rfl rfl) Xp ?_
  refine Xd rfl rfl (Xm (congrArg Value.bool hg1) rfl) Xp ?_
  refine X5 rfl rfl ?_ ?_
  intro hc2
  have hne : ns.length ≠ T.vars.length := by have := of_decide_eq_true hc2; omega
  refine Xe ?_
  refine Xb (by kernel_rfl) ?_
  refine Xa (Y6 (pl := [(0, 1), (1, 1), (2, 1)]) (r := [.slice _ _ _, .int .i64 _, .int .u64 _]) Tryz.underlying44 inf44.zero (by decide) rfl rfl) ?_
  refine X0 (Yj (vs := [.slice _ _ _, .int .i64 _, .int .u64 _]) rfl rfl inf44.size Yc Yh rfl rfl ?_)
  refine Xa (Xo rfl) ?_
  refine X4 ?_
  exact ⟨_, Y7 (Yr Xk (Yq (cs := [_, _, _]) Tryz.underlying44 rfl inf44.size X8)) (Xu rfl), t_le, none, fun h => absurd h hne, fun _ => rfl, V5 _⟩
  intro hc2
  have hlen : ns.length = T.vars.length := by have := of_decide_eq_false hc2; omega
  refine X7 ?_
  refine Xe ?_
  refine Xb (by kernel_rfl) ?_
  refine Xa (Xw rfl) ?_
  refine X0 (X1 (fresh_tree tb _) rfl Tryz.func49 rfl rfl rfl ?_)
  rintro v3 H3 ⟨rfl, hle3, hW3⟩; simp only [Hp.push_size] at hW3; have z3 := hle3.1; simp only [Hp.push_size] at z3; have gu3 : H3.get H.size = .own 0 [.slice AU ns.length cU] := Xt hle3 (by simp; omega) (by intro e; cases e) Yc; have gz3 : H3.get (H.size + 1) = .own 0 [.slice none 0 0, .int .i64 0, .int .u64 0] := Xt hle3 (by simp) (by intro e; cases e) Yc; have leH3 : H.le H3 := Hp.le_trans (Hp.le_push' (H.le_push _) _) hle3
  refine Xa (Ze rfl) ?_
  refine Xa (Xn rfl) ?_
  refine Xe ?_
  refine ac_cut (fun t H' => ∃ (g : Nat) (B : Option Addr) (c : Nat), g ≤ ns.length ∧ H.le H' ∧ H.size + 2 < H'.size ∧ H'.get H.size = .own 0 [.slice AU ns.length cU] ∧ H'.get (H.size + 1) = .own 0 [.slice none 0 0, .int .i64 0, .int .u64 0] ∧ H'.get (H.size + 2) = .own 0 [.pointer (some ⟨tb, 0, none⟩), .slice B g c, .bool false, .bool false, .int .i64 0] ∧ (g < ns.length → Zq (T.group g (Yl T ns g)) (ns.getD g 0) = none) ∧ Path T (ns.take g) ∧ t 0 = .pointer (some ⟨tb, 0, none⟩) ∧ t 3 = .pointer (some ⟨H.size, 0, none⟩) ∧ t 4 = .pointer (some ⟨H.size + 1, 0, none⟩) ∧ t 6 = .pointer (some ⟨H.size + 2, 0, none⟩) ∧ t 7 = .int .i64 g) ?_ ?_
  refine Yb ?_
  refine Y2 (fun n t H' => ∃ (g : Nat) (G : Hp), n = ns.length - g ∧ g ≤ ns.length ∧ H.le G ∧ Zv G H' (H.size + 2) (.pointer (some ⟨tb, 0, none⟩)) ⟨ns.take g, false, false, 0⟩ ∧ Path T (ns.take g) ∧ G.get H.size = .own 0 [.slice AU ns.length cU] ∧ G.get (H.size + 1) = .own 0 [.slice none 0 0, .int .i64 0, .int .u64 0] ∧ t 0 = .pointer (some ⟨tb, 0, none⟩) ∧ t 3 = .pointer (some ⟨H.size, 0, none⟩) ∧ t 4 = .pointer (some ⟨H.size + 1, 0, none⟩) ∧ t 6 = .pointer (some ⟨H.size + 2, 0, none⟩) ∧ t 7 = .int .i64 g) (ns.length) (⟨0, H3, rfl, Nat.zero_le _, leH3, hW3, fun i h => absurd h (Nat.not_lt_zero _), gu3, gz3, rfl, rfl, rfl, rfl, rfl⟩) ?_
  rintro n t H1 ⟨g, G, rfl, hg, leG, hW, hpath, gu, gz, e0, e3, e4, e6, e7⟩
  obtain ⟨B, c, hwb, gw, hown⟩ := id hW
  have hw := Xt hown.le hwb (by intro e; cases e) gw
  have hgu := Xt hown.le (by omega) (by intro e; cases e) gu
  have hgz := Xt hown.le (by omega) (by intro e; cases e) gz
  have zz := hown.size
  have hlt : (ns.take g).length = g := by rw [List.length_take]; omega
  have htG := ht.mono leG
  have huG := hu.mono leG.sees
  refine Xe ?_
  refine Xe ?_
  refine Xb (by kernel_rfl) ?_
  refine Xa (Xc Xk) ?_
  refine Xa (Xj Xk Tryz.underlying23 Xk Xr) ?_
  refine Xa (Yo rfl Tryz.underlying23) ?_
  refine Xa (Y3 rfl rfl) ?_
  refine X5 rfl rfl ?_ ?_
  intro hc3
  have hgl : g < ns.length := by have := of_decide_eq_true hc3; omega
  obtain ⟨bu, ou, eU, hbu, hcu⟩ := (huG.mono hown.le.sees).int_at (i := (g : Int)) (by omega) (by omega)
  rw [Int.toNat_natCast] at hcu
  obtain ⟨x, hx⟩ : ∃ x, x = ns.getD g 0 := ⟨_, rfl⟩
  rw [← hx] at hcu
  have hWp : ∀ y, Zv (G.push y) (H1.push y) (H.size + 2) (.pointer (some ⟨tb, 0, none⟩)) ⟨ns.take g, false, false, 0⟩ := fun y => ⟨B, c, by simp; omega, (Hp.push_old _ _ hwb).trans gw, hown.push _⟩
  subst eU
  refine X7 ?_
  refine Yb ?_
  refine Xe ?_
  refine Xe ?_
  refine Ys (by kernel_rfl) (Yy (B := [0, 0, 0, 0, 12, 0, 0, 96, 224, 511, 1023, 2047, 2047, 0, 12287, 32767]) (π := [0, 1, 2, 3, 5, 6, 7, 8, 13, 4, 9, 10, 11, 12, 14, 15]) (by kernel_rfl)) ?_
  refine Xd rfl rfl (Xw Xk) Xp ?_
  refine Xd rfl rfl (Xc Xk) Xp ?_
  refine Xd rfl rfl (Xw Xk) Xp ?_
  refine Xd rfl rfl (Xc Xk) Xp ?_
  refine Xd rfl rfl (Xj Xk Tryz.underlying23 Xk Xr) Xp ?_
  refine Xd rfl rfl (Xc Xk) Xp ?_
  refine Xd rfl rfl (Xs rfl rfl Tryz.underlying23 inf3.size X2 X2) Xp ?_
  refine Xd rfl rfl (Xj rfl Tryz.underlying3 rfl Xr) Xp ?_
  refine Y5 rfl rfl (Yz (l := [.int .i64 0, .int .i64 0, .int .i64 0, .int .u64 0]) inf78.zero rfl (by decide)) ?_
  refine Yi rfl rfl (X1 (above_walk hT (hWp _) (htG.mono (G.le_push _)) g (by omega) (by rw [hlt]; exact Nat.le_refl _)) rfl Tryz.func65 rfl rfl rfl ?_)
  rintro v7 H4 ⟨rfl, rfl⟩
  refine ⟨Ye, ?_⟩
  refine Yi rfl rfl (X1 (Find_tree ((htG.mono hown.le).mono (H1.le_push _)) hT.l1 hT.l2 hT.lens (g : Int) _ _ (hT.sort _ _)) rfl Tryz.func64 rfl rfl rfl ?_)
  rintro v8 H5 ⟨le15, rfl⟩; have z15 := le15.1; simp only [Hp.push_size] at z15; have hq5 : H5.get H1.size = .own 0 [.int .i64 0, .int .i64 0, .int .i64 0, .int .u64 0] := Xt le15 (by simp) (by intro e; cases e) Yc; obtain ⟨f, hf⟩ : ∃ f, f = Zq (T.group g (Yl T (ns.take g) g)) x := ⟨_, rfl⟩; rw [← hf]; obtain ⟨G5, le5, hown5⟩ := (hown.push (.own 0 [.int .i64 0, .int .i64 0, .int .i64 0, .int .u64 0])).later le15; have z5 := le5.1; simp only [Hp.push_size] at z5; have zz5 := hown5.size
  refine ⟨Ye, ?_⟩
  refine Xd rfl rfl (Zn rfl) Xp ?_
  refine Xd rfl rfl (Yn rfl rfl) Xp ?_
  refine Xd rfl rfl (Yn rfl rfl) Xp ?_
  first | refine Yi rfl rfl (Yj (vs := [.int .i64 _, .int .i64 _, .int .i64 _, .int .u64 _]) rfl rfl inf78.size Yc Yh rfl rfl ?_)
  refine ⟨Ye, ?_⟩
  refine Xd rfl rfl (Xo rfl) Xp ?_
  refine Xe ?_
  have gq5 : G5.get H1.size = .own 0 [.int .i64 0, .int .i64 0, .int .i64 0, .int .u64 0] := Xt le5 (by simp; omega) (by intro e; cases e) (by rw [zz]; exact Hp.push_new _ _)
  have leG5 := Hp.le_trans (Hp.le_push G _) le5
  obtain ⟨H6, hH6⟩ : ∃ H6, H6 = H5.put H1.size (.own 0 [.int .i64 (f.getD Zo).a, .int .i64 (f.getD Zo).b, .int .i64 (f.getD Zo).cost, .int .u64 (f.getD Zo).n]) := ⟨_, rfl⟩
  obtain ⟨G6, hG6⟩ : ∃ G6, G6 = G5.put H1.size (.own 0 [.int .i64 (f.getD Zo).a, .int .i64 (f.getD Zo).b, .int .i64 (f.getD Zo).cost, .int .u64 (f.getD Zo).n]) := ⟨_, rfl⟩
  have hown6 : OwnP (Y1 .i64) G6 H6 (.slice B (ns.take g).length c) (ns.take g) := by rw [hG6, hH6]; exact hown5.put (by rw [gq5]; intro e; cases e) _ (Hp.sees_box _ gq5)
  have leG6 : G.le G6 := by rw [hG6]; exact Hp.le_put_new leG5 (by omega) _
  have gw6 := Xt leG6 hwb (by intro e; cases e) gw
  have gu6 := Xt leG6 (by omega) (by intro e; cases e) gu
  have gz6 := Xt leG6 (by omega) (by intro e; cases e) gz
  have z6 := leG6.1
  have zz6 := hown6.size
  have hw6 := Xt hown6.le (by omega) (by intro e; cases e) gw6
  have hgu6 := Xt hown6.le (by omega) (by intro e; cases e) gu6
  have hgz6 := Xt hown6.le (by omega) (by intro e; cases e) gz6
  have leHG6 := Hp.le_trans leG leG6
  have leH6 := Hp.le_trans leHG6 hown6.le
  obtain ⟨bu, ou, eU, hbu6, hcu6⟩ := (hu.mono leH6.sees).int_at (i := (g : Int)) (by omega) (by omega)
  rw [Int.toNat_natCast, ← hx] at hcu6
  simp only [Option.some.injEq, Addr.mk.injEq, and_true] at eU
  obtain ⟨rfl, rfl⟩ := eU
  change ACode true _ _ _ _ _ (H5.put H1.size (.own 0 [.int .i64 (f.getD Zo).a, .int .i64 (f.getD Zo).b, .int .i64 (f.getD Zo).cost, .int .u64 (f.getD Zo).n]))
  rw [← hH6]
  clear hH6 hG6
  have habv : Yl T ns g = Yl T (ns.take g) g := Z6 hT (by omega) (fun j hj => (Vq hj).symm)
  refine Xb (by kernel_rfl) ?_
  refine Xa (Xq rfl) ?_
  refine Xa (Zr rfl) ?_
  refine X5 rfl rfl ?_ ?_
  intro hc4
  have hfn : f = none := by have h := hc4; cases f with | none => rfl | some r => cases h
  refine Yu ?_
  first
    | exact ⟨g, B, c, hg, Hp.le_trans leG hown.le, by omega, hgu, hgz, by rw [hlt] at hw; exact hw, fun h => absurd h hgl, hpath, e0, e3, e4, e6, e7⟩
    | exact ⟨g, B, c, hg, leH6, by omega, hgu6, hgz6, by rw [hlt] at hw6; exact hw6, fun _ => by rw [habv, ← hx, ← hf]; exact hfn, hpath, e0, e3, e4, e6, e7⟩
  intro hc4
  obtain ⟨l, hfl⟩ : ∃ l, f = some l := by have h := hc4; cases f with | none => cases h | some r => exact ⟨r, rfl⟩
  have hlm := (findB_iff (hT.sort _ _)).1 (hf.symm.trans hfl)
  have hpath2 : Path T (ns.take (g + 1)) := by
    rw [← take_more hgl, ← hx, ← hlm.2]
    exact Ud hT hpath (by omega) (by rw [hlt]; exact hlm.1)
  refine X7 ?_
  refine Ys (by kernel_rfl) (Yy (B := [0, 0, 2, 6, 14, 0, 0, 96, 224, 480, 1022, 0, 2048, 2047, 10239, 26623, 65535]) (π := [0, 1, 2, 3, 4, 5, 6, 7, 8, 9, 11, 12, 10, 13, 14, 15, 16]) (by kernel_rfl)) ?_
  refine Xd rfl rfl (Xw Xk) Xp ?_
  refine Xd rfl rfl (Xw Xk) Xp ?_
  refine Xd rfl rfl (X9 rfl) Xp ?_
  refine Xd rfl rfl (Xg (off := 1) rfl Tryz.underlying86 rfl inf23.size (by decide) rfl) Xp ?_
  refine Xd rfl rfl (Xj rfl Tryz.underlying23 rfl Xr) Xp ?_
  refine Xd rfl rfl (Xj Xk Tryz.underlying23 Xk Xr) Xp ?_
  refine Xd rfl rfl (Xc Xk) Xp ?_
  refine Xd rfl rfl (Xs rfl rfl Tryz.underlying23 inf3.size X2 X2) Xp ?_
  refine Xd rfl rfl (Xj rfl Tryz.underlying3 rfl Xr) Xp ?_
  first | refine Y5 rfl rfl (Yg (r := [.int .i64 _]) Tryz.underlying23 inf3.size inf3.zero rfl (by decide) (by decide) (by decide) rfl) ?_
  refine Xd rfl rfl (Xc Xk) Xp ?_
  refine Xd rfl rfl (Ym rfl rfl Yx) Xp ?_
  refine Yi rfl rfl (OwnP.append (ys := [x]) (hown6.push _) Tryz.underlying23 inf3 rfl rfl rfl (Zp (k := Y1 .i64) rfl rfl hown6.size rfl) (by simp only [List.length_singleton]; omega) (by simp only [List.length_singleton]; omega) ?_)
  rintro v9 G7 H7 hle7 hown7
  have hsameO := OwnP.sameO (hown6.push _) hle7 hown7
  obtain ⟨B7, c7, rfl⟩ := hown7.shape
  have le67 := Hp.le_trans (Hp.le_push _ _) hle7
  have z7 := le67.1
  have zz7 := hown7.size
  have gw7 := Xt le67 (by omega) (by intro e; cases e) gw6
  have gz7 := Xt le67 (by omega) (by intro e; cases e) gz6
  have gu7 := Xt le67 (by omega) (by intro e; cases e) gu6
  have hw7 := Xt hown7.le (by omega) (by intro e; cases e) gw7
  have hz7 := Xt hown7.le (by omega) (by intro e; cases e) gz7
  refine ⟨Ye, ?_⟩
  refine Xd rfl rfl (X9 rfl) Xp ?_
  refine Xd rfl rfl (Xg (off := 1) rfl Tryz.underlying86 rfl inf23.size (by decide) rfl) Xp ?_
  first | refine Yi rfl rfl (Yt rfl rfl rfl inf23.size Yc Yh rfl ?_)
  refine ⟨Ye, ?_⟩
  refine Xd rfl rfl (Xn rfl) Xp ?_
  rw [hx, take_more hgl] at hown7
  have eq7 : (ns.take g ++ [x]).length = (ns.take (g + 1)).length := by rw [hx, take_more hgl]
  exact ⟨ns.length - (g + 1), by omega, g + 1, G7.put (H.size + 2) (.own 0 [.pointer (some ⟨tb, 0, none⟩), .slice B7 (ns.take g ++ [x]).length c7, .bool false, .bool false, .int .i64 0]), rfl, by omega, Hp.le_put_new (Hp.le_trans leHG6 le67) (by omega) _, ⟨B7, c7, by simp; omega, by rw [eq7]; exact Hp.put_same _ _ _, hown7.put (by rw [gw7]; intro e; cases e) _ (Hp.sees_box _ gw7)⟩, hpath2, by rw [Hp.put_other _ _ (by omega)]; exact gu7, by rw [Hp.put_other _ _ (by omega)]; exact gz7, e0, e3, e4, e6, rfl⟩
  intro hc3
  have hgl : ¬ g < ns.length := by have := of_decide_eq_false hc3; omega
  refine Yu ?_
  first
    | exact ⟨g, B, c, hg, Hp.le_trans leG hown.le, by omega, hgu, hgz, by rw [hlt] at hw; exact hw, fun h => absurd h hgl, hpath, e0, e3, e4, e6, e7⟩
    | exact ⟨g, B, c, hg, leH6, by omega, hgu6, hgz6, by rw [hlt] at hw6; exact hw6, fun _ => by rw [habv, ← hx, ← hf]; exact hfn, hpath, e0, e3, e4, e6, e7⟩
  rintro t H1 ⟨g, B, c, hg, leH1, z1, gu1, gz1, gw1, hend, hpath, e0, e3, e4, e6, e7⟩
  obtain ⟨m0, hm0⟩ : ∃ m0, m0 = (if g = ns.length then ns.length else g + 1) := ⟨_, rfl⟩
  have hm1 : m0 ≤ ns.length := by rw [hm0]; split <;> omega
  have hmin : (if (ns.length : Int) - 1 < (g : Int) then (ns.length : Int) - 1 else (g : Int)) = (m0 : Int) - 1 := by rw [hm0]; split <;> split <;> omega
  have hbeh : behN T ns = Uk T ns m0 := by
    rcases Nat.eq_zero_or_pos ns.length with h0 | h0
    · have e1 : m0 = 0 := by omega
      rw [e1]
      obtain rfl : ns = [] := List.eq_nil_of_length_eq_zero h0
      unfold behN
      rw [← hlen]; rfl
    · by_cases hgl : g = ns.length
      · rw [if_pos hgl] at hm0
        have e1 : m0 = (ns.length - 1) + 1 := by omega
        rw [e1]
        refine beh_is hT hlen (by omega) (fun i hi => ?_) (.inl (by omega))
        rw [hgl, List.take_of_length_le (Nat.le_refl _)] at hpath
        exact path_take hT hpath (by omega) i hi
      · rw [if_neg hgl] at hm0
        rw [hm0]
        exact beh_is hT hlen (by omega) hpath (.inr (hend (by omega)))
  have hpm : ∀ j, j < m0 → Path T (ns.take j) := fun j hj => by
    have hjg : j ≤ g := by rw [hm0] at hj; split at hj <;> omega
    have := path_take hT (k := j) hpath (by rw [List.length_take]; omega)
    rwa [List.take_take, Nat.min_eq_left hjg] at this
  refine Xe ?_
  refine Xe ?_
  refine Xb (by kernel_rfl) ?_
  refine Xa (Xc Xk) ?_
  refine Xa (Xj Xk Tryz.underlying23 Xk Xr) ?_
  refine Xa (Yo rfl Tryz.underlying23) ?_
  refine Xa (av_sub64 rfl rfl Yx) ?_
  refine Xa (av_min2 rfl rfl) ?_
  refine X3 (Yz (l := [.int .i64 0]) inf3.zero rfl (by decide)) ?_
  first | refine X0 (Yt rfl rfl rfl inf3.size Yc Yh rfl ?_)
  refine Yb ?_
  refine Y2 (fun n t H' => ∃ (m : Nat) (bI : Nat) (X : Value), m = n ∧ m ≤ m0 ∧ (behN T ns).head? = (Uk T ns m).head? ∧ H.le H' ∧ H.size + 2 < bI ∧ bI < H'.size ∧ H'.get H.size = .own 0 [.slice AU ns.length cU] ∧ H'.get (H.size + 1) = .own 0 [.slice none 0 0, .int .i64 0, .int .u64 0] ∧ H'.get (H.size + 2) = .own 0 [.pointer (some ⟨tb, 0, none⟩), X, .bool false, .bool false, .int .i64 0] ∧ H'.get bI = .own 0 [.int .i64 ((m : Int) - 1)] ∧ t 0 = .pointer (some ⟨tb, 0, none⟩) ∧ t 3 = .pointer (some ⟨H.size, 0, none⟩) ∧ t 4 = .pointer (some ⟨H.size + 1, 0, none⟩) ∧ t 6 = .pointer (some ⟨H.size + 2, 0, none⟩) ∧ t 10 = .pointer (some ⟨bI, 0, none⟩)) (m0) (⟨m0, H1.size, _, rfl, Nat.le_refl _, by rw [hbeh], t_le, by omega, by simp, Yc, Yc, Yc, by rw [← hmin]; exact Hp.put_same _ _ _, e0, e3, e4, e6, rfl⟩) ?_
  rintro n t H2 ⟨m, bI, X, rfl, hm, hhead, leH2, zI, zI2, gu2, gz2, gw2, gI2, e0, e3, e4, e6, e10⟩
  refine Xe ?_
  refine Xe ?_
  refine Xb (by kernel_rfl) ?_
  refine Xa (Xj Xk Tryz.underlying3 Xk Xr) ?_
  refine Xa (av_ge rfl rfl) ?_
  refine X5 rfl rfl ?_ ?_
  intro hc5
  have hpos : 1 ≤ m := by have := of_decide_eq_true hc5; omega
  obtain ⟨j, hj⟩ : ∃ j, m = j + 1 := ⟨m - 1, by omega⟩
  subst hj
  have ej : ((j + 1 : Nat) : Int) - 1 = (j : Int) := by omega
  rw [ej] at gI2
  obtain ⟨AS, SS, slS, hSS, hcap⟩ := hu.caps (i := j) (by omega)
  have hlj : (ns.take j).length = j := by rw [List.length_take]; omega
  obtain ⟨x, hx⟩ : ∃ x, x = ns.getD j 0 := ⟨_, rfl⟩
  refine X7 ?_
  refine Xe ?_
  refine Yb ?_
  refine Xe ?_
  refine Xb (by kernel_rfl) ?_
  refine Xa (Xw Xk) ?_
  refine Xa (Xj Xk Tryz.underlying23 Xk Xr) ?_
  refine Xa (Xj Xk Tryz.underlying3 Xk Xr) ?_
  refine Xa (Xj Xk Tryz.underlying3 Xk Xr) ?_
  refine Xa (hcap _ _ _ _ _ _ _ _ _ _ _ _ _ _ _ leH2 Xk Tryz.underlying23 inf3.size Xk Xk) ?_
  refine Xa (X9 rfl) ?_
  refine Xa (Xg (off := 1) rfl Tryz.underlying86 rfl inf23.size (by decide) rfl) ?_
  first | refine X0 (Yt rfl rfl rfl inf23.size Yc Yh rfl ?_)
  refine Xe ?_
  obtain ⟨H3, hH3⟩ : ∃ H3, H3 = H2.put (H.size + 2) (.own 0 [.pointer (some ⟨tb, 0, none⟩), .slice (some AS) j j, .bool false, .bool false, .int .i64 0]) := ⟨_, rfl⟩
  have leH3 : H.le H3 := by rw [hH3]; exact Hp.le_put_new leH2 (by omega) _
  have gu3 : H3.get H.size = .own 0 [.slice AU ns.length cU] := by rw [hH3, Hp.put_other _ _ (by omega)]; exact gu2
  have gz3 : H3.get (H.size + 1) = .own 0 [.slice none 0 0, .int .i64 0, .int .u64 0] := by rw [hH3, Hp.put_other _ _ (by omega)]; exact gz2
  have gw3 : H3.get (H.size + 2) = .own 0 [.pointer (some ⟨tb, 0, none⟩), .slice (some AS) j j, .bool false, .bool false, .int .i64 0] := by rw [hH3]; exact Hp.put_same _ _ _
  have gI3 : H3.get bI = .own 0 [.int .i64 j] := by rw [hH3, Hp.put_other _ _ (by omega)]; exact gI2
  have z3 : H3.size = H2.size := by rw [hH3]; simp
  change ACode true _ _ _ _ _ (H2.put (H.size + 2) (.own 0 [.pointer (some ⟨tb, 0, none⟩), .slice (some AS) j j, .bool false, .bool false, .int .i64 0]))
  rw [← hH3]
  clear hH3
  have leP : ∀ y, H.le (H3.push y) := fun y => Hp.le_push' leH3 y
  have gwP : ∀ y, (H3.push y).get (H.size + 2) = .own 0 [.pointer (some ⟨tb, 0, none⟩), .slice (some AS) (ns.take j).length j, .bool false, .bool false, .int .i64 0] := fun y => by rw [hlj, Hp.push_old _ _ (by omega)]; exact gw3
  have slP : ∀ y, Sl (Y1 .i64) (H3.push y) (.slice (some AS) (ns.take j).length j) (ns.take j) := fun y => by rw [hlj]; exact slS.mono (leP y).sees
  have habv : Yl T (ns.take j) j = Yl T ns j := Z6 hT (by omega) (fun i hi => Vq hi)
  refine Ys (by kernel_rfl) (Yy (B := [0, 0, 0, 0, 12, 31, 0, 127]) (π := [0, 1, 2, 3, 6, 4, 5, 7]) (by kernel_rfl)) ?_
  refine Xd rfl rfl (Xw Xk) Xp ?_
  refine Xd rfl rfl (Xj Xk Tryz.underlying3 Xk Xr) Xp ?_
  refine Xd rfl rfl (Xw Xk) Xp ?_
  refine Xd rfl rfl (Xj Xk Tryz.underlying3 Xk Xr) Xp ?_
  refine Y5 rfl rfl (Yz (l := [.slice none 0 0]) inf68.zero rfl (by decide)) ?_
  refine Yi rfl rfl (X1 (above_read hT (gwP _) (slP _) (ht.mono (leP _)) j (by omega) (by rw [hlj]; exact Nat.le_refl _)) rfl Tryz.func65 rfl rfl rfl ?_)
  rintro v7 H4 ⟨rfl, rfl⟩; rw [habv]
  refine ⟨Ye, ?_⟩
  refine Yi rfl rfl (X1 (Group_tree (ht.mono (leP _)) hT.l1 hT.l2 hT.lens (j : Int) _) rfl Tryz.func66 rfl rfl rfl ?_)
  rintro v8 H5 ⟨GL, leL, hownL⟩; obtain ⟨L, hL⟩ : ∃ L, L = T.group j (Yl T ns j) := ⟨_, rfl⟩; rw [← hL] at hownL; have slL := hownL.sl; obtain ⟨AL, cL, rfl⟩ := slL.shape; have le35 := Hp.le_trans leL hownL.le; have z5 := le35.1; simp only [Hp.push_size] at z5; have gq5 : H5.get H3.size = .own 0 [.slice none 0 0] := Xt le35 (by simp) (by intro e; cases e) Yc; have le5 := Hp.le_trans (H3.le_push _) le35
  refine ⟨Ye, ?_⟩
  first | refine Yi rfl rfl (Yt rfl rfl rfl inf68.size Yc Yh rfl ?_)
  refine ⟨Ye, ?_⟩
  refine Xe ?_
  obtain ⟨H6, hH6⟩ : ∃ H6, H6 = H5.put H3.size (.own 0 [.slice AL L.length cL]) := ⟨_, rfl⟩
  have le6 : H3.le H6 := by rw [hH6]; exact Hp.le_put_new le5 (by omega) _
  have slH6 : Sl kLink H6 (.slice AL L.length cL) L := by rw [hH6]; exact slL.mono (Hp.sees_box _ gq5)
  have gq6 : H6.get H3.size = .own 0 [.slice AL L.length cL] := by rw [hH6]; exact Hp.put_same _ _ _
  have z6 : H6.size = H5.size := by rw [hH6]; simp
  have gu6 := Xt le6 (by omega) (by intro e; cases e) gu3
  have gz6 := Xt le6 (by omega) (by intro e; cases e) gz3
  have gw6 := Xt le6 (by omega) (by intro e; cases e) gw3
  have gI6 := Xt le6 (by omega) (by intro e; cases e) gI3
  have leH6 := Hp.le_trans leH3 le6
  have huH6 := hu.mono leH6.sees
  change ACode true _ _ _ _ _ (H5.put H3.size (.own 0 [.slice AL L.length cL]))
  rw [← hH6]
  clear hH6
  have hLl : L.length ≤ 1000000 := by rw [hL]; exact group_len hT.lens _ _
  have hLs : L.Pairwise fun x y => x.b < y.b := by rw [hL]; exact hT.sort _ _
  have hmono : ∀ (a b : Nat) (ha : a < L.length) (hb : b < L.length), a < b → L[a].b < L[b].b := fun a b ha hb h => List.pairwise_iff_getElem.1 hLs a b ha hb h
  have c1' : H6.cell? H3.size 0 = some (.slice AL L.length cL) := Zu (cs := [.slice AL L.length cL]) gq6
  have c2' : H6.cell? H.size 0 = some (.slice AU ns.length cU) := Zu (cs := [.slice AU ns.length cU]) gu6
  have c3' : H6.cell? bI 0 = some (.int .i64 j) := Zu (cs := [.int .i64 j]) gI6
  have call1 : ∀ k, k < L.length → ACalls Tryz.prog 68 (#[.int .i64 (k : Nat)] ++ #[.pointer (some ⟨H3.size, 0, none⟩), .pointer (some ⟨H.size, 0, none⟩), .pointer (some ⟨bI, 0, none⟩)]) H6 (fun r H' => r = .bool (if h : k < L.length then decide (x < L[k].b) else true) ∧ H' = H6) := fun k hk =>
    ACalls.pure (R := fun r => r = .bool (if h : k < L.length then decide (x < L[k].b) else true)) (fun v h => by rw [h]; rfl) ((behind1_raw L ns AL AU cL cU k j H3.size H.size bI H6.ro (cell_ro c1') (cell_ro c2') (cell_ro c3') (slH6.mono H6.sees_ro) (huH6.mono H6.sees_ro) hk (by omega) (by show H3.size < H6.size; omega) (by show H.size < H6.size; omega) (by show bI < H6.size; omega)).mono fun r _ h => by rw [h, dif_pos hk, hx])
  have mono1 : ∀ a b, a ≤ b → b < L.length → (if h : a < L.length then decide (x < L[a].b) else true) = true → (if h : b < L.length then decide (x < L[b].b) else true) = true := fun a b hab hb h => by
    rw [dif_pos (by omega)] at h ⊢
    rcases Nat.lt_or_eq_of_le hab with h1 | h1
    · have := hmono a b (by omega) hb h1
      have := of_decide_eq_true h
      exact decide_eq_true (by omega)
    · subst h1; exact h
  refine Xb (by kernel_rfl) ?_
  refine Xa (Xj rfl Tryz.underlying68 rfl Xr) ?_
  refine Xa (Yo rfl Tryz.underlying68) ?_
  refine Xa (av_func0 (cs := #[.pointer (some ⟨H3.size, 0, none⟩), .pointer (some ⟨H.size, 0, none⟩), .pointer (some ⟨bI, 0, none⟩)]) (by show [Value.pointer (some ⟨H3.size, 0, none⟩), t 3, t 10] = [_, _, _]; rw [e3, e10])) ?_
  refine X0 (X1 (Search_gen L.length 68 _ #[.pointer (some ⟨H3.size, 0, none⟩), .pointer (some ⟨H.size, 0, none⟩), .pointer (some ⟨bI, 0, none⟩)] (fun k => if h : k < L.length then decide (x < L[k].b) else true) H6 Tryz.func68 rfl rfl call1 mono1 (by omega)) rfl Tryz.func67 rfl rfl rfl ?_)
  rintro v9 H6 ⟨⟨lo, rfl, hlo, hlo1, hlo2⟩, rfl⟩
  refine Xa (Xn rfl) ?_
  refine Xe ?_
  refine Xb (by kernel_rfl) ?_
  refine Xa (Xc rfl) ?_
  refine Xa (Xj rfl Tryz.underlying68 rfl Xr) ?_
  refine Xa (Yo rfl Tryz.underlying68) ?_
  refine Xa (Y3 rfl rfl) ?_
  refine X5 rfl rfl ?_ ?_
  intro hc6
  have hlt : lo < L.length := by have := of_decide_eq_true hc6; omega
  obtain ⟨bl, ol, el, hbl, hcl⟩ := slH6.link_at hlt
  subst el
  obtain ⟨l, hl'⟩ : ∃ l, l = L[lo] := ⟨_, rfl⟩
  rw [← hl'] at hcl
  have hclb := hcl 1 _ rfl
  have hnb : Uo L x = some l := by
    rw [hl']
    exact nextB_at hlt (by have := hlo2 lo (Nat.le_refl _) hlt; rw [dif_pos hlt] at this; exact of_decide_eq_true this) fun j hj h => by
      have := hlo1 j hj
      rw [dif_pos h] at this
      exact of_decide_eq_false this
  rw [hL, hx] at hnb
  obtain ⟨hp2, hh2⟩ := aft_head hT hA hlen (by omega) (hpm j (by omega)) hnb
  have slB := slS.mono leH6.sees
  have hl2 : (ns.take j ++ [l.b]).length = j + 1 := by rw [List.length_append, hlj]; rfl
  refine Xe ?_
  refine Ys (by kernel_rfl) (Yy (B := [0, 0, 2, 6, 14, 0, 0, 96, 224, 480, 992, 2046, 4095, 8191, 8191, 32767, 65535]) (π := [0, 1, 2, 3, 4, 5, 6, 7, 8, 9, 10, 11, 12, 13, 14, 15, 16]) (by kernel_rfl)) ?_
  refine Xd rfl rfl (Xw Xk) Xp ?_
  refine Xd rfl rfl (Xw Xk) Xp ?_
  refine Xd rfl rfl (X9 rfl) Xp ?_
  refine Xd rfl rfl (Xg (off := 1) rfl Tryz.underlying86 rfl inf23.size (by decide) rfl) Xp ?_
  refine Xd rfl rfl (Xj rfl Tryz.underlying23 rfl Xr) Xp ?_
  refine Xd rfl rfl (Xj rfl Tryz.underlying68 rfl Xr) Xp ?_
  refine Xd rfl rfl (Xc rfl) Xp ?_
  refine Xd rfl rfl (Xs rfl rfl Tryz.underlying68 inf78.size X2 X2) Xp ?_
  refine Xd rfl rfl (Xg (off := 1) rfl Tryz.underlying78 rfl inf3.size (by decide) rfl) Xp ?_
  refine Xd rfl rfl (Xj rfl Tryz.underlying3 rfl Xr) Xp ?_
  first | refine Y5 rfl rfl (Yg (r := [.int .i64 _]) Tryz.underlying23 inf3.size inf3.zero rfl (by decide) (by decide) (by decide) rfl) ?_
  refine Yi rfl rfl (Sl.grow (m := l.b) (slB.mono (Hp.le_push _ _).sees) Tryz.underlying23 inf3 rfl rfl rfl (Hp.push_new _ _) (by omega) (by omega) ?_)
  rintro H7 eH7 slG
  have le67 : H6.le H7 := by rw [eH7]; exact Hp.le_push' (H6.le_push _) _
  refine ⟨by rw [eH7]; exact Ye, ?_⟩
  have gz7 := Xt le67 (by omega) (by intro e; cases e) gz6
  have leH7 := Hp.le_trans leH6 le67
  have z7 := le67.1
  clear eH7
  refine Yi rfl rfl (X1 (least_walk hT hA (ht.mono leH7) slG hp2 (by omega) (by omega)) rfl Tryz.func69 rfl rfl rfl ?_)
  rintro v12 H8 ⟨le78, o, htl, A8, k8, rfl, sl8⟩; have gz8 := Xt le78 (by omega) (by intro e; cases e) gz7; have z8 := le78.1; have leH8 := Hp.le_trans leH7 le78
  refine ⟨Ye, ?_⟩
  refine Xd rfl rfl (Yn rfl rfl) Xp ?_
  refine Xd rfl rfl (Yn rfl rfl) Xp ?_
  refine Yi rfl rfl (Yj (vs := [.slice _ _ _, .int .i64 _, .int .u64 _]) Xk Xk inf44.size Yc Yh Xk Xk ?_)
  refine ⟨Ye, ?_⟩
  refine Xd rfl rfl (Xo rfl) Xp ?_
  refine X4 ?_
  rw [hl2, ] at htl
  exact ⟨_, Y7 (Yr Xk (Yq (cs := [_, _, _]) Tryz.underlying44 rfl inf44.size X8)) (Xu rfl), Hp.le_put_new leH8 (by omega) _, o, fun _ => ⟨by rw [htl.1, hhead, hh2], htl.2⟩, fun h => absurd hlen h, A8, k8, rfl, sl8.mono (Hp.sees_box _ gz8)⟩
  intro hc6
  have heq : lo = L.length := by have := of_decide_eq_false hc6; omega
  have hnb : Uo L x = none := nextB_no fun l hl => by
    obtain ⟨j, hj, rfl⟩ := List.getElem_of_mem hl
    have := hlo1 j (by omega)
    rw [dif_pos hj] at this
    exact of_decide_eq_false this
  rw [hL, hx] at hnb
  have haft := aft_none hnb
  refine X7 ?_
  refine Xe ?_
  refine Xe ?_
  refine Xb (by kernel_rfl) ?_
  refine Xa (Xj Xk Tryz.underlying3 Xk Xr) ?_
  refine Xb (by kernel_rfl) ?_
  refine X3 (Yz (l := [.int .i64 0]) inf3.zero rfl (by decide)) ?_
  first | refine X0 (Yt rfl rfl rfl inf3.size Yc Yh rfl ?_)
  refine Xb (by kernel_rfl) ?_
  refine Xa (Xj rfl Tryz.underlying3 rfl Xr) ?_
  refine Xa (av_sub64 rfl rfl Yx) ?_
  first | refine X0 (Yt rfl rfl rfl inf3.size Yc Yh rfl ?_)
  exact ⟨j, by omega, j, H6.size, _, rfl, by omega, by rw [hhead, haft], t_le, by omega, by simp, Yc, Yc, Yc, by rw [show (j : Int) - 1 = (j : Int) - 1 from rfl]; exact Yc, e0, e3, e4, e6, rfl⟩
  intro hc5
  have hpos : m = 0 := by have := of_decide_eq_false hc5; omega
  subst hpos
  refine Yu ?_
  refine Xe ?_
  refine Xb (by kernel_rfl) ?_
  refine Xa (Y6 (pl := [(0, 1), (1, 1), (2, 1)]) (r := [.slice _ _ _, .int .i64 _, .int .u64 _]) Tryz.underlying44 inf44.zero (by decide) rfl rfl) ?_
  refine X0 (Yj (vs := [.slice _ _ _, .int .i64 _, .int .u64 _]) Xk Xk inf44.size Yc Yh Xk Xk ?_)
  refine Xa (Xo rfl) ?_
  refine X4 ?_
  exact ⟨_, Y7 (Yr Xk (Yq (cs := [_, _, _]) Tryz.underlying44 rfl inf44.size X8)) (Xu rfl), t_le, none, fun _ => ⟨by rw [hhead]; rfl, fun r h => (by cases h)⟩, fun _ => rfl, V5 _⟩
end Go.Proofs.YtcaeoebphfjfiaaGreat.Am


/- The place of the first row behind some nodes. -/
namespace Go.Proofs.YtcaeoebphfjfiaaGreat.Am
open Go Go.RowKit
set_option maxRecDepth 100000
set_option linter.unusedVariables false
set_option linter.unusedSimpArgs false

def IsBeh (rows : List RowT) (ns : List Int) (k : Nat) : Prop := k ≤ rows.length ∧ (∀ r ∈ rows.take k, ¬ 0 < V8 r.nodes ns) ∧ ∀ h : k < rows.length, 0 < V8 rows[k].nodes ns
theorem BehR_raw (rows : List RowT) (ns : List Int) (v u : Value) (H : Hp) (hs : Sl kRow H v rows) (hu : Sl (Y1 .i64) H u ns) (hl : rows.length ≤ 1000000) (hn : ns.length ≤ 1000000) (hx : ∀ r ∈ rows, r.nodes.length ≤ 1000000) :
    ACalls Tryz.prog 37 #[v, u] H (fun r _ => ∃ k : Nat, r = .int .i64 k ∧ IsBeh rows ns k) := by
  obtain ⟨A, c, rfl⟩ := hs.shape
  obtain ⟨B, c2, rfl⟩ := hu.shape
  refine Xv Tryz.func37 rfl rfl rfl (by simp) ?_
  refine Xe ?_
  refine Xb (by kernel_rfl) ?_
  refine Xa (Xn rfl) ?_
  refine Xe ?_
  refine Xe ?_
  refine Xb (by kernel_rfl) ?_
  refine Xa (Xn rfl) ?_
  refine Yb ?_
  refine Y2 (fun n t H' => ∃ (i : Nat), i ≤ rows.length ∧ n = rows.length - i ∧ H' = H ∧ (∀ r ∈ rows.take i, ¬ 0 < V8 r.nodes ns) ∧ t 0 = .slice A rows.length c ∧ t 1 = .slice B ns.length c2 ∧ t 5 = .int .i64 i) (rows.length) (⟨0, by omega, rfl, rfl, by simp, rfl, rfl, rfl⟩) ?_
  rintro n t H ⟨i, hi, rfl, rfl, hno, e0, e1, e5⟩
  refine Xe ?_
  refine Xe ?_
  refine Xb (by kernel_rfl) ?_
  refine Xa (Xc Xk) ?_
  refine Xa (Xx Xk) ?_
  refine Xa (Yo rfl Tryz.underlying38) ?_
  refine Xa (Y3 rfl rfl) ?_
  refine X5 rfl rfl ?_ ?_
  intro hc1
  (try simp only [decide_eq_true_eq, decide_eq_false_iff_not, Bool.not_eq_true', Bool.not_eq_false'] at hc1)
  refine X7 ?_
  refine Xe ?_
  refine Yb ?_
  refine Xe ?_
  have hix : i < rows.length := by omega
  obtain ⟨b, o, w, eA, hb, hcell, hw⟩ := hs.row_at hix
  subst eA
  have hc0 := hcell 0 _ rfl
  obtain ⟨A3, c3, rfl⟩ := hw.shape
  obtain ⟨R, hR⟩ : ∃ R, R = rows[i] := ⟨_, rfl⟩
  rw [← hR] at hw hc0
  have hRl := hx R (by rw [hR]; exact List.getElem_mem _)
  refine Xb (by kernel_rfl) ?_
  refine Xa (Xx Xk) ?_
  refine Xa (Xc Xk) ?_
  refine Xa (Xs rfl rfl Tryz.underlying38 inf49.size X2 X2) ?_
  refine Xa (Xg (off := 0) rfl Tryz.underlying49 rfl inf23.size (by decide) rfl) ?_
  refine Xa (Xj rfl Tryz.underlying23 rfl Xr) ?_
  refine Xa (Xx Xk) ?_
  refine X0 (X1 (Cmp_ints R.nodes ns _ _ _ hw hu (by omega) (by omega)) rfl Tryz.func51 rfl rfl rfl ?_)
  rintro v5 H ⟨rfl, rfl⟩
  refine Xa (Uh rfl rfl) ?_
  refine X5 rfl rfl ?_ ?_
  intro hc2
  have hyes : 0 < V8 R.nodes ns := of_decide_eq_true hc2
  refine Xe ?_
  refine Xb (by kernel_rfl) ?_
  refine Xa (Xc Xk) ?_
  refine Xa (Xn rfl) ?_
  refine X4 ?_
  exact ⟨.int .i64 i, Xy (Xu rfl), i, rfl, hi, hno, fun _ => by rw [← hR]; exact hyes⟩
  intro hc2
  have hnot : ¬ 0 < V8 R.nodes ns := of_decide_eq_false hc2
  refine X7 ?_
  refine Xb (by kernel_rfl) ?_
  refine Xa (Xc Xk) ?_
  refine Xa (Ym rfl rfl Yx) ?_
  refine Xa (Xn rfl) ?_
  exact ⟨rows.length - (i + 1), by omega, i + 1, by omega, rfl, rfl, fun r hr => by
    rw [← Y0 hix] at hr
    rcases List.mem_append.1 hr with hr | hr
    · exact hno r hr
    · rw [List.mem_singleton.1 hr, ← hR]; exact hnot, e0, e1, rfl⟩
  intro hc1
  (try simp only [decide_eq_true_eq, decide_eq_false_iff_not, Bool.not_eq_true', Bool.not_eq_false'] at hc1)
  refine Yu ?_
  refine Xe ?_
  refine Xb (by kernel_rfl) ?_
  refine Xa (Xx Xk) ?_
  refine Xa (Yo rfl Tryz.underlying38) ?_
  refine Xa (Xn rfl) ?_
  refine X4 ?_
  obtain rfl : i = rows.length := by omega
  exact ⟨.int .i64 rows.length, Xy (Xu rfl), rows.length, rfl, Nat.le_refl _, hno, fun h => absurd h (Nat.lt_irrefl _)⟩
theorem BehR_ref (rows : List RowT) (ns : List Int) (v u : Value) (H : Hp) (hs : Sl kRow H v rows) (hu : Sl (Y1 .i64) H u ns) (hl : rows.length ≤ 1000000) (hn : ns.length ≤ 1000000) (hx : ∀ r ∈ rows, r.nodes.length ≤ 1000000) :
    ACalls Tryz.prog 37 #[v, u] H (fun r H' => (∃ k : Nat, r = .int .i64 k ∧ IsBeh rows ns k) ∧ H' = H) :=
  ACalls.pure (R := fun r => ∃ k : Nat, r = .int .i64 k ∧ IsBeh rows ns k) (fun v ⟨k, h, _⟩ => by rw [h]; rfl) (BehR_raw rows ns v u H.ro (hs.mono H.sees_ro) (hu.mono H.sees_ro) hl hn hx)
theorem beh_head {rows : List RowT} {ns : List Int} {k : Nat} (h : IsBeh rows ns k) : ((rows.map RowT.nodes).filter fun x => decide (0 < V8 x ns)).head? = (rows[k]?).map RowT.nodes := by
  obtain ⟨h1, h2, h3⟩ := h
  have e : rows = rows.take k ++ rows.drop k := (List.take_append_drop k rows).symm
  conv => lhs; rw [e]
  rw [List.map_append, List.filter_append, List.filter_eq_nil_iff.2 (fun x hx => by
    obtain ⟨r, hr, rfl⟩ := List.mem_map.1 hx
    simpa using h2 r hr), List.nil_append]
  by_cases hk : k < rows.length
  · rw [List.drop_eq_getElem_cons hk, List.map_cons, List.filter_cons, if_pos (decide_eq_true (h3 hk)), List.getElem?_eq_getElem hk]
    rfl
  · rw [List.drop_of_length_le (by omega), List.getElem?_eq_none (by omega)]
    rfl
theorem tells_row_at {T : TreeT} {rows : List RowT} {ns : List Int} {k : Nat} (hb : IsBeh rows ns k) (hrm : rows.map RowT.nodes = Vz T T.vars.length []) (hrr : ∀ r ∈ rows, Vs T r.nodes = some r) {o : Option RowT} (ho : TellsH T o (behN T ns)) : o = rows[k]? := by
  obtain ⟨h1, h2⟩ := ho
  unfold behN at h1
  rw [← hrm, beh_head hb] at h1
  cases o with
  | none => cases hk : rows[k]? with
    | none => rfl
    | some r => rw [hk] at h1; cases h1
  | some r => cases hk : rows[k]? with
    | none => rw [hk] at h1; cases h1
    | some s =>
      rw [hk] at h1
      injection h1 with h1
      rw [rows_eq h1 (h2 r rfl) (hrr s (List.mem_of_getElem? hk))]
end Go.Proofs.YtcaeoebphfjfiaaGreat.Am
